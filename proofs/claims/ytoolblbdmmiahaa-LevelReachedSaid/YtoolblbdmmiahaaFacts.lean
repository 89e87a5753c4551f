/- Facts of the program's tables, written by a program: types, fields, entries of functions. -/
import Derived.Test.YtoolblbdmmiahaaEngC
import Derived.Test.YtoolblbdmmiahaaProg
import Derived.KernelRfl
namespace Go.Proofs
open Go Go.Eng
theorem Try.mixed : Try.prog.follows .mixedOrders = true := by kernel_rfl
instance Try.ty1 : TyP Try.prog 1 1 false [.nilFunc] := TyP.mk' (v := .nilFunc) (by kernel_rfl) rfl Try.underlying1 rfl
instance Try.byt1 : BytP Try.prog 1 8 := ⟨by kernel_rfl⟩
instance Try.int2 : IntP Try.prog 2 .i64 := ⟨Try.underlying2⟩
instance Try.ty2 : TyP Try.prog 2 1 false [.int .i64 0] := TyP.mk' (v := .int .i64 0) (by kernel_rfl) rfl Try.underlying2 rfl
instance Try.byt2 : BytP Try.prog 2 8 := ⟨by kernel_rfl⟩
instance Try.int3 : IntP Try.prog 3 .i64 := ⟨Try.underlying3⟩
instance Try.ty3 : TyP Try.prog 3 1 false [.int .i64 0] := TyP.mk' (v := .int .i64 0) (by kernel_rfl) rfl Try.underlying3 rfl
instance Try.byt3 : BytP Try.prog 3 8 := ⟨by kernel_rfl⟩
instance Try.ty4 : TyP Try.prog 4 1 false [.bool false] := TyP.mk' (v := .bool false) (by kernel_rfl) rfl Try.underlying4 rfl
instance Try.byt4 : BytP Try.prog 4 1 := ⟨by kernel_rfl⟩
instance Try.int5 : IntP Try.prog 5 .u8 := ⟨Try.underlying5⟩
instance Try.ty5 : TyP Try.prog 5 1 false [.int .u8 0] := TyP.mk' (v := .int .u8 0) (by kernel_rfl) rfl Try.underlying5 rfl
instance Try.byt5 : BytP Try.prog 5 1 := ⟨by kernel_rfl⟩
instance Try.int6 : IntP Try.prog 6 .u8 := ⟨Try.underlying6⟩
instance Try.ty6 : TyP Try.prog 6 1 false [.int .u8 0] := TyP.mk' (v := .int .u8 0) (by kernel_rfl) rfl Try.underlying6 rfl
instance Try.byt6 : BytP Try.prog 6 1 := ⟨by kernel_rfl⟩
instance Try.ty7 : TyP Try.prog 7 4 true [.int .i64 0, .int .i64 0, .bool false, .int .u8 0] := TyP.mk' (v := .agg #[.int .i64 0, .int .i64 0, .bool false, .int .u8 0]) (by kernel_rfl) rfl Try.underlying7 rfl
instance Try.byt7 : BytP Try.prog 7 24 := ⟨by kernel_rfl⟩
instance Try.ty8 : TyP Try.prog 8 4 true [.int .i64 0, .int .i64 0, .bool false, .int .u8 0] := TyP.mk' (v := .agg #[.int .i64 0, .int .i64 0, .bool false, .int .u8 0]) (by kernel_rfl) rfl Try.underlying8 rfl
instance Try.byt8 : BytP Try.prog 8 24 := ⟨by kernel_rfl⟩
instance Try.int12 : IntP Try.prog 12 .u64 := ⟨Try.underlying12⟩
instance Try.ty12 : TyP Try.prog 12 1 false [.int .u64 0] := TyP.mk' (v := .int .u64 0) (by kernel_rfl) rfl Try.underlying12 rfl
instance Try.byt12 : BytP Try.prog 12 8 := ⟨by kernel_rfl⟩
instance Try.ptr15 : PtrP Try.prog 15 131 := ⟨Try.underlying15⟩
instance Try.ty15 : TyP Try.prog 15 1 false [.pointer none] := TyP.mk' (v := .pointer none) (by kernel_rfl) rfl Try.underlying15 rfl
instance Try.byt15 : BytP Try.prog 15 8 := ⟨by kernel_rfl⟩
instance Try.ptr16 : PtrP Try.prog 16 134 := ⟨Try.underlying16⟩
instance Try.ty16 : TyP Try.prog 16 1 false [.pointer none] := TyP.mk' (v := .pointer none) (by kernel_rfl) rfl Try.underlying16 rfl
instance Try.byt16 : BytP Try.prog 16 8 := ⟨by kernel_rfl⟩
instance Try.ptr17 : PtrP Try.prog 17 143 := ⟨Try.underlying17⟩
instance Try.ty17 : TyP Try.prog 17 1 false [.pointer none] := TyP.mk' (v := .pointer none) (by kernel_rfl) rfl Try.underlying17 rfl
instance Try.byt17 : BytP Try.prog 17 8 := ⟨by kernel_rfl⟩
instance Try.ty18 : TyP Try.prog 18 1 true [.pointer none] := TyP.mk' (v := .agg #[.pointer none]) (by kernel_rfl) rfl Try.underlying18 rfl
instance Try.byt18 : BytP Try.prog 18 8 := ⟨by kernel_rfl⟩
instance Try.ty19 : TyP Try.prog 19 1 true [.pointer none] := TyP.mk' (v := .agg #[.pointer none]) (by kernel_rfl) rfl Try.underlying19 rfl
instance Try.byt19 : BytP Try.prog 19 8 := ⟨by kernel_rfl⟩
instance Try.ty20 : TyP Try.prog 20 1 false [.nilIface] := TyP.mk' (v := .nilIface) (by kernel_rfl) rfl Try.underlying20 rfl
instance Try.byt20 : BytP Try.prog 20 16 := ⟨by kernel_rfl⟩
instance Try.int21 : IntP Try.prog 21 .i32 := ⟨Try.underlying21⟩
instance Try.ty21 : TyP Try.prog 21 1 false [.int .i32 0] := TyP.mk' (v := .int .i32 0) (by kernel_rfl) rfl Try.underlying21 rfl
instance Try.byt21 : BytP Try.prog 21 4 := ⟨by kernel_rfl⟩
instance Try.slc22 : SlcP Try.prog 22 78 := ⟨Try.underlying22⟩
instance Try.ty22 : TyP Try.prog 22 1 false [.slice none 0 0] := TyP.mk' (v := .slice none 0 0) (by kernel_rfl) rfl Try.underlying22 rfl
instance Try.byt22 : BytP Try.prog 22 24 := ⟨by kernel_rfl⟩
instance Try.slc23 : SlcP Try.prog 23 75 := ⟨Try.underlying23⟩
instance Try.ty23 : TyP Try.prog 23 1 false [.slice none 0 0] := TyP.mk' (v := .slice none 0 0) (by kernel_rfl) rfl Try.underlying23 rfl
instance Try.byt23 : BytP Try.prog 23 24 := ⟨by kernel_rfl⟩
instance Try.slc24 : SlcP Try.prog 24 72 := ⟨Try.underlying24⟩
instance Try.ty24 : TyP Try.prog 24 1 false [.slice none 0 0] := TyP.mk' (v := .slice none 0 0) (by kernel_rfl) rfl Try.underlying24 rfl
instance Try.byt24 : BytP Try.prog 24 24 := ⟨by kernel_rfl⟩
instance Try.ty25 : TyP Try.prog 25 4 true [.int .i64 0, .slice none 0 0, .slice none 0 0, .slice none 0 0] := TyP.mk' (v := .agg #[.int .i64 0, .slice none 0 0, .slice none 0 0, .slice none 0 0]) (by kernel_rfl) rfl Try.underlying25 rfl
instance Try.byt25 : BytP Try.prog 25 80 := ⟨by kernel_rfl⟩
instance Try.ty26 : TyP Try.prog 26 4 true [.int .i64 0, .slice none 0 0, .slice none 0 0, .slice none 0 0] := TyP.mk' (v := .agg #[.int .i64 0, .slice none 0 0, .slice none 0 0, .slice none 0 0]) (by kernel_rfl) rfl Try.underlying26 rfl
instance Try.byt26 : BytP Try.prog 26 80 := ⟨by kernel_rfl⟩
instance Try.ty27 : TyP Try.prog 27 1 false [.nilFunc] := TyP.mk' (v := .nilFunc) (by kernel_rfl) rfl Try.underlying27 rfl
instance Try.byt27 : BytP Try.prog 27 8 := ⟨by kernel_rfl⟩
instance Try.ty28 : TyP Try.prog 28 1 false [.nilFunc] := TyP.mk' (v := .nilFunc) (by kernel_rfl) rfl Try.underlying28 rfl
instance Try.byt28 : BytP Try.prog 28 8 := ⟨by kernel_rfl⟩
instance Try.slc29 : SlcP Try.prog 29 36 := ⟨Try.underlying29⟩
instance Try.ty29 : TyP Try.prog 29 1 false [.slice none 0 0] := TyP.mk' (v := .slice none 0 0) (by kernel_rfl) rfl Try.underlying29 rfl
instance Try.byt29 : BytP Try.prog 29 24 := ⟨by kernel_rfl⟩
instance Try.int30 : IntP Try.prog 30 .i64 := ⟨Try.underlying30⟩
instance Try.ty30 : TyP Try.prog 30 1 false [.int .i64 0] := TyP.mk' (v := .int .i64 0) (by kernel_rfl) rfl Try.underlying30 rfl
instance Try.byt30 : BytP Try.prog 30 8 := ⟨by kernel_rfl⟩
instance Try.ty32 : TyP Try.prog 32 1 false [.nilFunc] := TyP.mk' (v := .nilFunc) (by kernel_rfl) rfl Try.underlying32 rfl
instance Try.byt32 : BytP Try.prog 32 8 := ⟨by kernel_rfl⟩
instance Try.ty34 : TyP Try.prog 34 1 false [.nilFunc] := TyP.mk' (v := .nilFunc) (by kernel_rfl) rfl Try.underlying34 rfl
instance Try.byt34 : BytP Try.prog 34 8 := ⟨by kernel_rfl⟩
instance Try.ty35 : TyP Try.prog 35 2 true [.int .i64 0, .int .i64 0] := TyP.mk' (v := .agg #[.int .i64 0, .int .i64 0]) (by kernel_rfl) rfl Try.underlying35 rfl
instance Try.byt35 : BytP Try.prog 35 16 := ⟨by kernel_rfl⟩
instance Try.ty36 : TyP Try.prog 36 2 true [.int .i64 0, .int .i64 0] := TyP.mk' (v := .agg #[.int .i64 0, .int .i64 0]) (by kernel_rfl) rfl Try.underlying36 rfl
instance Try.byt36 : BytP Try.prog 36 16 := ⟨by kernel_rfl⟩
instance Try.ty38 : TyP Try.prog 38 1 false [.nilFunc] := TyP.mk' (v := .nilFunc) (by kernel_rfl) rfl Try.underlying38 rfl
instance Try.byt38 : BytP Try.prog 38 8 := ⟨by kernel_rfl⟩
instance Try.ty40 : TyP Try.prog 40 1 false [.nilFunc] := TyP.mk' (v := .nilFunc) (by kernel_rfl) rfl Try.underlying40 rfl
instance Try.byt40 : BytP Try.prog 40 8 := ⟨by kernel_rfl⟩
instance Try.ty41 : TyP Try.prog 41 1 false [.nilFunc] := TyP.mk' (v := .nilFunc) (by kernel_rfl) rfl Try.underlying41 rfl
instance Try.byt41 : BytP Try.prog 41 8 := ⟨by kernel_rfl⟩
instance Try.ty42 : TyP Try.prog 42 1 false [.nilFunc] := TyP.mk' (v := .nilFunc) (by kernel_rfl) rfl Try.underlying42 rfl
instance Try.byt42 : BytP Try.prog 42 8 := ⟨by kernel_rfl⟩
instance Try.ty43 : TyP Try.prog 43 1 false [.nilFunc] := TyP.mk' (v := .nilFunc) (by kernel_rfl) rfl Try.underlying43 rfl
instance Try.byt43 : BytP Try.prog 43 8 := ⟨by kernel_rfl⟩
instance Try.ty44 : TyP Try.prog 44 1 false [.nilFunc] := TyP.mk' (v := .nilFunc) (by kernel_rfl) rfl Try.underlying44 rfl
instance Try.byt44 : BytP Try.prog 44 8 := ⟨by kernel_rfl⟩
instance Try.ty45 : TyP Try.prog 45 1 false [.nilFunc] := TyP.mk' (v := .nilFunc) (by kernel_rfl) rfl Try.underlying45 rfl
instance Try.byt45 : BytP Try.prog 45 8 := ⟨by kernel_rfl⟩
instance Try.slc46 : SlcP Try.prog 46 3 := ⟨Try.underlying46⟩
instance Try.ty46 : TyP Try.prog 46 1 false [.slice none 0 0] := TyP.mk' (v := .slice none 0 0) (by kernel_rfl) rfl Try.underlying46 rfl
instance Try.byt46 : BytP Try.prog 46 24 := ⟨by kernel_rfl⟩
instance Try.ty47 : TyP Try.prog 47 1 false [.nilFunc] := TyP.mk' (v := .nilFunc) (by kernel_rfl) rfl Try.underlying47 rfl
instance Try.byt47 : BytP Try.prog 47 8 := ⟨by kernel_rfl⟩
instance Try.ty48 : TyP Try.prog 48 1 false [.nilFunc] := TyP.mk' (v := .nilFunc) (by kernel_rfl) rfl Try.underlying48 rfl
instance Try.byt48 : BytP Try.prog 48 8 := ⟨by kernel_rfl⟩
instance Try.ty50 : TyP Try.prog 50 1 false [.nilFunc] := TyP.mk' (v := .nilFunc) (by kernel_rfl) rfl Try.underlying50 rfl
instance Try.byt50 : BytP Try.prog 50 8 := ⟨by kernel_rfl⟩
instance Try.ty52 : TyP Try.prog 52 1 false [.nilFunc] := TyP.mk' (v := .nilFunc) (by kernel_rfl) rfl Try.underlying52 rfl
instance Try.byt52 : BytP Try.prog 52 8 := ⟨by kernel_rfl⟩
instance Try.ty54 : TyP Try.prog 54 1 false [.nilFunc] := TyP.mk' (v := .nilFunc) (by kernel_rfl) rfl Try.underlying54 rfl
instance Try.byt54 : BytP Try.prog 54 8 := ⟨by kernel_rfl⟩
instance Try.ty56 : TyP Try.prog 56 1 false [.nilFunc] := TyP.mk' (v := .nilFunc) (by kernel_rfl) rfl Try.underlying56 rfl
instance Try.byt56 : BytP Try.prog 56 8 := ⟨by kernel_rfl⟩
instance Try.ty57 : TyP Try.prog 57 1 false [.nilFunc] := TyP.mk' (v := .nilFunc) (by kernel_rfl) rfl Try.underlying57 rfl
instance Try.byt57 : BytP Try.prog 57 8 := ⟨by kernel_rfl⟩
instance Try.ty58 : TyP Try.prog 58 1 false [.nilFunc] := TyP.mk' (v := .nilFunc) (by kernel_rfl) rfl Try.underlying58 rfl
instance Try.byt58 : BytP Try.prog 58 8 := ⟨by kernel_rfl⟩
instance Try.ty59 : TyP Try.prog 59 1 false [.nilFunc] := TyP.mk' (v := .nilFunc) (by kernel_rfl) rfl Try.underlying59 rfl
instance Try.byt59 : BytP Try.prog 59 8 := ⟨by kernel_rfl⟩
instance Try.ty60 : TyP Try.prog 60 1 false [.nilFunc] := TyP.mk' (v := .nilFunc) (by kernel_rfl) rfl Try.underlying60 rfl
instance Try.byt60 : BytP Try.prog 60 8 := ⟨by kernel_rfl⟩
instance Try.slc61 : SlcP Try.prog 61 5 := ⟨Try.underlying61⟩
instance Try.ty61 : TyP Try.prog 61 1 false [.slice none 0 0] := TyP.mk' (v := .slice none 0 0) (by kernel_rfl) rfl Try.underlying61 rfl
instance Try.byt61 : BytP Try.prog 61 24 := ⟨by kernel_rfl⟩
instance Try.ty63 : TyP Try.prog 63 1 false [.nilFunc] := TyP.mk' (v := .nilFunc) (by kernel_rfl) rfl Try.underlying63 rfl
instance Try.byt63 : BytP Try.prog 63 8 := ⟨by kernel_rfl⟩
instance Try.ty65 : TyP Try.prog 65 1 false [.nilFunc] := TyP.mk' (v := .nilFunc) (by kernel_rfl) rfl Try.underlying65 rfl
instance Try.byt65 : BytP Try.prog 65 8 := ⟨by kernel_rfl⟩
instance Try.ty66 : TyP Try.prog 66 1 false [.nilFunc] := TyP.mk' (v := .nilFunc) (by kernel_rfl) rfl Try.underlying66 rfl
instance Try.byt66 : BytP Try.prog 66 8 := ⟨by kernel_rfl⟩
instance Try.ty67 : TyP Try.prog 67 1 false [.nilFunc] := TyP.mk' (v := .nilFunc) (by kernel_rfl) rfl Try.underlying67 rfl
instance Try.byt67 : BytP Try.prog 67 8 := ⟨by kernel_rfl⟩
instance Try.ty69 : TyP Try.prog 69 1 false [.nilFunc] := TyP.mk' (v := .nilFunc) (by kernel_rfl) rfl Try.underlying69 rfl
instance Try.byt69 : BytP Try.prog 69 8 := ⟨by kernel_rfl⟩
instance Try.ty70 : TyP Try.prog 70 1 false [.nilFunc] := TyP.mk' (v := .nilFunc) (by kernel_rfl) rfl Try.underlying70 rfl
instance Try.byt70 : BytP Try.prog 70 8 := ⟨by kernel_rfl⟩
instance Try.ty71 : TyP Try.prog 71 4 true [.int .i64 0, .int .i64 0, .int .i64 0, .int .i64 0] := TyP.mk' (v := .agg #[.int .i64 0, .int .i64 0, .int .i64 0, .int .i64 0]) (by kernel_rfl) rfl Try.underlying71 rfl
instance Try.byt71 : BytP Try.prog 71 32 := ⟨by kernel_rfl⟩
instance Try.ty72 : TyP Try.prog 72 4 true [.int .i64 0, .int .i64 0, .int .i64 0, .int .i64 0] := TyP.mk' (v := .agg #[.int .i64 0, .int .i64 0, .int .i64 0, .int .i64 0]) (by kernel_rfl) rfl Try.underlying72 rfl
instance Try.byt72 : BytP Try.prog 72 32 := ⟨by kernel_rfl⟩
instance Try.ty73 : TyP Try.prog 73 1 false [.nilFunc] := TyP.mk' (v := .nilFunc) (by kernel_rfl) rfl Try.underlying73 rfl
instance Try.byt73 : BytP Try.prog 73 8 := ⟨by kernel_rfl⟩
instance Try.ty74 : TyP Try.prog 74 3 true [.int .i64 0, .int .i64 0, .int .i64 0] := TyP.mk' (v := .agg #[.int .i64 0, .int .i64 0, .int .i64 0]) (by kernel_rfl) rfl Try.underlying74 rfl
instance Try.byt74 : BytP Try.prog 74 24 := ⟨by kernel_rfl⟩
instance Try.ty75 : TyP Try.prog 75 3 true [.int .i64 0, .int .i64 0, .int .i64 0] := TyP.mk' (v := .agg #[.int .i64 0, .int .i64 0, .int .i64 0]) (by kernel_rfl) rfl Try.underlying75 rfl
instance Try.byt75 : BytP Try.prog 75 24 := ⟨by kernel_rfl⟩
instance Try.ty76 : TyP Try.prog 76 1 false [.nilFunc] := TyP.mk' (v := .nilFunc) (by kernel_rfl) rfl Try.underlying76 rfl
instance Try.byt76 : BytP Try.prog 76 8 := ⟨by kernel_rfl⟩
instance Try.ty77 : TyP Try.prog 77 4 true [.int .i64 0, .int .i64 0, .int .i64 0, .int .i64 0] := TyP.mk' (v := .agg #[.int .i64 0, .int .i64 0, .int .i64 0, .int .i64 0]) (by kernel_rfl) rfl Try.underlying77 rfl
instance Try.byt77 : BytP Try.prog 77 32 := ⟨by kernel_rfl⟩
instance Try.ty78 : TyP Try.prog 78 4 true [.int .i64 0, .int .i64 0, .int .i64 0, .int .i64 0] := TyP.mk' (v := .agg #[.int .i64 0, .int .i64 0, .int .i64 0, .int .i64 0]) (by kernel_rfl) rfl Try.underlying78 rfl
instance Try.byt78 : BytP Try.prog 78 32 := ⟨by kernel_rfl⟩
instance Try.ty79 : TyP Try.prog 79 1 false [.nilFunc] := TyP.mk' (v := .nilFunc) (by kernel_rfl) rfl Try.underlying79 rfl
instance Try.byt79 : BytP Try.prog 79 8 := ⟨by kernel_rfl⟩
instance Try.ty80 : TyP Try.prog 80 1 false [.nilFunc] := TyP.mk' (v := .nilFunc) (by kernel_rfl) rfl Try.underlying80 rfl
instance Try.byt80 : BytP Try.prog 80 8 := ⟨by kernel_rfl⟩
instance Try.ty81 : TyP Try.prog 81 1 false [.nilFunc] := TyP.mk' (v := .nilFunc) (by kernel_rfl) rfl Try.underlying81 rfl
instance Try.byt81 : BytP Try.prog 81 8 := ⟨by kernel_rfl⟩
instance Try.map82 : MapP Try.prog 82 83 4 := ⟨Try.underlying82⟩
instance Try.ty82 : TyP Try.prog 82 1 false [.map none] := TyP.mk' (v := .map none) (by kernel_rfl) rfl Try.underlying82 rfl
instance Try.byt82 : BytP Try.prog 82 8 := ⟨by kernel_rfl⟩
instance Try.ary83 : AryP Try.prog 83 2 3 := ⟨Try.underlying83⟩
instance Try.ty83 : TyP Try.prog 83 2 true [.int .i64 0, .int .i64 0] := TyP.mk' (v := .agg #[.int .i64 0, .int .i64 0]) (by kernel_rfl) rfl Try.underlying83 rfl
instance Try.byt83 : BytP Try.prog 83 16 := ⟨by kernel_rfl⟩
instance Try.ptr84 : PtrP Try.prog 84 36 := ⟨Try.underlying84⟩
instance Try.ty84 : TyP Try.prog 84 1 false [.pointer none] := TyP.mk' (v := .pointer none) (by kernel_rfl) rfl Try.underlying84 rfl
instance Try.byt84 : BytP Try.prog 84 8 := ⟨by kernel_rfl⟩
instance Try.ty85 : TyP Try.prog 85 1 false [.nilFunc] := TyP.mk' (v := .nilFunc) (by kernel_rfl) rfl Try.underlying85 rfl
instance Try.byt85 : BytP Try.prog 85 8 := ⟨by kernel_rfl⟩
instance Try.ty86 : TyP Try.prog 86 1 false [.nilFunc] := TyP.mk' (v := .nilFunc) (by kernel_rfl) rfl Try.underlying86 rfl
instance Try.byt86 : BytP Try.prog 86 8 := ⟨by kernel_rfl⟩
instance Try.slc87 : SlcP Try.prog 87 26 := ⟨Try.underlying87⟩
instance Try.ty87 : TyP Try.prog 87 1 false [.slice none 0 0] := TyP.mk' (v := .slice none 0 0) (by kernel_rfl) rfl Try.underlying87 rfl
instance Try.byt87 : BytP Try.prog 87 24 := ⟨by kernel_rfl⟩
instance Try.ty88 : TyP Try.prog 88 1 false [.nilFunc] := TyP.mk' (v := .nilFunc) (by kernel_rfl) rfl Try.underlying88 rfl
instance Try.byt88 : BytP Try.prog 88 8 := ⟨by kernel_rfl⟩
instance Try.ty89 : TyP Try.prog 89 1 false [.nilFunc] := TyP.mk' (v := .nilFunc) (by kernel_rfl) rfl Try.underlying89 rfl
instance Try.byt89 : BytP Try.prog 89 8 := ⟨by kernel_rfl⟩
instance Try.ty90 : TyP Try.prog 90 1 false [.nilFunc] := TyP.mk' (v := .nilFunc) (by kernel_rfl) rfl Try.underlying90 rfl
instance Try.byt90 : BytP Try.prog 90 8 := ⟨by kernel_rfl⟩
instance Try.ptr91 : PtrP Try.prog 91 120 := ⟨Try.underlying91⟩
instance Try.ty91 : TyP Try.prog 91 1 false [.pointer none] := TyP.mk' (v := .pointer none) (by kernel_rfl) rfl Try.underlying91 rfl
instance Try.byt91 : BytP Try.prog 91 8 := ⟨by kernel_rfl⟩
instance Try.ty93 : TyP Try.prog 93 1 false [.nilFunc] := TyP.mk' (v := .nilFunc) (by kernel_rfl) rfl Try.underlying93 rfl
instance Try.byt93 : BytP Try.prog 93 8 := ⟨by kernel_rfl⟩
instance Try.slc94 : SlcP Try.prog 94 46 := ⟨Try.underlying94⟩
instance Try.ty94 : TyP Try.prog 94 1 false [.slice none 0 0] := TyP.mk' (v := .slice none 0 0) (by kernel_rfl) rfl Try.underlying94 rfl
instance Try.byt94 : BytP Try.prog 94 24 := ⟨by kernel_rfl⟩
instance Try.ty96 : TyP Try.prog 96 1 false [.nilFunc] := TyP.mk' (v := .nilFunc) (by kernel_rfl) rfl Try.underlying96 rfl
instance Try.byt96 : BytP Try.prog 96 8 := ⟨by kernel_rfl⟩
instance Try.slc97 : SlcP Try.prog 97 4 := ⟨Try.underlying97⟩
instance Try.ty97 : TyP Try.prog 97 1 false [.slice none 0 0] := TyP.mk' (v := .slice none 0 0) (by kernel_rfl) rfl Try.underlying97 rfl
instance Try.byt97 : BytP Try.prog 97 24 := ⟨by kernel_rfl⟩
instance Try.ty98 : TyP Try.prog 98 1 false [.nilFunc] := TyP.mk' (v := .nilFunc) (by kernel_rfl) rfl Try.underlying98 rfl
instance Try.byt98 : BytP Try.prog 98 8 := ⟨by kernel_rfl⟩
instance Try.ty99 : TyP Try.prog 99 1 false [.nilFunc] := TyP.mk' (v := .nilFunc) (by kernel_rfl) rfl Try.underlying99 rfl
instance Try.byt99 : BytP Try.prog 99 8 := ⟨by kernel_rfl⟩
instance Try.ty100 : TyP Try.prog 100 1 false [.nilFunc] := TyP.mk' (v := .nilFunc) (by kernel_rfl) rfl Try.underlying100 rfl
instance Try.byt100 : BytP Try.prog 100 8 := ⟨by kernel_rfl⟩
instance Try.ty101 : TyP Try.prog 101 1 false [.nilFunc] := TyP.mk' (v := .nilFunc) (by kernel_rfl) rfl Try.underlying101 rfl
instance Try.byt101 : BytP Try.prog 101 8 := ⟨by kernel_rfl⟩
instance Try.ty102 : TyP Try.prog 102 1 false [.nilFunc] := TyP.mk' (v := .nilFunc) (by kernel_rfl) rfl Try.underlying102 rfl
instance Try.byt102 : BytP Try.prog 102 8 := ⟨by kernel_rfl⟩
instance Try.ty103 : TyP Try.prog 103 1 false [.nilFunc] := TyP.mk' (v := .nilFunc) (by kernel_rfl) rfl Try.underlying103 rfl
instance Try.byt103 : BytP Try.prog 103 8 := ⟨by kernel_rfl⟩
instance Try.map104 : MapP Try.prog 104 3 4 := ⟨Try.underlying104⟩
instance Try.ty104 : TyP Try.prog 104 1 false [.map none] := TyP.mk' (v := .map none) (by kernel_rfl) rfl Try.underlying104 rfl
instance Try.byt104 : BytP Try.prog 104 8 := ⟨by kernel_rfl⟩
instance Try.ty105 : TyP Try.prog 105 6 true [.int .i64 0, .slice none 0 0, .slice none 0 0, .slice none 0 0, .map none, .int .i64 0] := TyP.mk' (v := .agg #[.int .i64 0, .slice none 0 0, .slice none 0 0, .slice none 0 0, .map none, .int .i64 0]) (by kernel_rfl) rfl Try.underlying105 rfl
instance Try.byt105 : BytP Try.prog 105 96 := ⟨by kernel_rfl⟩
instance Try.ty106 : TyP Try.prog 106 6 true [.int .i64 0, .slice none 0 0, .slice none 0 0, .slice none 0 0, .map none, .int .i64 0] := TyP.mk' (v := .agg #[.int .i64 0, .slice none 0 0, .slice none 0 0, .slice none 0 0, .map none, .int .i64 0]) (by kernel_rfl) rfl Try.underlying106 rfl
instance Try.byt106 : BytP Try.prog 106 96 := ⟨by kernel_rfl⟩
instance Try.ty108 : TyP Try.prog 108 1 false [.nilFunc] := TyP.mk' (v := .nilFunc) (by kernel_rfl) rfl Try.underlying108 rfl
instance Try.byt108 : BytP Try.prog 108 8 := ⟨by kernel_rfl⟩
instance Try.ty109 : TyP Try.prog 109 1 false [.nilFunc] := TyP.mk' (v := .nilFunc) (by kernel_rfl) rfl Try.underlying109 rfl
instance Try.byt109 : BytP Try.prog 109 8 := ⟨by kernel_rfl⟩
instance Try.ty110 : TyP Try.prog 110 1 false [.nilFunc] := TyP.mk' (v := .nilFunc) (by kernel_rfl) rfl Try.underlying110 rfl
instance Try.byt110 : BytP Try.prog 110 8 := ⟨by kernel_rfl⟩
instance Try.ty111 : TyP Try.prog 111 1 false [.nilFunc] := TyP.mk' (v := .nilFunc) (by kernel_rfl) rfl Try.underlying111 rfl
instance Try.byt111 : BytP Try.prog 111 8 := ⟨by kernel_rfl⟩
instance Try.ty112 : TyP Try.prog 112 1 false [.nilFunc] := TyP.mk' (v := .nilFunc) (by kernel_rfl) rfl Try.underlying112 rfl
instance Try.byt112 : BytP Try.prog 112 8 := ⟨by kernel_rfl⟩
instance Try.ptr113 : PtrP Try.prog 113 78 := ⟨Try.underlying113⟩
instance Try.ty113 : TyP Try.prog 113 1 false [.pointer none] := TyP.mk' (v := .pointer none) (by kernel_rfl) rfl Try.underlying113 rfl
instance Try.byt113 : BytP Try.prog 113 8 := ⟨by kernel_rfl⟩
instance Try.ptr114 : PtrP Try.prog 114 75 := ⟨Try.underlying114⟩
instance Try.ty114 : TyP Try.prog 114 1 false [.pointer none] := TyP.mk' (v := .pointer none) (by kernel_rfl) rfl Try.underlying114 rfl
instance Try.byt114 : BytP Try.prog 114 8 := ⟨by kernel_rfl⟩
instance Try.int115 : IntP Try.prog 115 .u32 := ⟨Try.underlying115⟩
instance Try.ty115 : TyP Try.prog 115 1 false [.int .u32 0] := TyP.mk' (v := .int .u32 0) (by kernel_rfl) rfl Try.underlying115 rfl
instance Try.byt115 : BytP Try.prog 115 4 := ⟨by kernel_rfl⟩
instance Try.ty116 : TyP Try.prog 116 1 false [.nilFunc] := TyP.mk' (v := .nilFunc) (by kernel_rfl) rfl Try.underlying116 rfl
instance Try.byt116 : BytP Try.prog 116 8 := ⟨by kernel_rfl⟩
instance Try.ary117 : AryP Try.prog 117 21 3 := ⟨Try.underlying117⟩
instance Try.ty117 : TyP Try.prog 117 21 true [.int .i64 0, .int .i64 0, .int .i64 0, .int .i64 0, .int .i64 0, .int .i64 0, .int .i64 0, .int .i64 0, .int .i64 0, .int .i64 0, .int .i64 0, .int .i64 0, .int .i64 0, .int .i64 0, .int .i64 0, .int .i64 0, .int .i64 0, .int .i64 0, .int .i64 0, .int .i64 0, .int .i64 0] := TyP.mk' (v := .agg #[.int .i64 0, .int .i64 0, .int .i64 0, .int .i64 0, .int .i64 0, .int .i64 0, .int .i64 0, .int .i64 0, .int .i64 0, .int .i64 0, .int .i64 0, .int .i64 0, .int .i64 0, .int .i64 0, .int .i64 0, .int .i64 0, .int .i64 0, .int .i64 0, .int .i64 0, .int .i64 0, .int .i64 0]) (by kernel_rfl) rfl Try.underlying117 rfl
instance Try.byt117 : BytP Try.prog 117 168 := ⟨by kernel_rfl⟩
instance Try.ty118 : TyP Try.prog 118 1 false [.nilFunc] := TyP.mk' (v := .nilFunc) (by kernel_rfl) rfl Try.underlying118 rfl
instance Try.byt118 : BytP Try.prog 118 8 := ⟨by kernel_rfl⟩
instance Try.ary119 : AryP Try.prog 119 21 117 := ⟨Try.underlying119⟩
instance Try.ty119 : TyP Try.prog 119 441 true (List.replicate 441 (.int .i64 0)) := TyP.mk' (v := .agg (Array.replicate 441 (.int .i64 0))) (by kernel_rfl) (by kernel_rfl) Try.underlying119 rfl
instance Try.ty120 : TyP Try.prog 120 441 true (List.replicate 441 (.int .i64 0)) := TyP.mk' (v := .agg (Array.replicate 441 (.int .i64 0))) (by kernel_rfl) (by kernel_rfl) Try.underlying120 rfl
instance Try.ary120 : AryP Try.prog 120 21 117 := ⟨Try.underlying120⟩
instance Try.ty121 : TyP Try.prog 121 3 true [.int .i64 0, .int .i64 0, .int .i64 0] := TyP.mk' (v := .agg #[.int .i64 0, .int .i64 0, .int .i64 0]) (by kernel_rfl) rfl Try.underlying121 rfl
instance Try.byt121 : BytP Try.prog 121 24 := ⟨by kernel_rfl⟩
instance Try.ty122 : TyP Try.prog 122 3 true [.int .i64 0, .int .i64 0, .int .i64 0] := TyP.mk' (v := .agg #[.int .i64 0, .int .i64 0, .int .i64 0]) (by kernel_rfl) rfl Try.underlying122 rfl
instance Try.byt122 : BytP Try.prog 122 24 := ⟨by kernel_rfl⟩
instance Try.ty123 : TyP Try.prog 123 1 false [.nilFunc] := TyP.mk' (v := .nilFunc) (by kernel_rfl) rfl Try.underlying123 rfl
instance Try.byt123 : BytP Try.prog 123 8 := ⟨by kernel_rfl⟩
instance Try.ty124 : TyP Try.prog 124 1 false [.nilFunc] := TyP.mk' (v := .nilFunc) (by kernel_rfl) rfl Try.underlying124 rfl
instance Try.byt124 : BytP Try.prog 124 8 := ⟨by kernel_rfl⟩
instance Try.ty125 : TyP Try.prog 125 1 false [.nilFunc] := TyP.mk' (v := .nilFunc) (by kernel_rfl) rfl Try.underlying125 rfl
instance Try.byt125 : BytP Try.prog 125 8 := ⟨by kernel_rfl⟩
instance Try.ty126 : TyP Try.prog 126 1 false [.nilFunc] := TyP.mk' (v := .nilFunc) (by kernel_rfl) rfl Try.underlying126 rfl
instance Try.byt126 : BytP Try.prog 126 8 := ⟨by kernel_rfl⟩
instance Try.ty127 : TyP Try.prog 127 1 false [.nilFunc] := TyP.mk' (v := .nilFunc) (by kernel_rfl) rfl Try.underlying127 rfl
instance Try.byt127 : BytP Try.prog 127 8 := ⟨by kernel_rfl⟩
instance Try.ty128 : TyP Try.prog 128 1 false [.nilFunc] := TyP.mk' (v := .nilFunc) (by kernel_rfl) rfl Try.underlying128 rfl
instance Try.byt128 : BytP Try.prog 128 8 := ⟨by kernel_rfl⟩
instance Try.ty129 : TyP Try.prog 129 1 false [.nilFunc] := TyP.mk' (v := .nilFunc) (by kernel_rfl) rfl Try.underlying129 rfl
instance Try.byt129 : BytP Try.prog 129 8 := ⟨by kernel_rfl⟩
instance Try.ary132 : AryP Try.prog 132 0 16 := ⟨Try.underlying132⟩
instance Try.ty132 : TyP Try.prog 132 0 true [] := TyP.mk' (v := .agg #[]) (by kernel_rfl) rfl Try.underlying132 rfl
instance Try.byt132 : BytP Try.prog 132 0 := ⟨by kernel_rfl⟩
instance Try.ty133 : TyP Try.prog 133 0 true [] := TyP.mk' (v := .agg #[]) (by kernel_rfl) rfl Try.underlying133 rfl
instance Try.byt133 : BytP Try.prog 133 0 := ⟨by kernel_rfl⟩
instance Try.ty134 : TyP Try.prog 134 0 true [] := TyP.mk' (v := .agg #[]) (by kernel_rfl) rfl Try.underlying134 rfl
instance Try.byt134 : BytP Try.prog 134 0 := ⟨by kernel_rfl⟩
instance Try.ty135 : TyP Try.prog 135 1 false [.nilFunc] := TyP.mk' (v := .nilFunc) (by kernel_rfl) rfl Try.underlying135 rfl
instance Try.byt135 : BytP Try.prog 135 8 := ⟨by kernel_rfl⟩
instance Try.int136 : IntP Try.prog 136 .u8 := ⟨Try.underlying136⟩
instance Try.ty136 : TyP Try.prog 136 1 false [.int .u8 0] := TyP.mk' (v := .int .u8 0) (by kernel_rfl) rfl Try.underlying136 rfl
instance Try.byt136 : BytP Try.prog 136 1 := ⟨by kernel_rfl⟩
instance Try.int137 : IntP Try.prog 137 .u8 := ⟨Try.underlying137⟩
instance Try.ty137 : TyP Try.prog 137 1 false [.int .u8 0] := TyP.mk' (v := .int .u8 0) (by kernel_rfl) rfl Try.underlying137 rfl
instance Try.byt137 : BytP Try.prog 137 1 := ⟨by kernel_rfl⟩
instance Try.ty138 : TyP Try.prog 138 1 false [.nilFunc] := TyP.mk' (v := .nilFunc) (by kernel_rfl) rfl Try.underlying138 rfl
instance Try.byt138 : BytP Try.prog 138 8 := ⟨by kernel_rfl⟩
instance Try.ptr139 : PtrP Try.prog 139 5 := ⟨Try.underlying139⟩
instance Try.ty139 : TyP Try.prog 139 1 false [.pointer none] := TyP.mk' (v := .pointer none) (by kernel_rfl) rfl Try.underlying139 rfl
instance Try.byt139 : BytP Try.prog 139 8 := ⟨by kernel_rfl⟩
instance Try.int140 : IntP Try.prog 140 .i32 := ⟨Try.underlying140⟩
instance Try.ty140 : TyP Try.prog 140 1 false [.int .i32 0] := TyP.mk' (v := .int .i32 0) (by kernel_rfl) rfl Try.underlying140 rfl
instance Try.byt140 : BytP Try.prog 140 4 := ⟨by kernel_rfl⟩
instance Try.int141 : IntP Try.prog 141 .i32 := ⟨Try.underlying141⟩
instance Try.ty141 : TyP Try.prog 141 1 false [.int .i32 0] := TyP.mk' (v := .int .i32 0) (by kernel_rfl) rfl Try.underlying141 rfl
instance Try.byt141 : BytP Try.prog 141 4 := ⟨by kernel_rfl⟩
instance Try.ty142 : TyP Try.prog 142 11 true [.int .u64 0, .int .u64 0, .int .u32 0, .int .u8 0, .int .u8 0, .int .u8 0, .int .u8 0, .nilFunc, .pointer none, .int .i32 0, .int .i32 0] := TyP.mk' (v := .agg #[.int .u64 0, .int .u64 0, .int .u32 0, .int .u8 0, .int .u8 0, .int .u8 0, .int .u8 0, .nilFunc, .pointer none, .int .i32 0, .int .i32 0]) (by kernel_rfl) rfl Try.underlying142 rfl
instance Try.byt142 : BytP Try.prog 142 48 := ⟨by kernel_rfl⟩
instance Try.ty143 : TyP Try.prog 143 11 true [.int .u64 0, .int .u64 0, .int .u32 0, .int .u8 0, .int .u8 0, .int .u8 0, .int .u8 0, .nilFunc, .pointer none, .int .i32 0, .int .i32 0] := TyP.mk' (v := .agg #[.int .u64 0, .int .u64 0, .int .u32 0, .int .u8 0, .int .u8 0, .int .u8 0, .int .u8 0, .nilFunc, .pointer none, .int .i32 0, .int .i32 0]) (by kernel_rfl) rfl Try.underlying143 rfl
instance Try.byt143 : BytP Try.prog 143 48 := ⟨by kernel_rfl⟩
instance Try.ty144 : TyP Try.prog 144 1 false [.pointer none] := TyP.mk' (v := .pointer none) (by kernel_rfl) rfl Try.underlying144 rfl
instance Try.byt144 : BytP Try.prog 144 8 := ⟨by kernel_rfl⟩
instance Try.st7 : StP Try.prog 7 [.int .i64 0, .int .i64 0, .bool false, .int .u8 0] [(0, 1), (1, 1), (2, 1), (3, 1)] := StP.mk' Try.ty7 Try.underlying7 (by kernel_rfl)
instance Try.fv7_0 : FldV Try.prog 7 0 0 1 false := FldV.mk' Try.underlying7 rfl rfl Try.ty2
instance Try.fld7_0 : FldP Try.prog 7 0 0 := FldP.mk' (sz := 1) Try.underlying7 rfl rfl (by kernel_rfl) rfl
instance Try.fv7_1 : FldV Try.prog 7 1 1 1 false := FldV.mk' Try.underlying7 rfl rfl Try.ty3
instance Try.fld7_1 : FldP Try.prog 7 1 1 := FldP.mk' (sz := 1) Try.underlying7 rfl rfl (by kernel_rfl) rfl
instance Try.fv7_2 : FldV Try.prog 7 2 2 1 false := FldV.mk' Try.underlying7 rfl rfl Try.ty4
instance Try.fld7_2 : FldP Try.prog 7 2 2 := FldP.mk' (sz := 1) Try.underlying7 rfl rfl (by kernel_rfl) rfl
instance Try.fv7_3 : FldV Try.prog 7 3 3 1 false := FldV.mk' Try.underlying7 rfl rfl Try.ty6
instance Try.fld7_3 : FldP Try.prog 7 3 3 := FldP.mk' (sz := 1) Try.underlying7 rfl rfl (by kernel_rfl) rfl
instance Try.st8 : StP Try.prog 8 [.int .i64 0, .int .i64 0, .bool false, .int .u8 0] [(0, 1), (1, 1), (2, 1), (3, 1)] := StP.mk' Try.ty8 Try.underlying8 (by kernel_rfl)
instance Try.fv8_0 : FldV Try.prog 8 0 0 1 false := FldV.mk' Try.underlying8 rfl rfl Try.ty2
instance Try.fld8_0 : FldP Try.prog 8 0 0 := FldP.mk' (sz := 1) Try.underlying8 rfl rfl (by kernel_rfl) rfl
instance Try.fv8_1 : FldV Try.prog 8 1 1 1 false := FldV.mk' Try.underlying8 rfl rfl Try.ty3
instance Try.fld8_1 : FldP Try.prog 8 1 1 := FldP.mk' (sz := 1) Try.underlying8 rfl rfl (by kernel_rfl) rfl
instance Try.fv8_2 : FldV Try.prog 8 2 2 1 false := FldV.mk' Try.underlying8 rfl rfl Try.ty4
instance Try.fld8_2 : FldP Try.prog 8 2 2 := FldP.mk' (sz := 1) Try.underlying8 rfl rfl (by kernel_rfl) rfl
instance Try.fv8_3 : FldV Try.prog 8 3 3 1 false := FldV.mk' Try.underlying8 rfl rfl Try.ty6
instance Try.fld8_3 : FldP Try.prog 8 3 3 := FldP.mk' (sz := 1) Try.underlying8 rfl rfl (by kernel_rfl) rfl
instance Try.st18 : StP Try.prog 18 [.pointer none] [(0, 1)] := StP.mk' Try.ty18 Try.underlying18 (by kernel_rfl)
instance Try.fv18_0 : FldV Try.prog 18 0 0 1 false := FldV.mk' Try.underlying18 rfl rfl Try.ty17
instance Try.fld18_0 : FldP Try.prog 18 0 0 := FldP.mk' (sz := 1) Try.underlying18 rfl rfl (by kernel_rfl) rfl
instance Try.st19 : StP Try.prog 19 [.pointer none] [(0, 1)] := StP.mk' Try.ty19 Try.underlying19 (by kernel_rfl)
instance Try.fv19_0 : FldV Try.prog 19 0 0 1 false := FldV.mk' Try.underlying19 rfl rfl Try.ty17
instance Try.fld19_0 : FldP Try.prog 19 0 0 := FldP.mk' (sz := 1) Try.underlying19 rfl rfl (by kernel_rfl) rfl
instance Try.st25 : StP Try.prog 25 [.int .i64 0, .slice none 0 0, .slice none 0 0, .slice none 0 0] [(0, 1), (1, 1), (2, 1), (3, 1)] := StP.mk' Try.ty25 Try.underlying25 (by kernel_rfl)
instance Try.fv25_0 : FldV Try.prog 25 0 0 1 false := FldV.mk' Try.underlying25 rfl rfl Try.ty3
instance Try.fld25_0 : FldP Try.prog 25 0 0 := FldP.mk' (sz := 1) Try.underlying25 rfl rfl (by kernel_rfl) rfl
instance Try.fv25_1 : FldV Try.prog 25 1 1 1 false := FldV.mk' Try.underlying25 rfl rfl Try.ty22
instance Try.fld25_1 : FldP Try.prog 25 1 1 := FldP.mk' (sz := 1) Try.underlying25 rfl rfl (by kernel_rfl) rfl
instance Try.fv25_2 : FldV Try.prog 25 2 2 1 false := FldV.mk' Try.underlying25 rfl rfl Try.ty23
instance Try.fld25_2 : FldP Try.prog 25 2 2 := FldP.mk' (sz := 1) Try.underlying25 rfl rfl (by kernel_rfl) rfl
instance Try.fv25_3 : FldV Try.prog 25 3 3 1 false := FldV.mk' Try.underlying25 rfl rfl Try.ty24
instance Try.fld25_3 : FldP Try.prog 25 3 3 := FldP.mk' (sz := 1) Try.underlying25 rfl rfl (by kernel_rfl) rfl
instance Try.st26 : StP Try.prog 26 [.int .i64 0, .slice none 0 0, .slice none 0 0, .slice none 0 0] [(0, 1), (1, 1), (2, 1), (3, 1)] := StP.mk' Try.ty26 Try.underlying26 (by kernel_rfl)
instance Try.fv26_0 : FldV Try.prog 26 0 0 1 false := FldV.mk' Try.underlying26 rfl rfl Try.ty3
instance Try.fld26_0 : FldP Try.prog 26 0 0 := FldP.mk' (sz := 1) Try.underlying26 rfl rfl (by kernel_rfl) rfl
instance Try.fv26_1 : FldV Try.prog 26 1 1 1 false := FldV.mk' Try.underlying26 rfl rfl Try.ty22
instance Try.fld26_1 : FldP Try.prog 26 1 1 := FldP.mk' (sz := 1) Try.underlying26 rfl rfl (by kernel_rfl) rfl
instance Try.fv26_2 : FldV Try.prog 26 2 2 1 false := FldV.mk' Try.underlying26 rfl rfl Try.ty23
instance Try.fld26_2 : FldP Try.prog 26 2 2 := FldP.mk' (sz := 1) Try.underlying26 rfl rfl (by kernel_rfl) rfl
instance Try.fv26_3 : FldV Try.prog 26 3 3 1 false := FldV.mk' Try.underlying26 rfl rfl Try.ty24
instance Try.fld26_3 : FldP Try.prog 26 3 3 := FldP.mk' (sz := 1) Try.underlying26 rfl rfl (by kernel_rfl) rfl
instance Try.st35 : StP Try.prog 35 [.int .i64 0, .int .i64 0] [(0, 1), (1, 1)] := StP.mk' Try.ty35 Try.underlying35 (by kernel_rfl)
instance Try.fv35_0 : FldV Try.prog 35 0 0 1 false := FldV.mk' Try.underlying35 rfl rfl Try.ty3
instance Try.fld35_0 : FldP Try.prog 35 0 0 := FldP.mk' (sz := 1) Try.underlying35 rfl rfl (by kernel_rfl) rfl
instance Try.fv35_1 : FldV Try.prog 35 1 1 1 false := FldV.mk' Try.underlying35 rfl rfl Try.ty3
instance Try.fld35_1 : FldP Try.prog 35 1 1 := FldP.mk' (sz := 1) Try.underlying35 rfl rfl (by kernel_rfl) rfl
instance Try.st36 : StP Try.prog 36 [.int .i64 0, .int .i64 0] [(0, 1), (1, 1)] := StP.mk' Try.ty36 Try.underlying36 (by kernel_rfl)
instance Try.fv36_0 : FldV Try.prog 36 0 0 1 false := FldV.mk' Try.underlying36 rfl rfl Try.ty3
instance Try.fld36_0 : FldP Try.prog 36 0 0 := FldP.mk' (sz := 1) Try.underlying36 rfl rfl (by kernel_rfl) rfl
instance Try.fv36_1 : FldV Try.prog 36 1 1 1 false := FldV.mk' Try.underlying36 rfl rfl Try.ty3
instance Try.fld36_1 : FldP Try.prog 36 1 1 := FldP.mk' (sz := 1) Try.underlying36 rfl rfl (by kernel_rfl) rfl
instance Try.st71 : StP Try.prog 71 [.int .i64 0, .int .i64 0, .int .i64 0, .int .i64 0] [(0, 1), (1, 1), (2, 2)] := StP.mk' Try.ty71 Try.underlying71 (by kernel_rfl)
instance Try.fv71_0 : FldV Try.prog 71 0 0 1 false := FldV.mk' Try.underlying71 rfl rfl Try.ty3
instance Try.fld71_0 : FldP Try.prog 71 0 0 := FldP.mk' (sz := 1) Try.underlying71 rfl rfl (by kernel_rfl) rfl
instance Try.fv71_1 : FldV Try.prog 71 1 1 1 false := FldV.mk' Try.underlying71 rfl rfl Try.ty3
instance Try.fld71_1 : FldP Try.prog 71 1 1 := FldP.mk' (sz := 1) Try.underlying71 rfl rfl (by kernel_rfl) rfl
instance Try.fv71_2 : FldV Try.prog 71 2 2 2 true := FldV.mk' Try.underlying71 rfl rfl Try.ty36
instance Try.fld71_2 : FldP Try.prog 71 2 2 := FldP.mk' (sz := 2) Try.underlying71 rfl rfl (by kernel_rfl) rfl
instance Try.st72 : StP Try.prog 72 [.int .i64 0, .int .i64 0, .int .i64 0, .int .i64 0] [(0, 1), (1, 1), (2, 2)] := StP.mk' Try.ty72 Try.underlying72 (by kernel_rfl)
instance Try.fv72_0 : FldV Try.prog 72 0 0 1 false := FldV.mk' Try.underlying72 rfl rfl Try.ty3
instance Try.fld72_0 : FldP Try.prog 72 0 0 := FldP.mk' (sz := 1) Try.underlying72 rfl rfl (by kernel_rfl) rfl
instance Try.fv72_1 : FldV Try.prog 72 1 1 1 false := FldV.mk' Try.underlying72 rfl rfl Try.ty3
instance Try.fld72_1 : FldP Try.prog 72 1 1 := FldP.mk' (sz := 1) Try.underlying72 rfl rfl (by kernel_rfl) rfl
instance Try.fv72_2 : FldV Try.prog 72 2 2 2 true := FldV.mk' Try.underlying72 rfl rfl Try.ty36
instance Try.fld72_2 : FldP Try.prog 72 2 2 := FldP.mk' (sz := 2) Try.underlying72 rfl rfl (by kernel_rfl) rfl
instance Try.st74 : StP Try.prog 74 [.int .i64 0, .int .i64 0, .int .i64 0] [(0, 1), (1, 2)] := StP.mk' Try.ty74 Try.underlying74 (by kernel_rfl)
instance Try.fv74_0 : FldV Try.prog 74 0 0 1 false := FldV.mk' Try.underlying74 rfl rfl Try.ty3
instance Try.fld74_0 : FldP Try.prog 74 0 0 := FldP.mk' (sz := 1) Try.underlying74 rfl rfl (by kernel_rfl) rfl
instance Try.fv74_1 : FldV Try.prog 74 1 1 2 true := FldV.mk' Try.underlying74 rfl rfl Try.ty36
instance Try.fld74_1 : FldP Try.prog 74 1 1 := FldP.mk' (sz := 2) Try.underlying74 rfl rfl (by kernel_rfl) rfl
instance Try.st75 : StP Try.prog 75 [.int .i64 0, .int .i64 0, .int .i64 0] [(0, 1), (1, 2)] := StP.mk' Try.ty75 Try.underlying75 (by kernel_rfl)
instance Try.fv75_0 : FldV Try.prog 75 0 0 1 false := FldV.mk' Try.underlying75 rfl rfl Try.ty3
instance Try.fld75_0 : FldP Try.prog 75 0 0 := FldP.mk' (sz := 1) Try.underlying75 rfl rfl (by kernel_rfl) rfl
instance Try.fv75_1 : FldV Try.prog 75 1 1 2 true := FldV.mk' Try.underlying75 rfl rfl Try.ty36
instance Try.fld75_1 : FldP Try.prog 75 1 1 := FldP.mk' (sz := 2) Try.underlying75 rfl rfl (by kernel_rfl) rfl
instance Try.st77 : StP Try.prog 77 [.int .i64 0, .int .i64 0, .int .i64 0, .int .i64 0] [(0, 1), (1, 1), (2, 2)] := StP.mk' Try.ty77 Try.underlying77 (by kernel_rfl)
instance Try.fv77_0 : FldV Try.prog 77 0 0 1 false := FldV.mk' Try.underlying77 rfl rfl Try.ty3
instance Try.fld77_0 : FldP Try.prog 77 0 0 := FldP.mk' (sz := 1) Try.underlying77 rfl rfl (by kernel_rfl) rfl
instance Try.fv77_1 : FldV Try.prog 77 1 1 1 false := FldV.mk' Try.underlying77 rfl rfl Try.ty3
instance Try.fld77_1 : FldP Try.prog 77 1 1 := FldP.mk' (sz := 1) Try.underlying77 rfl rfl (by kernel_rfl) rfl
instance Try.fv77_2 : FldV Try.prog 77 2 2 2 true := FldV.mk' Try.underlying77 rfl rfl Try.ty36
instance Try.fld77_2 : FldP Try.prog 77 2 2 := FldP.mk' (sz := 2) Try.underlying77 rfl rfl (by kernel_rfl) rfl
instance Try.st78 : StP Try.prog 78 [.int .i64 0, .int .i64 0, .int .i64 0, .int .i64 0] [(0, 1), (1, 1), (2, 2)] := StP.mk' Try.ty78 Try.underlying78 (by kernel_rfl)
instance Try.fv78_0 : FldV Try.prog 78 0 0 1 false := FldV.mk' Try.underlying78 rfl rfl Try.ty3
instance Try.fld78_0 : FldP Try.prog 78 0 0 := FldP.mk' (sz := 1) Try.underlying78 rfl rfl (by kernel_rfl) rfl
instance Try.fv78_1 : FldV Try.prog 78 1 1 1 false := FldV.mk' Try.underlying78 rfl rfl Try.ty3
instance Try.fld78_1 : FldP Try.prog 78 1 1 := FldP.mk' (sz := 1) Try.underlying78 rfl rfl (by kernel_rfl) rfl
instance Try.fv78_2 : FldV Try.prog 78 2 2 2 true := FldV.mk' Try.underlying78 rfl rfl Try.ty36
instance Try.fld78_2 : FldP Try.prog 78 2 2 := FldP.mk' (sz := 2) Try.underlying78 rfl rfl (by kernel_rfl) rfl
instance Try.ar83 : ArP Try.prog 83 [.int .i64 0, .int .i64 0] 2 1 := ArP.mk' Try.ty83 Try.underlying83 Try.ty3
instance Try.st105 : StP Try.prog 105 [.int .i64 0, .slice none 0 0, .slice none 0 0, .slice none 0 0, .map none, .int .i64 0] [(0, 4), (4, 1), (5, 1)] := StP.mk' Try.ty105 Try.underlying105 (by kernel_rfl)
instance Try.fv105_0 : FldV Try.prog 105 0 0 4 true := FldV.mk' Try.underlying105 rfl rfl Try.ty26
instance Try.fld105_0 : FldP Try.prog 105 0 0 := FldP.mk' (sz := 4) Try.underlying105 rfl rfl (by kernel_rfl) rfl
instance Try.fv105_1 : FldV Try.prog 105 1 4 1 false := FldV.mk' Try.underlying105 rfl rfl Try.ty104
instance Try.fld105_1 : FldP Try.prog 105 1 4 := FldP.mk' (sz := 1) Try.underlying105 rfl rfl (by kernel_rfl) rfl
instance Try.fv105_2 : FldV Try.prog 105 2 5 1 false := FldV.mk' Try.underlying105 rfl rfl Try.ty3
instance Try.fld105_2 : FldP Try.prog 105 2 5 := FldP.mk' (sz := 1) Try.underlying105 rfl rfl (by kernel_rfl) rfl
instance Try.st106 : StP Try.prog 106 [.int .i64 0, .slice none 0 0, .slice none 0 0, .slice none 0 0, .map none, .int .i64 0] [(0, 4), (4, 1), (5, 1)] := StP.mk' Try.ty106 Try.underlying106 (by kernel_rfl)
instance Try.fv106_0 : FldV Try.prog 106 0 0 4 true := FldV.mk' Try.underlying106 rfl rfl Try.ty26
instance Try.fld106_0 : FldP Try.prog 106 0 0 := FldP.mk' (sz := 4) Try.underlying106 rfl rfl (by kernel_rfl) rfl
instance Try.fv106_1 : FldV Try.prog 106 1 4 1 false := FldV.mk' Try.underlying106 rfl rfl Try.ty104
instance Try.fld106_1 : FldP Try.prog 106 1 4 := FldP.mk' (sz := 1) Try.underlying106 rfl rfl (by kernel_rfl) rfl
instance Try.fv106_2 : FldV Try.prog 106 2 5 1 false := FldV.mk' Try.underlying106 rfl rfl Try.ty3
instance Try.fld106_2 : FldP Try.prog 106 2 5 := FldP.mk' (sz := 1) Try.underlying106 rfl rfl (by kernel_rfl) rfl
instance Try.ar117 : ArP Try.prog 117 [.int .i64 0, .int .i64 0, .int .i64 0, .int .i64 0, .int .i64 0, .int .i64 0, .int .i64 0, .int .i64 0, .int .i64 0, .int .i64 0, .int .i64 0, .int .i64 0, .int .i64 0, .int .i64 0, .int .i64 0, .int .i64 0, .int .i64 0, .int .i64 0, .int .i64 0, .int .i64 0, .int .i64 0] 21 1 := ArP.mk' Try.ty117 Try.underlying117 Try.ty3
instance Try.st121 : StP Try.prog 121 [.int .i64 0, .int .i64 0, .int .i64 0] [(0, 1), (1, 1), (2, 1)] := StP.mk' Try.ty121 Try.underlying121 (by kernel_rfl)
instance Try.fv121_0 : FldV Try.prog 121 0 0 1 false := FldV.mk' Try.underlying121 rfl rfl Try.ty3
instance Try.fld121_0 : FldP Try.prog 121 0 0 := FldP.mk' (sz := 1) Try.underlying121 rfl rfl (by kernel_rfl) rfl
instance Try.fv121_1 : FldV Try.prog 121 1 1 1 false := FldV.mk' Try.underlying121 rfl rfl Try.ty3
instance Try.fld121_1 : FldP Try.prog 121 1 1 := FldP.mk' (sz := 1) Try.underlying121 rfl rfl (by kernel_rfl) rfl
instance Try.fv121_2 : FldV Try.prog 121 2 2 1 false := FldV.mk' Try.underlying121 rfl rfl Try.ty3
instance Try.fld121_2 : FldP Try.prog 121 2 2 := FldP.mk' (sz := 1) Try.underlying121 rfl rfl (by kernel_rfl) rfl
instance Try.st122 : StP Try.prog 122 [.int .i64 0, .int .i64 0, .int .i64 0] [(0, 1), (1, 1), (2, 1)] := StP.mk' Try.ty122 Try.underlying122 (by kernel_rfl)
instance Try.fv122_0 : FldV Try.prog 122 0 0 1 false := FldV.mk' Try.underlying122 rfl rfl Try.ty3
instance Try.fld122_0 : FldP Try.prog 122 0 0 := FldP.mk' (sz := 1) Try.underlying122 rfl rfl (by kernel_rfl) rfl
instance Try.fv122_1 : FldV Try.prog 122 1 1 1 false := FldV.mk' Try.underlying122 rfl rfl Try.ty3
instance Try.fld122_1 : FldP Try.prog 122 1 1 := FldP.mk' (sz := 1) Try.underlying122 rfl rfl (by kernel_rfl) rfl
instance Try.fv122_2 : FldV Try.prog 122 2 2 1 false := FldV.mk' Try.underlying122 rfl rfl Try.ty3
instance Try.fld122_2 : FldP Try.prog 122 2 2 := FldP.mk' (sz := 1) Try.underlying122 rfl rfl (by kernel_rfl) rfl
instance Try.ar132 : ArP Try.prog 132 [] 0 1 := ArP.mk' Try.ty132 Try.underlying132 Try.ty16
instance Try.st133 : StP Try.prog 133 [] [(0, 0)] := StP.mk' Try.ty133 Try.underlying133 (by kernel_rfl)
instance Try.st134 : StP Try.prog 134 [] [(0, 0)] := StP.mk' Try.ty134 Try.underlying134 (by kernel_rfl)
instance Try.st142 : StP Try.prog 142 [.int .u64 0, .int .u64 0, .int .u32 0, .int .u8 0, .int .u8 0, .int .u8 0, .int .u8 0, .nilFunc, .pointer none, .int .i32 0, .int .i32 0] [(0, 1), (1, 1), (2, 1), (3, 1), (4, 1), (5, 1), (6, 1), (7, 1), (8, 1), (9, 1), (10, 1)] := StP.mk' Try.ty142 Try.underlying142 (by kernel_rfl)
instance Try.fv142_0 : FldV Try.prog 142 0 0 1 false := FldV.mk' Try.underlying142 rfl rfl Try.ty12
instance Try.fld142_0 : FldP Try.prog 142 0 0 := FldP.mk' (sz := 1) Try.underlying142 rfl rfl (by kernel_rfl) rfl
instance Try.fv142_1 : FldV Try.prog 142 1 1 1 false := FldV.mk' Try.underlying142 rfl rfl Try.ty12
instance Try.fld142_1 : FldP Try.prog 142 1 1 := FldP.mk' (sz := 1) Try.underlying142 rfl rfl (by kernel_rfl) rfl
instance Try.fv142_2 : FldV Try.prog 142 2 2 1 false := FldV.mk' Try.underlying142 rfl rfl Try.ty115
instance Try.fld142_2 : FldP Try.prog 142 2 2 := FldP.mk' (sz := 1) Try.underlying142 rfl rfl (by kernel_rfl) rfl
instance Try.fv142_3 : FldV Try.prog 142 3 3 1 false := FldV.mk' Try.underlying142 rfl rfl Try.ty136
instance Try.fld142_3 : FldP Try.prog 142 3 3 := FldP.mk' (sz := 1) Try.underlying142 rfl rfl (by kernel_rfl) rfl
instance Try.fv142_4 : FldV Try.prog 142 4 4 1 false := FldV.mk' Try.underlying142 rfl rfl Try.ty5
instance Try.fld142_4 : FldP Try.prog 142 4 4 := FldP.mk' (sz := 1) Try.underlying142 rfl rfl (by kernel_rfl) rfl
instance Try.fv142_5 : FldV Try.prog 142 5 5 1 false := FldV.mk' Try.underlying142 rfl rfl Try.ty5
instance Try.fld142_5 : FldP Try.prog 142 5 5 := FldP.mk' (sz := 1) Try.underlying142 rfl rfl (by kernel_rfl) rfl
instance Try.fv142_6 : FldV Try.prog 142 6 6 1 false := FldV.mk' Try.underlying142 rfl rfl Try.ty137
instance Try.fld142_6 : FldP Try.prog 142 6 6 := FldP.mk' (sz := 1) Try.underlying142 rfl rfl (by kernel_rfl) rfl
instance Try.fv142_7 : FldV Try.prog 142 7 7 1 false := FldV.mk' Try.underlying142 rfl rfl Try.ty138
instance Try.fld142_7 : FldP Try.prog 142 7 7 := FldP.mk' (sz := 1) Try.underlying142 rfl rfl (by kernel_rfl) rfl
instance Try.fv142_8 : FldV Try.prog 142 8 8 1 false := FldV.mk' Try.underlying142 rfl rfl Try.ty139
instance Try.fld142_8 : FldP Try.prog 142 8 8 := FldP.mk' (sz := 1) Try.underlying142 rfl rfl (by kernel_rfl) rfl
instance Try.fv142_9 : FldV Try.prog 142 9 9 1 false := FldV.mk' Try.underlying142 rfl rfl Try.ty140
instance Try.fld142_9 : FldP Try.prog 142 9 9 := FldP.mk' (sz := 1) Try.underlying142 rfl rfl (by kernel_rfl) rfl
instance Try.fv142_10 : FldV Try.prog 142 10 10 1 false := FldV.mk' Try.underlying142 rfl rfl Try.ty141
instance Try.fld142_10 : FldP Try.prog 142 10 10 := FldP.mk' (sz := 1) Try.underlying142 rfl rfl (by kernel_rfl) rfl
instance Try.st143 : StP Try.prog 143 [.int .u64 0, .int .u64 0, .int .u32 0, .int .u8 0, .int .u8 0, .int .u8 0, .int .u8 0, .nilFunc, .pointer none, .int .i32 0, .int .i32 0] [(0, 1), (1, 1), (2, 1), (3, 1), (4, 1), (5, 1), (6, 1), (7, 1), (8, 1), (9, 1), (10, 1)] := StP.mk' Try.ty143 Try.underlying143 (by kernel_rfl)
instance Try.fv143_0 : FldV Try.prog 143 0 0 1 false := FldV.mk' Try.underlying143 rfl rfl Try.ty12
instance Try.fld143_0 : FldP Try.prog 143 0 0 := FldP.mk' (sz := 1) Try.underlying143 rfl rfl (by kernel_rfl) rfl
instance Try.fv143_1 : FldV Try.prog 143 1 1 1 false := FldV.mk' Try.underlying143 rfl rfl Try.ty12
instance Try.fld143_1 : FldP Try.prog 143 1 1 := FldP.mk' (sz := 1) Try.underlying143 rfl rfl (by kernel_rfl) rfl
instance Try.fv143_2 : FldV Try.prog 143 2 2 1 false := FldV.mk' Try.underlying143 rfl rfl Try.ty115
instance Try.fld143_2 : FldP Try.prog 143 2 2 := FldP.mk' (sz := 1) Try.underlying143 rfl rfl (by kernel_rfl) rfl
instance Try.fv143_3 : FldV Try.prog 143 3 3 1 false := FldV.mk' Try.underlying143 rfl rfl Try.ty136
instance Try.fld143_3 : FldP Try.prog 143 3 3 := FldP.mk' (sz := 1) Try.underlying143 rfl rfl (by kernel_rfl) rfl
instance Try.fv143_4 : FldV Try.prog 143 4 4 1 false := FldV.mk' Try.underlying143 rfl rfl Try.ty5
instance Try.fld143_4 : FldP Try.prog 143 4 4 := FldP.mk' (sz := 1) Try.underlying143 rfl rfl (by kernel_rfl) rfl
instance Try.fv143_5 : FldV Try.prog 143 5 5 1 false := FldV.mk' Try.underlying143 rfl rfl Try.ty5
instance Try.fld143_5 : FldP Try.prog 143 5 5 := FldP.mk' (sz := 1) Try.underlying143 rfl rfl (by kernel_rfl) rfl
instance Try.fv143_6 : FldV Try.prog 143 6 6 1 false := FldV.mk' Try.underlying143 rfl rfl Try.ty137
instance Try.fld143_6 : FldP Try.prog 143 6 6 := FldP.mk' (sz := 1) Try.underlying143 rfl rfl (by kernel_rfl) rfl
instance Try.fv143_7 : FldV Try.prog 143 7 7 1 false := FldV.mk' Try.underlying143 rfl rfl Try.ty138
instance Try.fld143_7 : FldP Try.prog 143 7 7 := FldP.mk' (sz := 1) Try.underlying143 rfl rfl (by kernel_rfl) rfl
instance Try.fv143_8 : FldV Try.prog 143 8 8 1 false := FldV.mk' Try.underlying143 rfl rfl Try.ty139
instance Try.fld143_8 : FldP Try.prog 143 8 8 := FldP.mk' (sz := 1) Try.underlying143 rfl rfl (by kernel_rfl) rfl
instance Try.fv143_9 : FldV Try.prog 143 9 9 1 false := FldV.mk' Try.underlying143 rfl rfl Try.ty140
instance Try.fld143_9 : FldP Try.prog 143 9 9 := FldP.mk' (sz := 1) Try.underlying143 rfl rfl (by kernel_rfl) rfl
instance Try.fv143_10 : FldV Try.prog 143 10 10 1 false := FldV.mk' Try.underlying143 rfl rfl Try.ty141
instance Try.fld143_10 : FldP Try.prog 143 10 10 := FldP.mk' (sz := 1) Try.underlying143 rfl rfl (by kernel_rfl) rfl
instance Try.eq2 : EqP Try.prog 2 1 1 := EqP.int
instance Try.eq3 : EqP Try.prog 3 1 1 := EqP.int
instance Try.eq30 : EqP Try.prog 30 1 1 := EqP.int
instance Try.eq35 : EqP Try.prog 35 2 2 := EqP.struct (ht := Try.ty35) _ Try.underlying35 Try.stoodInHeld35 ((FsP.cons (by kernel_rfl) rfl Try.ty3 Try.eq3 rfl rfl (FsP.cons (by kernel_rfl) rfl Try.ty3 Try.eq3 rfl rfl FsP.nil)) : FsP Try.prog 1 0 _ (1 + (1 + 0)))
instance Try.eqg35 : EqG Try.prog 35 := ⟨Try.eqGuardType35⟩
instance Try.eq36 : EqP Try.prog 36 2 2 := EqP.struct (ht := Try.ty36) _ Try.underlying36 Try.stoodInHeld36 ((FsP.cons (by kernel_rfl) rfl Try.ty3 Try.eq3 rfl rfl (FsP.cons (by kernel_rfl) rfl Try.ty3 Try.eq3 rfl rfl FsP.nil)) : FsP Try.prog 1 0 _ (1 + (1 + 0)))
instance Try.eqg36 : EqG Try.prog 36 := ⟨Try.eqGuardType36⟩
instance Try.eq71 : EqP Try.prog 71 3 4 := EqP.struct (ht := Try.ty71) _ Try.underlying71 Try.stoodInHeld71 ((FsP.cons (by kernel_rfl) rfl Try.ty3 Try.eq3 rfl rfl (FsP.cons (by kernel_rfl) rfl Try.ty3 Try.eq3 rfl rfl (FsP.cons (by kernel_rfl) rfl Try.ty36 Try.eq36 rfl rfl FsP.nil))) : FsP Try.prog 2 0 _ (1 + (1 + (2 + 0))))
instance Try.eqg71 : EqG Try.prog 71 := ⟨Try.eqGuardType71⟩
instance Try.eq72 : EqP Try.prog 72 3 4 := EqP.struct (ht := Try.ty72) _ Try.underlying72 Try.stoodInHeld72 ((FsP.cons (by kernel_rfl) rfl Try.ty3 Try.eq3 rfl rfl (FsP.cons (by kernel_rfl) rfl Try.ty3 Try.eq3 rfl rfl (FsP.cons (by kernel_rfl) rfl Try.ty36 Try.eq36 rfl rfl FsP.nil))) : FsP Try.prog 2 0 _ (1 + (1 + (2 + 0))))
instance Try.eqg72 : EqG Try.prog 72 := ⟨Try.eqGuardType72⟩
instance Try.eq74 : EqP Try.prog 74 3 3 := EqP.struct (ht := Try.ty74) _ Try.underlying74 Try.stoodInHeld74 ((FsP.cons (by kernel_rfl) rfl Try.ty3 Try.eq3 rfl rfl (FsP.cons (by kernel_rfl) rfl Try.ty36 Try.eq36 rfl rfl FsP.nil)) : FsP Try.prog 2 0 _ (1 + (2 + 0)))
instance Try.eqg74 : EqG Try.prog 74 := ⟨Try.eqGuardType74⟩
instance Try.eq75 : EqP Try.prog 75 3 3 := EqP.struct (ht := Try.ty75) _ Try.underlying75 Try.stoodInHeld75 ((FsP.cons (by kernel_rfl) rfl Try.ty3 Try.eq3 rfl rfl (FsP.cons (by kernel_rfl) rfl Try.ty36 Try.eq36 rfl rfl FsP.nil)) : FsP Try.prog 2 0 _ (1 + (2 + 0)))
instance Try.eqg75 : EqG Try.prog 75 := ⟨Try.eqGuardType75⟩
instance Try.eq77 : EqP Try.prog 77 3 4 := EqP.struct (ht := Try.ty77) _ Try.underlying77 Try.stoodInHeld77 ((FsP.cons (by kernel_rfl) rfl Try.ty3 Try.eq3 rfl rfl (FsP.cons (by kernel_rfl) rfl Try.ty3 Try.eq3 rfl rfl (FsP.cons (by kernel_rfl) rfl Try.ty36 Try.eq36 rfl rfl FsP.nil))) : FsP Try.prog 2 0 _ (1 + (1 + (2 + 0))))
instance Try.eqg77 : EqG Try.prog 77 := ⟨Try.eqGuardType77⟩
instance Try.eq78 : EqP Try.prog 78 3 4 := EqP.struct (ht := Try.ty78) _ Try.underlying78 Try.stoodInHeld78 ((FsP.cons (by kernel_rfl) rfl Try.ty3 Try.eq3 rfl rfl (FsP.cons (by kernel_rfl) rfl Try.ty3 Try.eq3 rfl rfl (FsP.cons (by kernel_rfl) rfl Try.ty36 Try.eq36 rfl rfl FsP.nil))) : FsP Try.prog 2 0 _ (1 + (1 + (2 + 0))))
instance Try.eqg78 : EqG Try.prog 78 := ⟨Try.eqGuardType78⟩
instance Try.eq83 : EqP Try.prog 83 2 2 := EqP.array (ht := Try.ty83) (he := Try.ty3) Try.underlying83 rfl rfl
instance Try.eq117 : EqP Try.prog 117 2 21 := EqP.array (ht := Try.ty117) (he := Try.ty3) Try.underlying117 rfl rfl
instance Try.eq121 : EqP Try.prog 121 2 3 := EqP.struct (ht := Try.ty121) _ Try.underlying121 Try.stoodInHeld121 ((FsP.cons (by kernel_rfl) rfl Try.ty3 Try.eq3 rfl rfl (FsP.cons (by kernel_rfl) rfl Try.ty3 Try.eq3 rfl rfl (FsP.cons (by kernel_rfl) rfl Try.ty3 Try.eq3 rfl rfl FsP.nil))) : FsP Try.prog 1 0 _ (1 + (1 + (1 + 0))))
instance Try.eqg121 : EqG Try.prog 121 := ⟨Try.eqGuardType121⟩
instance Try.eq122 : EqP Try.prog 122 2 3 := EqP.struct (ht := Try.ty122) _ Try.underlying122 Try.stoodInHeld122 ((FsP.cons (by kernel_rfl) rfl Try.ty3 Try.eq3 rfl rfl (FsP.cons (by kernel_rfl) rfl Try.ty3 Try.eq3 rfl rfl (FsP.cons (by kernel_rfl) rfl Try.ty3 Try.eq3 rfl rfl FsP.nil))) : FsP Try.prog 1 0 _ (1 + (1 + (1 + 0))))
instance Try.eqg122 : EqG Try.prog 122 := ⟨Try.eqGuardType122⟩
instance Try.ent3 : EntP Try.prog 3 := EntP.mk' Try.func3 (by kernel_rfl) rfl
instance Try.ent4 : EntP Try.prog 4 := EntP.mk' Try.func4 (by kernel_rfl) rfl
instance Try.ent5 : EntP Try.prog 5 := EntP.mk' Try.func5 (by kernel_rfl) rfl
instance Try.ent6 : EntP Try.prog 6 := EntP.mk' Try.func6 (by kernel_rfl) rfl
instance Try.ent7 : EntP Try.prog 7 := EntP.mk' Try.func7 (by kernel_rfl) rfl
instance Try.ent8 : EntP Try.prog 8 := EntP.mk' Try.func8 (by kernel_rfl) rfl
instance Try.ent9 : EntP Try.prog 9 := EntP.mk' Try.func9 (by kernel_rfl) rfl
instance Try.ent10 : EntP Try.prog 10 := EntP.mk' Try.func10 (by kernel_rfl) rfl
instance Try.ent11 : EntP Try.prog 11 := EntP.mk' Try.func11 (by kernel_rfl) rfl
instance Try.ent12 : EntP Try.prog 12 := EntP.mk' Try.func12 (by kernel_rfl) rfl
instance Try.ent13 : EntP Try.prog 13 := EntP.mk' Try.func13 (by kernel_rfl) rfl
instance Try.ent14 : EntP Try.prog 14 := EntP.mk' Try.func14 (by kernel_rfl) rfl
instance Try.ent15 : EntP Try.prog 15 := EntP.mk' Try.func15 (by kernel_rfl) rfl
instance Try.ent16 : EntP Try.prog 16 := EntP.mk' Try.func16 (by kernel_rfl) rfl
instance Try.ent17 : EntP Try.prog 17 := EntP.mk' Try.func17 (by kernel_rfl) rfl
instance Try.ent18 : EntP Try.prog 18 := EntP.mk' Try.func18 (by kernel_rfl) rfl
instance Try.ent19 : EntP Try.prog 19 := EntP.mk' Try.func19 (by kernel_rfl) rfl
instance Try.ent20 : EntP Try.prog 20 := EntP.mk' Try.func20 (by kernel_rfl) rfl
instance Try.ent21 : EntP Try.prog 21 := EntP.mk' Try.func21 (by kernel_rfl) rfl
instance Try.ent22 : EntP Try.prog 22 := EntP.mk' Try.func22 (by kernel_rfl) rfl
instance Try.ent23 : EntP Try.prog 23 := EntP.mk' Try.func23 (by kernel_rfl) rfl
instance Try.ent24 : EntP Try.prog 24 := EntP.mk' Try.func24 (by kernel_rfl) rfl
instance Try.ent25 : EntP Try.prog 25 := EntP.mk' Try.func25 (by kernel_rfl) rfl
instance Try.ent26 : EntP Try.prog 26 := EntP.mk' Try.func26 (by kernel_rfl) rfl
instance Try.ent27 : EntP Try.prog 27 := EntP.mk' Try.func27 (by kernel_rfl) rfl
instance Try.ent28 : EntP Try.prog 28 := EntP.mk' Try.func28 (by kernel_rfl) rfl
instance Try.ent29 : EntP Try.prog 29 := EntP.mk' Try.func29 (by kernel_rfl) rfl
instance Try.ent30 : EntP Try.prog 30 := EntP.mk' Try.func30 (by kernel_rfl) rfl
instance Try.ent31 : EntP Try.prog 31 := EntP.mk' Try.func31 (by kernel_rfl) rfl
instance Try.ent32 : EntP Try.prog 32 := EntP.mk' Try.func32 (by kernel_rfl) rfl
instance Try.ent33 : EntP Try.prog 33 := EntP.mk' Try.func33 (by kernel_rfl) rfl
instance Try.ent34 : EntP Try.prog 34 := EntP.mk' Try.func34 (by kernel_rfl) rfl
instance Try.ent35 : EntP Try.prog 35 := EntP.mk' Try.func35 (by kernel_rfl) rfl
instance Try.ent36 : EntP Try.prog 36 := EntP.mk' Try.func36 (by kernel_rfl) rfl
instance Try.ent37 : EntP Try.prog 37 := EntP.mk' Try.func37 (by kernel_rfl) rfl
instance Try.ent38 : EntP Try.prog 38 := EntP.mk' Try.func38 (by kernel_rfl) rfl
instance Try.ent39 : EntP Try.prog 39 := EntP.mk' Try.func39 (by kernel_rfl) rfl
instance Try.ent40 : EntP Try.prog 40 := EntP.mk' Try.func40 (by kernel_rfl) rfl
instance Try.ent41 : EntP Try.prog 41 := EntP.mk' Try.func41 (by kernel_rfl) rfl
instance Try.ent42 : EntP Try.prog 42 := EntP.mk' Try.func42 (by kernel_rfl) rfl
instance Try.ent43 : EntP Try.prog 43 := EntP.mk' Try.func43 (by kernel_rfl) rfl
instance Try.ent44 : EntP Try.prog 44 := EntP.mk' Try.func44 (by kernel_rfl) rfl
instance Try.ent45 : EntP Try.prog 45 := EntP.mk' Try.func45 (by kernel_rfl) rfl
instance Try.ent46 : EntP Try.prog 46 := EntP.mk' Try.func46 (by kernel_rfl) rfl
instance Try.ent47 : EntP Try.prog 47 := EntP.mk' Try.func47 (by kernel_rfl) rfl
instance Try.ent48 : EntP Try.prog 48 := EntP.mk' Try.func48 (by kernel_rfl) rfl
instance Try.ent49 : EntP Try.prog 49 := EntP.mk' Try.func49 (by kernel_rfl) rfl
instance Try.ent50 : EntP Try.prog 50 := EntP.mk' Try.func50 (by kernel_rfl) rfl
instance Try.ent51 : EntP Try.prog 51 := EntP.mk' Try.func51 (by kernel_rfl) rfl
instance Try.ent52 : EntP Try.prog 52 := EntP.mk' Try.func52 (by kernel_rfl) rfl
instance Try.ent53 : EntP Try.prog 53 := EntP.mk' Try.func53 (by kernel_rfl) rfl
instance Try.ent54 : EntP Try.prog 54 := EntP.mk' Try.func54 (by kernel_rfl) rfl
instance Try.ent55 : EntP Try.prog 55 := EntP.mk' Try.func55 (by kernel_rfl) rfl
instance Try.ent56 : EntP Try.prog 56 := EntP.mk' Try.func56 (by kernel_rfl) rfl
instance Try.ent57 : EntP Try.prog 57 := EntP.mk' Try.func57 (by kernel_rfl) rfl
instance Try.ent58 : EntP Try.prog 58 := EntP.mk' Try.func58 (by kernel_rfl) rfl
instance Try.ent59 : EntP Try.prog 59 := EntP.mk' Try.func59 (by kernel_rfl) rfl
instance Try.ent60 : EntP Try.prog 60 := EntP.mk' Try.func60 (by kernel_rfl) rfl
instance Try.ent61 : EntP Try.prog 61 := EntP.mk' Try.func61 (by kernel_rfl) rfl
instance Try.ent62 : EntP Try.prog 62 := EntP.mk' Try.func62 (by kernel_rfl) rfl
instance Try.ent63 : EntP Try.prog 63 := EntP.mk' Try.func63 (by kernel_rfl) rfl
instance Try.ent64 : EntP Try.prog 64 := EntP.mk' Try.func64 (by kernel_rfl) rfl
instance Try.ent65 : EntP Try.prog 65 := EntP.mk' Try.func65 (by kernel_rfl) rfl
instance Try.ent66 : EntP Try.prog 66 := EntP.mk' Try.func66 (by kernel_rfl) rfl
instance Try.ent67 : EntP Try.prog 67 := EntP.mk' Try.func67 (by kernel_rfl) rfl
instance Try.ent68 : EntP Try.prog 68 := EntP.mk' Try.func68 (by kernel_rfl) rfl
instance Try.ent69 : EntP Try.prog 69 := EntP.mk' Try.func69 (by kernel_rfl) rfl
instance Try.ent70 : EntP Try.prog 70 := EntP.mk' Try.func70 (by kernel_rfl) rfl
instance Try.ent71 : EntP Try.prog 71 := EntP.mk' Try.func71 (by kernel_rfl) rfl
instance Try.ent72 : EntP Try.prog 72 := EntP.mk' Try.func72 (by kernel_rfl) rfl
end Go.Proofs
