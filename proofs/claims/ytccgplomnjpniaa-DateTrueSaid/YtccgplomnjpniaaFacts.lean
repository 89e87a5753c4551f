/- Facts of the program's tables, written by a program: types, fields, entries of functions. -/
import Derived.Test.YtccgplomnjpniaaEngC
import Derived.Test.YtccgplomnjpniaaProg
import Derived.KernelRfl
namespace Go.Proofs
open Go Go.Eng
theorem Try.mixed : Try.prog.follows .mixedOrders = true := by kernel_rfl
instance Try.ty1 : TyP Try.prog 1 1 false [.nilFunc] := TyP.mk' (v := .nilFunc) (by kernel_rfl) rfl Try.underlying1 rfl
instance Try.byt1 : BytP Try.prog 1 8 := ⟨by kernel_rfl⟩
instance Try.int2 : IntP Try.prog 2 .i64 := ⟨Try.underlying2⟩
instance Try.ty2 : TyP Try.prog 2 1 false [.int .i64 0] := TyP.mk' (v := .int .i64 0) (by kernel_rfl) rfl Try.underlying2 rfl
instance Try.byt2 : BytP Try.prog 2 8 := ⟨by kernel_rfl⟩
instance Try.int3 : IntP Try.prog 3 .i64 := ⟨Try.underlying3⟩
instance Try.ty3 : TyP Try.prog 3 1 false [.int .i64 0] := TyP.mk' (v := .int .i64 0) (by kernel_rfl) rfl Try.underlying3 rfl
instance Try.byt3 : BytP Try.prog 3 8 := ⟨by kernel_rfl⟩
instance Try.ty4 : TyP Try.prog 4 1 false [.bool false] := TyP.mk' (v := .bool false) (by kernel_rfl) rfl Try.underlying4 rfl
instance Try.byt4 : BytP Try.prog 4 1 := ⟨by kernel_rfl⟩
instance Try.int5 : IntP Try.prog 5 .u8 := ⟨Try.underlying5⟩
instance Try.ty5 : TyP Try.prog 5 1 false [.int .u8 0] := TyP.mk' (v := .int .u8 0) (by kernel_rfl) rfl Try.underlying5 rfl
instance Try.byt5 : BytP Try.prog 5 1 := ⟨by kernel_rfl⟩
instance Try.int6 : IntP Try.prog 6 .u8 := ⟨Try.underlying6⟩
instance Try.ty6 : TyP Try.prog 6 1 false [.int .u8 0] := TyP.mk' (v := .int .u8 0) (by kernel_rfl) rfl Try.underlying6 rfl
instance Try.byt6 : BytP Try.prog 6 1 := ⟨by kernel_rfl⟩
instance Try.ty7 : TyP Try.prog 7 4 true [.int .i64 0, .int .i64 0, .bool false, .int .u8 0] := TyP.mk' (v := .agg #[.int .i64 0, .int .i64 0, .bool false, .int .u8 0]) (by kernel_rfl) rfl Try.underlying7 rfl
instance Try.byt7 : BytP Try.prog 7 24 := ⟨by kernel_rfl⟩
instance Try.ty8 : TyP Try.prog 8 4 true [.int .i64 0, .int .i64 0, .bool false, .int .u8 0] := TyP.mk' (v := .agg #[.int .i64 0, .int .i64 0, .bool false, .int .u8 0]) (by kernel_rfl) rfl Try.underlying8 rfl
instance Try.byt8 : BytP Try.prog 8 24 := ⟨by kernel_rfl⟩
instance Try.int12 : IntP Try.prog 12 .u64 := ⟨Try.underlying12⟩
instance Try.ty12 : TyP Try.prog 12 1 false [.int .u64 0] := TyP.mk' (v := .int .u64 0) (by kernel_rfl) rfl Try.underlying12 rfl
instance Try.byt12 : BytP Try.prog 12 8 := ⟨by kernel_rfl⟩
instance Try.ptr15 : PtrP Try.prog 15 155 := ⟨Try.underlying15⟩
instance Try.ty15 : TyP Try.prog 15 1 false [.pointer none] := TyP.mk' (v := .pointer none) (by kernel_rfl) rfl Try.underlying15 rfl
instance Try.byt15 : BytP Try.prog 15 8 := ⟨by kernel_rfl⟩
instance Try.ptr16 : PtrP Try.prog 16 158 := ⟨Try.underlying16⟩
instance Try.ty16 : TyP Try.prog 16 1 false [.pointer none] := TyP.mk' (v := .pointer none) (by kernel_rfl) rfl Try.underlying16 rfl
instance Try.byt16 : BytP Try.prog 16 8 := ⟨by kernel_rfl⟩
instance Try.ptr17 : PtrP Try.prog 17 167 := ⟨Try.underlying17⟩
instance Try.ty17 : TyP Try.prog 17 1 false [.pointer none] := TyP.mk' (v := .pointer none) (by kernel_rfl) rfl Try.underlying17 rfl
instance Try.byt17 : BytP Try.prog 17 8 := ⟨by kernel_rfl⟩
instance Try.ty18 : TyP Try.prog 18 1 true [.pointer none] := TyP.mk' (v := .agg #[.pointer none]) (by kernel_rfl) rfl Try.underlying18 rfl
instance Try.byt18 : BytP Try.prog 18 8 := ⟨by kernel_rfl⟩
instance Try.ty19 : TyP Try.prog 19 1 true [.pointer none] := TyP.mk' (v := .agg #[.pointer none]) (by kernel_rfl) rfl Try.underlying19 rfl
instance Try.byt19 : BytP Try.prog 19 8 := ⟨by kernel_rfl⟩
instance Try.ty20 : TyP Try.prog 20 1 false [.nilIface] := TyP.mk' (v := .nilIface) (by kernel_rfl) rfl Try.underlying20 rfl
instance Try.byt20 : BytP Try.prog 20 16 := ⟨by kernel_rfl⟩
instance Try.int21 : IntP Try.prog 21 .i32 := ⟨Try.underlying21⟩
instance Try.ty21 : TyP Try.prog 21 1 false [.int .i32 0] := TyP.mk' (v := .int .i32 0) (by kernel_rfl) rfl Try.underlying21 rfl
instance Try.byt21 : BytP Try.prog 21 4 := ⟨by kernel_rfl⟩
instance Try.ty22 : TyP Try.prog 22 2 true [.int .i64 0, .int .i64 0] := TyP.mk' (v := .agg #[.int .i64 0, .int .i64 0]) (by kernel_rfl) rfl Try.underlying22 rfl
instance Try.byt22 : BytP Try.prog 22 16 := ⟨by kernel_rfl⟩
instance Try.ty23 : TyP Try.prog 23 2 true [.int .i64 0, .int .i64 0] := TyP.mk' (v := .agg #[.int .i64 0, .int .i64 0]) (by kernel_rfl) rfl Try.underlying23 rfl
instance Try.byt23 : BytP Try.prog 23 16 := ⟨by kernel_rfl⟩
instance Try.slc24 : SlcP Try.prog 24 39 := ⟨Try.underlying24⟩
instance Try.ty24 : TyP Try.prog 24 1 false [.slice none 0 0] := TyP.mk' (v := .slice none 0 0) (by kernel_rfl) rfl Try.underlying24 rfl
instance Try.byt24 : BytP Try.prog 24 24 := ⟨by kernel_rfl⟩
instance Try.ty25 : TyP Try.prog 25 11 true [.int .i64 0, .int .i64 0, .int .i64 0, .int .i64 0, .int .i64 0, .int .i64 0, .int .i64 0, .int .i64 0, .int .i64 0, .int .i64 0, .slice none 0 0] := TyP.mk' (v := .agg #[.int .i64 0, .int .i64 0, .int .i64 0, .int .i64 0, .int .i64 0, .int .i64 0, .int .i64 0, .int .i64 0, .int .i64 0, .int .i64 0, .slice none 0 0]) (by kernel_rfl) rfl Try.underlying25 rfl
instance Try.byt25 : BytP Try.prog 25 104 := ⟨by kernel_rfl⟩
instance Try.ty26 : TyP Try.prog 26 11 true [.int .i64 0, .int .i64 0, .int .i64 0, .int .i64 0, .int .i64 0, .int .i64 0, .int .i64 0, .int .i64 0, .int .i64 0, .int .i64 0, .slice none 0 0] := TyP.mk' (v := .agg #[.int .i64 0, .int .i64 0, .int .i64 0, .int .i64 0, .int .i64 0, .int .i64 0, .int .i64 0, .int .i64 0, .int .i64 0, .int .i64 0, .slice none 0 0]) (by kernel_rfl) rfl Try.underlying26 rfl
instance Try.byt26 : BytP Try.prog 26 104 := ⟨by kernel_rfl⟩
instance Try.slc27 : SlcP Try.prog 27 97 := ⟨Try.underlying27⟩
instance Try.ty27 : TyP Try.prog 27 1 false [.slice none 0 0] := TyP.mk' (v := .slice none 0 0) (by kernel_rfl) rfl Try.underlying27 rfl
instance Try.byt27 : BytP Try.prog 27 24 := ⟨by kernel_rfl⟩
instance Try.int28 : IntP Try.prog 28 .i64 := ⟨Try.underlying28⟩
instance Try.ty28 : TyP Try.prog 28 1 false [.int .i64 0] := TyP.mk' (v := .int .i64 0) (by kernel_rfl) rfl Try.underlying28 rfl
instance Try.byt28 : BytP Try.prog 28 8 := ⟨by kernel_rfl⟩
instance Try.ty30 : TyP Try.prog 30 1 false [.nilFunc] := TyP.mk' (v := .nilFunc) (by kernel_rfl) rfl Try.underlying30 rfl
instance Try.byt30 : BytP Try.prog 30 8 := ⟨by kernel_rfl⟩
instance Try.ty32 : TyP Try.prog 32 1 false [.nilFunc] := TyP.mk' (v := .nilFunc) (by kernel_rfl) rfl Try.underlying32 rfl
instance Try.byt32 : BytP Try.prog 32 8 := ⟨by kernel_rfl⟩
instance Try.ty34 : TyP Try.prog 34 1 false [.nilFunc] := TyP.mk' (v := .nilFunc) (by kernel_rfl) rfl Try.underlying34 rfl
instance Try.byt34 : BytP Try.prog 34 8 := ⟨by kernel_rfl⟩
instance Try.ty36 : TyP Try.prog 36 1 false [.nilFunc] := TyP.mk' (v := .nilFunc) (by kernel_rfl) rfl Try.underlying36 rfl
instance Try.byt36 : BytP Try.prog 36 8 := ⟨by kernel_rfl⟩
instance Try.ty37 : TyP Try.prog 37 1 false [.nilFunc] := TyP.mk' (v := .nilFunc) (by kernel_rfl) rfl Try.underlying37 rfl
instance Try.byt37 : BytP Try.prog 37 8 := ⟨by kernel_rfl⟩
instance Try.ty38 : TyP Try.prog 38 3 true [.int .i64 0, .int .i64 0, .int .i64 0] := TyP.mk' (v := .agg #[.int .i64 0, .int .i64 0, .int .i64 0]) (by kernel_rfl) rfl Try.underlying38 rfl
instance Try.byt38 : BytP Try.prog 38 24 := ⟨by kernel_rfl⟩
instance Try.ty39 : TyP Try.prog 39 3 true [.int .i64 0, .int .i64 0, .int .i64 0] := TyP.mk' (v := .agg #[.int .i64 0, .int .i64 0, .int .i64 0]) (by kernel_rfl) rfl Try.underlying39 rfl
instance Try.byt39 : BytP Try.prog 39 24 := ⟨by kernel_rfl⟩
instance Try.ty40 : TyP Try.prog 40 1 false [.nilFunc] := TyP.mk' (v := .nilFunc) (by kernel_rfl) rfl Try.underlying40 rfl
instance Try.byt40 : BytP Try.prog 40 8 := ⟨by kernel_rfl⟩
instance Try.ary41 : AryP Try.prog 41 3 3 := ⟨Try.underlying41⟩
instance Try.ty41 : TyP Try.prog 41 3 true [.int .i64 0, .int .i64 0, .int .i64 0] := TyP.mk' (v := .agg #[.int .i64 0, .int .i64 0, .int .i64 0]) (by kernel_rfl) rfl Try.underlying41 rfl
instance Try.byt41 : BytP Try.prog 41 24 := ⟨by kernel_rfl⟩
instance Try.ty42 : TyP Try.prog 42 10 true [.int .i64 0, .int .i64 0, .int .i64 0, .int .i64 0, .int .i64 0, .int .i64 0, .int .i64 0, .int .i64 0, .int .i64 0, .int .i64 0] := TyP.mk' (v := .agg #[.int .i64 0, .int .i64 0, .int .i64 0, .int .i64 0, .int .i64 0, .int .i64 0, .int .i64 0, .int .i64 0, .int .i64 0, .int .i64 0]) (by kernel_rfl) rfl Try.underlying42 rfl
instance Try.byt42 : BytP Try.prog 42 80 := ⟨by kernel_rfl⟩
instance Try.ty43 : TyP Try.prog 43 10 true [.int .i64 0, .int .i64 0, .int .i64 0, .int .i64 0, .int .i64 0, .int .i64 0, .int .i64 0, .int .i64 0, .int .i64 0, .int .i64 0] := TyP.mk' (v := .agg #[.int .i64 0, .int .i64 0, .int .i64 0, .int .i64 0, .int .i64 0, .int .i64 0, .int .i64 0, .int .i64 0, .int .i64 0, .int .i64 0]) (by kernel_rfl) rfl Try.underlying43 rfl
instance Try.byt43 : BytP Try.prog 43 80 := ⟨by kernel_rfl⟩
instance Try.slc44 : SlcP Try.prog 44 23 := ⟨Try.underlying44⟩
instance Try.ty44 : TyP Try.prog 44 1 false [.slice none 0 0] := TyP.mk' (v := .slice none 0 0) (by kernel_rfl) rfl Try.underlying44 rfl
instance Try.byt44 : BytP Try.prog 44 24 := ⟨by kernel_rfl⟩
instance Try.ty45 : TyP Try.prog 45 4 true [.slice none 0 0, .int .i64 0, .int .i64 0, .bool false] := TyP.mk' (v := .agg #[.slice none 0 0, .int .i64 0, .int .i64 0, .bool false]) (by kernel_rfl) rfl Try.underlying45 rfl
instance Try.byt45 : BytP Try.prog 45 48 := ⟨by kernel_rfl⟩
instance Try.ty46 : TyP Try.prog 46 4 true [.slice none 0 0, .int .i64 0, .int .i64 0, .bool false] := TyP.mk' (v := .agg #[.slice none 0 0, .int .i64 0, .int .i64 0, .bool false]) (by kernel_rfl) rfl Try.underlying46 rfl
instance Try.byt46 : BytP Try.prog 46 48 := ⟨by kernel_rfl⟩
instance Try.slc47 : SlcP Try.prog 47 3 := ⟨Try.underlying47⟩
instance Try.ty47 : TyP Try.prog 47 1 false [.slice none 0 0] := TyP.mk' (v := .slice none 0 0) (by kernel_rfl) rfl Try.underlying47 rfl
instance Try.byt47 : BytP Try.prog 47 24 := ⟨by kernel_rfl⟩
instance Try.ty48 : TyP Try.prog 48 1 false [.nilFunc] := TyP.mk' (v := .nilFunc) (by kernel_rfl) rfl Try.underlying48 rfl
instance Try.byt48 : BytP Try.prog 48 8 := ⟨by kernel_rfl⟩
instance Try.ty50 : TyP Try.prog 50 1 false [.nilFunc] := TyP.mk' (v := .nilFunc) (by kernel_rfl) rfl Try.underlying50 rfl
instance Try.byt50 : BytP Try.prog 50 8 := ⟨by kernel_rfl⟩
instance Try.ty52 : TyP Try.prog 52 1 false [.nilFunc] := TyP.mk' (v := .nilFunc) (by kernel_rfl) rfl Try.underlying52 rfl
instance Try.byt52 : BytP Try.prog 52 8 := ⟨by kernel_rfl⟩
instance Try.ary53 : AryP Try.prog 53 3 23 := ⟨Try.underlying53⟩
instance Try.ty53 : TyP Try.prog 53 6 true [.int .i64 0, .int .i64 0, .int .i64 0, .int .i64 0, .int .i64 0, .int .i64 0] := TyP.mk' (v := .agg #[.int .i64 0, .int .i64 0, .int .i64 0, .int .i64 0, .int .i64 0, .int .i64 0]) (by kernel_rfl) rfl Try.underlying53 rfl
instance Try.byt53 : BytP Try.prog 53 48 := ⟨by kernel_rfl⟩
instance Try.ty54 : TyP Try.prog 54 14 true [.int .i64 0, .int .i64 0, .int .i64 0, .int .i64 0, .int .i64 0, .int .i64 0, .int .i64 0, .int .i64 0, .int .i64 0, .int .i64 0, .int .i64 0, .int .i64 0, .int .i64 0, .int .i64 0] := TyP.mk' (v := .agg #[.int .i64 0, .int .i64 0, .int .i64 0, .int .i64 0, .int .i64 0, .int .i64 0, .int .i64 0, .int .i64 0, .int .i64 0, .int .i64 0, .int .i64 0, .int .i64 0, .int .i64 0, .int .i64 0]) (by kernel_rfl) rfl Try.underlying54 rfl
instance Try.byt54 : BytP Try.prog 54 112 := ⟨by kernel_rfl⟩
instance Try.ty55 : TyP Try.prog 55 14 true [.int .i64 0, .int .i64 0, .int .i64 0, .int .i64 0, .int .i64 0, .int .i64 0, .int .i64 0, .int .i64 0, .int .i64 0, .int .i64 0, .int .i64 0, .int .i64 0, .int .i64 0, .int .i64 0] := TyP.mk' (v := .agg #[.int .i64 0, .int .i64 0, .int .i64 0, .int .i64 0, .int .i64 0, .int .i64 0, .int .i64 0, .int .i64 0, .int .i64 0, .int .i64 0, .int .i64 0, .int .i64 0, .int .i64 0, .int .i64 0]) (by kernel_rfl) rfl Try.underlying55 rfl
instance Try.byt55 : BytP Try.prog 55 112 := ⟨by kernel_rfl⟩
instance Try.ty57 : TyP Try.prog 57 1 false [.nilFunc] := TyP.mk' (v := .nilFunc) (by kernel_rfl) rfl Try.underlying57 rfl
instance Try.byt57 : BytP Try.prog 57 8 := ⟨by kernel_rfl⟩
instance Try.ty59 : TyP Try.prog 59 1 false [.nilFunc] := TyP.mk' (v := .nilFunc) (by kernel_rfl) rfl Try.underlying59 rfl
instance Try.byt59 : BytP Try.prog 59 8 := ⟨by kernel_rfl⟩
instance Try.ty60 : TyP Try.prog 60 1 false [.nilFunc] := TyP.mk' (v := .nilFunc) (by kernel_rfl) rfl Try.underlying60 rfl
instance Try.byt60 : BytP Try.prog 60 8 := ⟨by kernel_rfl⟩
instance Try.ty61 : TyP Try.prog 61 1 false [.nilFunc] := TyP.mk' (v := .nilFunc) (by kernel_rfl) rfl Try.underlying61 rfl
instance Try.byt61 : BytP Try.prog 61 8 := ⟨by kernel_rfl⟩
instance Try.ty62 : TyP Try.prog 62 1 false [.nilFunc] := TyP.mk' (v := .nilFunc) (by kernel_rfl) rfl Try.underlying62 rfl
instance Try.byt62 : BytP Try.prog 62 8 := ⟨by kernel_rfl⟩
instance Try.ty63 : TyP Try.prog 63 1 false [.nilFunc] := TyP.mk' (v := .nilFunc) (by kernel_rfl) rfl Try.underlying63 rfl
instance Try.byt63 : BytP Try.prog 63 8 := ⟨by kernel_rfl⟩
instance Try.ty64 : TyP Try.prog 64 1 false [.nilFunc] := TyP.mk' (v := .nilFunc) (by kernel_rfl) rfl Try.underlying64 rfl
instance Try.byt64 : BytP Try.prog 64 8 := ⟨by kernel_rfl⟩
instance Try.ty66 : TyP Try.prog 66 1 false [.nilFunc] := TyP.mk' (v := .nilFunc) (by kernel_rfl) rfl Try.underlying66 rfl
instance Try.byt66 : BytP Try.prog 66 8 := ⟨by kernel_rfl⟩
instance Try.ty68 : TyP Try.prog 68 1 false [.nilFunc] := TyP.mk' (v := .nilFunc) (by kernel_rfl) rfl Try.underlying68 rfl
instance Try.byt68 : BytP Try.prog 68 8 := ⟨by kernel_rfl⟩
instance Try.ty69 : TyP Try.prog 69 1 false [.nilFunc] := TyP.mk' (v := .nilFunc) (by kernel_rfl) rfl Try.underlying69 rfl
instance Try.byt69 : BytP Try.prog 69 8 := ⟨by kernel_rfl⟩
instance Try.ty70 : TyP Try.prog 70 1 false [.nilFunc] := TyP.mk' (v := .nilFunc) (by kernel_rfl) rfl Try.underlying70 rfl
instance Try.byt70 : BytP Try.prog 70 8 := ⟨by kernel_rfl⟩
instance Try.ty71 : TyP Try.prog 71 1 false [.nilFunc] := TyP.mk' (v := .nilFunc) (by kernel_rfl) rfl Try.underlying71 rfl
instance Try.byt71 : BytP Try.prog 71 8 := ⟨by kernel_rfl⟩
instance Try.ty72 : TyP Try.prog 72 1 false [.nilFunc] := TyP.mk' (v := .nilFunc) (by kernel_rfl) rfl Try.underlying72 rfl
instance Try.byt72 : BytP Try.prog 72 8 := ⟨by kernel_rfl⟩
instance Try.ty73 : TyP Try.prog 73 1 false [.nilFunc] := TyP.mk' (v := .nilFunc) (by kernel_rfl) rfl Try.underlying73 rfl
instance Try.byt73 : BytP Try.prog 73 8 := ⟨by kernel_rfl⟩
instance Try.ty74 : TyP Try.prog 74 1 false [.nilFunc] := TyP.mk' (v := .nilFunc) (by kernel_rfl) rfl Try.underlying74 rfl
instance Try.byt74 : BytP Try.prog 74 8 := ⟨by kernel_rfl⟩
instance Try.slc75 : SlcP Try.prog 75 79 := ⟨Try.underlying75⟩
instance Try.ty75 : TyP Try.prog 75 1 false [.slice none 0 0] := TyP.mk' (v := .slice none 0 0) (by kernel_rfl) rfl Try.underlying75 rfl
instance Try.byt75 : BytP Try.prog 75 24 := ⟨by kernel_rfl⟩
instance Try.ty76 : TyP Try.prog 76 1 false [.nilFunc] := TyP.mk' (v := .nilFunc) (by kernel_rfl) rfl Try.underlying76 rfl
instance Try.byt76 : BytP Try.prog 76 8 := ⟨by kernel_rfl⟩
instance Try.map77 : MapP Try.prog 77 3 4 := ⟨Try.underlying77⟩
instance Try.ty77 : TyP Try.prog 77 1 false [.map none] := TyP.mk' (v := .map none) (by kernel_rfl) rfl Try.underlying77 rfl
instance Try.byt77 : BytP Try.prog 77 8 := ⟨by kernel_rfl⟩
instance Try.ty78 : TyP Try.prog 78 1 false [.nilFunc] := TyP.mk' (v := .nilFunc) (by kernel_rfl) rfl Try.underlying78 rfl
instance Try.byt78 : BytP Try.prog 78 8 := ⟨by kernel_rfl⟩
instance Try.int79 : IntP Try.prog 79 .u32 := ⟨Try.underlying79⟩
instance Try.ty79 : TyP Try.prog 79 1 false [.int .u32 0] := TyP.mk' (v := .int .u32 0) (by kernel_rfl) rfl Try.underlying79 rfl
instance Try.byt79 : BytP Try.prog 79 4 := ⟨by kernel_rfl⟩
instance Try.ty80 : TyP Try.prog 80 1 false [.nilFunc] := TyP.mk' (v := .nilFunc) (by kernel_rfl) rfl Try.underlying80 rfl
instance Try.byt80 : BytP Try.prog 80 8 := ⟨by kernel_rfl⟩
instance Try.ary81 : AryP Try.prog 81 2 3 := ⟨Try.underlying81⟩
instance Try.ty81 : TyP Try.prog 81 2 true [.int .i64 0, .int .i64 0] := TyP.mk' (v := .agg #[.int .i64 0, .int .i64 0]) (by kernel_rfl) rfl Try.underlying81 rfl
instance Try.byt81 : BytP Try.prog 81 16 := ⟨by kernel_rfl⟩
instance Try.ty82 : TyP Try.prog 82 1 false [.nilFunc] := TyP.mk' (v := .nilFunc) (by kernel_rfl) rfl Try.underlying82 rfl
instance Try.byt82 : BytP Try.prog 82 8 := ⟨by kernel_rfl⟩
instance Try.ty83 : TyP Try.prog 83 1 false [.nilFunc] := TyP.mk' (v := .nilFunc) (by kernel_rfl) rfl Try.underlying83 rfl
instance Try.byt83 : BytP Try.prog 83 8 := ⟨by kernel_rfl⟩
instance Try.ty84 : TyP Try.prog 84 1 false [.nilFunc] := TyP.mk' (v := .nilFunc) (by kernel_rfl) rfl Try.underlying84 rfl
instance Try.byt84 : BytP Try.prog 84 8 := ⟨by kernel_rfl⟩
instance Try.ary85 : AryP Try.prog 85 2 4 := ⟨Try.underlying85⟩
instance Try.ty85 : TyP Try.prog 85 2 true [.bool false, .bool false] := TyP.mk' (v := .agg #[.bool false, .bool false]) (by kernel_rfl) rfl Try.underlying85 rfl
instance Try.byt85 : BytP Try.prog 85 2 := ⟨by kernel_rfl⟩
instance Try.slc86 : SlcP Try.prog 86 85 := ⟨Try.underlying86⟩
instance Try.ty86 : TyP Try.prog 86 1 false [.slice none 0 0] := TyP.mk' (v := .slice none 0 0) (by kernel_rfl) rfl Try.underlying86 rfl
instance Try.byt86 : BytP Try.prog 86 24 := ⟨by kernel_rfl⟩
instance Try.ty88 : TyP Try.prog 88 1 false [.nilFunc] := TyP.mk' (v := .nilFunc) (by kernel_rfl) rfl Try.underlying88 rfl
instance Try.byt88 : BytP Try.prog 88 8 := ⟨by kernel_rfl⟩
instance Try.int89 : IntP Try.prog 89 .u16 := ⟨Try.underlying89⟩
instance Try.ty89 : TyP Try.prog 89 1 false [.int .u16 0] := TyP.mk' (v := .int .u16 0) (by kernel_rfl) rfl Try.underlying89 rfl
instance Try.byt89 : BytP Try.prog 89 2 := ⟨by kernel_rfl⟩
instance Try.ptr90 : PtrP Try.prog 90 23 := ⟨Try.underlying90⟩
instance Try.ty90 : TyP Try.prog 90 1 false [.pointer none] := TyP.mk' (v := .pointer none) (by kernel_rfl) rfl Try.underlying90 rfl
instance Try.byt90 : BytP Try.prog 90 8 := ⟨by kernel_rfl⟩
instance Try.ty91 : TyP Try.prog 91 1 false [.nilFunc] := TyP.mk' (v := .nilFunc) (by kernel_rfl) rfl Try.underlying91 rfl
instance Try.byt91 : BytP Try.prog 91 8 := ⟨by kernel_rfl⟩
instance Try.ty92 : TyP Try.prog 92 1 false [.nilFunc] := TyP.mk' (v := .nilFunc) (by kernel_rfl) rfl Try.underlying92 rfl
instance Try.byt92 : BytP Try.prog 92 8 := ⟨by kernel_rfl⟩
instance Try.ty93 : TyP Try.prog 93 1 false [.nilFunc] := TyP.mk' (v := .nilFunc) (by kernel_rfl) rfl Try.underlying93 rfl
instance Try.byt93 : BytP Try.prog 93 8 := ⟨by kernel_rfl⟩
instance Try.ty94 : TyP Try.prog 94 1 false [.nilFunc] := TyP.mk' (v := .nilFunc) (by kernel_rfl) rfl Try.underlying94 rfl
instance Try.byt94 : BytP Try.prog 94 8 := ⟨by kernel_rfl⟩
instance Try.ty95 : TyP Try.prog 95 1 false [.nilFunc] := TyP.mk' (v := .nilFunc) (by kernel_rfl) rfl Try.underlying95 rfl
instance Try.byt95 : BytP Try.prog 95 8 := ⟨by kernel_rfl⟩
instance Try.ty96 : TyP Try.prog 96 4 true [.int .i64 0, .int .i64 0, .int .i64 0, .int .i64 0] := TyP.mk' (v := .agg #[.int .i64 0, .int .i64 0, .int .i64 0, .int .i64 0]) (by kernel_rfl) rfl Try.underlying96 rfl
instance Try.byt96 : BytP Try.prog 96 32 := ⟨by kernel_rfl⟩
instance Try.ty97 : TyP Try.prog 97 4 true [.int .i64 0, .int .i64 0, .int .i64 0, .int .i64 0] := TyP.mk' (v := .agg #[.int .i64 0, .int .i64 0, .int .i64 0, .int .i64 0]) (by kernel_rfl) rfl Try.underlying97 rfl
instance Try.byt97 : BytP Try.prog 97 32 := ⟨by kernel_rfl⟩
instance Try.ty98 : TyP Try.prog 98 1 false [.nilFunc] := TyP.mk' (v := .nilFunc) (by kernel_rfl) rfl Try.underlying98 rfl
instance Try.byt98 : BytP Try.prog 98 8 := ⟨by kernel_rfl⟩
instance Try.ty99 : TyP Try.prog 99 1 false [.nilFunc] := TyP.mk' (v := .nilFunc) (by kernel_rfl) rfl Try.underlying99 rfl
instance Try.byt99 : BytP Try.prog 99 8 := ⟨by kernel_rfl⟩
instance Try.ty100 : TyP Try.prog 100 1 false [.nilFunc] := TyP.mk' (v := .nilFunc) (by kernel_rfl) rfl Try.underlying100 rfl
instance Try.byt100 : BytP Try.prog 100 8 := ⟨by kernel_rfl⟩
instance Try.ty101 : TyP Try.prog 101 1 false [.nilFunc] := TyP.mk' (v := .nilFunc) (by kernel_rfl) rfl Try.underlying101 rfl
instance Try.byt101 : BytP Try.prog 101 8 := ⟨by kernel_rfl⟩
instance Try.ty102 : TyP Try.prog 102 1 false [.nilFunc] := TyP.mk' (v := .nilFunc) (by kernel_rfl) rfl Try.underlying102 rfl
instance Try.byt102 : BytP Try.prog 102 8 := ⟨by kernel_rfl⟩
instance Try.ty103 : TyP Try.prog 103 1 false [.nilFunc] := TyP.mk' (v := .nilFunc) (by kernel_rfl) rfl Try.underlying103 rfl
instance Try.byt103 : BytP Try.prog 103 8 := ⟨by kernel_rfl⟩
instance Try.ty104 : TyP Try.prog 104 1 false [.nilFunc] := TyP.mk' (v := .nilFunc) (by kernel_rfl) rfl Try.underlying104 rfl
instance Try.byt104 : BytP Try.prog 104 8 := ⟨by kernel_rfl⟩
instance Try.ty105 : TyP Try.prog 105 1 false [.nilFunc] := TyP.mk' (v := .nilFunc) (by kernel_rfl) rfl Try.underlying105 rfl
instance Try.byt105 : BytP Try.prog 105 8 := ⟨by kernel_rfl⟩
instance Try.ty107 : TyP Try.prog 107 1 false [.nilFunc] := TyP.mk' (v := .nilFunc) (by kernel_rfl) rfl Try.underlying107 rfl
instance Try.byt107 : BytP Try.prog 107 8 := ⟨by kernel_rfl⟩
instance Try.ty108 : TyP Try.prog 108 1 false [.nilFunc] := TyP.mk' (v := .nilFunc) (by kernel_rfl) rfl Try.underlying108 rfl
instance Try.byt108 : BytP Try.prog 108 8 := ⟨by kernel_rfl⟩
instance Try.ty109 : TyP Try.prog 109 14 true [.slice none 0 0, .int .i64 0, .int .i64 0, .bool false, .int .i64 0, .int .i64 0, .int .i64 0, .int .i64 0, .int .i64 0, .int .i64 0, .int .i64 0, .int .i64 0, .int .i64 0, .int .i64 0] := TyP.mk' (v := .agg #[.slice none 0 0, .int .i64 0, .int .i64 0, .bool false, .int .i64 0, .int .i64 0, .int .i64 0, .int .i64 0, .int .i64 0, .int .i64 0, .int .i64 0, .int .i64 0, .int .i64 0, .int .i64 0]) (by kernel_rfl) rfl Try.underlying109 rfl
instance Try.byt109 : BytP Try.prog 109 128 := ⟨by kernel_rfl⟩
instance Try.ty110 : TyP Try.prog 110 14 true [.slice none 0 0, .int .i64 0, .int .i64 0, .bool false, .int .i64 0, .int .i64 0, .int .i64 0, .int .i64 0, .int .i64 0, .int .i64 0, .int .i64 0, .int .i64 0, .int .i64 0, .int .i64 0] := TyP.mk' (v := .agg #[.slice none 0 0, .int .i64 0, .int .i64 0, .bool false, .int .i64 0, .int .i64 0, .int .i64 0, .int .i64 0, .int .i64 0, .int .i64 0, .int .i64 0, .int .i64 0, .int .i64 0, .int .i64 0]) (by kernel_rfl) rfl Try.underlying110 rfl
instance Try.byt110 : BytP Try.prog 110 128 := ⟨by kernel_rfl⟩
instance Try.ty111 : TyP Try.prog 111 1 false [.nilFunc] := TyP.mk' (v := .nilFunc) (by kernel_rfl) rfl Try.underlying111 rfl
instance Try.byt111 : BytP Try.prog 111 8 := ⟨by kernel_rfl⟩
instance Try.ty112 : TyP Try.prog 112 1 false [.nilFunc] := TyP.mk' (v := .nilFunc) (by kernel_rfl) rfl Try.underlying112 rfl
instance Try.byt112 : BytP Try.prog 112 8 := ⟨by kernel_rfl⟩
instance Try.ty113 : TyP Try.prog 113 1 false [.nilFunc] := TyP.mk' (v := .nilFunc) (by kernel_rfl) rfl Try.underlying113 rfl
instance Try.byt113 : BytP Try.prog 113 8 := ⟨by kernel_rfl⟩
instance Try.ty114 : TyP Try.prog 114 1 false [.nilFunc] := TyP.mk' (v := .nilFunc) (by kernel_rfl) rfl Try.underlying114 rfl
instance Try.byt114 : BytP Try.prog 114 8 := ⟨by kernel_rfl⟩
instance Try.ty115 : TyP Try.prog 115 1 false [.nilFunc] := TyP.mk' (v := .nilFunc) (by kernel_rfl) rfl Try.underlying115 rfl
instance Try.byt115 : BytP Try.prog 115 8 := ⟨by kernel_rfl⟩
instance Try.ty116 : TyP Try.prog 116 1 false [.nilFunc] := TyP.mk' (v := .nilFunc) (by kernel_rfl) rfl Try.underlying116 rfl
instance Try.byt116 : BytP Try.prog 116 8 := ⟨by kernel_rfl⟩
instance Try.ty117 : TyP Try.prog 117 1 false [.nilFunc] := TyP.mk' (v := .nilFunc) (by kernel_rfl) rfl Try.underlying117 rfl
instance Try.byt117 : BytP Try.prog 117 8 := ⟨by kernel_rfl⟩
instance Try.ty118 : TyP Try.prog 118 1 false [.nilFunc] := TyP.mk' (v := .nilFunc) (by kernel_rfl) rfl Try.underlying118 rfl
instance Try.byt118 : BytP Try.prog 118 8 := ⟨by kernel_rfl⟩
instance Try.ty119 : TyP Try.prog 119 1 false [.nilFunc] := TyP.mk' (v := .nilFunc) (by kernel_rfl) rfl Try.underlying119 rfl
instance Try.byt119 : BytP Try.prog 119 8 := ⟨by kernel_rfl⟩
instance Try.ty120 : TyP Try.prog 120 2 true [.int .i64 0, .int .i64 0] := TyP.mk' (v := .agg #[.int .i64 0, .int .i64 0]) (by kernel_rfl) rfl Try.underlying120 rfl
instance Try.byt120 : BytP Try.prog 120 16 := ⟨by kernel_rfl⟩
instance Try.ty121 : TyP Try.prog 121 2 true [.int .i64 0, .int .i64 0] := TyP.mk' (v := .agg #[.int .i64 0, .int .i64 0]) (by kernel_rfl) rfl Try.underlying121 rfl
instance Try.byt121 : BytP Try.prog 121 16 := ⟨by kernel_rfl⟩
instance Try.ty123 : TyP Try.prog 123 1 false [.nilFunc] := TyP.mk' (v := .nilFunc) (by kernel_rfl) rfl Try.underlying123 rfl
instance Try.byt123 : BytP Try.prog 123 8 := ⟨by kernel_rfl⟩
instance Try.ty124 : TyP Try.prog 124 1 false [.nilFunc] := TyP.mk' (v := .nilFunc) (by kernel_rfl) rfl Try.underlying124 rfl
instance Try.byt124 : BytP Try.prog 124 8 := ⟨by kernel_rfl⟩
instance Try.ty125 : TyP Try.prog 125 1 false [.nilFunc] := TyP.mk' (v := .nilFunc) (by kernel_rfl) rfl Try.underlying125 rfl
instance Try.byt125 : BytP Try.prog 125 8 := ⟨by kernel_rfl⟩
instance Try.ty126 : TyP Try.prog 126 1 false [.nilFunc] := TyP.mk' (v := .nilFunc) (by kernel_rfl) rfl Try.underlying126 rfl
instance Try.byt126 : BytP Try.prog 126 8 := ⟨by kernel_rfl⟩
instance Try.ty127 : TyP Try.prog 127 1 false [.nilFunc] := TyP.mk' (v := .nilFunc) (by kernel_rfl) rfl Try.underlying127 rfl
instance Try.byt127 : BytP Try.prog 127 8 := ⟨by kernel_rfl⟩
instance Try.ptr128 : PtrP Try.prog 128 55 := ⟨Try.underlying128⟩
instance Try.ty128 : TyP Try.prog 128 1 false [.pointer none] := TyP.mk' (v := .pointer none) (by kernel_rfl) rfl Try.underlying128 rfl
instance Try.byt128 : BytP Try.prog 128 8 := ⟨by kernel_rfl⟩
instance Try.ty129 : TyP Try.prog 129 1 false [.nilFunc] := TyP.mk' (v := .nilFunc) (by kernel_rfl) rfl Try.underlying129 rfl
instance Try.byt129 : BytP Try.prog 129 8 := ⟨by kernel_rfl⟩
instance Try.ty130 : TyP Try.prog 130 1 false [.nilFunc] := TyP.mk' (v := .nilFunc) (by kernel_rfl) rfl Try.underlying130 rfl
instance Try.byt130 : BytP Try.prog 130 8 := ⟨by kernel_rfl⟩
instance Try.map131 : MapP Try.prog 131 3 129 := ⟨Try.underlying131⟩
instance Try.ty131 : TyP Try.prog 131 1 false [.map none] := TyP.mk' (v := .map none) (by kernel_rfl) rfl Try.underlying131 rfl
instance Try.byt131 : BytP Try.prog 131 8 := ⟨by kernel_rfl⟩
instance Try.ty132 : TyP Try.prog 132 1 false [.nilFunc] := TyP.mk' (v := .nilFunc) (by kernel_rfl) rfl Try.underlying132 rfl
instance Try.byt132 : BytP Try.prog 132 8 := ⟨by kernel_rfl⟩
instance Try.ty133 : TyP Try.prog 133 1 false [.nilFunc] := TyP.mk' (v := .nilFunc) (by kernel_rfl) rfl Try.underlying133 rfl
instance Try.byt133 : BytP Try.prog 133 8 := ⟨by kernel_rfl⟩
instance Try.ty134 : TyP Try.prog 134 1 false [.nilFunc] := TyP.mk' (v := .nilFunc) (by kernel_rfl) rfl Try.underlying134 rfl
instance Try.byt134 : BytP Try.prog 134 8 := ⟨by kernel_rfl⟩
instance Try.ty135 : TyP Try.prog 135 2 true [.int .i64 0, .int .i64 0] := TyP.mk' (v := .agg #[.int .i64 0, .int .i64 0]) (by kernel_rfl) rfl Try.underlying135 rfl
instance Try.byt135 : BytP Try.prog 135 16 := ⟨by kernel_rfl⟩
instance Try.ty136 : TyP Try.prog 136 2 true [.int .i64 0, .int .i64 0] := TyP.mk' (v := .agg #[.int .i64 0, .int .i64 0]) (by kernel_rfl) rfl Try.underlying136 rfl
instance Try.byt136 : BytP Try.prog 136 16 := ⟨by kernel_rfl⟩
instance Try.ty138 : TyP Try.prog 138 1 false [.nilFunc] := TyP.mk' (v := .nilFunc) (by kernel_rfl) rfl Try.underlying138 rfl
instance Try.byt138 : BytP Try.prog 138 8 := ⟨by kernel_rfl⟩
instance Try.ty139 : TyP Try.prog 139 1 false [.nilFunc] := TyP.mk' (v := .nilFunc) (by kernel_rfl) rfl Try.underlying139 rfl
instance Try.byt139 : BytP Try.prog 139 8 := ⟨by kernel_rfl⟩
instance Try.ty140 : TyP Try.prog 140 1 false [.nilFunc] := TyP.mk' (v := .nilFunc) (by kernel_rfl) rfl Try.underlying140 rfl
instance Try.byt140 : BytP Try.prog 140 8 := ⟨by kernel_rfl⟩
instance Try.ty141 : TyP Try.prog 141 1 false [.nilFunc] := TyP.mk' (v := .nilFunc) (by kernel_rfl) rfl Try.underlying141 rfl
instance Try.byt141 : BytP Try.prog 141 8 := ⟨by kernel_rfl⟩
instance Try.ty142 : TyP Try.prog 142 1 false [.nilFunc] := TyP.mk' (v := .nilFunc) (by kernel_rfl) rfl Try.underlying142 rfl
instance Try.byt142 : BytP Try.prog 142 8 := ⟨by kernel_rfl⟩
instance Try.ty143 : TyP Try.prog 143 1 false [.nilFunc] := TyP.mk' (v := .nilFunc) (by kernel_rfl) rfl Try.underlying143 rfl
instance Try.byt143 : BytP Try.prog 143 8 := ⟨by kernel_rfl⟩
instance Try.ty144 : TyP Try.prog 144 1 false [.nilFunc] := TyP.mk' (v := .nilFunc) (by kernel_rfl) rfl Try.underlying144 rfl
instance Try.byt144 : BytP Try.prog 144 8 := ⟨by kernel_rfl⟩
instance Try.ty145 : TyP Try.prog 145 1 false [.nilFunc] := TyP.mk' (v := .nilFunc) (by kernel_rfl) rfl Try.underlying145 rfl
instance Try.byt145 : BytP Try.prog 145 8 := ⟨by kernel_rfl⟩
instance Try.ty146 : TyP Try.prog 146 1 false [.nilFunc] := TyP.mk' (v := .nilFunc) (by kernel_rfl) rfl Try.underlying146 rfl
instance Try.byt146 : BytP Try.prog 146 8 := ⟨by kernel_rfl⟩
instance Try.ty148 : TyP Try.prog 148 1 false [.nilFunc] := TyP.mk' (v := .nilFunc) (by kernel_rfl) rfl Try.underlying148 rfl
instance Try.byt148 : BytP Try.prog 148 8 := ⟨by kernel_rfl⟩
instance Try.ty149 : TyP Try.prog 149 1 false [.nilFunc] := TyP.mk' (v := .nilFunc) (by kernel_rfl) rfl Try.underlying149 rfl
instance Try.byt149 : BytP Try.prog 149 8 := ⟨by kernel_rfl⟩
instance Try.int150 : IntP Try.prog 150 .u64 := ⟨Try.underlying150⟩
instance Try.ty150 : TyP Try.prog 150 1 false [.int .u64 0] := TyP.mk' (v := .int .u64 0) (by kernel_rfl) rfl Try.underlying150 rfl
instance Try.byt150 : BytP Try.prog 150 8 := ⟨by kernel_rfl⟩
instance Try.ty151 : TyP Try.prog 151 1 false [.nilFunc] := TyP.mk' (v := .nilFunc) (by kernel_rfl) rfl Try.underlying151 rfl
instance Try.byt151 : BytP Try.prog 151 8 := ⟨by kernel_rfl⟩
instance Try.ty152 : TyP Try.prog 152 1 false [.nilFunc] := TyP.mk' (v := .nilFunc) (by kernel_rfl) rfl Try.underlying152 rfl
instance Try.byt152 : BytP Try.prog 152 8 := ⟨by kernel_rfl⟩
instance Try.ty153 : TyP Try.prog 153 1 false [.nilFunc] := TyP.mk' (v := .nilFunc) (by kernel_rfl) rfl Try.underlying153 rfl
instance Try.byt153 : BytP Try.prog 153 8 := ⟨by kernel_rfl⟩
instance Try.ary156 : AryP Try.prog 156 0 16 := ⟨Try.underlying156⟩
instance Try.ty156 : TyP Try.prog 156 0 true [] := TyP.mk' (v := .agg #[]) (by kernel_rfl) rfl Try.underlying156 rfl
instance Try.byt156 : BytP Try.prog 156 0 := ⟨by kernel_rfl⟩
instance Try.ty157 : TyP Try.prog 157 0 true [] := TyP.mk' (v := .agg #[]) (by kernel_rfl) rfl Try.underlying157 rfl
instance Try.byt157 : BytP Try.prog 157 0 := ⟨by kernel_rfl⟩
instance Try.ty158 : TyP Try.prog 158 0 true [] := TyP.mk' (v := .agg #[]) (by kernel_rfl) rfl Try.underlying158 rfl
instance Try.byt158 : BytP Try.prog 158 0 := ⟨by kernel_rfl⟩
instance Try.ty159 : TyP Try.prog 159 1 false [.nilFunc] := TyP.mk' (v := .nilFunc) (by kernel_rfl) rfl Try.underlying159 rfl
instance Try.byt159 : BytP Try.prog 159 8 := ⟨by kernel_rfl⟩
instance Try.int160 : IntP Try.prog 160 .u8 := ⟨Try.underlying160⟩
instance Try.ty160 : TyP Try.prog 160 1 false [.int .u8 0] := TyP.mk' (v := .int .u8 0) (by kernel_rfl) rfl Try.underlying160 rfl
instance Try.byt160 : BytP Try.prog 160 1 := ⟨by kernel_rfl⟩
instance Try.int161 : IntP Try.prog 161 .u8 := ⟨Try.underlying161⟩
instance Try.ty161 : TyP Try.prog 161 1 false [.int .u8 0] := TyP.mk' (v := .int .u8 0) (by kernel_rfl) rfl Try.underlying161 rfl
instance Try.byt161 : BytP Try.prog 161 1 := ⟨by kernel_rfl⟩
instance Try.ty162 : TyP Try.prog 162 1 false [.nilFunc] := TyP.mk' (v := .nilFunc) (by kernel_rfl) rfl Try.underlying162 rfl
instance Try.byt162 : BytP Try.prog 162 8 := ⟨by kernel_rfl⟩
instance Try.ptr163 : PtrP Try.prog 163 5 := ⟨Try.underlying163⟩
instance Try.ty163 : TyP Try.prog 163 1 false [.pointer none] := TyP.mk' (v := .pointer none) (by kernel_rfl) rfl Try.underlying163 rfl
instance Try.byt163 : BytP Try.prog 163 8 := ⟨by kernel_rfl⟩
instance Try.int164 : IntP Try.prog 164 .i32 := ⟨Try.underlying164⟩
instance Try.ty164 : TyP Try.prog 164 1 false [.int .i32 0] := TyP.mk' (v := .int .i32 0) (by kernel_rfl) rfl Try.underlying164 rfl
instance Try.byt164 : BytP Try.prog 164 4 := ⟨by kernel_rfl⟩
instance Try.int165 : IntP Try.prog 165 .i32 := ⟨Try.underlying165⟩
instance Try.ty165 : TyP Try.prog 165 1 false [.int .i32 0] := TyP.mk' (v := .int .i32 0) (by kernel_rfl) rfl Try.underlying165 rfl
instance Try.byt165 : BytP Try.prog 165 4 := ⟨by kernel_rfl⟩
instance Try.ty166 : TyP Try.prog 166 11 true [.int .u64 0, .int .u64 0, .int .u32 0, .int .u8 0, .int .u8 0, .int .u8 0, .int .u8 0, .nilFunc, .pointer none, .int .i32 0, .int .i32 0] := TyP.mk' (v := .agg #[.int .u64 0, .int .u64 0, .int .u32 0, .int .u8 0, .int .u8 0, .int .u8 0, .int .u8 0, .nilFunc, .pointer none, .int .i32 0, .int .i32 0]) (by kernel_rfl) rfl Try.underlying166 rfl
instance Try.byt166 : BytP Try.prog 166 48 := ⟨by kernel_rfl⟩
instance Try.ty167 : TyP Try.prog 167 11 true [.int .u64 0, .int .u64 0, .int .u32 0, .int .u8 0, .int .u8 0, .int .u8 0, .int .u8 0, .nilFunc, .pointer none, .int .i32 0, .int .i32 0] := TyP.mk' (v := .agg #[.int .u64 0, .int .u64 0, .int .u32 0, .int .u8 0, .int .u8 0, .int .u8 0, .int .u8 0, .nilFunc, .pointer none, .int .i32 0, .int .i32 0]) (by kernel_rfl) rfl Try.underlying167 rfl
instance Try.byt167 : BytP Try.prog 167 48 := ⟨by kernel_rfl⟩
instance Try.ty168 : TyP Try.prog 168 1 false [.pointer none] := TyP.mk' (v := .pointer none) (by kernel_rfl) rfl Try.underlying168 rfl
instance Try.byt168 : BytP Try.prog 168 8 := ⟨by kernel_rfl⟩
instance Try.st7 : StP Try.prog 7 [.int .i64 0, .int .i64 0, .bool false, .int .u8 0] [(0, 1), (1, 1), (2, 1), (3, 1)] := StP.mk' Try.ty7 Try.underlying7 (by kernel_rfl)
instance Try.fv7_0 : FldV Try.prog 7 0 0 1 false := FldV.mk' Try.underlying7 rfl rfl Try.ty2
instance Try.fld7_0 : FldP Try.prog 7 0 0 := FldP.mk' (sz := 1) Try.underlying7 rfl rfl (by kernel_rfl) rfl
instance Try.fv7_1 : FldV Try.prog 7 1 1 1 false := FldV.mk' Try.underlying7 rfl rfl Try.ty3
instance Try.fld7_1 : FldP Try.prog 7 1 1 := FldP.mk' (sz := 1) Try.underlying7 rfl rfl (by kernel_rfl) rfl
instance Try.fv7_2 : FldV Try.prog 7 2 2 1 false := FldV.mk' Try.underlying7 rfl rfl Try.ty4
instance Try.fld7_2 : FldP Try.prog 7 2 2 := FldP.mk' (sz := 1) Try.underlying7 rfl rfl (by kernel_rfl) rfl
instance Try.fv7_3 : FldV Try.prog 7 3 3 1 false := FldV.mk' Try.underlying7 rfl rfl Try.ty6
instance Try.fld7_3 : FldP Try.prog 7 3 3 := FldP.mk' (sz := 1) Try.underlying7 rfl rfl (by kernel_rfl) rfl
instance Try.st8 : StP Try.prog 8 [.int .i64 0, .int .i64 0, .bool false, .int .u8 0] [(0, 1), (1, 1), (2, 1), (3, 1)] := StP.mk' Try.ty8 Try.underlying8 (by kernel_rfl)
instance Try.fv8_0 : FldV Try.prog 8 0 0 1 false := FldV.mk' Try.underlying8 rfl rfl Try.ty2
instance Try.fld8_0 : FldP Try.prog 8 0 0 := FldP.mk' (sz := 1) Try.underlying8 rfl rfl (by kernel_rfl) rfl
instance Try.fv8_1 : FldV Try.prog 8 1 1 1 false := FldV.mk' Try.underlying8 rfl rfl Try.ty3
instance Try.fld8_1 : FldP Try.prog 8 1 1 := FldP.mk' (sz := 1) Try.underlying8 rfl rfl (by kernel_rfl) rfl
instance Try.fv8_2 : FldV Try.prog 8 2 2 1 false := FldV.mk' Try.underlying8 rfl rfl Try.ty4
instance Try.fld8_2 : FldP Try.prog 8 2 2 := FldP.mk' (sz := 1) Try.underlying8 rfl rfl (by kernel_rfl) rfl
instance Try.fv8_3 : FldV Try.prog 8 3 3 1 false := FldV.mk' Try.underlying8 rfl rfl Try.ty6
instance Try.fld8_3 : FldP Try.prog 8 3 3 := FldP.mk' (sz := 1) Try.underlying8 rfl rfl (by kernel_rfl) rfl
instance Try.st18 : StP Try.prog 18 [.pointer none] [(0, 1)] := StP.mk' Try.ty18 Try.underlying18 (by kernel_rfl)
instance Try.fv18_0 : FldV Try.prog 18 0 0 1 false := FldV.mk' Try.underlying18 rfl rfl Try.ty17
instance Try.fld18_0 : FldP Try.prog 18 0 0 := FldP.mk' (sz := 1) Try.underlying18 rfl rfl (by kernel_rfl) rfl
instance Try.st19 : StP Try.prog 19 [.pointer none] [(0, 1)] := StP.mk' Try.ty19 Try.underlying19 (by kernel_rfl)
instance Try.fv19_0 : FldV Try.prog 19 0 0 1 false := FldV.mk' Try.underlying19 rfl rfl Try.ty17
instance Try.fld19_0 : FldP Try.prog 19 0 0 := FldP.mk' (sz := 1) Try.underlying19 rfl rfl (by kernel_rfl) rfl
instance Try.st22 : StP Try.prog 22 [.int .i64 0, .int .i64 0] [(0, 1), (1, 1)] := StP.mk' Try.ty22 Try.underlying22 (by kernel_rfl)
instance Try.fv22_0 : FldV Try.prog 22 0 0 1 false := FldV.mk' Try.underlying22 rfl rfl Try.ty3
instance Try.fld22_0 : FldP Try.prog 22 0 0 := FldP.mk' (sz := 1) Try.underlying22 rfl rfl (by kernel_rfl) rfl
instance Try.fv22_1 : FldV Try.prog 22 1 1 1 false := FldV.mk' Try.underlying22 rfl rfl Try.ty3
instance Try.fld22_1 : FldP Try.prog 22 1 1 := FldP.mk' (sz := 1) Try.underlying22 rfl rfl (by kernel_rfl) rfl
instance Try.st23 : StP Try.prog 23 [.int .i64 0, .int .i64 0] [(0, 1), (1, 1)] := StP.mk' Try.ty23 Try.underlying23 (by kernel_rfl)
instance Try.fv23_0 : FldV Try.prog 23 0 0 1 false := FldV.mk' Try.underlying23 rfl rfl Try.ty3
instance Try.fld23_0 : FldP Try.prog 23 0 0 := FldP.mk' (sz := 1) Try.underlying23 rfl rfl (by kernel_rfl) rfl
instance Try.fv23_1 : FldV Try.prog 23 1 1 1 false := FldV.mk' Try.underlying23 rfl rfl Try.ty3
instance Try.fld23_1 : FldP Try.prog 23 1 1 := FldP.mk' (sz := 1) Try.underlying23 rfl rfl (by kernel_rfl) rfl
instance Try.st25 : StP Try.prog 25 [.int .i64 0, .int .i64 0, .int .i64 0, .int .i64 0, .int .i64 0, .int .i64 0, .int .i64 0, .int .i64 0, .int .i64 0, .int .i64 0, .slice none 0 0] [(0, 2), (2, 2), (4, 2), (6, 2), (8, 2), (10, 1)] := StP.mk' Try.ty25 Try.underlying25 (by kernel_rfl)
instance Try.fv25_0 : FldV Try.prog 25 0 0 2 true := FldV.mk' Try.underlying25 rfl rfl Try.ty23
instance Try.fld25_0 : FldP Try.prog 25 0 0 := FldP.mk' (sz := 2) Try.underlying25 rfl rfl (by kernel_rfl) rfl
instance Try.fv25_1 : FldV Try.prog 25 1 2 2 true := FldV.mk' Try.underlying25 rfl rfl Try.ty23
instance Try.fld25_1 : FldP Try.prog 25 1 2 := FldP.mk' (sz := 2) Try.underlying25 rfl rfl (by kernel_rfl) rfl
instance Try.fv25_2 : FldV Try.prog 25 2 4 2 true := FldV.mk' Try.underlying25 rfl rfl Try.ty23
instance Try.fld25_2 : FldP Try.prog 25 2 4 := FldP.mk' (sz := 2) Try.underlying25 rfl rfl (by kernel_rfl) rfl
instance Try.fv25_3 : FldV Try.prog 25 3 6 2 true := FldV.mk' Try.underlying25 rfl rfl Try.ty23
instance Try.fld25_3 : FldP Try.prog 25 3 6 := FldP.mk' (sz := 2) Try.underlying25 rfl rfl (by kernel_rfl) rfl
instance Try.fv25_4 : FldV Try.prog 25 4 8 2 true := FldV.mk' Try.underlying25 rfl rfl Try.ty23
instance Try.fld25_4 : FldP Try.prog 25 4 8 := FldP.mk' (sz := 2) Try.underlying25 rfl rfl (by kernel_rfl) rfl
instance Try.fv25_5 : FldV Try.prog 25 5 10 1 false := FldV.mk' Try.underlying25 rfl rfl Try.ty24
instance Try.fld25_5 : FldP Try.prog 25 5 10 := FldP.mk' (sz := 1) Try.underlying25 rfl rfl (by kernel_rfl) rfl
instance Try.st26 : StP Try.prog 26 [.int .i64 0, .int .i64 0, .int .i64 0, .int .i64 0, .int .i64 0, .int .i64 0, .int .i64 0, .int .i64 0, .int .i64 0, .int .i64 0, .slice none 0 0] [(0, 2), (2, 2), (4, 2), (6, 2), (8, 2), (10, 1)] := StP.mk' Try.ty26 Try.underlying26 (by kernel_rfl)
instance Try.fv26_0 : FldV Try.prog 26 0 0 2 true := FldV.mk' Try.underlying26 rfl rfl Try.ty23
instance Try.fld26_0 : FldP Try.prog 26 0 0 := FldP.mk' (sz := 2) Try.underlying26 rfl rfl (by kernel_rfl) rfl
instance Try.fv26_1 : FldV Try.prog 26 1 2 2 true := FldV.mk' Try.underlying26 rfl rfl Try.ty23
instance Try.fld26_1 : FldP Try.prog 26 1 2 := FldP.mk' (sz := 2) Try.underlying26 rfl rfl (by kernel_rfl) rfl
instance Try.fv26_2 : FldV Try.prog 26 2 4 2 true := FldV.mk' Try.underlying26 rfl rfl Try.ty23
instance Try.fld26_2 : FldP Try.prog 26 2 4 := FldP.mk' (sz := 2) Try.underlying26 rfl rfl (by kernel_rfl) rfl
instance Try.fv26_3 : FldV Try.prog 26 3 6 2 true := FldV.mk' Try.underlying26 rfl rfl Try.ty23
instance Try.fld26_3 : FldP Try.prog 26 3 6 := FldP.mk' (sz := 2) Try.underlying26 rfl rfl (by kernel_rfl) rfl
instance Try.fv26_4 : FldV Try.prog 26 4 8 2 true := FldV.mk' Try.underlying26 rfl rfl Try.ty23
instance Try.fld26_4 : FldP Try.prog 26 4 8 := FldP.mk' (sz := 2) Try.underlying26 rfl rfl (by kernel_rfl) rfl
instance Try.fv26_5 : FldV Try.prog 26 5 10 1 false := FldV.mk' Try.underlying26 rfl rfl Try.ty24
instance Try.fld26_5 : FldP Try.prog 26 5 10 := FldP.mk' (sz := 1) Try.underlying26 rfl rfl (by kernel_rfl) rfl
instance Try.st38 : StP Try.prog 38 [.int .i64 0, .int .i64 0, .int .i64 0] [(0, 2), (2, 1)] := StP.mk' Try.ty38 Try.underlying38 (by kernel_rfl)
instance Try.fv38_0 : FldV Try.prog 38 0 0 2 true := FldV.mk' Try.underlying38 rfl rfl Try.ty23
instance Try.fld38_0 : FldP Try.prog 38 0 0 := FldP.mk' (sz := 2) Try.underlying38 rfl rfl (by kernel_rfl) rfl
instance Try.fv38_1 : FldV Try.prog 38 1 2 1 false := FldV.mk' Try.underlying38 rfl rfl Try.ty3
instance Try.fld38_1 : FldP Try.prog 38 1 2 := FldP.mk' (sz := 1) Try.underlying38 rfl rfl (by kernel_rfl) rfl
instance Try.st39 : StP Try.prog 39 [.int .i64 0, .int .i64 0, .int .i64 0] [(0, 2), (2, 1)] := StP.mk' Try.ty39 Try.underlying39 (by kernel_rfl)
instance Try.fv39_0 : FldV Try.prog 39 0 0 2 true := FldV.mk' Try.underlying39 rfl rfl Try.ty23
instance Try.fld39_0 : FldP Try.prog 39 0 0 := FldP.mk' (sz := 2) Try.underlying39 rfl rfl (by kernel_rfl) rfl
instance Try.fv39_1 : FldV Try.prog 39 1 2 1 false := FldV.mk' Try.underlying39 rfl rfl Try.ty3
instance Try.fld39_1 : FldP Try.prog 39 1 2 := FldP.mk' (sz := 1) Try.underlying39 rfl rfl (by kernel_rfl) rfl
instance Try.ar41 : ArP Try.prog 41 [.int .i64 0, .int .i64 0, .int .i64 0] 3 1 := ArP.mk' Try.ty41 Try.underlying41 Try.ty3
instance Try.st42 : StP Try.prog 42 [.int .i64 0, .int .i64 0, .int .i64 0, .int .i64 0, .int .i64 0, .int .i64 0, .int .i64 0, .int .i64 0, .int .i64 0, .int .i64 0] [(0, 2), (2, 2), (4, 1), (5, 1), (6, 1), (7, 3)] := StP.mk' Try.ty42 Try.underlying42 (by kernel_rfl)
instance Try.fv42_0 : FldV Try.prog 42 0 0 2 true := FldV.mk' Try.underlying42 rfl rfl Try.ty23
instance Try.fld42_0 : FldP Try.prog 42 0 0 := FldP.mk' (sz := 2) Try.underlying42 rfl rfl (by kernel_rfl) rfl
instance Try.fv42_1 : FldV Try.prog 42 1 2 2 true := FldV.mk' Try.underlying42 rfl rfl Try.ty23
instance Try.fld42_1 : FldP Try.prog 42 1 2 := FldP.mk' (sz := 2) Try.underlying42 rfl rfl (by kernel_rfl) rfl
instance Try.fv42_2 : FldV Try.prog 42 2 4 1 false := FldV.mk' Try.underlying42 rfl rfl Try.ty3
instance Try.fld42_2 : FldP Try.prog 42 2 4 := FldP.mk' (sz := 1) Try.underlying42 rfl rfl (by kernel_rfl) rfl
instance Try.fv42_3 : FldV Try.prog 42 3 5 1 false := FldV.mk' Try.underlying42 rfl rfl Try.ty3
instance Try.fld42_3 : FldP Try.prog 42 3 5 := FldP.mk' (sz := 1) Try.underlying42 rfl rfl (by kernel_rfl) rfl
instance Try.fv42_4 : FldV Try.prog 42 4 6 1 false := FldV.mk' Try.underlying42 rfl rfl Try.ty3
instance Try.fld42_4 : FldP Try.prog 42 4 6 := FldP.mk' (sz := 1) Try.underlying42 rfl rfl (by kernel_rfl) rfl
instance Try.fv42_5 : FldV Try.prog 42 5 7 3 true := FldV.mk' Try.underlying42 rfl rfl Try.ty41
instance Try.fld42_5 : FldP Try.prog 42 5 7 := FldP.mk' (sz := 3) Try.underlying42 rfl rfl (by kernel_rfl) rfl
instance Try.st43 : StP Try.prog 43 [.int .i64 0, .int .i64 0, .int .i64 0, .int .i64 0, .int .i64 0, .int .i64 0, .int .i64 0, .int .i64 0, .int .i64 0, .int .i64 0] [(0, 2), (2, 2), (4, 1), (5, 1), (6, 1), (7, 3)] := StP.mk' Try.ty43 Try.underlying43 (by kernel_rfl)
instance Try.fv43_0 : FldV Try.prog 43 0 0 2 true := FldV.mk' Try.underlying43 rfl rfl Try.ty23
instance Try.fld43_0 : FldP Try.prog 43 0 0 := FldP.mk' (sz := 2) Try.underlying43 rfl rfl (by kernel_rfl) rfl
instance Try.fv43_1 : FldV Try.prog 43 1 2 2 true := FldV.mk' Try.underlying43 rfl rfl Try.ty23
instance Try.fld43_1 : FldP Try.prog 43 1 2 := FldP.mk' (sz := 2) Try.underlying43 rfl rfl (by kernel_rfl) rfl
instance Try.fv43_2 : FldV Try.prog 43 2 4 1 false := FldV.mk' Try.underlying43 rfl rfl Try.ty3
instance Try.fld43_2 : FldP Try.prog 43 2 4 := FldP.mk' (sz := 1) Try.underlying43 rfl rfl (by kernel_rfl) rfl
instance Try.fv43_3 : FldV Try.prog 43 3 5 1 false := FldV.mk' Try.underlying43 rfl rfl Try.ty3
instance Try.fld43_3 : FldP Try.prog 43 3 5 := FldP.mk' (sz := 1) Try.underlying43 rfl rfl (by kernel_rfl) rfl
instance Try.fv43_4 : FldV Try.prog 43 4 6 1 false := FldV.mk' Try.underlying43 rfl rfl Try.ty3
instance Try.fld43_4 : FldP Try.prog 43 4 6 := FldP.mk' (sz := 1) Try.underlying43 rfl rfl (by kernel_rfl) rfl
instance Try.fv43_5 : FldV Try.prog 43 5 7 3 true := FldV.mk' Try.underlying43 rfl rfl Try.ty41
instance Try.fld43_5 : FldP Try.prog 43 5 7 := FldP.mk' (sz := 3) Try.underlying43 rfl rfl (by kernel_rfl) rfl
instance Try.st45 : StP Try.prog 45 [.slice none 0 0, .int .i64 0, .int .i64 0, .bool false] [(0, 1), (1, 2), (3, 1)] := StP.mk' Try.ty45 Try.underlying45 (by kernel_rfl)
instance Try.fv45_0 : FldV Try.prog 45 0 0 1 false := FldV.mk' Try.underlying45 rfl rfl Try.ty44
instance Try.fld45_0 : FldP Try.prog 45 0 0 := FldP.mk' (sz := 1) Try.underlying45 rfl rfl (by kernel_rfl) rfl
instance Try.fv45_1 : FldV Try.prog 45 1 1 2 true := FldV.mk' Try.underlying45 rfl rfl Try.ty23
instance Try.fld45_1 : FldP Try.prog 45 1 1 := FldP.mk' (sz := 2) Try.underlying45 rfl rfl (by kernel_rfl) rfl
instance Try.fv45_2 : FldV Try.prog 45 2 3 1 false := FldV.mk' Try.underlying45 rfl rfl Try.ty4
instance Try.fld45_2 : FldP Try.prog 45 2 3 := FldP.mk' (sz := 1) Try.underlying45 rfl rfl (by kernel_rfl) rfl
instance Try.st46 : StP Try.prog 46 [.slice none 0 0, .int .i64 0, .int .i64 0, .bool false] [(0, 1), (1, 2), (3, 1)] := StP.mk' Try.ty46 Try.underlying46 (by kernel_rfl)
instance Try.fv46_0 : FldV Try.prog 46 0 0 1 false := FldV.mk' Try.underlying46 rfl rfl Try.ty44
instance Try.fld46_0 : FldP Try.prog 46 0 0 := FldP.mk' (sz := 1) Try.underlying46 rfl rfl (by kernel_rfl) rfl
instance Try.fv46_1 : FldV Try.prog 46 1 1 2 true := FldV.mk' Try.underlying46 rfl rfl Try.ty23
instance Try.fld46_1 : FldP Try.prog 46 1 1 := FldP.mk' (sz := 2) Try.underlying46 rfl rfl (by kernel_rfl) rfl
instance Try.fv46_2 : FldV Try.prog 46 2 3 1 false := FldV.mk' Try.underlying46 rfl rfl Try.ty4
instance Try.fld46_2 : FldP Try.prog 46 2 3 := FldP.mk' (sz := 1) Try.underlying46 rfl rfl (by kernel_rfl) rfl
instance Try.ar53 : ArP Try.prog 53 [.int .i64 0, .int .i64 0, .int .i64 0, .int .i64 0, .int .i64 0, .int .i64 0] 3 2 := ArP.mk' Try.ty53 Try.underlying53 Try.ty23
instance Try.st54 : StP Try.prog 54 [.int .i64 0, .int .i64 0, .int .i64 0, .int .i64 0, .int .i64 0, .int .i64 0, .int .i64 0, .int .i64 0, .int .i64 0, .int .i64 0, .int .i64 0, .int .i64 0, .int .i64 0, .int .i64 0] [(0, 6), (6, 2), (8, 2), (10, 2), (12, 2)] := StP.mk' Try.ty54 Try.underlying54 (by kernel_rfl)
instance Try.fv54_0 : FldV Try.prog 54 0 0 6 true := FldV.mk' Try.underlying54 rfl rfl Try.ty53
instance Try.fld54_0 : FldP Try.prog 54 0 0 := FldP.mk' (sz := 6) Try.underlying54 rfl rfl (by kernel_rfl) rfl
instance Try.fv54_1 : FldV Try.prog 54 1 6 2 true := FldV.mk' Try.underlying54 rfl rfl Try.ty23
instance Try.fld54_1 : FldP Try.prog 54 1 6 := FldP.mk' (sz := 2) Try.underlying54 rfl rfl (by kernel_rfl) rfl
instance Try.fv54_2 : FldV Try.prog 54 2 8 2 true := FldV.mk' Try.underlying54 rfl rfl Try.ty23
instance Try.fld54_2 : FldP Try.prog 54 2 8 := FldP.mk' (sz := 2) Try.underlying54 rfl rfl (by kernel_rfl) rfl
instance Try.fv54_3 : FldV Try.prog 54 3 10 2 true := FldV.mk' Try.underlying54 rfl rfl Try.ty23
instance Try.fld54_3 : FldP Try.prog 54 3 10 := FldP.mk' (sz := 2) Try.underlying54 rfl rfl (by kernel_rfl) rfl
instance Try.fv54_4 : FldV Try.prog 54 4 12 2 true := FldV.mk' Try.underlying54 rfl rfl Try.ty23
instance Try.fld54_4 : FldP Try.prog 54 4 12 := FldP.mk' (sz := 2) Try.underlying54 rfl rfl (by kernel_rfl) rfl
instance Try.st55 : StP Try.prog 55 [.int .i64 0, .int .i64 0, .int .i64 0, .int .i64 0, .int .i64 0, .int .i64 0, .int .i64 0, .int .i64 0, .int .i64 0, .int .i64 0, .int .i64 0, .int .i64 0, .int .i64 0, .int .i64 0] [(0, 6), (6, 2), (8, 2), (10, 2), (12, 2)] := StP.mk' Try.ty55 Try.underlying55 (by kernel_rfl)
instance Try.fv55_0 : FldV Try.prog 55 0 0 6 true := FldV.mk' Try.underlying55 rfl rfl Try.ty53
instance Try.fld55_0 : FldP Try.prog 55 0 0 := FldP.mk' (sz := 6) Try.underlying55 rfl rfl (by kernel_rfl) rfl
instance Try.fv55_1 : FldV Try.prog 55 1 6 2 true := FldV.mk' Try.underlying55 rfl rfl Try.ty23
instance Try.fld55_1 : FldP Try.prog 55 1 6 := FldP.mk' (sz := 2) Try.underlying55 rfl rfl (by kernel_rfl) rfl
instance Try.fv55_2 : FldV Try.prog 55 2 8 2 true := FldV.mk' Try.underlying55 rfl rfl Try.ty23
instance Try.fld55_2 : FldP Try.prog 55 2 8 := FldP.mk' (sz := 2) Try.underlying55 rfl rfl (by kernel_rfl) rfl
instance Try.fv55_3 : FldV Try.prog 55 3 10 2 true := FldV.mk' Try.underlying55 rfl rfl Try.ty23
instance Try.fld55_3 : FldP Try.prog 55 3 10 := FldP.mk' (sz := 2) Try.underlying55 rfl rfl (by kernel_rfl) rfl
instance Try.fv55_4 : FldV Try.prog 55 4 12 2 true := FldV.mk' Try.underlying55 rfl rfl Try.ty23
instance Try.fld55_4 : FldP Try.prog 55 4 12 := FldP.mk' (sz := 2) Try.underlying55 rfl rfl (by kernel_rfl) rfl
instance Try.ar81 : ArP Try.prog 81 [.int .i64 0, .int .i64 0] 2 1 := ArP.mk' Try.ty81 Try.underlying81 Try.ty3
instance Try.ar85 : ArP Try.prog 85 [.bool false, .bool false] 2 1 := ArP.mk' Try.ty85 Try.underlying85 Try.ty4
instance Try.st96 : StP Try.prog 96 [.int .i64 0, .int .i64 0, .int .i64 0, .int .i64 0] [(0, 2), (2, 2)] := StP.mk' Try.ty96 Try.underlying96 (by kernel_rfl)
instance Try.fv96_0 : FldV Try.prog 96 0 0 2 true := FldV.mk' Try.underlying96 rfl rfl Try.ty23
instance Try.fld96_0 : FldP Try.prog 96 0 0 := FldP.mk' (sz := 2) Try.underlying96 rfl rfl (by kernel_rfl) rfl
instance Try.fv96_1 : FldV Try.prog 96 1 2 2 true := FldV.mk' Try.underlying96 rfl rfl Try.ty23
instance Try.fld96_1 : FldP Try.prog 96 1 2 := FldP.mk' (sz := 2) Try.underlying96 rfl rfl (by kernel_rfl) rfl
instance Try.st97 : StP Try.prog 97 [.int .i64 0, .int .i64 0, .int .i64 0, .int .i64 0] [(0, 2), (2, 2)] := StP.mk' Try.ty97 Try.underlying97 (by kernel_rfl)
instance Try.fv97_0 : FldV Try.prog 97 0 0 2 true := FldV.mk' Try.underlying97 rfl rfl Try.ty23
instance Try.fld97_0 : FldP Try.prog 97 0 0 := FldP.mk' (sz := 2) Try.underlying97 rfl rfl (by kernel_rfl) rfl
instance Try.fv97_1 : FldV Try.prog 97 1 2 2 true := FldV.mk' Try.underlying97 rfl rfl Try.ty23
instance Try.fld97_1 : FldP Try.prog 97 1 2 := FldP.mk' (sz := 2) Try.underlying97 rfl rfl (by kernel_rfl) rfl
instance Try.st109 : StP Try.prog 109 [.slice none 0 0, .int .i64 0, .int .i64 0, .bool false, .int .i64 0, .int .i64 0, .int .i64 0, .int .i64 0, .int .i64 0, .int .i64 0, .int .i64 0, .int .i64 0, .int .i64 0, .int .i64 0] [(0, 4), (4, 10)] := StP.mk' Try.ty109 Try.underlying109 (by kernel_rfl)
instance Try.fv109_0 : FldV Try.prog 109 0 0 4 true := FldV.mk' Try.underlying109 rfl rfl Try.ty46
instance Try.fld109_0 : FldP Try.prog 109 0 0 := FldP.mk' (sz := 4) Try.underlying109 rfl rfl (by kernel_rfl) rfl
instance Try.fv109_1 : FldV Try.prog 109 1 4 10 true := FldV.mk' Try.underlying109 rfl rfl Try.ty43
instance Try.fld109_1 : FldP Try.prog 109 1 4 := FldP.mk' (sz := 10) Try.underlying109 rfl rfl (by kernel_rfl) rfl
instance Try.st110 : StP Try.prog 110 [.slice none 0 0, .int .i64 0, .int .i64 0, .bool false, .int .i64 0, .int .i64 0, .int .i64 0, .int .i64 0, .int .i64 0, .int .i64 0, .int .i64 0, .int .i64 0, .int .i64 0, .int .i64 0] [(0, 4), (4, 10)] := StP.mk' Try.ty110 Try.underlying110 (by kernel_rfl)
instance Try.fv110_0 : FldV Try.prog 110 0 0 4 true := FldV.mk' Try.underlying110 rfl rfl Try.ty46
instance Try.fld110_0 : FldP Try.prog 110 0 0 := FldP.mk' (sz := 4) Try.underlying110 rfl rfl (by kernel_rfl) rfl
instance Try.fv110_1 : FldV Try.prog 110 1 4 10 true := FldV.mk' Try.underlying110 rfl rfl Try.ty43
instance Try.fld110_1 : FldP Try.prog 110 1 4 := FldP.mk' (sz := 10) Try.underlying110 rfl rfl (by kernel_rfl) rfl
instance Try.st120 : StP Try.prog 120 [.int .i64 0, .int .i64 0] [(0, 1), (1, 1)] := StP.mk' Try.ty120 Try.underlying120 (by kernel_rfl)
instance Try.fv120_0 : FldV Try.prog 120 0 0 1 false := FldV.mk' Try.underlying120 rfl rfl Try.ty3
instance Try.fld120_0 : FldP Try.prog 120 0 0 := FldP.mk' (sz := 1) Try.underlying120 rfl rfl (by kernel_rfl) rfl
instance Try.fv120_1 : FldV Try.prog 120 1 1 1 false := FldV.mk' Try.underlying120 rfl rfl Try.ty28
instance Try.fld120_1 : FldP Try.prog 120 1 1 := FldP.mk' (sz := 1) Try.underlying120 rfl rfl (by kernel_rfl) rfl
instance Try.st121 : StP Try.prog 121 [.int .i64 0, .int .i64 0] [(0, 1), (1, 1)] := StP.mk' Try.ty121 Try.underlying121 (by kernel_rfl)
instance Try.fv121_0 : FldV Try.prog 121 0 0 1 false := FldV.mk' Try.underlying121 rfl rfl Try.ty3
instance Try.fld121_0 : FldP Try.prog 121 0 0 := FldP.mk' (sz := 1) Try.underlying121 rfl rfl (by kernel_rfl) rfl
instance Try.fv121_1 : FldV Try.prog 121 1 1 1 false := FldV.mk' Try.underlying121 rfl rfl Try.ty28
instance Try.fld121_1 : FldP Try.prog 121 1 1 := FldP.mk' (sz := 1) Try.underlying121 rfl rfl (by kernel_rfl) rfl
instance Try.st135 : StP Try.prog 135 [.int .i64 0, .int .i64 0] [(0, 1), (1, 1)] := StP.mk' Try.ty135 Try.underlying135 (by kernel_rfl)
instance Try.fv135_0 : FldV Try.prog 135 0 0 1 false := FldV.mk' Try.underlying135 rfl rfl Try.ty3
instance Try.fld135_0 : FldP Try.prog 135 0 0 := FldP.mk' (sz := 1) Try.underlying135 rfl rfl (by kernel_rfl) rfl
instance Try.fv135_1 : FldV Try.prog 135 1 1 1 false := FldV.mk' Try.underlying135 rfl rfl Try.ty3
instance Try.fld135_1 : FldP Try.prog 135 1 1 := FldP.mk' (sz := 1) Try.underlying135 rfl rfl (by kernel_rfl) rfl
instance Try.st136 : StP Try.prog 136 [.int .i64 0, .int .i64 0] [(0, 1), (1, 1)] := StP.mk' Try.ty136 Try.underlying136 (by kernel_rfl)
instance Try.fv136_0 : FldV Try.prog 136 0 0 1 false := FldV.mk' Try.underlying136 rfl rfl Try.ty3
instance Try.fld136_0 : FldP Try.prog 136 0 0 := FldP.mk' (sz := 1) Try.underlying136 rfl rfl (by kernel_rfl) rfl
instance Try.fv136_1 : FldV Try.prog 136 1 1 1 false := FldV.mk' Try.underlying136 rfl rfl Try.ty3
instance Try.fld136_1 : FldP Try.prog 136 1 1 := FldP.mk' (sz := 1) Try.underlying136 rfl rfl (by kernel_rfl) rfl
instance Try.ar156 : ArP Try.prog 156 [] 0 1 := ArP.mk' Try.ty156 Try.underlying156 Try.ty16
instance Try.st157 : StP Try.prog 157 [] [(0, 0)] := StP.mk' Try.ty157 Try.underlying157 (by kernel_rfl)
instance Try.st158 : StP Try.prog 158 [] [(0, 0)] := StP.mk' Try.ty158 Try.underlying158 (by kernel_rfl)
instance Try.st166 : StP Try.prog 166 [.int .u64 0, .int .u64 0, .int .u32 0, .int .u8 0, .int .u8 0, .int .u8 0, .int .u8 0, .nilFunc, .pointer none, .int .i32 0, .int .i32 0] [(0, 1), (1, 1), (2, 1), (3, 1), (4, 1), (5, 1), (6, 1), (7, 1), (8, 1), (9, 1), (10, 1)] := StP.mk' Try.ty166 Try.underlying166 (by kernel_rfl)
instance Try.fv166_0 : FldV Try.prog 166 0 0 1 false := FldV.mk' Try.underlying166 rfl rfl Try.ty12
instance Try.fld166_0 : FldP Try.prog 166 0 0 := FldP.mk' (sz := 1) Try.underlying166 rfl rfl (by kernel_rfl) rfl
instance Try.fv166_1 : FldV Try.prog 166 1 1 1 false := FldV.mk' Try.underlying166 rfl rfl Try.ty12
instance Try.fld166_1 : FldP Try.prog 166 1 1 := FldP.mk' (sz := 1) Try.underlying166 rfl rfl (by kernel_rfl) rfl
instance Try.fv166_2 : FldV Try.prog 166 2 2 1 false := FldV.mk' Try.underlying166 rfl rfl Try.ty79
instance Try.fld166_2 : FldP Try.prog 166 2 2 := FldP.mk' (sz := 1) Try.underlying166 rfl rfl (by kernel_rfl) rfl
instance Try.fv166_3 : FldV Try.prog 166 3 3 1 false := FldV.mk' Try.underlying166 rfl rfl Try.ty160
instance Try.fld166_3 : FldP Try.prog 166 3 3 := FldP.mk' (sz := 1) Try.underlying166 rfl rfl (by kernel_rfl) rfl
instance Try.fv166_4 : FldV Try.prog 166 4 4 1 false := FldV.mk' Try.underlying166 rfl rfl Try.ty5
instance Try.fld166_4 : FldP Try.prog 166 4 4 := FldP.mk' (sz := 1) Try.underlying166 rfl rfl (by kernel_rfl) rfl
instance Try.fv166_5 : FldV Try.prog 166 5 5 1 false := FldV.mk' Try.underlying166 rfl rfl Try.ty5
instance Try.fld166_5 : FldP Try.prog 166 5 5 := FldP.mk' (sz := 1) Try.underlying166 rfl rfl (by kernel_rfl) rfl
instance Try.fv166_6 : FldV Try.prog 166 6 6 1 false := FldV.mk' Try.underlying166 rfl rfl Try.ty161
instance Try.fld166_6 : FldP Try.prog 166 6 6 := FldP.mk' (sz := 1) Try.underlying166 rfl rfl (by kernel_rfl) rfl
instance Try.fv166_7 : FldV Try.prog 166 7 7 1 false := FldV.mk' Try.underlying166 rfl rfl Try.ty162
instance Try.fld166_7 : FldP Try.prog 166 7 7 := FldP.mk' (sz := 1) Try.underlying166 rfl rfl (by kernel_rfl) rfl
instance Try.fv166_8 : FldV Try.prog 166 8 8 1 false := FldV.mk' Try.underlying166 rfl rfl Try.ty163
instance Try.fld166_8 : FldP Try.prog 166 8 8 := FldP.mk' (sz := 1) Try.underlying166 rfl rfl (by kernel_rfl) rfl
instance Try.fv166_9 : FldV Try.prog 166 9 9 1 false := FldV.mk' Try.underlying166 rfl rfl Try.ty164
instance Try.fld166_9 : FldP Try.prog 166 9 9 := FldP.mk' (sz := 1) Try.underlying166 rfl rfl (by kernel_rfl) rfl
instance Try.fv166_10 : FldV Try.prog 166 10 10 1 false := FldV.mk' Try.underlying166 rfl rfl Try.ty165
instance Try.fld166_10 : FldP Try.prog 166 10 10 := FldP.mk' (sz := 1) Try.underlying166 rfl rfl (by kernel_rfl) rfl
instance Try.st167 : StP Try.prog 167 [.int .u64 0, .int .u64 0, .int .u32 0, .int .u8 0, .int .u8 0, .int .u8 0, .int .u8 0, .nilFunc, .pointer none, .int .i32 0, .int .i32 0] [(0, 1), (1, 1), (2, 1), (3, 1), (4, 1), (5, 1), (6, 1), (7, 1), (8, 1), (9, 1), (10, 1)] := StP.mk' Try.ty167 Try.underlying167 (by kernel_rfl)
instance Try.fv167_0 : FldV Try.prog 167 0 0 1 false := FldV.mk' Try.underlying167 rfl rfl Try.ty12
instance Try.fld167_0 : FldP Try.prog 167 0 0 := FldP.mk' (sz := 1) Try.underlying167 rfl rfl (by kernel_rfl) rfl
instance Try.fv167_1 : FldV Try.prog 167 1 1 1 false := FldV.mk' Try.underlying167 rfl rfl Try.ty12
instance Try.fld167_1 : FldP Try.prog 167 1 1 := FldP.mk' (sz := 1) Try.underlying167 rfl rfl (by kernel_rfl) rfl
instance Try.fv167_2 : FldV Try.prog 167 2 2 1 false := FldV.mk' Try.underlying167 rfl rfl Try.ty79
instance Try.fld167_2 : FldP Try.prog 167 2 2 := FldP.mk' (sz := 1) Try.underlying167 rfl rfl (by kernel_rfl) rfl
instance Try.fv167_3 : FldV Try.prog 167 3 3 1 false := FldV.mk' Try.underlying167 rfl rfl Try.ty160
instance Try.fld167_3 : FldP Try.prog 167 3 3 := FldP.mk' (sz := 1) Try.underlying167 rfl rfl (by kernel_rfl) rfl
instance Try.fv167_4 : FldV Try.prog 167 4 4 1 false := FldV.mk' Try.underlying167 rfl rfl Try.ty5
instance Try.fld167_4 : FldP Try.prog 167 4 4 := FldP.mk' (sz := 1) Try.underlying167 rfl rfl (by kernel_rfl) rfl
instance Try.fv167_5 : FldV Try.prog 167 5 5 1 false := FldV.mk' Try.underlying167 rfl rfl Try.ty5
instance Try.fld167_5 : FldP Try.prog 167 5 5 := FldP.mk' (sz := 1) Try.underlying167 rfl rfl (by kernel_rfl) rfl
instance Try.fv167_6 : FldV Try.prog 167 6 6 1 false := FldV.mk' Try.underlying167 rfl rfl Try.ty161
instance Try.fld167_6 : FldP Try.prog 167 6 6 := FldP.mk' (sz := 1) Try.underlying167 rfl rfl (by kernel_rfl) rfl
instance Try.fv167_7 : FldV Try.prog 167 7 7 1 false := FldV.mk' Try.underlying167 rfl rfl Try.ty162
instance Try.fld167_7 : FldP Try.prog 167 7 7 := FldP.mk' (sz := 1) Try.underlying167 rfl rfl (by kernel_rfl) rfl
instance Try.fv167_8 : FldV Try.prog 167 8 8 1 false := FldV.mk' Try.underlying167 rfl rfl Try.ty163
instance Try.fld167_8 : FldP Try.prog 167 8 8 := FldP.mk' (sz := 1) Try.underlying167 rfl rfl (by kernel_rfl) rfl
instance Try.fv167_9 : FldV Try.prog 167 9 9 1 false := FldV.mk' Try.underlying167 rfl rfl Try.ty164
instance Try.fld167_9 : FldP Try.prog 167 9 9 := FldP.mk' (sz := 1) Try.underlying167 rfl rfl (by kernel_rfl) rfl
instance Try.fv167_10 : FldV Try.prog 167 10 10 1 false := FldV.mk' Try.underlying167 rfl rfl Try.ty165
instance Try.fld167_10 : FldP Try.prog 167 10 10 := FldP.mk' (sz := 1) Try.underlying167 rfl rfl (by kernel_rfl) rfl
instance Try.eq2 : EqP Try.prog 2 1 1 := EqP.int
instance Try.eq3 : EqP Try.prog 3 1 1 := EqP.int
instance Try.eq28 : EqP Try.prog 28 1 1 := EqP.int
instance Try.eq22 : EqP Try.prog 22 2 2 := EqP.struct (ht := Try.ty22) _ Try.underlying22 Try.stoodInHeld22 ((FsP.cons (by kernel_rfl) rfl Try.ty3 Try.eq3 rfl rfl (FsP.cons (by kernel_rfl) rfl Try.ty3 Try.eq3 rfl rfl FsP.nil)) : FsP Try.prog 1 0 _ (1 + (1 + 0)))
instance Try.eqg22 : EqG Try.prog 22 := ⟨Try.eqGuardType22⟩
instance Try.eq23 : EqP Try.prog 23 2 2 := EqP.struct (ht := Try.ty23) _ Try.underlying23 Try.stoodInHeld23 ((FsP.cons (by kernel_rfl) rfl Try.ty3 Try.eq3 rfl rfl (FsP.cons (by kernel_rfl) rfl Try.ty3 Try.eq3 rfl rfl FsP.nil)) : FsP Try.prog 1 0 _ (1 + (1 + 0)))
instance Try.eqg23 : EqG Try.prog 23 := ⟨Try.eqGuardType23⟩
instance Try.eq38 : EqP Try.prog 38 3 3 := EqP.struct (ht := Try.ty38) _ Try.underlying38 Try.stoodInHeld38 ((FsP.cons (by kernel_rfl) rfl Try.ty23 Try.eq23 rfl rfl (FsP.cons (by kernel_rfl) rfl Try.ty3 Try.eq3 rfl rfl FsP.nil)) : FsP Try.prog 2 0 _ (2 + (1 + 0)))
instance Try.eqg38 : EqG Try.prog 38 := ⟨Try.eqGuardType38⟩
instance Try.eq39 : EqP Try.prog 39 3 3 := EqP.struct (ht := Try.ty39) _ Try.underlying39 Try.stoodInHeld39 ((FsP.cons (by kernel_rfl) rfl Try.ty23 Try.eq23 rfl rfl (FsP.cons (by kernel_rfl) rfl Try.ty3 Try.eq3 rfl rfl FsP.nil)) : FsP Try.prog 2 0 _ (2 + (1 + 0)))
instance Try.eqg39 : EqG Try.prog 39 := ⟨Try.eqGuardType39⟩
instance Try.eq41 : EqP Try.prog 41 2 3 := EqP.array (ht := Try.ty41) (he := Try.ty3) Try.underlying41 rfl rfl
instance Try.eq42 : EqP Try.prog 42 3 10 := EqP.struct (ht := Try.ty42) _ Try.underlying42 Try.stoodInHeld42 ((FsP.cons (by kernel_rfl) rfl Try.ty23 Try.eq23 rfl rfl (FsP.cons (by kernel_rfl) rfl Try.ty23 Try.eq23 rfl rfl (FsP.cons (by kernel_rfl) rfl Try.ty3 Try.eq3 rfl rfl (FsP.cons (by kernel_rfl) rfl Try.ty3 Try.eq3 rfl rfl (FsP.cons (by kernel_rfl) rfl Try.ty3 Try.eq3 rfl rfl (FsP.cons (by kernel_rfl) rfl Try.ty41 Try.eq41 rfl rfl FsP.nil)))))) : FsP Try.prog 2 0 _ (2 + (2 + (1 + (1 + (1 + (3 + 0)))))))
instance Try.eqg42 : EqG Try.prog 42 := ⟨Try.eqGuardType42⟩
instance Try.eq43 : EqP Try.prog 43 3 10 := EqP.struct (ht := Try.ty43) _ Try.underlying43 Try.stoodInHeld43 ((FsP.cons (by kernel_rfl) rfl Try.ty23 Try.eq23 rfl rfl (FsP.cons (by kernel_rfl) rfl Try.ty23 Try.eq23 rfl rfl (FsP.cons (by kernel_rfl) rfl Try.ty3 Try.eq3 rfl rfl (FsP.cons (by kernel_rfl) rfl Try.ty3 Try.eq3 rfl rfl (FsP.cons (by kernel_rfl) rfl Try.ty3 Try.eq3 rfl rfl (FsP.cons (by kernel_rfl) rfl Try.ty41 Try.eq41 rfl rfl FsP.nil)))))) : FsP Try.prog 2 0 _ (2 + (2 + (1 + (1 + (1 + (3 + 0)))))))
instance Try.eqg43 : EqG Try.prog 43 := ⟨Try.eqGuardType43⟩
instance Try.eq53 : EqP Try.prog 53 3 6 := EqP.array (ht := Try.ty53) (he := Try.ty23) Try.underlying53 rfl rfl
instance Try.eq54 : EqP Try.prog 54 4 14 := EqP.struct (ht := Try.ty54) _ Try.underlying54 Try.stoodInHeld54 ((FsP.cons (by kernel_rfl) rfl Try.ty53 Try.eq53 rfl rfl (FsP.cons (by kernel_rfl) rfl Try.ty23 Try.eq23 rfl rfl (FsP.cons (by kernel_rfl) rfl Try.ty23 Try.eq23 rfl rfl (FsP.cons (by kernel_rfl) rfl Try.ty23 Try.eq23 rfl rfl (FsP.cons (by kernel_rfl) rfl Try.ty23 Try.eq23 rfl rfl FsP.nil))))) : FsP Try.prog 3 0 _ (6 + (2 + (2 + (2 + (2 + 0))))))
instance Try.eqg54 : EqG Try.prog 54 := ⟨Try.eqGuardType54⟩
instance Try.eq55 : EqP Try.prog 55 4 14 := EqP.struct (ht := Try.ty55) _ Try.underlying55 Try.stoodInHeld55 ((FsP.cons (by kernel_rfl) rfl Try.ty53 Try.eq53 rfl rfl (FsP.cons (by kernel_rfl) rfl Try.ty23 Try.eq23 rfl rfl (FsP.cons (by kernel_rfl) rfl Try.ty23 Try.eq23 rfl rfl (FsP.cons (by kernel_rfl) rfl Try.ty23 Try.eq23 rfl rfl (FsP.cons (by kernel_rfl) rfl Try.ty23 Try.eq23 rfl rfl FsP.nil))))) : FsP Try.prog 3 0 _ (6 + (2 + (2 + (2 + (2 + 0))))))
instance Try.eqg55 : EqG Try.prog 55 := ⟨Try.eqGuardType55⟩
instance Try.eq81 : EqP Try.prog 81 2 2 := EqP.array (ht := Try.ty81) (he := Try.ty3) Try.underlying81 rfl rfl
instance Try.eq96 : EqP Try.prog 96 3 4 := EqP.struct (ht := Try.ty96) _ Try.underlying96 Try.stoodInHeld96 ((FsP.cons (by kernel_rfl) rfl Try.ty23 Try.eq23 rfl rfl (FsP.cons (by kernel_rfl) rfl Try.ty23 Try.eq23 rfl rfl FsP.nil)) : FsP Try.prog 2 0 _ (2 + (2 + 0)))
instance Try.eqg96 : EqG Try.prog 96 := ⟨Try.eqGuardType96⟩
instance Try.eq97 : EqP Try.prog 97 3 4 := EqP.struct (ht := Try.ty97) _ Try.underlying97 Try.stoodInHeld97 ((FsP.cons (by kernel_rfl) rfl Try.ty23 Try.eq23 rfl rfl (FsP.cons (by kernel_rfl) rfl Try.ty23 Try.eq23 rfl rfl FsP.nil)) : FsP Try.prog 2 0 _ (2 + (2 + 0)))
instance Try.eqg97 : EqG Try.prog 97 := ⟨Try.eqGuardType97⟩
instance Try.eq120 : EqP Try.prog 120 2 2 := EqP.struct (ht := Try.ty120) _ Try.underlying120 Try.stoodInHeld120 ((FsP.cons (by kernel_rfl) rfl Try.ty3 Try.eq3 rfl rfl (FsP.cons (by kernel_rfl) rfl Try.ty28 Try.eq28 rfl rfl FsP.nil)) : FsP Try.prog 1 0 _ (1 + (1 + 0)))
instance Try.eqg120 : EqG Try.prog 120 := ⟨Try.eqGuardType120⟩
instance Try.eq121 : EqP Try.prog 121 2 2 := EqP.struct (ht := Try.ty121) _ Try.underlying121 Try.stoodInHeld121 ((FsP.cons (by kernel_rfl) rfl Try.ty3 Try.eq3 rfl rfl (FsP.cons (by kernel_rfl) rfl Try.ty28 Try.eq28 rfl rfl FsP.nil)) : FsP Try.prog 1 0 _ (1 + (1 + 0)))
instance Try.eqg121 : EqG Try.prog 121 := ⟨Try.eqGuardType121⟩
instance Try.eq135 : EqP Try.prog 135 2 2 := EqP.struct (ht := Try.ty135) _ Try.underlying135 Try.stoodInHeld135 ((FsP.cons (by kernel_rfl) rfl Try.ty3 Try.eq3 rfl rfl (FsP.cons (by kernel_rfl) rfl Try.ty3 Try.eq3 rfl rfl FsP.nil)) : FsP Try.prog 1 0 _ (1 + (1 + 0)))
instance Try.eqg135 : EqG Try.prog 135 := ⟨Try.eqGuardType135⟩
instance Try.eq136 : EqP Try.prog 136 2 2 := EqP.struct (ht := Try.ty136) _ Try.underlying136 Try.stoodInHeld136 ((FsP.cons (by kernel_rfl) rfl Try.ty3 Try.eq3 rfl rfl (FsP.cons (by kernel_rfl) rfl Try.ty3 Try.eq3 rfl rfl FsP.nil)) : FsP Try.prog 1 0 _ (1 + (1 + 0)))
instance Try.eqg136 : EqG Try.prog 136 := ⟨Try.eqGuardType136⟩
instance Try.ent3 : EntP Try.prog 3 := EntP.mk' Try.func3 (by kernel_rfl) rfl
instance Try.ent4 : EntP Try.prog 4 := EntP.mk' Try.func4 (by kernel_rfl) rfl
instance Try.ent5 : EntP Try.prog 5 := EntP.mk' Try.func5 (by kernel_rfl) rfl
instance Try.ent6 : EntP Try.prog 6 := EntP.mk' Try.func6 (by kernel_rfl) rfl
instance Try.ent7 : EntP Try.prog 7 := EntP.mk' Try.func7 (by kernel_rfl) rfl
instance Try.ent8 : EntP Try.prog 8 := EntP.mk' Try.func8 (by kernel_rfl) rfl
instance Try.ent9 : EntP Try.prog 9 := EntP.mk' Try.func9 (by kernel_rfl) rfl
instance Try.ent10 : EntP Try.prog 10 := EntP.mk' Try.func10 (by kernel_rfl) rfl
instance Try.ent11 : EntP Try.prog 11 := EntP.mk' Try.func11 (by kernel_rfl) rfl
instance Try.ent12 : EntP Try.prog 12 := EntP.mk' Try.func12 (by kernel_rfl) rfl
instance Try.ent13 : EntP Try.prog 13 := EntP.mk' Try.func13 (by kernel_rfl) rfl
instance Try.ent14 : EntP Try.prog 14 := EntP.mk' Try.func14 (by kernel_rfl) rfl
instance Try.ent15 : EntP Try.prog 15 := EntP.mk' Try.func15 (by kernel_rfl) rfl
instance Try.ent16 : EntP Try.prog 16 := EntP.mk' Try.func16 (by kernel_rfl) rfl
instance Try.ent17 : EntP Try.prog 17 := EntP.mk' Try.func17 (by kernel_rfl) rfl
instance Try.ent18 : EntP Try.prog 18 := EntP.mk' Try.func18 (by kernel_rfl) rfl
instance Try.ent19 : EntP Try.prog 19 := EntP.mk' Try.func19 (by kernel_rfl) rfl
instance Try.ent20 : EntP Try.prog 20 := EntP.mk' Try.func20 (by kernel_rfl) rfl
instance Try.ent21 : EntP Try.prog 21 := EntP.mk' Try.func21 (by kernel_rfl) rfl
instance Try.ent22 : EntP Try.prog 22 := EntP.mk' Try.func22 (by kernel_rfl) rfl
instance Try.ent23 : EntP Try.prog 23 := EntP.mk' Try.func23 (by kernel_rfl) rfl
instance Try.ent24 : EntP Try.prog 24 := EntP.mk' Try.func24 (by kernel_rfl) rfl
instance Try.ent25 : EntP Try.prog 25 := EntP.mk' Try.func25 (by kernel_rfl) rfl
instance Try.ent26 : EntP Try.prog 26 := EntP.mk' Try.func26 (by kernel_rfl) rfl
instance Try.ent27 : EntP Try.prog 27 := EntP.mk' Try.func27 (by kernel_rfl) rfl
instance Try.ent28 : EntP Try.prog 28 := EntP.mk' Try.func28 (by kernel_rfl) rfl
instance Try.ent29 : EntP Try.prog 29 := EntP.mk' Try.func29 (by kernel_rfl) rfl
instance Try.ent30 : EntP Try.prog 30 := EntP.mk' Try.func30 (by kernel_rfl) rfl
instance Try.ent31 : EntP Try.prog 31 := EntP.mk' Try.func31 (by kernel_rfl) rfl
instance Try.ent32 : EntP Try.prog 32 := EntP.mk' Try.func32 (by kernel_rfl) rfl
instance Try.ent33 : EntP Try.prog 33 := EntP.mk' Try.func33 (by kernel_rfl) rfl
instance Try.ent34 : EntP Try.prog 34 := EntP.mk' Try.func34 (by kernel_rfl) rfl
instance Try.ent35 : EntP Try.prog 35 := EntP.mk' Try.func35 (by kernel_rfl) rfl
instance Try.ent36 : EntP Try.prog 36 := EntP.mk' Try.func36 (by kernel_rfl) rfl
instance Try.ent37 : EntP Try.prog 37 := EntP.mk' Try.func37 (by kernel_rfl) rfl
instance Try.ent38 : EntP Try.prog 38 := EntP.mk' Try.func38 (by kernel_rfl) rfl
instance Try.ent39 : EntP Try.prog 39 := EntP.mk' Try.func39 (by kernel_rfl) rfl
instance Try.ent40 : EntP Try.prog 40 := EntP.mk' Try.func40 (by kernel_rfl) rfl
instance Try.ent41 : EntP Try.prog 41 := EntP.mk' Try.func41 (by kernel_rfl) rfl
instance Try.ent42 : EntP Try.prog 42 := EntP.mk' Try.func42 (by kernel_rfl) rfl
instance Try.ent43 : EntP Try.prog 43 := EntP.mk' Try.func43 (by kernel_rfl) rfl
instance Try.ent44 : EntP Try.prog 44 := EntP.mk' Try.func44 (by kernel_rfl) rfl
instance Try.ent45 : EntP Try.prog 45 := EntP.mk' Try.func45 (by kernel_rfl) rfl
instance Try.ent46 : EntP Try.prog 46 := EntP.mk' Try.func46 (by kernel_rfl) rfl
instance Try.ent47 : EntP Try.prog 47 := EntP.mk' Try.func47 (by kernel_rfl) rfl
instance Try.ent48 : EntP Try.prog 48 := EntP.mk' Try.func48 (by kernel_rfl) rfl
instance Try.ent49 : EntP Try.prog 49 := EntP.mk' Try.func49 (by kernel_rfl) rfl
instance Try.ent50 : EntP Try.prog 50 := EntP.mk' Try.func50 (by kernel_rfl) rfl
instance Try.ent51 : EntP Try.prog 51 := EntP.mk' Try.func51 (by kernel_rfl) rfl
instance Try.ent52 : EntP Try.prog 52 := EntP.mk' Try.func52 (by kernel_rfl) rfl
instance Try.ent53 : EntP Try.prog 53 := EntP.mk' Try.func53 (by kernel_rfl) rfl
instance Try.ent54 : EntP Try.prog 54 := EntP.mk' Try.func54 (by kernel_rfl) rfl
instance Try.ent55 : EntP Try.prog 55 := EntP.mk' Try.func55 (by kernel_rfl) rfl
instance Try.ent56 : EntP Try.prog 56 := EntP.mk' Try.func56 (by kernel_rfl) rfl
instance Try.ent57 : EntP Try.prog 57 := EntP.mk' Try.func57 (by kernel_rfl) rfl
instance Try.ent58 : EntP Try.prog 58 := EntP.mk' Try.func58 (by kernel_rfl) rfl
instance Try.ent59 : EntP Try.prog 59 := EntP.mk' Try.func59 (by kernel_rfl) rfl
instance Try.ent60 : EntP Try.prog 60 := EntP.mk' Try.func60 (by kernel_rfl) rfl
instance Try.ent61 : EntP Try.prog 61 := EntP.mk' Try.func61 (by kernel_rfl) rfl
instance Try.ent62 : EntP Try.prog 62 := EntP.mk' Try.func62 (by kernel_rfl) rfl
instance Try.ent63 : EntP Try.prog 63 := EntP.mk' Try.func63 (by kernel_rfl) rfl
instance Try.ent64 : EntP Try.prog 64 := EntP.mk' Try.func64 (by kernel_rfl) rfl
instance Try.ent65 : EntP Try.prog 65 := EntP.mk' Try.func65 (by kernel_rfl) rfl
instance Try.ent66 : EntP Try.prog 66 := EntP.mk' Try.func66 (by kernel_rfl) rfl
instance Try.ent67 : EntP Try.prog 67 := EntP.mk' Try.func67 (by kernel_rfl) rfl
instance Try.ent68 : EntP Try.prog 68 := EntP.mk' Try.func68 (by kernel_rfl) rfl
instance Try.ent69 : EntP Try.prog 69 := EntP.mk' Try.func69 (by kernel_rfl) rfl
instance Try.ent70 : EntP Try.prog 70 := EntP.mk' Try.func70 (by kernel_rfl) rfl
instance Try.ent71 : EntP Try.prog 71 := EntP.mk' Try.func71 (by kernel_rfl) rfl
instance Try.ent72 : EntP Try.prog 72 := EntP.mk' Try.func72 (by kernel_rfl) rfl
instance Try.ent73 : EntP Try.prog 73 := EntP.mk' Try.func73 (by kernel_rfl) rfl
instance Try.ent74 : EntP Try.prog 74 := EntP.mk' Try.func74 (by kernel_rfl) rfl
instance Try.ent75 : EntP Try.prog 75 := EntP.mk' Try.func75 (by kernel_rfl) rfl
instance Try.ent76 : EntP Try.prog 76 := EntP.mk' Try.func76 (by kernel_rfl) rfl
instance Try.ent77 : EntP Try.prog 77 := EntP.mk' Try.func77 (by kernel_rfl) rfl
instance Try.ent78 : EntP Try.prog 78 := EntP.mk' Try.func78 (by kernel_rfl) rfl
instance Try.ent79 : EntP Try.prog 79 := EntP.mk' Try.func79 (by kernel_rfl) rfl
instance Try.ent80 : EntP Try.prog 80 := EntP.mk' Try.func80 (by kernel_rfl) rfl
instance Try.ent81 : EntP Try.prog 81 := EntP.mk' Try.func81 (by kernel_rfl) rfl
instance Try.ent82 : EntP Try.prog 82 := EntP.mk' Try.func82 (by kernel_rfl) rfl
instance Try.ent83 : EntP Try.prog 83 := EntP.mk' Try.func83 (by kernel_rfl) rfl
instance Try.ent84 : EntP Try.prog 84 := EntP.mk' Try.func84 (by kernel_rfl) rfl
instance Try.ent85 : EntP Try.prog 85 := EntP.mk' Try.func85 (by kernel_rfl) rfl
instance Try.ent86 : EntP Try.prog 86 := EntP.mk' Try.func86 (by kernel_rfl) rfl
instance Try.ent87 : EntP Try.prog 87 := EntP.mk' Try.func87 (by kernel_rfl) rfl
instance Try.ent88 : EntP Try.prog 88 := EntP.mk' Try.func88 (by kernel_rfl) rfl
instance Try.ent89 : EntP Try.prog 89 := EntP.mk' Try.func89 (by kernel_rfl) rfl
instance Try.ent90 : EntP Try.prog 90 := EntP.mk' Try.func90 (by kernel_rfl) rfl
instance Try.ent91 : EntP Try.prog 91 := EntP.mk' Try.func91 (by kernel_rfl) rfl
instance Try.ent92 : EntP Try.prog 92 := EntP.mk' Try.func92 (by kernel_rfl) rfl
instance Try.ent93 : EntP Try.prog 93 := EntP.mk' Try.func93 (by kernel_rfl) rfl
instance Try.ent94 : EntP Try.prog 94 := EntP.mk' Try.func94 (by kernel_rfl) rfl
instance Try.ent95 : EntP Try.prog 95 := EntP.mk' Try.func95 (by kernel_rfl) rfl
instance Try.ent96 : EntP Try.prog 96 := EntP.mk' Try.func96 (by kernel_rfl) rfl
instance Try.ent97 : EntP Try.prog 97 := EntP.mk' Try.func97 (by kernel_rfl) rfl
instance Try.ent98 : EntP Try.prog 98 := EntP.mk' Try.func98 (by kernel_rfl) rfl
instance Try.ent99 : EntP Try.prog 99 := EntP.mk' Try.func99 (by kernel_rfl) rfl
instance Try.ent100 : EntP Try.prog 100 := EntP.mk' Try.func100 (by kernel_rfl) rfl
instance Try.ent101 : EntP Try.prog 101 := EntP.mk' Try.func101 (by kernel_rfl) rfl
instance Try.ent102 : EntP Try.prog 102 := EntP.mk' Try.func102 (by kernel_rfl) rfl
instance Try.ent103 : EntP Try.prog 103 := EntP.mk' Try.func103 (by kernel_rfl) rfl
instance Try.ent104 : EntP Try.prog 104 := EntP.mk' Try.func104 (by kernel_rfl) rfl
instance Try.ent105 : EntP Try.prog 105 := EntP.mk' Try.func105 (by kernel_rfl) rfl
end Go.Proofs
