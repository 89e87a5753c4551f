/- Facts of the program's tables, written by a program: types, fields, entries of functions. -/
import Derived.Test.YtoolblbdmmiahaaDoorEngC
import Derived.Test.YtoolblbdmmiahaaDoorProg
import Derived.KernelRfl
namespace Go.Proofs
open Go Go.Eng
theorem Tryd.mixed : Tryd.prog.follows .mixedOrders = true := by kernel_rfl
instance Tryd.ty1 : TyP Tryd.prog 1 1 false [.nilFunc] := TyP.mk' (v := .nilFunc) (by kernel_rfl) rfl Tryd.underlying1 rfl
instance Tryd.byt1 : BytP Tryd.prog 1 8 := ⟨by kernel_rfl⟩
instance Tryd.int2 : IntP Tryd.prog 2 .i64 := ⟨Tryd.underlying2⟩
instance Tryd.ty2 : TyP Tryd.prog 2 1 false [.int .i64 0] := TyP.mk' (v := .int .i64 0) (by kernel_rfl) rfl Tryd.underlying2 rfl
instance Tryd.byt2 : BytP Tryd.prog 2 8 := ⟨by kernel_rfl⟩
instance Tryd.int3 : IntP Tryd.prog 3 .i64 := ⟨Tryd.underlying3⟩
instance Tryd.ty3 : TyP Tryd.prog 3 1 false [.int .i64 0] := TyP.mk' (v := .int .i64 0) (by kernel_rfl) rfl Tryd.underlying3 rfl
instance Tryd.byt3 : BytP Tryd.prog 3 8 := ⟨by kernel_rfl⟩
instance Tryd.ty4 : TyP Tryd.prog 4 1 false [.bool false] := TyP.mk' (v := .bool false) (by kernel_rfl) rfl Tryd.underlying4 rfl
instance Tryd.byt4 : BytP Tryd.prog 4 1 := ⟨by kernel_rfl⟩
instance Tryd.int5 : IntP Tryd.prog 5 .u8 := ⟨Tryd.underlying5⟩
instance Tryd.ty5 : TyP Tryd.prog 5 1 false [.int .u8 0] := TyP.mk' (v := .int .u8 0) (by kernel_rfl) rfl Tryd.underlying5 rfl
instance Tryd.byt5 : BytP Tryd.prog 5 1 := ⟨by kernel_rfl⟩
instance Tryd.int6 : IntP Tryd.prog 6 .u8 := ⟨Tryd.underlying6⟩
instance Tryd.ty6 : TyP Tryd.prog 6 1 false [.int .u8 0] := TyP.mk' (v := .int .u8 0) (by kernel_rfl) rfl Tryd.underlying6 rfl
instance Tryd.byt6 : BytP Tryd.prog 6 1 := ⟨by kernel_rfl⟩
instance Tryd.ty7 : TyP Tryd.prog 7 4 true [.int .i64 0, .int .i64 0, .bool false, .int .u8 0] := TyP.mk' (v := .agg #[.int .i64 0, .int .i64 0, .bool false, .int .u8 0]) (by kernel_rfl) rfl Tryd.underlying7 rfl
instance Tryd.byt7 : BytP Tryd.prog 7 24 := ⟨by kernel_rfl⟩
instance Tryd.ty8 : TyP Tryd.prog 8 4 true [.int .i64 0, .int .i64 0, .bool false, .int .u8 0] := TyP.mk' (v := .agg #[.int .i64 0, .int .i64 0, .bool false, .int .u8 0]) (by kernel_rfl) rfl Tryd.underlying8 rfl
instance Tryd.byt8 : BytP Tryd.prog 8 24 := ⟨by kernel_rfl⟩
instance Tryd.int12 : IntP Tryd.prog 12 .u64 := ⟨Tryd.underlying12⟩
instance Tryd.ty12 : TyP Tryd.prog 12 1 false [.int .u64 0] := TyP.mk' (v := .int .u64 0) (by kernel_rfl) rfl Tryd.underlying12 rfl
instance Tryd.byt12 : BytP Tryd.prog 12 8 := ⟨by kernel_rfl⟩
instance Tryd.ptr15 : PtrP Tryd.prog 15 104 := ⟨Tryd.underlying15⟩
instance Tryd.ty15 : TyP Tryd.prog 15 1 false [.pointer none] := TyP.mk' (v := .pointer none) (by kernel_rfl) rfl Tryd.underlying15 rfl
instance Tryd.byt15 : BytP Tryd.prog 15 8 := ⟨by kernel_rfl⟩
instance Tryd.ptr16 : PtrP Tryd.prog 16 107 := ⟨Tryd.underlying16⟩
instance Tryd.ty16 : TyP Tryd.prog 16 1 false [.pointer none] := TyP.mk' (v := .pointer none) (by kernel_rfl) rfl Tryd.underlying16 rfl
instance Tryd.byt16 : BytP Tryd.prog 16 8 := ⟨by kernel_rfl⟩
instance Tryd.ptr17 : PtrP Tryd.prog 17 116 := ⟨Tryd.underlying17⟩
instance Tryd.ty17 : TyP Tryd.prog 17 1 false [.pointer none] := TyP.mk' (v := .pointer none) (by kernel_rfl) rfl Tryd.underlying17 rfl
instance Tryd.byt17 : BytP Tryd.prog 17 8 := ⟨by kernel_rfl⟩
instance Tryd.ty18 : TyP Tryd.prog 18 1 true [.pointer none] := TyP.mk' (v := .agg #[.pointer none]) (by kernel_rfl) rfl Tryd.underlying18 rfl
instance Tryd.byt18 : BytP Tryd.prog 18 8 := ⟨by kernel_rfl⟩
instance Tryd.ty19 : TyP Tryd.prog 19 1 true [.pointer none] := TyP.mk' (v := .agg #[.pointer none]) (by kernel_rfl) rfl Tryd.underlying19 rfl
instance Tryd.byt19 : BytP Tryd.prog 19 8 := ⟨by kernel_rfl⟩
instance Tryd.ty20 : TyP Tryd.prog 20 1 false [.nilIface] := TyP.mk' (v := .nilIface) (by kernel_rfl) rfl Tryd.underlying20 rfl
instance Tryd.byt20 : BytP Tryd.prog 20 16 := ⟨by kernel_rfl⟩
instance Tryd.int21 : IntP Tryd.prog 21 .i32 := ⟨Tryd.underlying21⟩
instance Tryd.ty21 : TyP Tryd.prog 21 1 false [.int .i32 0] := TyP.mk' (v := .int .i32 0) (by kernel_rfl) rfl Tryd.underlying21 rfl
instance Tryd.byt21 : BytP Tryd.prog 21 4 := ⟨by kernel_rfl⟩
instance Tryd.ty22 : TyP Tryd.prog 22 1 false [.nilFunc] := TyP.mk' (v := .nilFunc) (by kernel_rfl) rfl Tryd.underlying22 rfl
instance Tryd.byt22 : BytP Tryd.prog 22 8 := ⟨by kernel_rfl⟩
instance Tryd.ty23 : TyP Tryd.prog 23 2 true [.int .i64 0, .int .i64 0] := TyP.mk' (v := .agg #[.int .i64 0, .int .i64 0]) (by kernel_rfl) rfl Tryd.underlying23 rfl
instance Tryd.byt23 : BytP Tryd.prog 23 16 := ⟨by kernel_rfl⟩
instance Tryd.ty24 : TyP Tryd.prog 24 2 true [.int .i64 0, .int .i64 0] := TyP.mk' (v := .agg #[.int .i64 0, .int .i64 0]) (by kernel_rfl) rfl Tryd.underlying24 rfl
instance Tryd.byt24 : BytP Tryd.prog 24 16 := ⟨by kernel_rfl⟩
instance Tryd.int25 : IntP Tryd.prog 25 .i64 := ⟨Tryd.underlying25⟩
instance Tryd.ty25 : TyP Tryd.prog 25 1 false [.int .i64 0] := TyP.mk' (v := .int .i64 0) (by kernel_rfl) rfl Tryd.underlying25 rfl
instance Tryd.byt25 : BytP Tryd.prog 25 8 := ⟨by kernel_rfl⟩
instance Tryd.ty27 : TyP Tryd.prog 27 1 false [.nilFunc] := TyP.mk' (v := .nilFunc) (by kernel_rfl) rfl Tryd.underlying27 rfl
instance Tryd.byt27 : BytP Tryd.prog 27 8 := ⟨by kernel_rfl⟩
instance Tryd.slc28 : SlcP Tryd.prog 28 49 := ⟨Tryd.underlying28⟩
instance Tryd.ty28 : TyP Tryd.prog 28 1 false [.slice none 0 0] := TyP.mk' (v := .slice none 0 0) (by kernel_rfl) rfl Tryd.underlying28 rfl
instance Tryd.byt28 : BytP Tryd.prog 28 24 := ⟨by kernel_rfl⟩
instance Tryd.slc29 : SlcP Tryd.prog 29 59 := ⟨Tryd.underlying29⟩
instance Tryd.ty29 : TyP Tryd.prog 29 1 false [.slice none 0 0] := TyP.mk' (v := .slice none 0 0) (by kernel_rfl) rfl Tryd.underlying29 rfl
instance Tryd.byt29 : BytP Tryd.prog 29 24 := ⟨by kernel_rfl⟩
instance Tryd.slc30 : SlcP Tryd.prog 30 61 := ⟨Tryd.underlying30⟩
instance Tryd.ty30 : TyP Tryd.prog 30 1 false [.slice none 0 0] := TyP.mk' (v := .slice none 0 0) (by kernel_rfl) rfl Tryd.underlying30 rfl
instance Tryd.byt30 : BytP Tryd.prog 30 24 := ⟨by kernel_rfl⟩
instance Tryd.ty31 : TyP Tryd.prog 31 4 true [.int .i64 0, .slice none 0 0, .slice none 0 0, .slice none 0 0] := TyP.mk' (v := .agg #[.int .i64 0, .slice none 0 0, .slice none 0 0, .slice none 0 0]) (by kernel_rfl) rfl Tryd.underlying31 rfl
instance Tryd.byt31 : BytP Tryd.prog 31 80 := ⟨by kernel_rfl⟩
instance Tryd.ty32 : TyP Tryd.prog 32 4 true [.int .i64 0, .slice none 0 0, .slice none 0 0, .slice none 0 0] := TyP.mk' (v := .agg #[.int .i64 0, .slice none 0 0, .slice none 0 0, .slice none 0 0]) (by kernel_rfl) rfl Tryd.underlying32 rfl
instance Tryd.byt32 : BytP Tryd.prog 32 80 := ⟨by kernel_rfl⟩
instance Tryd.ty33 : TyP Tryd.prog 33 1 false [.nilFunc] := TyP.mk' (v := .nilFunc) (by kernel_rfl) rfl Tryd.underlying33 rfl
instance Tryd.byt33 : BytP Tryd.prog 33 8 := ⟨by kernel_rfl⟩
instance Tryd.ty34 : TyP Tryd.prog 34 1 false [.nilFunc] := TyP.mk' (v := .nilFunc) (by kernel_rfl) rfl Tryd.underlying34 rfl
instance Tryd.byt34 : BytP Tryd.prog 34 8 := ⟨by kernel_rfl⟩
instance Tryd.slc35 : SlcP Tryd.prog 35 3 := ⟨Tryd.underlying35⟩
instance Tryd.ty35 : TyP Tryd.prog 35 1 false [.slice none 0 0] := TyP.mk' (v := .slice none 0 0) (by kernel_rfl) rfl Tryd.underlying35 rfl
instance Tryd.byt35 : BytP Tryd.prog 35 24 := ⟨by kernel_rfl⟩
instance Tryd.ty37 : TyP Tryd.prog 37 1 false [.nilFunc] := TyP.mk' (v := .nilFunc) (by kernel_rfl) rfl Tryd.underlying37 rfl
instance Tryd.byt37 : BytP Tryd.prog 37 8 := ⟨by kernel_rfl⟩
instance Tryd.ty39 : TyP Tryd.prog 39 1 false [.nilFunc] := TyP.mk' (v := .nilFunc) (by kernel_rfl) rfl Tryd.underlying39 rfl
instance Tryd.byt39 : BytP Tryd.prog 39 8 := ⟨by kernel_rfl⟩
instance Tryd.ty40 : TyP Tryd.prog 40 1 false [.nilFunc] := TyP.mk' (v := .nilFunc) (by kernel_rfl) rfl Tryd.underlying40 rfl
instance Tryd.byt40 : BytP Tryd.prog 40 8 := ⟨by kernel_rfl⟩
instance Tryd.slc41 : SlcP Tryd.prog 41 24 := ⟨Tryd.underlying41⟩
instance Tryd.ty41 : TyP Tryd.prog 41 1 false [.slice none 0 0] := TyP.mk' (v := .slice none 0 0) (by kernel_rfl) rfl Tryd.underlying41 rfl
instance Tryd.byt41 : BytP Tryd.prog 41 24 := ⟨by kernel_rfl⟩
instance Tryd.ty43 : TyP Tryd.prog 43 1 false [.nilFunc] := TyP.mk' (v := .nilFunc) (by kernel_rfl) rfl Tryd.underlying43 rfl
instance Tryd.byt43 : BytP Tryd.prog 43 8 := ⟨by kernel_rfl⟩
instance Tryd.ty44 : TyP Tryd.prog 44 1 false [.nilFunc] := TyP.mk' (v := .nilFunc) (by kernel_rfl) rfl Tryd.underlying44 rfl
instance Tryd.byt44 : BytP Tryd.prog 44 8 := ⟨by kernel_rfl⟩
instance Tryd.slc45 : SlcP Tryd.prog 45 5 := ⟨Tryd.underlying45⟩
instance Tryd.ty45 : TyP Tryd.prog 45 1 false [.slice none 0 0] := TyP.mk' (v := .slice none 0 0) (by kernel_rfl) rfl Tryd.underlying45 rfl
instance Tryd.byt45 : BytP Tryd.prog 45 24 := ⟨by kernel_rfl⟩
instance Tryd.ty47 : TyP Tryd.prog 47 1 false [.nilFunc] := TyP.mk' (v := .nilFunc) (by kernel_rfl) rfl Tryd.underlying47 rfl
instance Tryd.byt47 : BytP Tryd.prog 47 8 := ⟨by kernel_rfl⟩
instance Tryd.ty48 : TyP Tryd.prog 48 4 true [.int .i64 0, .int .i64 0, .int .i64 0, .int .i64 0] := TyP.mk' (v := .agg #[.int .i64 0, .int .i64 0, .int .i64 0, .int .i64 0]) (by kernel_rfl) rfl Tryd.underlying48 rfl
instance Tryd.byt48 : BytP Tryd.prog 48 32 := ⟨by kernel_rfl⟩
instance Tryd.ty49 : TyP Tryd.prog 49 4 true [.int .i64 0, .int .i64 0, .int .i64 0, .int .i64 0] := TyP.mk' (v := .agg #[.int .i64 0, .int .i64 0, .int .i64 0, .int .i64 0]) (by kernel_rfl) rfl Tryd.underlying49 rfl
instance Tryd.byt49 : BytP Tryd.prog 49 32 := ⟨by kernel_rfl⟩
instance Tryd.ty50 : TyP Tryd.prog 50 1 false [.nilFunc] := TyP.mk' (v := .nilFunc) (by kernel_rfl) rfl Tryd.underlying50 rfl
instance Tryd.byt50 : BytP Tryd.prog 50 8 := ⟨by kernel_rfl⟩
instance Tryd.ty51 : TyP Tryd.prog 51 1 false [.nilFunc] := TyP.mk' (v := .nilFunc) (by kernel_rfl) rfl Tryd.underlying51 rfl
instance Tryd.byt51 : BytP Tryd.prog 51 8 := ⟨by kernel_rfl⟩
instance Tryd.ty52 : TyP Tryd.prog 52 1 false [.nilFunc] := TyP.mk' (v := .nilFunc) (by kernel_rfl) rfl Tryd.underlying52 rfl
instance Tryd.byt52 : BytP Tryd.prog 52 8 := ⟨by kernel_rfl⟩
instance Tryd.ty53 : TyP Tryd.prog 53 1 false [.nilFunc] := TyP.mk' (v := .nilFunc) (by kernel_rfl) rfl Tryd.underlying53 rfl
instance Tryd.byt53 : BytP Tryd.prog 53 8 := ⟨by kernel_rfl⟩
instance Tryd.ptr54 : PtrP Tryd.prog 54 76 := ⟨Tryd.underlying54⟩
instance Tryd.ty54 : TyP Tryd.prog 54 1 false [.pointer none] := TyP.mk' (v := .pointer none) (by kernel_rfl) rfl Tryd.underlying54 rfl
instance Tryd.byt54 : BytP Tryd.prog 54 8 := ⟨by kernel_rfl⟩
instance Tryd.ty56 : TyP Tryd.prog 56 1 false [.nilFunc] := TyP.mk' (v := .nilFunc) (by kernel_rfl) rfl Tryd.underlying56 rfl
instance Tryd.byt56 : BytP Tryd.prog 56 8 := ⟨by kernel_rfl⟩
instance Tryd.ty57 : TyP Tryd.prog 57 1 false [.nilFunc] := TyP.mk' (v := .nilFunc) (by kernel_rfl) rfl Tryd.underlying57 rfl
instance Tryd.byt57 : BytP Tryd.prog 57 8 := ⟨by kernel_rfl⟩
instance Tryd.ty58 : TyP Tryd.prog 58 3 true [.int .i64 0, .int .i64 0, .int .i64 0] := TyP.mk' (v := .agg #[.int .i64 0, .int .i64 0, .int .i64 0]) (by kernel_rfl) rfl Tryd.underlying58 rfl
instance Tryd.byt58 : BytP Tryd.prog 58 24 := ⟨by kernel_rfl⟩
instance Tryd.ty59 : TyP Tryd.prog 59 3 true [.int .i64 0, .int .i64 0, .int .i64 0] := TyP.mk' (v := .agg #[.int .i64 0, .int .i64 0, .int .i64 0]) (by kernel_rfl) rfl Tryd.underlying59 rfl
instance Tryd.byt59 : BytP Tryd.prog 59 24 := ⟨by kernel_rfl⟩
instance Tryd.ty60 : TyP Tryd.prog 60 4 true [.int .i64 0, .int .i64 0, .int .i64 0, .int .i64 0] := TyP.mk' (v := .agg #[.int .i64 0, .int .i64 0, .int .i64 0, .int .i64 0]) (by kernel_rfl) rfl Tryd.underlying60 rfl
instance Tryd.byt60 : BytP Tryd.prog 60 32 := ⟨by kernel_rfl⟩
instance Tryd.ty61 : TyP Tryd.prog 61 4 true [.int .i64 0, .int .i64 0, .int .i64 0, .int .i64 0] := TyP.mk' (v := .agg #[.int .i64 0, .int .i64 0, .int .i64 0, .int .i64 0]) (by kernel_rfl) rfl Tryd.underlying61 rfl
instance Tryd.byt61 : BytP Tryd.prog 61 32 := ⟨by kernel_rfl⟩
instance Tryd.ty62 : TyP Tryd.prog 62 1 false [.nilFunc] := TyP.mk' (v := .nilFunc) (by kernel_rfl) rfl Tryd.underlying62 rfl
instance Tryd.byt62 : BytP Tryd.prog 62 8 := ⟨by kernel_rfl⟩
instance Tryd.map64 : MapP Tryd.prog 64 3 4 := ⟨Tryd.underlying64⟩
instance Tryd.ty64 : TyP Tryd.prog 64 1 false [.map none] := TyP.mk' (v := .map none) (by kernel_rfl) rfl Tryd.underlying64 rfl
instance Tryd.byt64 : BytP Tryd.prog 64 8 := ⟨by kernel_rfl⟩
instance Tryd.ty65 : TyP Tryd.prog 65 6 true [.int .i64 0, .slice none 0 0, .slice none 0 0, .slice none 0 0, .map none, .int .i64 0] := TyP.mk' (v := .agg #[.int .i64 0, .slice none 0 0, .slice none 0 0, .slice none 0 0, .map none, .int .i64 0]) (by kernel_rfl) rfl Tryd.underlying65 rfl
instance Tryd.byt65 : BytP Tryd.prog 65 96 := ⟨by kernel_rfl⟩
instance Tryd.ty66 : TyP Tryd.prog 66 6 true [.int .i64 0, .slice none 0 0, .slice none 0 0, .slice none 0 0, .map none, .int .i64 0] := TyP.mk' (v := .agg #[.int .i64 0, .slice none 0 0, .slice none 0 0, .slice none 0 0, .map none, .int .i64 0]) (by kernel_rfl) rfl Tryd.underlying66 rfl
instance Tryd.byt66 : BytP Tryd.prog 66 96 := ⟨by kernel_rfl⟩
instance Tryd.ty67 : TyP Tryd.prog 67 1 false [.nilFunc] := TyP.mk' (v := .nilFunc) (by kernel_rfl) rfl Tryd.underlying67 rfl
instance Tryd.byt67 : BytP Tryd.prog 67 8 := ⟨by kernel_rfl⟩
instance Tryd.ty68 : TyP Tryd.prog 68 1 false [.nilFunc] := TyP.mk' (v := .nilFunc) (by kernel_rfl) rfl Tryd.underlying68 rfl
instance Tryd.byt68 : BytP Tryd.prog 68 8 := ⟨by kernel_rfl⟩
instance Tryd.ty69 : TyP Tryd.prog 69 1 false [.nilFunc] := TyP.mk' (v := .nilFunc) (by kernel_rfl) rfl Tryd.underlying69 rfl
instance Tryd.byt69 : BytP Tryd.prog 69 8 := ⟨by kernel_rfl⟩
instance Tryd.ty70 : TyP Tryd.prog 70 1 false [.nilFunc] := TyP.mk' (v := .nilFunc) (by kernel_rfl) rfl Tryd.underlying70 rfl
instance Tryd.byt70 : BytP Tryd.prog 70 8 := ⟨by kernel_rfl⟩
instance Tryd.ty71 : TyP Tryd.prog 71 1 false [.nilFunc] := TyP.mk' (v := .nilFunc) (by kernel_rfl) rfl Tryd.underlying71 rfl
instance Tryd.byt71 : BytP Tryd.prog 71 8 := ⟨by kernel_rfl⟩
instance Tryd.ty72 : TyP Tryd.prog 72 1 false [.nilFunc] := TyP.mk' (v := .nilFunc) (by kernel_rfl) rfl Tryd.underlying72 rfl
instance Tryd.byt72 : BytP Tryd.prog 72 8 := ⟨by kernel_rfl⟩
instance Tryd.ty73 : TyP Tryd.prog 73 1 false [.nilFunc] := TyP.mk' (v := .nilFunc) (by kernel_rfl) rfl Tryd.underlying73 rfl
instance Tryd.byt73 : BytP Tryd.prog 73 8 := ⟨by kernel_rfl⟩
instance Tryd.ary74 : AryP Tryd.prog 74 21 3 := ⟨Tryd.underlying74⟩
instance Tryd.ty74 : TyP Tryd.prog 74 21 true [.int .i64 0, .int .i64 0, .int .i64 0, .int .i64 0, .int .i64 0, .int .i64 0, .int .i64 0, .int .i64 0, .int .i64 0, .int .i64 0, .int .i64 0, .int .i64 0, .int .i64 0, .int .i64 0, .int .i64 0, .int .i64 0, .int .i64 0, .int .i64 0, .int .i64 0, .int .i64 0, .int .i64 0] := TyP.mk' (v := .agg #[.int .i64 0, .int .i64 0, .int .i64 0, .int .i64 0, .int .i64 0, .int .i64 0, .int .i64 0, .int .i64 0, .int .i64 0, .int .i64 0, .int .i64 0, .int .i64 0, .int .i64 0, .int .i64 0, .int .i64 0, .int .i64 0, .int .i64 0, .int .i64 0, .int .i64 0, .int .i64 0, .int .i64 0]) (by kernel_rfl) rfl Tryd.underlying74 rfl
instance Tryd.byt74 : BytP Tryd.prog 74 168 := ⟨by kernel_rfl⟩
instance Tryd.ary75 : AryP Tryd.prog 75 21 74 := ⟨Tryd.underlying75⟩
instance Tryd.ty75 : TyP Tryd.prog 75 441 true (List.replicate 441 (.int .i64 0)) := TyP.mk' (v := .agg (Array.replicate 441 (.int .i64 0))) (by kernel_rfl) (by kernel_rfl) Tryd.underlying75 rfl
instance Tryd.ty76 : TyP Tryd.prog 76 441 true (List.replicate 441 (.int .i64 0)) := TyP.mk' (v := .agg (Array.replicate 441 (.int .i64 0))) (by kernel_rfl) (by kernel_rfl) Tryd.underlying76 rfl
instance Tryd.ary76 : AryP Tryd.prog 76 21 74 := ⟨Tryd.underlying76⟩
instance Tryd.ty77 : TyP Tryd.prog 77 3 true [.int .i64 0, .int .i64 0, .int .i64 0] := TyP.mk' (v := .agg #[.int .i64 0, .int .i64 0, .int .i64 0]) (by kernel_rfl) rfl Tryd.underlying77 rfl
instance Tryd.byt77 : BytP Tryd.prog 77 24 := ⟨by kernel_rfl⟩
instance Tryd.ty78 : TyP Tryd.prog 78 3 true [.int .i64 0, .int .i64 0, .int .i64 0] := TyP.mk' (v := .agg #[.int .i64 0, .int .i64 0, .int .i64 0]) (by kernel_rfl) rfl Tryd.underlying78 rfl
instance Tryd.byt78 : BytP Tryd.prog 78 24 := ⟨by kernel_rfl⟩
instance Tryd.ty79 : TyP Tryd.prog 79 1 false [.nilFunc] := TyP.mk' (v := .nilFunc) (by kernel_rfl) rfl Tryd.underlying79 rfl
instance Tryd.byt79 : BytP Tryd.prog 79 8 := ⟨by kernel_rfl⟩
instance Tryd.ty80 : TyP Tryd.prog 80 1 false [.nilFunc] := TyP.mk' (v := .nilFunc) (by kernel_rfl) rfl Tryd.underlying80 rfl
instance Tryd.byt80 : BytP Tryd.prog 80 8 := ⟨by kernel_rfl⟩
instance Tryd.ty81 : TyP Tryd.prog 81 1 false [.nilFunc] := TyP.mk' (v := .nilFunc) (by kernel_rfl) rfl Tryd.underlying81 rfl
instance Tryd.byt81 : BytP Tryd.prog 81 8 := ⟨by kernel_rfl⟩
instance Tryd.ty82 : TyP Tryd.prog 82 1 false [.nilFunc] := TyP.mk' (v := .nilFunc) (by kernel_rfl) rfl Tryd.underlying82 rfl
instance Tryd.byt82 : BytP Tryd.prog 82 8 := ⟨by kernel_rfl⟩
instance Tryd.ty83 : TyP Tryd.prog 83 1 false [.nilFunc] := TyP.mk' (v := .nilFunc) (by kernel_rfl) rfl Tryd.underlying83 rfl
instance Tryd.byt83 : BytP Tryd.prog 83 8 := ⟨by kernel_rfl⟩
instance Tryd.ty84 : TyP Tryd.prog 84 1 false [.nilFunc] := TyP.mk' (v := .nilFunc) (by kernel_rfl) rfl Tryd.underlying84 rfl
instance Tryd.byt84 : BytP Tryd.prog 84 8 := ⟨by kernel_rfl⟩
instance Tryd.ty85 : TyP Tryd.prog 85 1 false [.nilFunc] := TyP.mk' (v := .nilFunc) (by kernel_rfl) rfl Tryd.underlying85 rfl
instance Tryd.byt85 : BytP Tryd.prog 85 8 := ⟨by kernel_rfl⟩
instance Tryd.ty86 : TyP Tryd.prog 86 1 false [.nilFunc] := TyP.mk' (v := .nilFunc) (by kernel_rfl) rfl Tryd.underlying86 rfl
instance Tryd.byt86 : BytP Tryd.prog 86 8 := ⟨by kernel_rfl⟩
instance Tryd.ary87 : AryP Tryd.prog 87 24 5 := ⟨Tryd.underlying87⟩
instance Tryd.ty87 : TyP Tryd.prog 87 24 true [.int .u8 0, .int .u8 0, .int .u8 0, .int .u8 0, .int .u8 0, .int .u8 0, .int .u8 0, .int .u8 0, .int .u8 0, .int .u8 0, .int .u8 0, .int .u8 0, .int .u8 0, .int .u8 0, .int .u8 0, .int .u8 0, .int .u8 0, .int .u8 0, .int .u8 0, .int .u8 0, .int .u8 0, .int .u8 0, .int .u8 0, .int .u8 0] := TyP.mk' (v := .agg #[.int .u8 0, .int .u8 0, .int .u8 0, .int .u8 0, .int .u8 0, .int .u8 0, .int .u8 0, .int .u8 0, .int .u8 0, .int .u8 0, .int .u8 0, .int .u8 0, .int .u8 0, .int .u8 0, .int .u8 0, .int .u8 0, .int .u8 0, .int .u8 0, .int .u8 0, .int .u8 0, .int .u8 0, .int .u8 0, .int .u8 0, .int .u8 0]) (by kernel_rfl) rfl Tryd.underlying87 rfl
instance Tryd.byt87 : BytP Tryd.prog 87 24 := ⟨by kernel_rfl⟩
instance Tryd.int88 : IntP Tryd.prog 88 .u64 := ⟨Tryd.underlying88⟩
instance Tryd.ty88 : TyP Tryd.prog 88 1 false [.int .u64 0] := TyP.mk' (v := .int .u64 0) (by kernel_rfl) rfl Tryd.underlying88 rfl
instance Tryd.byt88 : BytP Tryd.prog 88 8 := ⟨by kernel_rfl⟩
instance Tryd.ty89 : TyP Tryd.prog 89 1 false [.nilFunc] := TyP.mk' (v := .nilFunc) (by kernel_rfl) rfl Tryd.underlying89 rfl
instance Tryd.byt89 : BytP Tryd.prog 89 8 := ⟨by kernel_rfl⟩
instance Tryd.ty90 : TyP Tryd.prog 90 1 false [.nilFunc] := TyP.mk' (v := .nilFunc) (by kernel_rfl) rfl Tryd.underlying90 rfl
instance Tryd.byt90 : BytP Tryd.prog 90 8 := ⟨by kernel_rfl⟩
instance Tryd.ty92 : TyP Tryd.prog 92 1 false [.nilFunc] := TyP.mk' (v := .nilFunc) (by kernel_rfl) rfl Tryd.underlying92 rfl
instance Tryd.byt92 : BytP Tryd.prog 92 8 := ⟨by kernel_rfl⟩
instance Tryd.ty93 : TyP Tryd.prog 93 1 false [.nilFunc] := TyP.mk' (v := .nilFunc) (by kernel_rfl) rfl Tryd.underlying93 rfl
instance Tryd.byt93 : BytP Tryd.prog 93 8 := ⟨by kernel_rfl⟩
instance Tryd.ty94 : TyP Tryd.prog 94 1 false [.nilFunc] := TyP.mk' (v := .nilFunc) (by kernel_rfl) rfl Tryd.underlying94 rfl
instance Tryd.byt94 : BytP Tryd.prog 94 8 := ⟨by kernel_rfl⟩
instance Tryd.ary95 : AryP Tryd.prog 95 20 88 := ⟨Tryd.underlying95⟩
instance Tryd.ty95 : TyP Tryd.prog 95 20 true [.int .u64 0, .int .u64 0, .int .u64 0, .int .u64 0, .int .u64 0, .int .u64 0, .int .u64 0, .int .u64 0, .int .u64 0, .int .u64 0, .int .u64 0, .int .u64 0, .int .u64 0, .int .u64 0, .int .u64 0, .int .u64 0, .int .u64 0, .int .u64 0, .int .u64 0, .int .u64 0] := TyP.mk' (v := .agg #[.int .u64 0, .int .u64 0, .int .u64 0, .int .u64 0, .int .u64 0, .int .u64 0, .int .u64 0, .int .u64 0, .int .u64 0, .int .u64 0, .int .u64 0, .int .u64 0, .int .u64 0, .int .u64 0, .int .u64 0, .int .u64 0, .int .u64 0, .int .u64 0, .int .u64 0, .int .u64 0]) (by kernel_rfl) rfl Tryd.underlying95 rfl
instance Tryd.byt95 : BytP Tryd.prog 95 160 := ⟨by kernel_rfl⟩
instance Tryd.int96 : IntP Tryd.prog 96 .u32 := ⟨Tryd.underlying96⟩
instance Tryd.ty96 : TyP Tryd.prog 96 1 false [.int .u32 0] := TyP.mk' (v := .int .u32 0) (by kernel_rfl) rfl Tryd.underlying96 rfl
instance Tryd.byt96 : BytP Tryd.prog 96 4 := ⟨by kernel_rfl⟩
instance Tryd.ary97 : AryP Tryd.prog 97 65 5 := ⟨Tryd.underlying97⟩
instance Tryd.int98 : IntP Tryd.prog 98 .u64 := ⟨Tryd.underlying98⟩
instance Tryd.ty98 : TyP Tryd.prog 98 1 false [.int .u64 0] := TyP.mk' (v := .int .u64 0) (by kernel_rfl) rfl Tryd.underlying98 rfl
instance Tryd.byt98 : BytP Tryd.prog 98 8 := ⟨by kernel_rfl⟩
instance Tryd.ty99 : TyP Tryd.prog 99 1 false [.nilFunc] := TyP.mk' (v := .nilFunc) (by kernel_rfl) rfl Tryd.underlying99 rfl
instance Tryd.byt99 : BytP Tryd.prog 99 8 := ⟨by kernel_rfl⟩
instance Tryd.ty100 : TyP Tryd.prog 100 1 false [.nilFunc] := TyP.mk' (v := .nilFunc) (by kernel_rfl) rfl Tryd.underlying100 rfl
instance Tryd.byt100 : BytP Tryd.prog 100 8 := ⟨by kernel_rfl⟩
instance Tryd.ary101 : AryP Tryd.prog 101 32 5 := ⟨Tryd.underlying101⟩
instance Tryd.ty101 : TyP Tryd.prog 101 32 true [.int .u8 0, .int .u8 0, .int .u8 0, .int .u8 0, .int .u8 0, .int .u8 0, .int .u8 0, .int .u8 0, .int .u8 0, .int .u8 0, .int .u8 0, .int .u8 0, .int .u8 0, .int .u8 0, .int .u8 0, .int .u8 0, .int .u8 0, .int .u8 0, .int .u8 0, .int .u8 0, .int .u8 0, .int .u8 0, .int .u8 0, .int .u8 0, .int .u8 0, .int .u8 0, .int .u8 0, .int .u8 0, .int .u8 0, .int .u8 0, .int .u8 0, .int .u8 0] := TyP.mk' (v := .agg #[.int .u8 0, .int .u8 0, .int .u8 0, .int .u8 0, .int .u8 0, .int .u8 0, .int .u8 0, .int .u8 0, .int .u8 0, .int .u8 0, .int .u8 0, .int .u8 0, .int .u8 0, .int .u8 0, .int .u8 0, .int .u8 0, .int .u8 0, .int .u8 0, .int .u8 0, .int .u8 0, .int .u8 0, .int .u8 0, .int .u8 0, .int .u8 0, .int .u8 0, .int .u8 0, .int .u8 0, .int .u8 0, .int .u8 0, .int .u8 0, .int .u8 0, .int .u8 0]) (by kernel_rfl) rfl Tryd.underlying101 rfl
instance Tryd.byt101 : BytP Tryd.prog 101 32 := ⟨by kernel_rfl⟩
instance Tryd.ary102 : AryP Tryd.prog 102 64 5 := ⟨Tryd.underlying102⟩
instance Tryd.ary105 : AryP Tryd.prog 105 0 16 := ⟨Tryd.underlying105⟩
instance Tryd.ty105 : TyP Tryd.prog 105 0 true [] := TyP.mk' (v := .agg #[]) (by kernel_rfl) rfl Tryd.underlying105 rfl
instance Tryd.byt105 : BytP Tryd.prog 105 0 := ⟨by kernel_rfl⟩
instance Tryd.ty106 : TyP Tryd.prog 106 0 true [] := TyP.mk' (v := .agg #[]) (by kernel_rfl) rfl Tryd.underlying106 rfl
instance Tryd.byt106 : BytP Tryd.prog 106 0 := ⟨by kernel_rfl⟩
instance Tryd.ty107 : TyP Tryd.prog 107 0 true [] := TyP.mk' (v := .agg #[]) (by kernel_rfl) rfl Tryd.underlying107 rfl
instance Tryd.byt107 : BytP Tryd.prog 107 0 := ⟨by kernel_rfl⟩
instance Tryd.ty108 : TyP Tryd.prog 108 1 false [.nilFunc] := TyP.mk' (v := .nilFunc) (by kernel_rfl) rfl Tryd.underlying108 rfl
instance Tryd.byt108 : BytP Tryd.prog 108 8 := ⟨by kernel_rfl⟩
instance Tryd.int109 : IntP Tryd.prog 109 .u8 := ⟨Tryd.underlying109⟩
instance Tryd.ty109 : TyP Tryd.prog 109 1 false [.int .u8 0] := TyP.mk' (v := .int .u8 0) (by kernel_rfl) rfl Tryd.underlying109 rfl
instance Tryd.byt109 : BytP Tryd.prog 109 1 := ⟨by kernel_rfl⟩
instance Tryd.int110 : IntP Tryd.prog 110 .u8 := ⟨Tryd.underlying110⟩
instance Tryd.ty110 : TyP Tryd.prog 110 1 false [.int .u8 0] := TyP.mk' (v := .int .u8 0) (by kernel_rfl) rfl Tryd.underlying110 rfl
instance Tryd.byt110 : BytP Tryd.prog 110 1 := ⟨by kernel_rfl⟩
instance Tryd.ty111 : TyP Tryd.prog 111 1 false [.nilFunc] := TyP.mk' (v := .nilFunc) (by kernel_rfl) rfl Tryd.underlying111 rfl
instance Tryd.byt111 : BytP Tryd.prog 111 8 := ⟨by kernel_rfl⟩
instance Tryd.ptr112 : PtrP Tryd.prog 112 5 := ⟨Tryd.underlying112⟩
instance Tryd.ty112 : TyP Tryd.prog 112 1 false [.pointer none] := TyP.mk' (v := .pointer none) (by kernel_rfl) rfl Tryd.underlying112 rfl
instance Tryd.byt112 : BytP Tryd.prog 112 8 := ⟨by kernel_rfl⟩
instance Tryd.int113 : IntP Tryd.prog 113 .i32 := ⟨Tryd.underlying113⟩
instance Tryd.ty113 : TyP Tryd.prog 113 1 false [.int .i32 0] := TyP.mk' (v := .int .i32 0) (by kernel_rfl) rfl Tryd.underlying113 rfl
instance Tryd.byt113 : BytP Tryd.prog 113 4 := ⟨by kernel_rfl⟩
instance Tryd.int114 : IntP Tryd.prog 114 .i32 := ⟨Tryd.underlying114⟩
instance Tryd.ty114 : TyP Tryd.prog 114 1 false [.int .i32 0] := TyP.mk' (v := .int .i32 0) (by kernel_rfl) rfl Tryd.underlying114 rfl
instance Tryd.byt114 : BytP Tryd.prog 114 4 := ⟨by kernel_rfl⟩
instance Tryd.ty115 : TyP Tryd.prog 115 11 true [.int .u64 0, .int .u64 0, .int .u32 0, .int .u8 0, .int .u8 0, .int .u8 0, .int .u8 0, .nilFunc, .pointer none, .int .i32 0, .int .i32 0] := TyP.mk' (v := .agg #[.int .u64 0, .int .u64 0, .int .u32 0, .int .u8 0, .int .u8 0, .int .u8 0, .int .u8 0, .nilFunc, .pointer none, .int .i32 0, .int .i32 0]) (by kernel_rfl) rfl Tryd.underlying115 rfl
instance Tryd.byt115 : BytP Tryd.prog 115 48 := ⟨by kernel_rfl⟩
instance Tryd.ty116 : TyP Tryd.prog 116 11 true [.int .u64 0, .int .u64 0, .int .u32 0, .int .u8 0, .int .u8 0, .int .u8 0, .int .u8 0, .nilFunc, .pointer none, .int .i32 0, .int .i32 0] := TyP.mk' (v := .agg #[.int .u64 0, .int .u64 0, .int .u32 0, .int .u8 0, .int .u8 0, .int .u8 0, .int .u8 0, .nilFunc, .pointer none, .int .i32 0, .int .i32 0]) (by kernel_rfl) rfl Tryd.underlying116 rfl
instance Tryd.byt116 : BytP Tryd.prog 116 48 := ⟨by kernel_rfl⟩
instance Tryd.ty117 : TyP Tryd.prog 117 1 false [.pointer none] := TyP.mk' (v := .pointer none) (by kernel_rfl) rfl Tryd.underlying117 rfl
instance Tryd.byt117 : BytP Tryd.prog 117 8 := ⟨by kernel_rfl⟩
instance Tryd.st7 : StP Tryd.prog 7 [.int .i64 0, .int .i64 0, .bool false, .int .u8 0] [(0, 1), (1, 1), (2, 1), (3, 1)] := StP.mk' Tryd.ty7 Tryd.underlying7 (by kernel_rfl)
instance Tryd.fv7_0 : FldV Tryd.prog 7 0 0 1 false := FldV.mk' Tryd.underlying7 rfl rfl Tryd.ty2
instance Tryd.fld7_0 : FldP Tryd.prog 7 0 0 := FldP.mk' (sz := 1) Tryd.underlying7 rfl rfl (by kernel_rfl) rfl
instance Tryd.fv7_1 : FldV Tryd.prog 7 1 1 1 false := FldV.mk' Tryd.underlying7 rfl rfl Tryd.ty3
instance Tryd.fld7_1 : FldP Tryd.prog 7 1 1 := FldP.mk' (sz := 1) Tryd.underlying7 rfl rfl (by kernel_rfl) rfl
instance Tryd.fv7_2 : FldV Tryd.prog 7 2 2 1 false := FldV.mk' Tryd.underlying7 rfl rfl Tryd.ty4
instance Tryd.fld7_2 : FldP Tryd.prog 7 2 2 := FldP.mk' (sz := 1) Tryd.underlying7 rfl rfl (by kernel_rfl) rfl
instance Tryd.fv7_3 : FldV Tryd.prog 7 3 3 1 false := FldV.mk' Tryd.underlying7 rfl rfl Tryd.ty6
instance Tryd.fld7_3 : FldP Tryd.prog 7 3 3 := FldP.mk' (sz := 1) Tryd.underlying7 rfl rfl (by kernel_rfl) rfl
instance Tryd.st8 : StP Tryd.prog 8 [.int .i64 0, .int .i64 0, .bool false, .int .u8 0] [(0, 1), (1, 1), (2, 1), (3, 1)] := StP.mk' Tryd.ty8 Tryd.underlying8 (by kernel_rfl)
instance Tryd.fv8_0 : FldV Tryd.prog 8 0 0 1 false := FldV.mk' Tryd.underlying8 rfl rfl Tryd.ty2
instance Tryd.fld8_0 : FldP Tryd.prog 8 0 0 := FldP.mk' (sz := 1) Tryd.underlying8 rfl rfl (by kernel_rfl) rfl
instance Tryd.fv8_1 : FldV Tryd.prog 8 1 1 1 false := FldV.mk' Tryd.underlying8 rfl rfl Tryd.ty3
instance Tryd.fld8_1 : FldP Tryd.prog 8 1 1 := FldP.mk' (sz := 1) Tryd.underlying8 rfl rfl (by kernel_rfl) rfl
instance Tryd.fv8_2 : FldV Tryd.prog 8 2 2 1 false := FldV.mk' Tryd.underlying8 rfl rfl Tryd.ty4
instance Tryd.fld8_2 : FldP Tryd.prog 8 2 2 := FldP.mk' (sz := 1) Tryd.underlying8 rfl rfl (by kernel_rfl) rfl
instance Tryd.fv8_3 : FldV Tryd.prog 8 3 3 1 false := FldV.mk' Tryd.underlying8 rfl rfl Tryd.ty6
instance Tryd.fld8_3 : FldP Tryd.prog 8 3 3 := FldP.mk' (sz := 1) Tryd.underlying8 rfl rfl (by kernel_rfl) rfl
instance Tryd.st18 : StP Tryd.prog 18 [.pointer none] [(0, 1)] := StP.mk' Tryd.ty18 Tryd.underlying18 (by kernel_rfl)
instance Tryd.fv18_0 : FldV Tryd.prog 18 0 0 1 false := FldV.mk' Tryd.underlying18 rfl rfl Tryd.ty17
instance Tryd.fld18_0 : FldP Tryd.prog 18 0 0 := FldP.mk' (sz := 1) Tryd.underlying18 rfl rfl (by kernel_rfl) rfl
instance Tryd.st19 : StP Tryd.prog 19 [.pointer none] [(0, 1)] := StP.mk' Tryd.ty19 Tryd.underlying19 (by kernel_rfl)
instance Tryd.fv19_0 : FldV Tryd.prog 19 0 0 1 false := FldV.mk' Tryd.underlying19 rfl rfl Tryd.ty17
instance Tryd.fld19_0 : FldP Tryd.prog 19 0 0 := FldP.mk' (sz := 1) Tryd.underlying19 rfl rfl (by kernel_rfl) rfl
instance Tryd.st23 : StP Tryd.prog 23 [.int .i64 0, .int .i64 0] [(0, 1), (1, 1)] := StP.mk' Tryd.ty23 Tryd.underlying23 (by kernel_rfl)
instance Tryd.fv23_0 : FldV Tryd.prog 23 0 0 1 false := FldV.mk' Tryd.underlying23 rfl rfl Tryd.ty3
instance Tryd.fld23_0 : FldP Tryd.prog 23 0 0 := FldP.mk' (sz := 1) Tryd.underlying23 rfl rfl (by kernel_rfl) rfl
instance Tryd.fv23_1 : FldV Tryd.prog 23 1 1 1 false := FldV.mk' Tryd.underlying23 rfl rfl Tryd.ty3
instance Tryd.fld23_1 : FldP Tryd.prog 23 1 1 := FldP.mk' (sz := 1) Tryd.underlying23 rfl rfl (by kernel_rfl) rfl
instance Tryd.st24 : StP Tryd.prog 24 [.int .i64 0, .int .i64 0] [(0, 1), (1, 1)] := StP.mk' Tryd.ty24 Tryd.underlying24 (by kernel_rfl)
instance Tryd.fv24_0 : FldV Tryd.prog 24 0 0 1 false := FldV.mk' Tryd.underlying24 rfl rfl Tryd.ty3
instance Tryd.fld24_0 : FldP Tryd.prog 24 0 0 := FldP.mk' (sz := 1) Tryd.underlying24 rfl rfl (by kernel_rfl) rfl
instance Tryd.fv24_1 : FldV Tryd.prog 24 1 1 1 false := FldV.mk' Tryd.underlying24 rfl rfl Tryd.ty3
instance Tryd.fld24_1 : FldP Tryd.prog 24 1 1 := FldP.mk' (sz := 1) Tryd.underlying24 rfl rfl (by kernel_rfl) rfl
instance Tryd.st31 : StP Tryd.prog 31 [.int .i64 0, .slice none 0 0, .slice none 0 0, .slice none 0 0] [(0, 1), (1, 1), (2, 1), (3, 1)] := StP.mk' Tryd.ty31 Tryd.underlying31 (by kernel_rfl)
instance Tryd.fv31_0 : FldV Tryd.prog 31 0 0 1 false := FldV.mk' Tryd.underlying31 rfl rfl Tryd.ty3
instance Tryd.fld31_0 : FldP Tryd.prog 31 0 0 := FldP.mk' (sz := 1) Tryd.underlying31 rfl rfl (by kernel_rfl) rfl
instance Tryd.fv31_1 : FldV Tryd.prog 31 1 1 1 false := FldV.mk' Tryd.underlying31 rfl rfl Tryd.ty28
instance Tryd.fld31_1 : FldP Tryd.prog 31 1 1 := FldP.mk' (sz := 1) Tryd.underlying31 rfl rfl (by kernel_rfl) rfl
instance Tryd.fv31_2 : FldV Tryd.prog 31 2 2 1 false := FldV.mk' Tryd.underlying31 rfl rfl Tryd.ty29
instance Tryd.fld31_2 : FldP Tryd.prog 31 2 2 := FldP.mk' (sz := 1) Tryd.underlying31 rfl rfl (by kernel_rfl) rfl
instance Tryd.fv31_3 : FldV Tryd.prog 31 3 3 1 false := FldV.mk' Tryd.underlying31 rfl rfl Tryd.ty30
instance Tryd.fld31_3 : FldP Tryd.prog 31 3 3 := FldP.mk' (sz := 1) Tryd.underlying31 rfl rfl (by kernel_rfl) rfl
instance Tryd.st32 : StP Tryd.prog 32 [.int .i64 0, .slice none 0 0, .slice none 0 0, .slice none 0 0] [(0, 1), (1, 1), (2, 1), (3, 1)] := StP.mk' Tryd.ty32 Tryd.underlying32 (by kernel_rfl)
instance Tryd.fv32_0 : FldV Tryd.prog 32 0 0 1 false := FldV.mk' Tryd.underlying32 rfl rfl Tryd.ty3
instance Tryd.fld32_0 : FldP Tryd.prog 32 0 0 := FldP.mk' (sz := 1) Tryd.underlying32 rfl rfl (by kernel_rfl) rfl
instance Tryd.fv32_1 : FldV Tryd.prog 32 1 1 1 false := FldV.mk' Tryd.underlying32 rfl rfl Tryd.ty28
instance Tryd.fld32_1 : FldP Tryd.prog 32 1 1 := FldP.mk' (sz := 1) Tryd.underlying32 rfl rfl (by kernel_rfl) rfl
instance Tryd.fv32_2 : FldV Tryd.prog 32 2 2 1 false := FldV.mk' Tryd.underlying32 rfl rfl Tryd.ty29
instance Tryd.fld32_2 : FldP Tryd.prog 32 2 2 := FldP.mk' (sz := 1) Tryd.underlying32 rfl rfl (by kernel_rfl) rfl
instance Tryd.fv32_3 : FldV Tryd.prog 32 3 3 1 false := FldV.mk' Tryd.underlying32 rfl rfl Tryd.ty30
instance Tryd.fld32_3 : FldP Tryd.prog 32 3 3 := FldP.mk' (sz := 1) Tryd.underlying32 rfl rfl (by kernel_rfl) rfl
instance Tryd.st48 : StP Tryd.prog 48 [.int .i64 0, .int .i64 0, .int .i64 0, .int .i64 0] [(0, 1), (1, 1), (2, 2)] := StP.mk' Tryd.ty48 Tryd.underlying48 (by kernel_rfl)
instance Tryd.fv48_0 : FldV Tryd.prog 48 0 0 1 false := FldV.mk' Tryd.underlying48 rfl rfl Tryd.ty3
instance Tryd.fld48_0 : FldP Tryd.prog 48 0 0 := FldP.mk' (sz := 1) Tryd.underlying48 rfl rfl (by kernel_rfl) rfl
instance Tryd.fv48_1 : FldV Tryd.prog 48 1 1 1 false := FldV.mk' Tryd.underlying48 rfl rfl Tryd.ty3
instance Tryd.fld48_1 : FldP Tryd.prog 48 1 1 := FldP.mk' (sz := 1) Tryd.underlying48 rfl rfl (by kernel_rfl) rfl
instance Tryd.fv48_2 : FldV Tryd.prog 48 2 2 2 true := FldV.mk' Tryd.underlying48 rfl rfl Tryd.ty24
instance Tryd.fld48_2 : FldP Tryd.prog 48 2 2 := FldP.mk' (sz := 2) Tryd.underlying48 rfl rfl (by kernel_rfl) rfl
instance Tryd.st49 : StP Tryd.prog 49 [.int .i64 0, .int .i64 0, .int .i64 0, .int .i64 0] [(0, 1), (1, 1), (2, 2)] := StP.mk' Tryd.ty49 Tryd.underlying49 (by kernel_rfl)
instance Tryd.fv49_0 : FldV Tryd.prog 49 0 0 1 false := FldV.mk' Tryd.underlying49 rfl rfl Tryd.ty3
instance Tryd.fld49_0 : FldP Tryd.prog 49 0 0 := FldP.mk' (sz := 1) Tryd.underlying49 rfl rfl (by kernel_rfl) rfl
instance Tryd.fv49_1 : FldV Tryd.prog 49 1 1 1 false := FldV.mk' Tryd.underlying49 rfl rfl Tryd.ty3
instance Tryd.fld49_1 : FldP Tryd.prog 49 1 1 := FldP.mk' (sz := 1) Tryd.underlying49 rfl rfl (by kernel_rfl) rfl
instance Tryd.fv49_2 : FldV Tryd.prog 49 2 2 2 true := FldV.mk' Tryd.underlying49 rfl rfl Tryd.ty24
instance Tryd.fld49_2 : FldP Tryd.prog 49 2 2 := FldP.mk' (sz := 2) Tryd.underlying49 rfl rfl (by kernel_rfl) rfl
instance Tryd.st58 : StP Tryd.prog 58 [.int .i64 0, .int .i64 0, .int .i64 0] [(0, 1), (1, 2)] := StP.mk' Tryd.ty58 Tryd.underlying58 (by kernel_rfl)
instance Tryd.fv58_0 : FldV Tryd.prog 58 0 0 1 false := FldV.mk' Tryd.underlying58 rfl rfl Tryd.ty3
instance Tryd.fld58_0 : FldP Tryd.prog 58 0 0 := FldP.mk' (sz := 1) Tryd.underlying58 rfl rfl (by kernel_rfl) rfl
instance Tryd.fv58_1 : FldV Tryd.prog 58 1 1 2 true := FldV.mk' Tryd.underlying58 rfl rfl Tryd.ty24
instance Tryd.fld58_1 : FldP Tryd.prog 58 1 1 := FldP.mk' (sz := 2) Tryd.underlying58 rfl rfl (by kernel_rfl) rfl
instance Tryd.st59 : StP Tryd.prog 59 [.int .i64 0, .int .i64 0, .int .i64 0] [(0, 1), (1, 2)] := StP.mk' Tryd.ty59 Tryd.underlying59 (by kernel_rfl)
instance Tryd.fv59_0 : FldV Tryd.prog 59 0 0 1 false := FldV.mk' Tryd.underlying59 rfl rfl Tryd.ty3
instance Tryd.fld59_0 : FldP Tryd.prog 59 0 0 := FldP.mk' (sz := 1) Tryd.underlying59 rfl rfl (by kernel_rfl) rfl
instance Tryd.fv59_1 : FldV Tryd.prog 59 1 1 2 true := FldV.mk' Tryd.underlying59 rfl rfl Tryd.ty24
instance Tryd.fld59_1 : FldP Tryd.prog 59 1 1 := FldP.mk' (sz := 2) Tryd.underlying59 rfl rfl (by kernel_rfl) rfl
instance Tryd.st60 : StP Tryd.prog 60 [.int .i64 0, .int .i64 0, .int .i64 0, .int .i64 0] [(0, 1), (1, 1), (2, 2)] := StP.mk' Tryd.ty60 Tryd.underlying60 (by kernel_rfl)
instance Tryd.fv60_0 : FldV Tryd.prog 60 0 0 1 false := FldV.mk' Tryd.underlying60 rfl rfl Tryd.ty3
instance Tryd.fld60_0 : FldP Tryd.prog 60 0 0 := FldP.mk' (sz := 1) Tryd.underlying60 rfl rfl (by kernel_rfl) rfl
instance Tryd.fv60_1 : FldV Tryd.prog 60 1 1 1 false := FldV.mk' Tryd.underlying60 rfl rfl Tryd.ty3
instance Tryd.fld60_1 : FldP Tryd.prog 60 1 1 := FldP.mk' (sz := 1) Tryd.underlying60 rfl rfl (by kernel_rfl) rfl
instance Tryd.fv60_2 : FldV Tryd.prog 60 2 2 2 true := FldV.mk' Tryd.underlying60 rfl rfl Tryd.ty24
instance Tryd.fld60_2 : FldP Tryd.prog 60 2 2 := FldP.mk' (sz := 2) Tryd.underlying60 rfl rfl (by kernel_rfl) rfl
instance Tryd.st61 : StP Tryd.prog 61 [.int .i64 0, .int .i64 0, .int .i64 0, .int .i64 0] [(0, 1), (1, 1), (2, 2)] := StP.mk' Tryd.ty61 Tryd.underlying61 (by kernel_rfl)
instance Tryd.fv61_0 : FldV Tryd.prog 61 0 0 1 false := FldV.mk' Tryd.underlying61 rfl rfl Tryd.ty3
instance Tryd.fld61_0 : FldP Tryd.prog 61 0 0 := FldP.mk' (sz := 1) Tryd.underlying61 rfl rfl (by kernel_rfl) rfl
instance Tryd.fv61_1 : FldV Tryd.prog 61 1 1 1 false := FldV.mk' Tryd.underlying61 rfl rfl Tryd.ty3
instance Tryd.fld61_1 : FldP Tryd.prog 61 1 1 := FldP.mk' (sz := 1) Tryd.underlying61 rfl rfl (by kernel_rfl) rfl
instance Tryd.fv61_2 : FldV Tryd.prog 61 2 2 2 true := FldV.mk' Tryd.underlying61 rfl rfl Tryd.ty24
instance Tryd.fld61_2 : FldP Tryd.prog 61 2 2 := FldP.mk' (sz := 2) Tryd.underlying61 rfl rfl (by kernel_rfl) rfl
instance Tryd.st65 : StP Tryd.prog 65 [.int .i64 0, .slice none 0 0, .slice none 0 0, .slice none 0 0, .map none, .int .i64 0] [(0, 4), (4, 1), (5, 1)] := StP.mk' Tryd.ty65 Tryd.underlying65 (by kernel_rfl)
instance Tryd.fv65_0 : FldV Tryd.prog 65 0 0 4 true := FldV.mk' Tryd.underlying65 rfl rfl Tryd.ty32
instance Tryd.fld65_0 : FldP Tryd.prog 65 0 0 := FldP.mk' (sz := 4) Tryd.underlying65 rfl rfl (by kernel_rfl) rfl
instance Tryd.fv65_1 : FldV Tryd.prog 65 1 4 1 false := FldV.mk' Tryd.underlying65 rfl rfl Tryd.ty64
instance Tryd.fld65_1 : FldP Tryd.prog 65 1 4 := FldP.mk' (sz := 1) Tryd.underlying65 rfl rfl (by kernel_rfl) rfl
instance Tryd.fv65_2 : FldV Tryd.prog 65 2 5 1 false := FldV.mk' Tryd.underlying65 rfl rfl Tryd.ty3
instance Tryd.fld65_2 : FldP Tryd.prog 65 2 5 := FldP.mk' (sz := 1) Tryd.underlying65 rfl rfl (by kernel_rfl) rfl
instance Tryd.st66 : StP Tryd.prog 66 [.int .i64 0, .slice none 0 0, .slice none 0 0, .slice none 0 0, .map none, .int .i64 0] [(0, 4), (4, 1), (5, 1)] := StP.mk' Tryd.ty66 Tryd.underlying66 (by kernel_rfl)
instance Tryd.fv66_0 : FldV Tryd.prog 66 0 0 4 true := FldV.mk' Tryd.underlying66 rfl rfl Tryd.ty32
instance Tryd.fld66_0 : FldP Tryd.prog 66 0 0 := FldP.mk' (sz := 4) Tryd.underlying66 rfl rfl (by kernel_rfl) rfl
instance Tryd.fv66_1 : FldV Tryd.prog 66 1 4 1 false := FldV.mk' Tryd.underlying66 rfl rfl Tryd.ty64
instance Tryd.fld66_1 : FldP Tryd.prog 66 1 4 := FldP.mk' (sz := 1) Tryd.underlying66 rfl rfl (by kernel_rfl) rfl
instance Tryd.fv66_2 : FldV Tryd.prog 66 2 5 1 false := FldV.mk' Tryd.underlying66 rfl rfl Tryd.ty3
instance Tryd.fld66_2 : FldP Tryd.prog 66 2 5 := FldP.mk' (sz := 1) Tryd.underlying66 rfl rfl (by kernel_rfl) rfl
instance Tryd.ar74 : ArP Tryd.prog 74 [.int .i64 0, .int .i64 0, .int .i64 0, .int .i64 0, .int .i64 0, .int .i64 0, .int .i64 0, .int .i64 0, .int .i64 0, .int .i64 0, .int .i64 0, .int .i64 0, .int .i64 0, .int .i64 0, .int .i64 0, .int .i64 0, .int .i64 0, .int .i64 0, .int .i64 0, .int .i64 0, .int .i64 0] 21 1 := ArP.mk' Tryd.ty74 Tryd.underlying74 Tryd.ty3
instance Tryd.st77 : StP Tryd.prog 77 [.int .i64 0, .int .i64 0, .int .i64 0] [(0, 1), (1, 1), (2, 1)] := StP.mk' Tryd.ty77 Tryd.underlying77 (by kernel_rfl)
instance Tryd.fv77_0 : FldV Tryd.prog 77 0 0 1 false := FldV.mk' Tryd.underlying77 rfl rfl Tryd.ty3
instance Tryd.fld77_0 : FldP Tryd.prog 77 0 0 := FldP.mk' (sz := 1) Tryd.underlying77 rfl rfl (by kernel_rfl) rfl
instance Tryd.fv77_1 : FldV Tryd.prog 77 1 1 1 false := FldV.mk' Tryd.underlying77 rfl rfl Tryd.ty3
instance Tryd.fld77_1 : FldP Tryd.prog 77 1 1 := FldP.mk' (sz := 1) Tryd.underlying77 rfl rfl (by kernel_rfl) rfl
instance Tryd.fv77_2 : FldV Tryd.prog 77 2 2 1 false := FldV.mk' Tryd.underlying77 rfl rfl Tryd.ty3
instance Tryd.fld77_2 : FldP Tryd.prog 77 2 2 := FldP.mk' (sz := 1) Tryd.underlying77 rfl rfl (by kernel_rfl) rfl
instance Tryd.st78 : StP Tryd.prog 78 [.int .i64 0, .int .i64 0, .int .i64 0] [(0, 1), (1, 1), (2, 1)] := StP.mk' Tryd.ty78 Tryd.underlying78 (by kernel_rfl)
instance Tryd.fv78_0 : FldV Tryd.prog 78 0 0 1 false := FldV.mk' Tryd.underlying78 rfl rfl Tryd.ty3
instance Tryd.fld78_0 : FldP Tryd.prog 78 0 0 := FldP.mk' (sz := 1) Tryd.underlying78 rfl rfl (by kernel_rfl) rfl
instance Tryd.fv78_1 : FldV Tryd.prog 78 1 1 1 false := FldV.mk' Tryd.underlying78 rfl rfl Tryd.ty3
instance Tryd.fld78_1 : FldP Tryd.prog 78 1 1 := FldP.mk' (sz := 1) Tryd.underlying78 rfl rfl (by kernel_rfl) rfl
instance Tryd.fv78_2 : FldV Tryd.prog 78 2 2 1 false := FldV.mk' Tryd.underlying78 rfl rfl Tryd.ty3
instance Tryd.fld78_2 : FldP Tryd.prog 78 2 2 := FldP.mk' (sz := 1) Tryd.underlying78 rfl rfl (by kernel_rfl) rfl
instance Tryd.ar87 : ArP Tryd.prog 87 [.int .u8 0, .int .u8 0, .int .u8 0, .int .u8 0, .int .u8 0, .int .u8 0, .int .u8 0, .int .u8 0, .int .u8 0, .int .u8 0, .int .u8 0, .int .u8 0, .int .u8 0, .int .u8 0, .int .u8 0, .int .u8 0, .int .u8 0, .int .u8 0, .int .u8 0, .int .u8 0, .int .u8 0, .int .u8 0, .int .u8 0, .int .u8 0] 24 1 := ArP.mk' Tryd.ty87 Tryd.underlying87 Tryd.ty5
instance Tryd.ar95 : ArP Tryd.prog 95 [.int .u64 0, .int .u64 0, .int .u64 0, .int .u64 0, .int .u64 0, .int .u64 0, .int .u64 0, .int .u64 0, .int .u64 0, .int .u64 0, .int .u64 0, .int .u64 0, .int .u64 0, .int .u64 0, .int .u64 0, .int .u64 0, .int .u64 0, .int .u64 0, .int .u64 0, .int .u64 0] 20 1 := ArP.mk' Tryd.ty95 Tryd.underlying95 Tryd.ty88
instance Tryd.ar101 : ArP Tryd.prog 101 [.int .u8 0, .int .u8 0, .int .u8 0, .int .u8 0, .int .u8 0, .int .u8 0, .int .u8 0, .int .u8 0, .int .u8 0, .int .u8 0, .int .u8 0, .int .u8 0, .int .u8 0, .int .u8 0, .int .u8 0, .int .u8 0, .int .u8 0, .int .u8 0, .int .u8 0, .int .u8 0, .int .u8 0, .int .u8 0, .int .u8 0, .int .u8 0, .int .u8 0, .int .u8 0, .int .u8 0, .int .u8 0, .int .u8 0, .int .u8 0, .int .u8 0, .int .u8 0] 32 1 := ArP.mk' Tryd.ty101 Tryd.underlying101 Tryd.ty5
instance Tryd.ar105 : ArP Tryd.prog 105 [] 0 1 := ArP.mk' Tryd.ty105 Tryd.underlying105 Tryd.ty16
instance Tryd.st106 : StP Tryd.prog 106 [] [(0, 0)] := StP.mk' Tryd.ty106 Tryd.underlying106 (by kernel_rfl)
instance Tryd.st107 : StP Tryd.prog 107 [] [(0, 0)] := StP.mk' Tryd.ty107 Tryd.underlying107 (by kernel_rfl)
instance Tryd.st115 : StP Tryd.prog 115 [.int .u64 0, .int .u64 0, .int .u32 0, .int .u8 0, .int .u8 0, .int .u8 0, .int .u8 0, .nilFunc, .pointer none, .int .i32 0, .int .i32 0] [(0, 1), (1, 1), (2, 1), (3, 1), (4, 1), (5, 1), (6, 1), (7, 1), (8, 1), (9, 1), (10, 1)] := StP.mk' Tryd.ty115 Tryd.underlying115 (by kernel_rfl)
instance Tryd.fv115_0 : FldV Tryd.prog 115 0 0 1 false := FldV.mk' Tryd.underlying115 rfl rfl Tryd.ty12
instance Tryd.fld115_0 : FldP Tryd.prog 115 0 0 := FldP.mk' (sz := 1) Tryd.underlying115 rfl rfl (by kernel_rfl) rfl
instance Tryd.fv115_1 : FldV Tryd.prog 115 1 1 1 false := FldV.mk' Tryd.underlying115 rfl rfl Tryd.ty12
instance Tryd.fld115_1 : FldP Tryd.prog 115 1 1 := FldP.mk' (sz := 1) Tryd.underlying115 rfl rfl (by kernel_rfl) rfl
instance Tryd.fv115_2 : FldV Tryd.prog 115 2 2 1 false := FldV.mk' Tryd.underlying115 rfl rfl Tryd.ty96
instance Tryd.fld115_2 : FldP Tryd.prog 115 2 2 := FldP.mk' (sz := 1) Tryd.underlying115 rfl rfl (by kernel_rfl) rfl
instance Tryd.fv115_3 : FldV Tryd.prog 115 3 3 1 false := FldV.mk' Tryd.underlying115 rfl rfl Tryd.ty109
instance Tryd.fld115_3 : FldP Tryd.prog 115 3 3 := FldP.mk' (sz := 1) Tryd.underlying115 rfl rfl (by kernel_rfl) rfl
instance Tryd.fv115_4 : FldV Tryd.prog 115 4 4 1 false := FldV.mk' Tryd.underlying115 rfl rfl Tryd.ty5
instance Tryd.fld115_4 : FldP Tryd.prog 115 4 4 := FldP.mk' (sz := 1) Tryd.underlying115 rfl rfl (by kernel_rfl) rfl
instance Tryd.fv115_5 : FldV Tryd.prog 115 5 5 1 false := FldV.mk' Tryd.underlying115 rfl rfl Tryd.ty5
instance Tryd.fld115_5 : FldP Tryd.prog 115 5 5 := FldP.mk' (sz := 1) Tryd.underlying115 rfl rfl (by kernel_rfl) rfl
instance Tryd.fv115_6 : FldV Tryd.prog 115 6 6 1 false := FldV.mk' Tryd.underlying115 rfl rfl Tryd.ty110
instance Tryd.fld115_6 : FldP Tryd.prog 115 6 6 := FldP.mk' (sz := 1) Tryd.underlying115 rfl rfl (by kernel_rfl) rfl
instance Tryd.fv115_7 : FldV Tryd.prog 115 7 7 1 false := FldV.mk' Tryd.underlying115 rfl rfl Tryd.ty111
instance Tryd.fld115_7 : FldP Tryd.prog 115 7 7 := FldP.mk' (sz := 1) Tryd.underlying115 rfl rfl (by kernel_rfl) rfl
instance Tryd.fv115_8 : FldV Tryd.prog 115 8 8 1 false := FldV.mk' Tryd.underlying115 rfl rfl Tryd.ty112
instance Tryd.fld115_8 : FldP Tryd.prog 115 8 8 := FldP.mk' (sz := 1) Tryd.underlying115 rfl rfl (by kernel_rfl) rfl
instance Tryd.fv115_9 : FldV Tryd.prog 115 9 9 1 false := FldV.mk' Tryd.underlying115 rfl rfl Tryd.ty113
instance Tryd.fld115_9 : FldP Tryd.prog 115 9 9 := FldP.mk' (sz := 1) Tryd.underlying115 rfl rfl (by kernel_rfl) rfl
instance Tryd.fv115_10 : FldV Tryd.prog 115 10 10 1 false := FldV.mk' Tryd.underlying115 rfl rfl Tryd.ty114
instance Tryd.fld115_10 : FldP Tryd.prog 115 10 10 := FldP.mk' (sz := 1) Tryd.underlying115 rfl rfl (by kernel_rfl) rfl
instance Tryd.st116 : StP Tryd.prog 116 [.int .u64 0, .int .u64 0, .int .u32 0, .int .u8 0, .int .u8 0, .int .u8 0, .int .u8 0, .nilFunc, .pointer none, .int .i32 0, .int .i32 0] [(0, 1), (1, 1), (2, 1), (3, 1), (4, 1), (5, 1), (6, 1), (7, 1), (8, 1), (9, 1), (10, 1)] := StP.mk' Tryd.ty116 Tryd.underlying116 (by kernel_rfl)
instance Tryd.fv116_0 : FldV Tryd.prog 116 0 0 1 false := FldV.mk' Tryd.underlying116 rfl rfl Tryd.ty12
instance Tryd.fld116_0 : FldP Tryd.prog 116 0 0 := FldP.mk' (sz := 1) Tryd.underlying116 rfl rfl (by kernel_rfl) rfl
instance Tryd.fv116_1 : FldV Tryd.prog 116 1 1 1 false := FldV.mk' Tryd.underlying116 rfl rfl Tryd.ty12
instance Tryd.fld116_1 : FldP Tryd.prog 116 1 1 := FldP.mk' (sz := 1) Tryd.underlying116 rfl rfl (by kernel_rfl) rfl
instance Tryd.fv116_2 : FldV Tryd.prog 116 2 2 1 false := FldV.mk' Tryd.underlying116 rfl rfl Tryd.ty96
instance Tryd.fld116_2 : FldP Tryd.prog 116 2 2 := FldP.mk' (sz := 1) Tryd.underlying116 rfl rfl (by kernel_rfl) rfl
instance Tryd.fv116_3 : FldV Tryd.prog 116 3 3 1 false := FldV.mk' Tryd.underlying116 rfl rfl Tryd.ty109
instance Tryd.fld116_3 : FldP Tryd.prog 116 3 3 := FldP.mk' (sz := 1) Tryd.underlying116 rfl rfl (by kernel_rfl) rfl
instance Tryd.fv116_4 : FldV Tryd.prog 116 4 4 1 false := FldV.mk' Tryd.underlying116 rfl rfl Tryd.ty5
instance Tryd.fld116_4 : FldP Tryd.prog 116 4 4 := FldP.mk' (sz := 1) Tryd.underlying116 rfl rfl (by kernel_rfl) rfl
instance Tryd.fv116_5 : FldV Tryd.prog 116 5 5 1 false := FldV.mk' Tryd.underlying116 rfl rfl Tryd.ty5
instance Tryd.fld116_5 : FldP Tryd.prog 116 5 5 := FldP.mk' (sz := 1) Tryd.underlying116 rfl rfl (by kernel_rfl) rfl
instance Tryd.fv116_6 : FldV Tryd.prog 116 6 6 1 false := FldV.mk' Tryd.underlying116 rfl rfl Tryd.ty110
instance Tryd.fld116_6 : FldP Tryd.prog 116 6 6 := FldP.mk' (sz := 1) Tryd.underlying116 rfl rfl (by kernel_rfl) rfl
instance Tryd.fv116_7 : FldV Tryd.prog 116 7 7 1 false := FldV.mk' Tryd.underlying116 rfl rfl Tryd.ty111
instance Tryd.fld116_7 : FldP Tryd.prog 116 7 7 := FldP.mk' (sz := 1) Tryd.underlying116 rfl rfl (by kernel_rfl) rfl
instance Tryd.fv116_8 : FldV Tryd.prog 116 8 8 1 false := FldV.mk' Tryd.underlying116 rfl rfl Tryd.ty112
instance Tryd.fld116_8 : FldP Tryd.prog 116 8 8 := FldP.mk' (sz := 1) Tryd.underlying116 rfl rfl (by kernel_rfl) rfl
instance Tryd.fv116_9 : FldV Tryd.prog 116 9 9 1 false := FldV.mk' Tryd.underlying116 rfl rfl Tryd.ty113
instance Tryd.fld116_9 : FldP Tryd.prog 116 9 9 := FldP.mk' (sz := 1) Tryd.underlying116 rfl rfl (by kernel_rfl) rfl
instance Tryd.fv116_10 : FldV Tryd.prog 116 10 10 1 false := FldV.mk' Tryd.underlying116 rfl rfl Tryd.ty114
instance Tryd.fld116_10 : FldP Tryd.prog 116 10 10 := FldP.mk' (sz := 1) Tryd.underlying116 rfl rfl (by kernel_rfl) rfl
instance Tryd.eq2 : EqP Tryd.prog 2 1 1 := EqP.int
instance Tryd.eq3 : EqP Tryd.prog 3 1 1 := EqP.int
instance Tryd.eq25 : EqP Tryd.prog 25 1 1 := EqP.int
instance Tryd.eq23 : EqP Tryd.prog 23 2 2 := EqP.struct (ht := Tryd.ty23) _ Tryd.underlying23 Tryd.stoodInHeld23 ((FsP.cons (by kernel_rfl) rfl Tryd.ty3 Tryd.eq3 rfl rfl (FsP.cons (by kernel_rfl) rfl Tryd.ty3 Tryd.eq3 rfl rfl FsP.nil)) : FsP Tryd.prog 1 0 _ (1 + (1 + 0)))
instance Tryd.eqg23 : EqG Tryd.prog 23 := ⟨Tryd.eqGuardType23⟩
instance Tryd.eq24 : EqP Tryd.prog 24 2 2 := EqP.struct (ht := Tryd.ty24) _ Tryd.underlying24 Tryd.stoodInHeld24 ((FsP.cons (by kernel_rfl) rfl Tryd.ty3 Tryd.eq3 rfl rfl (FsP.cons (by kernel_rfl) rfl Tryd.ty3 Tryd.eq3 rfl rfl FsP.nil)) : FsP Tryd.prog 1 0 _ (1 + (1 + 0)))
instance Tryd.eqg24 : EqG Tryd.prog 24 := ⟨Tryd.eqGuardType24⟩
instance Tryd.eq48 : EqP Tryd.prog 48 3 4 := EqP.struct (ht := Tryd.ty48) _ Tryd.underlying48 Tryd.stoodInHeld48 ((FsP.cons (by kernel_rfl) rfl Tryd.ty3 Tryd.eq3 rfl rfl (FsP.cons (by kernel_rfl) rfl Tryd.ty3 Tryd.eq3 rfl rfl (FsP.cons (by kernel_rfl) rfl Tryd.ty24 Tryd.eq24 rfl rfl FsP.nil))) : FsP Tryd.prog 2 0 _ (1 + (1 + (2 + 0))))
instance Tryd.eqg48 : EqG Tryd.prog 48 := ⟨Tryd.eqGuardType48⟩
instance Tryd.eq49 : EqP Tryd.prog 49 3 4 := EqP.struct (ht := Tryd.ty49) _ Tryd.underlying49 Tryd.stoodInHeld49 ((FsP.cons (by kernel_rfl) rfl Tryd.ty3 Tryd.eq3 rfl rfl (FsP.cons (by kernel_rfl) rfl Tryd.ty3 Tryd.eq3 rfl rfl (FsP.cons (by kernel_rfl) rfl Tryd.ty24 Tryd.eq24 rfl rfl FsP.nil))) : FsP Tryd.prog 2 0 _ (1 + (1 + (2 + 0))))
instance Tryd.eqg49 : EqG Tryd.prog 49 := ⟨Tryd.eqGuardType49⟩
instance Tryd.eq58 : EqP Tryd.prog 58 3 3 := EqP.struct (ht := Tryd.ty58) _ Tryd.underlying58 Tryd.stoodInHeld58 ((FsP.cons (by kernel_rfl) rfl Tryd.ty3 Tryd.eq3 rfl rfl (FsP.cons (by kernel_rfl) rfl Tryd.ty24 Tryd.eq24 rfl rfl FsP.nil)) : FsP Tryd.prog 2 0 _ (1 + (2 + 0)))
instance Tryd.eqg58 : EqG Tryd.prog 58 := ⟨Tryd.eqGuardType58⟩
instance Tryd.eq59 : EqP Tryd.prog 59 3 3 := EqP.struct (ht := Tryd.ty59) _ Tryd.underlying59 Tryd.stoodInHeld59 ((FsP.cons (by kernel_rfl) rfl Tryd.ty3 Tryd.eq3 rfl rfl (FsP.cons (by kernel_rfl) rfl Tryd.ty24 Tryd.eq24 rfl rfl FsP.nil)) : FsP Tryd.prog 2 0 _ (1 + (2 + 0)))
instance Tryd.eqg59 : EqG Tryd.prog 59 := ⟨Tryd.eqGuardType59⟩
instance Tryd.eq60 : EqP Tryd.prog 60 3 4 := EqP.struct (ht := Tryd.ty60) _ Tryd.underlying60 Tryd.stoodInHeld60 ((FsP.cons (by kernel_rfl) rfl Tryd.ty3 Tryd.eq3 rfl rfl (FsP.cons (by kernel_rfl) rfl Tryd.ty3 Tryd.eq3 rfl rfl (FsP.cons (by kernel_rfl) rfl Tryd.ty24 Tryd.eq24 rfl rfl FsP.nil))) : FsP Tryd.prog 2 0 _ (1 + (1 + (2 + 0))))
instance Tryd.eqg60 : EqG Tryd.prog 60 := ⟨Tryd.eqGuardType60⟩
instance Tryd.eq61 : EqP Tryd.prog 61 3 4 := EqP.struct (ht := Tryd.ty61) _ Tryd.underlying61 Tryd.stoodInHeld61 ((FsP.cons (by kernel_rfl) rfl Tryd.ty3 Tryd.eq3 rfl rfl (FsP.cons (by kernel_rfl) rfl Tryd.ty3 Tryd.eq3 rfl rfl (FsP.cons (by kernel_rfl) rfl Tryd.ty24 Tryd.eq24 rfl rfl FsP.nil))) : FsP Tryd.prog 2 0 _ (1 + (1 + (2 + 0))))
instance Tryd.eqg61 : EqG Tryd.prog 61 := ⟨Tryd.eqGuardType61⟩
instance Tryd.eq74 : EqP Tryd.prog 74 2 21 := EqP.array (ht := Tryd.ty74) (he := Tryd.ty3) Tryd.underlying74 rfl rfl
instance Tryd.eq77 : EqP Tryd.prog 77 2 3 := EqP.struct (ht := Tryd.ty77) _ Tryd.underlying77 Tryd.stoodInHeld77 ((FsP.cons (by kernel_rfl) rfl Tryd.ty3 Tryd.eq3 rfl rfl (FsP.cons (by kernel_rfl) rfl Tryd.ty3 Tryd.eq3 rfl rfl (FsP.cons (by kernel_rfl) rfl Tryd.ty3 Tryd.eq3 rfl rfl FsP.nil))) : FsP Tryd.prog 1 0 _ (1 + (1 + (1 + 0))))
instance Tryd.eqg77 : EqG Tryd.prog 77 := ⟨Tryd.eqGuardType77⟩
instance Tryd.eq78 : EqP Tryd.prog 78 2 3 := EqP.struct (ht := Tryd.ty78) _ Tryd.underlying78 Tryd.stoodInHeld78 ((FsP.cons (by kernel_rfl) rfl Tryd.ty3 Tryd.eq3 rfl rfl (FsP.cons (by kernel_rfl) rfl Tryd.ty3 Tryd.eq3 rfl rfl (FsP.cons (by kernel_rfl) rfl Tryd.ty3 Tryd.eq3 rfl rfl FsP.nil))) : FsP Tryd.prog 1 0 _ (1 + (1 + (1 + 0))))
instance Tryd.eqg78 : EqG Tryd.prog 78 := ⟨Tryd.eqGuardType78⟩
instance Tryd.ent3 : EntP Tryd.prog 3 := EntP.mk' Tryd.func3 (by kernel_rfl) rfl
instance Tryd.ent4 : EntP Tryd.prog 4 := EntP.mk' Tryd.func4 (by kernel_rfl) rfl
instance Tryd.ent5 : EntP Tryd.prog 5 := EntP.mk' Tryd.func5 (by kernel_rfl) rfl
instance Tryd.ent6 : EntP Tryd.prog 6 := EntP.mk' Tryd.func6 (by kernel_rfl) rfl
instance Tryd.ent7 : EntP Tryd.prog 7 := EntP.mk' Tryd.func7 (by kernel_rfl) rfl
instance Tryd.ent8 : EntP Tryd.prog 8 := EntP.mk' Tryd.func8 (by kernel_rfl) rfl
instance Tryd.ent9 : EntP Tryd.prog 9 := EntP.mk' Tryd.func9 (by kernel_rfl) rfl
instance Tryd.ent10 : EntP Tryd.prog 10 := EntP.mk' Tryd.func10 (by kernel_rfl) rfl
instance Tryd.ent11 : EntP Tryd.prog 11 := EntP.mk' Tryd.func11 (by kernel_rfl) rfl
instance Tryd.ent12 : EntP Tryd.prog 12 := EntP.mk' Tryd.func12 (by kernel_rfl) rfl
instance Tryd.ent13 : EntP Tryd.prog 13 := EntP.mk' Tryd.func13 (by kernel_rfl) rfl
instance Tryd.ent14 : EntP Tryd.prog 14 := EntP.mk' Tryd.func14 (by kernel_rfl) rfl
instance Tryd.ent15 : EntP Tryd.prog 15 := EntP.mk' Tryd.func15 (by kernel_rfl) rfl
instance Tryd.ent16 : EntP Tryd.prog 16 := EntP.mk' Tryd.func16 (by kernel_rfl) rfl
instance Tryd.ent17 : EntP Tryd.prog 17 := EntP.mk' Tryd.func17 (by kernel_rfl) rfl
instance Tryd.ent18 : EntP Tryd.prog 18 := EntP.mk' Tryd.func18 (by kernel_rfl) rfl
instance Tryd.ent19 : EntP Tryd.prog 19 := EntP.mk' Tryd.func19 (by kernel_rfl) rfl
instance Tryd.ent20 : EntP Tryd.prog 20 := EntP.mk' Tryd.func20 (by kernel_rfl) rfl
instance Tryd.ent21 : EntP Tryd.prog 21 := EntP.mk' Tryd.func21 (by kernel_rfl) rfl
instance Tryd.ent22 : EntP Tryd.prog 22 := EntP.mk' Tryd.func22 (by kernel_rfl) rfl
instance Tryd.ent23 : EntP Tryd.prog 23 := EntP.mk' Tryd.func23 (by kernel_rfl) rfl
instance Tryd.ent24 : EntP Tryd.prog 24 := EntP.mk' Tryd.func24 (by kernel_rfl) rfl
instance Tryd.ent25 : EntP Tryd.prog 25 := EntP.mk' Tryd.func25 (by kernel_rfl) rfl
instance Tryd.ent26 : EntP Tryd.prog 26 := EntP.mk' Tryd.func26 (by kernel_rfl) rfl
instance Tryd.ent27 : EntP Tryd.prog 27 := EntP.mk' Tryd.func27 (by kernel_rfl) rfl
instance Tryd.ent28 : EntP Tryd.prog 28 := EntP.mk' Tryd.func28 (by kernel_rfl) rfl
instance Tryd.ent29 : EntP Tryd.prog 29 := EntP.mk' Tryd.func29 (by kernel_rfl) rfl
instance Tryd.ent30 : EntP Tryd.prog 30 := EntP.mk' Tryd.func30 (by kernel_rfl) rfl
instance Tryd.ent31 : EntP Tryd.prog 31 := EntP.mk' Tryd.func31 (by kernel_rfl) rfl
instance Tryd.ent32 : EntP Tryd.prog 32 := EntP.mk' Tryd.func32 (by kernel_rfl) rfl
instance Tryd.ent33 : EntP Tryd.prog 33 := EntP.mk' Tryd.func33 (by kernel_rfl) rfl
instance Tryd.ent34 : EntP Tryd.prog 34 := EntP.mk' Tryd.func34 (by kernel_rfl) rfl
instance Tryd.ent35 : EntP Tryd.prog 35 := EntP.mk' Tryd.func35 (by kernel_rfl) rfl
instance Tryd.ent36 : EntP Tryd.prog 36 := EntP.mk' Tryd.func36 (by kernel_rfl) rfl
instance Tryd.ent37 : EntP Tryd.prog 37 := EntP.mk' Tryd.func37 (by kernel_rfl) rfl
instance Tryd.ent38 : EntP Tryd.prog 38 := EntP.mk' Tryd.func38 (by kernel_rfl) rfl
instance Tryd.ent39 : EntP Tryd.prog 39 := EntP.mk' Tryd.func39 (by kernel_rfl) rfl
instance Tryd.ent40 : EntP Tryd.prog 40 := EntP.mk' Tryd.func40 (by kernel_rfl) rfl
instance Tryd.ent41 : EntP Tryd.prog 41 := EntP.mk' Tryd.func41 (by kernel_rfl) rfl
instance Tryd.ent42 : EntP Tryd.prog 42 := EntP.mk' Tryd.func42 (by kernel_rfl) rfl
instance Tryd.ent43 : EntP Tryd.prog 43 := EntP.mk' Tryd.func43 (by kernel_rfl) rfl
instance Tryd.ent44 : EntP Tryd.prog 44 := EntP.mk' Tryd.func44 (by kernel_rfl) rfl
instance Tryd.ent45 : EntP Tryd.prog 45 := EntP.mk' Tryd.func45 (by kernel_rfl) rfl
instance Tryd.ent46 : EntP Tryd.prog 46 := EntP.mk' Tryd.func46 (by kernel_rfl) rfl
instance Tryd.ent47 : EntP Tryd.prog 47 := EntP.mk' Tryd.func47 (by kernel_rfl) rfl
instance Tryd.ent48 : EntP Tryd.prog 48 := EntP.mk' Tryd.func48 (by kernel_rfl) rfl
instance Tryd.ent49 : EntP Tryd.prog 49 := EntP.mk' Tryd.func49 (by kernel_rfl) rfl
instance Tryd.ent71 : EntP Tryd.prog 71 := EntP.mk' Tryd.func71 (by kernel_rfl) rfl
end Go.Proofs
