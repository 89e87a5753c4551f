/- Facts of the program's tables, written by a program: types, fields, entries of functions. -/
import Derived.Test.YtkpkebpofpcmaaaGreatDoorEngC
import Derived.Test.YtkpkebpofpcmaaaGreatDoorProg
import Derived.KernelRfl
namespace Go.Proofs
open Go Go.Eng
theorem Tryz.mixed : Tryz.prog.follows .mixedOrders = true := by kernel_rfl
instance Tryz.ty1 : TyP Tryz.prog 1 1 false [.nilFunc] := TyP.mk' (v := .nilFunc) (by kernel_rfl) rfl Tryz.underlying1 rfl
instance Tryz.byt1 : BytP Tryz.prog 1 8 := ⟨by kernel_rfl⟩
instance Tryz.int2 : IntP Tryz.prog 2 .i64 := ⟨Tryz.underlying2⟩
instance Tryz.ty2 : TyP Tryz.prog 2 1 false [.int .i64 0] := TyP.mk' (v := .int .i64 0) (by kernel_rfl) rfl Tryz.underlying2 rfl
instance Tryz.byt2 : BytP Tryz.prog 2 8 := ⟨by kernel_rfl⟩
instance Tryz.int3 : IntP Tryz.prog 3 .i64 := ⟨Tryz.underlying3⟩
instance Tryz.ty3 : TyP Tryz.prog 3 1 false [.int .i64 0] := TyP.mk' (v := .int .i64 0) (by kernel_rfl) rfl Tryz.underlying3 rfl
instance Tryz.byt3 : BytP Tryz.prog 3 8 := ⟨by kernel_rfl⟩
instance Tryz.ty4 : TyP Tryz.prog 4 1 false [.bool false] := TyP.mk' (v := .bool false) (by kernel_rfl) rfl Tryz.underlying4 rfl
instance Tryz.byt4 : BytP Tryz.prog 4 1 := ⟨by kernel_rfl⟩
instance Tryz.int5 : IntP Tryz.prog 5 .u8 := ⟨Tryz.underlying5⟩
instance Tryz.ty5 : TyP Tryz.prog 5 1 false [.int .u8 0] := TyP.mk' (v := .int .u8 0) (by kernel_rfl) rfl Tryz.underlying5 rfl
instance Tryz.byt5 : BytP Tryz.prog 5 1 := ⟨by kernel_rfl⟩
instance Tryz.int6 : IntP Tryz.prog 6 .u8 := ⟨Tryz.underlying6⟩
instance Tryz.ty6 : TyP Tryz.prog 6 1 false [.int .u8 0] := TyP.mk' (v := .int .u8 0) (by kernel_rfl) rfl Tryz.underlying6 rfl
instance Tryz.byt6 : BytP Tryz.prog 6 1 := ⟨by kernel_rfl⟩
instance Tryz.ty7 : TyP Tryz.prog 7 4 true [.int .i64 0, .int .i64 0, .bool false, .int .u8 0] := TyP.mk' (v := .agg #[.int .i64 0, .int .i64 0, .bool false, .int .u8 0]) (by kernel_rfl) rfl Tryz.underlying7 rfl
instance Tryz.byt7 : BytP Tryz.prog 7 24 := ⟨by kernel_rfl⟩
instance Tryz.ty8 : TyP Tryz.prog 8 4 true [.int .i64 0, .int .i64 0, .bool false, .int .u8 0] := TyP.mk' (v := .agg #[.int .i64 0, .int .i64 0, .bool false, .int .u8 0]) (by kernel_rfl) rfl Tryz.underlying8 rfl
instance Tryz.byt8 : BytP Tryz.prog 8 24 := ⟨by kernel_rfl⟩
instance Tryz.int12 : IntP Tryz.prog 12 .u64 := ⟨Tryz.underlying12⟩
instance Tryz.ty12 : TyP Tryz.prog 12 1 false [.int .u64 0] := TyP.mk' (v := .int .u64 0) (by kernel_rfl) rfl Tryz.underlying12 rfl
instance Tryz.byt12 : BytP Tryz.prog 12 8 := ⟨by kernel_rfl⟩
instance Tryz.ptr15 : PtrP Tryz.prog 15 336 := ⟨Tryz.underlying15⟩
instance Tryz.ty15 : TyP Tryz.prog 15 1 false [.pointer none] := TyP.mk' (v := .pointer none) (by kernel_rfl) rfl Tryz.underlying15 rfl
instance Tryz.byt15 : BytP Tryz.prog 15 8 := ⟨by kernel_rfl⟩
instance Tryz.ptr16 : PtrP Tryz.prog 16 339 := ⟨Tryz.underlying16⟩
instance Tryz.ty16 : TyP Tryz.prog 16 1 false [.pointer none] := TyP.mk' (v := .pointer none) (by kernel_rfl) rfl Tryz.underlying16 rfl
instance Tryz.byt16 : BytP Tryz.prog 16 8 := ⟨by kernel_rfl⟩
instance Tryz.ptr17 : PtrP Tryz.prog 17 347 := ⟨Tryz.underlying17⟩
instance Tryz.ty17 : TyP Tryz.prog 17 1 false [.pointer none] := TyP.mk' (v := .pointer none) (by kernel_rfl) rfl Tryz.underlying17 rfl
instance Tryz.byt17 : BytP Tryz.prog 17 8 := ⟨by kernel_rfl⟩
instance Tryz.ty18 : TyP Tryz.prog 18 1 true [.pointer none] := TyP.mk' (v := .agg #[.pointer none]) (by kernel_rfl) rfl Tryz.underlying18 rfl
instance Tryz.byt18 : BytP Tryz.prog 18 8 := ⟨by kernel_rfl⟩
instance Tryz.ty19 : TyP Tryz.prog 19 1 true [.pointer none] := TyP.mk' (v := .agg #[.pointer none]) (by kernel_rfl) rfl Tryz.underlying19 rfl
instance Tryz.byt19 : BytP Tryz.prog 19 8 := ⟨by kernel_rfl⟩
instance Tryz.ty20 : TyP Tryz.prog 20 1 false [.nilIface] := TyP.mk' (v := .nilIface) (by kernel_rfl) rfl Tryz.underlying20 rfl
instance Tryz.byt20 : BytP Tryz.prog 20 16 := ⟨by kernel_rfl⟩
instance Tryz.int21 : IntP Tryz.prog 21 .i32 := ⟨Tryz.underlying21⟩
instance Tryz.ty21 : TyP Tryz.prog 21 1 false [.int .i32 0] := TyP.mk' (v := .int .i32 0) (by kernel_rfl) rfl Tryz.underlying21 rfl
instance Tryz.byt21 : BytP Tryz.prog 21 4 := ⟨by kernel_rfl⟩
instance Tryz.slc22 : SlcP Tryz.prog 22 25 := ⟨Tryz.underlying22⟩
instance Tryz.ty22 : TyP Tryz.prog 22 1 false [.slice none 0 0] := TyP.mk' (v := .slice none 0 0) (by kernel_rfl) rfl Tryz.underlying22 rfl
instance Tryz.byt22 : BytP Tryz.prog 22 24 := ⟨by kernel_rfl⟩
instance Tryz.slc23 : SlcP Tryz.prog 23 168 := ⟨Tryz.underlying23⟩
instance Tryz.ty23 : TyP Tryz.prog 23 1 false [.slice none 0 0] := TyP.mk' (v := .slice none 0 0) (by kernel_rfl) rfl Tryz.underlying23 rfl
instance Tryz.byt23 : BytP Tryz.prog 23 24 := ⟨by kernel_rfl⟩
instance Tryz.ty24 : TyP Tryz.prog 24 2 true [.int .i64 0, .int .i64 0] := TyP.mk' (v := .agg #[.int .i64 0, .int .i64 0]) (by kernel_rfl) rfl Tryz.underlying24 rfl
instance Tryz.byt24 : BytP Tryz.prog 24 16 := ⟨by kernel_rfl⟩
instance Tryz.ty25 : TyP Tryz.prog 25 2 true [.int .i64 0, .int .i64 0] := TyP.mk' (v := .agg #[.int .i64 0, .int .i64 0]) (by kernel_rfl) rfl Tryz.underlying25 rfl
instance Tryz.byt25 : BytP Tryz.prog 25 16 := ⟨by kernel_rfl⟩
instance Tryz.ty26 : TyP Tryz.prog 26 6 true [.slice none 0 0, .slice none 0 0, .int .i64 0, .int .i64 0, .int .i64 0, .int .i64 0] := TyP.mk' (v := .agg #[.slice none 0 0, .slice none 0 0, .int .i64 0, .int .i64 0, .int .i64 0, .int .i64 0]) (by kernel_rfl) rfl Tryz.underlying26 rfl
instance Tryz.byt26 : BytP Tryz.prog 26 80 := ⟨by kernel_rfl⟩
instance Tryz.ty27 : TyP Tryz.prog 27 6 true [.slice none 0 0, .slice none 0 0, .int .i64 0, .int .i64 0, .int .i64 0, .int .i64 0] := TyP.mk' (v := .agg #[.slice none 0 0, .slice none 0 0, .int .i64 0, .int .i64 0, .int .i64 0, .int .i64 0]) (by kernel_rfl) rfl Tryz.underlying27 rfl
instance Tryz.byt27 : BytP Tryz.prog 27 80 := ⟨by kernel_rfl⟩
instance Tryz.slc28 : SlcP Tryz.prog 28 67 := ⟨Tryz.underlying28⟩
instance Tryz.ty28 : TyP Tryz.prog 28 1 false [.slice none 0 0] := TyP.mk' (v := .slice none 0 0) (by kernel_rfl) rfl Tryz.underlying28 rfl
instance Tryz.byt28 : BytP Tryz.prog 28 24 := ⟨by kernel_rfl⟩
instance Tryz.slc29 : SlcP Tryz.prog 29 46 := ⟨Tryz.underlying29⟩
instance Tryz.ty29 : TyP Tryz.prog 29 1 false [.slice none 0 0] := TyP.mk' (v := .slice none 0 0) (by kernel_rfl) rfl Tryz.underlying29 rfl
instance Tryz.byt29 : BytP Tryz.prog 29 24 := ⟨by kernel_rfl⟩
instance Tryz.int30 : IntP Tryz.prog 30 .u16 := ⟨Tryz.underlying30⟩
instance Tryz.ty30 : TyP Tryz.prog 30 1 false [.int .u16 0] := TyP.mk' (v := .int .u16 0) (by kernel_rfl) rfl Tryz.underlying30 rfl
instance Tryz.byt30 : BytP Tryz.prog 30 2 := ⟨by kernel_rfl⟩
instance Tryz.ty31 : TyP Tryz.prog 31 1 false [.nilFunc] := TyP.mk' (v := .nilFunc) (by kernel_rfl) rfl Tryz.underlying31 rfl
instance Tryz.byt31 : BytP Tryz.prog 31 8 := ⟨by kernel_rfl⟩
instance Tryz.ty32 : TyP Tryz.prog 32 1 false [.nilFunc] := TyP.mk' (v := .nilFunc) (by kernel_rfl) rfl Tryz.underlying32 rfl
instance Tryz.byt32 : BytP Tryz.prog 32 8 := ⟨by kernel_rfl⟩
instance Tryz.ty33 : TyP Tryz.prog 33 1 false [.nilFunc] := TyP.mk' (v := .nilFunc) (by kernel_rfl) rfl Tryz.underlying33 rfl
instance Tryz.byt33 : BytP Tryz.prog 33 8 := ⟨by kernel_rfl⟩
instance Tryz.int34 : IntP Tryz.prog 34 .i64 := ⟨Tryz.underlying34⟩
instance Tryz.ty34 : TyP Tryz.prog 34 1 false [.int .i64 0] := TyP.mk' (v := .int .i64 0) (by kernel_rfl) rfl Tryz.underlying34 rfl
instance Tryz.byt34 : BytP Tryz.prog 34 8 := ⟨by kernel_rfl⟩
instance Tryz.ty36 : TyP Tryz.prog 36 1 false [.nilFunc] := TyP.mk' (v := .nilFunc) (by kernel_rfl) rfl Tryz.underlying36 rfl
instance Tryz.byt36 : BytP Tryz.prog 36 8 := ⟨by kernel_rfl⟩
instance Tryz.ty37 : TyP Tryz.prog 37 2 true [.int .i64 0, .int .i64 0] := TyP.mk' (v := .agg #[.int .i64 0, .int .i64 0]) (by kernel_rfl) rfl Tryz.underlying37 rfl
instance Tryz.byt37 : BytP Tryz.prog 37 16 := ⟨by kernel_rfl⟩
instance Tryz.ty38 : TyP Tryz.prog 38 2 true [.int .i64 0, .int .i64 0] := TyP.mk' (v := .agg #[.int .i64 0, .int .i64 0]) (by kernel_rfl) rfl Tryz.underlying38 rfl
instance Tryz.byt38 : BytP Tryz.prog 38 16 := ⟨by kernel_rfl⟩
instance Tryz.ty39 : TyP Tryz.prog 39 3 true [.int .i64 0, .int .i64 0, .int .i64 0] := TyP.mk' (v := .agg #[.int .i64 0, .int .i64 0, .int .i64 0]) (by kernel_rfl) rfl Tryz.underlying39 rfl
instance Tryz.byt39 : BytP Tryz.prog 39 24 := ⟨by kernel_rfl⟩
instance Tryz.ty40 : TyP Tryz.prog 40 3 true [.int .i64 0, .int .i64 0, .int .i64 0] := TyP.mk' (v := .agg #[.int .i64 0, .int .i64 0, .int .i64 0]) (by kernel_rfl) rfl Tryz.underlying40 rfl
instance Tryz.byt40 : BytP Tryz.prog 40 24 := ⟨by kernel_rfl⟩
instance Tryz.slc41 : SlcP Tryz.prog 41 40 := ⟨Tryz.underlying41⟩
instance Tryz.ty41 : TyP Tryz.prog 41 1 false [.slice none 0 0] := TyP.mk' (v := .slice none 0 0) (by kernel_rfl) rfl Tryz.underlying41 rfl
instance Tryz.byt41 : BytP Tryz.prog 41 24 := ⟨by kernel_rfl⟩
instance Tryz.ty42 : TyP Tryz.prog 42 2 true [.int .i64 0, .slice none 0 0] := TyP.mk' (v := .agg #[.int .i64 0, .slice none 0 0]) (by kernel_rfl) rfl Tryz.underlying42 rfl
instance Tryz.byt42 : BytP Tryz.prog 42 32 := ⟨by kernel_rfl⟩
instance Tryz.ty43 : TyP Tryz.prog 43 2 true [.int .i64 0, .slice none 0 0] := TyP.mk' (v := .agg #[.int .i64 0, .slice none 0 0]) (by kernel_rfl) rfl Tryz.underlying43 rfl
instance Tryz.byt43 : BytP Tryz.prog 43 32 := ⟨by kernel_rfl⟩
instance Tryz.slc44 : SlcP Tryz.prog 44 50 := ⟨Tryz.underlying44⟩
instance Tryz.ty44 : TyP Tryz.prog 44 1 false [.slice none 0 0] := TyP.mk' (v := .slice none 0 0) (by kernel_rfl) rfl Tryz.underlying44 rfl
instance Tryz.byt44 : BytP Tryz.prog 44 24 := ⟨by kernel_rfl⟩
instance Tryz.ty45 : TyP Tryz.prog 45 1 false [.nilFunc] := TyP.mk' (v := .nilFunc) (by kernel_rfl) rfl Tryz.underlying45 rfl
instance Tryz.byt45 : BytP Tryz.prog 45 8 := ⟨by kernel_rfl⟩
instance Tryz.int46 : IntP Tryz.prog 46 .u32 := ⟨Tryz.underlying46⟩
instance Tryz.ty46 : TyP Tryz.prog 46 1 false [.int .u32 0] := TyP.mk' (v := .int .u32 0) (by kernel_rfl) rfl Tryz.underlying46 rfl
instance Tryz.byt46 : BytP Tryz.prog 46 4 := ⟨by kernel_rfl⟩
instance Tryz.ty47 : TyP Tryz.prog 47 1 false [.nilFunc] := TyP.mk' (v := .nilFunc) (by kernel_rfl) rfl Tryz.underlying47 rfl
instance Tryz.byt47 : BytP Tryz.prog 47 8 := ⟨by kernel_rfl⟩
instance Tryz.slc48 : SlcP Tryz.prog 48 214 := ⟨Tryz.underlying48⟩
instance Tryz.ty48 : TyP Tryz.prog 48 1 false [.slice none 0 0] := TyP.mk' (v := .slice none 0 0) (by kernel_rfl) rfl Tryz.underlying48 rfl
instance Tryz.byt48 : BytP Tryz.prog 48 24 := ⟨by kernel_rfl⟩
instance Tryz.ty49 : TyP Tryz.prog 49 9 true [.int .i64 0, .int .i64 0, .int .u8 0, .int .i64 0, .int .i64 0, .int .i64 0, .int .i64 0, .int .i64 0, .slice none 0 0] := TyP.mk' (v := .agg #[.int .i64 0, .int .i64 0, .int .u8 0, .int .i64 0, .int .i64 0, .int .i64 0, .int .i64 0, .int .i64 0, .slice none 0 0]) (by kernel_rfl) rfl Tryz.underlying49 rfl
instance Tryz.byt49 : BytP Tryz.prog 49 88 := ⟨by kernel_rfl⟩
instance Tryz.ty50 : TyP Tryz.prog 50 9 true [.int .i64 0, .int .i64 0, .int .u8 0, .int .i64 0, .int .i64 0, .int .i64 0, .int .i64 0, .int .i64 0, .slice none 0 0] := TyP.mk' (v := .agg #[.int .i64 0, .int .i64 0, .int .u8 0, .int .i64 0, .int .i64 0, .int .i64 0, .int .i64 0, .int .i64 0, .slice none 0 0]) (by kernel_rfl) rfl Tryz.underlying50 rfl
instance Tryz.byt50 : BytP Tryz.prog 50 88 := ⟨by kernel_rfl⟩
instance Tryz.ty52 : TyP Tryz.prog 52 1 false [.nilFunc] := TyP.mk' (v := .nilFunc) (by kernel_rfl) rfl Tryz.underlying52 rfl
instance Tryz.byt52 : BytP Tryz.prog 52 8 := ⟨by kernel_rfl⟩
instance Tryz.ty53 : TyP Tryz.prog 53 1 false [.nilFunc] := TyP.mk' (v := .nilFunc) (by kernel_rfl) rfl Tryz.underlying53 rfl
instance Tryz.byt53 : BytP Tryz.prog 53 8 := ⟨by kernel_rfl⟩
instance Tryz.slc54 : SlcP Tryz.prog 54 87 := ⟨Tryz.underlying54⟩
instance Tryz.ty54 : TyP Tryz.prog 54 1 false [.slice none 0 0] := TyP.mk' (v := .slice none 0 0) (by kernel_rfl) rfl Tryz.underlying54 rfl
instance Tryz.byt54 : BytP Tryz.prog 54 24 := ⟨by kernel_rfl⟩
instance Tryz.slc55 : SlcP Tryz.prog 55 3 := ⟨Tryz.underlying55⟩
instance Tryz.ty55 : TyP Tryz.prog 55 1 false [.slice none 0 0] := TyP.mk' (v := .slice none 0 0) (by kernel_rfl) rfl Tryz.underlying55 rfl
instance Tryz.byt55 : BytP Tryz.prog 55 24 := ⟨by kernel_rfl⟩
instance Tryz.ty56 : TyP Tryz.prog 56 4 true [.slice none 0 0, .slice none 0 0, .int .i64 0, .int .i64 0] := TyP.mk' (v := .agg #[.slice none 0 0, .slice none 0 0, .int .i64 0, .int .i64 0]) (by kernel_rfl) rfl Tryz.underlying56 rfl
instance Tryz.byt56 : BytP Tryz.prog 56 64 := ⟨by kernel_rfl⟩
instance Tryz.ty57 : TyP Tryz.prog 57 4 true [.slice none 0 0, .slice none 0 0, .int .i64 0, .int .i64 0] := TyP.mk' (v := .agg #[.slice none 0 0, .slice none 0 0, .int .i64 0, .int .i64 0]) (by kernel_rfl) rfl Tryz.underlying57 rfl
instance Tryz.byt57 : BytP Tryz.prog 57 64 := ⟨by kernel_rfl⟩
instance Tryz.ty58 : TyP Tryz.prog 58 1 false [.nilFunc] := TyP.mk' (v := .nilFunc) (by kernel_rfl) rfl Tryz.underlying58 rfl
instance Tryz.byt58 : BytP Tryz.prog 58 8 := ⟨by kernel_rfl⟩
instance Tryz.ty59 : TyP Tryz.prog 59 1 false [.nilFunc] := TyP.mk' (v := .nilFunc) (by kernel_rfl) rfl Tryz.underlying59 rfl
instance Tryz.byt59 : BytP Tryz.prog 59 8 := ⟨by kernel_rfl⟩
instance Tryz.ty60 : TyP Tryz.prog 60 1 false [.nilFunc] := TyP.mk' (v := .nilFunc) (by kernel_rfl) rfl Tryz.underlying60 rfl
instance Tryz.byt60 : BytP Tryz.prog 60 8 := ⟨by kernel_rfl⟩
instance Tryz.ty62 : TyP Tryz.prog 62 1 false [.nilFunc] := TyP.mk' (v := .nilFunc) (by kernel_rfl) rfl Tryz.underlying62 rfl
instance Tryz.byt62 : BytP Tryz.prog 62 8 := ⟨by kernel_rfl⟩
instance Tryz.ty63 : TyP Tryz.prog 63 5 true [.int .u8 0, .int .i64 0, .int .i64 0, .int .i64 0, .int .i64 0] := TyP.mk' (v := .agg #[.int .u8 0, .int .i64 0, .int .i64 0, .int .i64 0, .int .i64 0]) (by kernel_rfl) rfl Tryz.underlying63 rfl
instance Tryz.byt63 : BytP Tryz.prog 63 40 := ⟨by kernel_rfl⟩
instance Tryz.ty64 : TyP Tryz.prog 64 5 true [.int .u8 0, .int .i64 0, .int .i64 0, .int .i64 0, .int .i64 0] := TyP.mk' (v := .agg #[.int .u8 0, .int .i64 0, .int .i64 0, .int .i64 0, .int .i64 0]) (by kernel_rfl) rfl Tryz.underlying64 rfl
instance Tryz.byt64 : BytP Tryz.prog 64 40 := ⟨by kernel_rfl⟩
instance Tryz.slc65 : SlcP Tryz.prog 65 64 := ⟨Tryz.underlying65⟩
instance Tryz.ty65 : TyP Tryz.prog 65 1 false [.slice none 0 0] := TyP.mk' (v := .slice none 0 0) (by kernel_rfl) rfl Tryz.underlying65 rfl
instance Tryz.byt65 : BytP Tryz.prog 65 24 := ⟨by kernel_rfl⟩
instance Tryz.ty66 : TyP Tryz.prog 66 3 true [.slice none 0 0, .int .i64 0, .bool false] := TyP.mk' (v := .agg #[.slice none 0 0, .int .i64 0, .bool false]) (by kernel_rfl) rfl Tryz.underlying66 rfl
instance Tryz.byt66 : BytP Tryz.prog 66 40 := ⟨by kernel_rfl⟩
instance Tryz.ty67 : TyP Tryz.prog 67 3 true [.slice none 0 0, .int .i64 0, .bool false] := TyP.mk' (v := .agg #[.slice none 0 0, .int .i64 0, .bool false]) (by kernel_rfl) rfl Tryz.underlying67 rfl
instance Tryz.byt67 : BytP Tryz.prog 67 40 := ⟨by kernel_rfl⟩
instance Tryz.ty68 : TyP Tryz.prog 68 1 false [.nilFunc] := TyP.mk' (v := .nilFunc) (by kernel_rfl) rfl Tryz.underlying68 rfl
instance Tryz.byt68 : BytP Tryz.prog 68 8 := ⟨by kernel_rfl⟩
instance Tryz.ty71 : TyP Tryz.prog 71 1 false [.nilFunc] := TyP.mk' (v := .nilFunc) (by kernel_rfl) rfl Tryz.underlying71 rfl
instance Tryz.byt71 : BytP Tryz.prog 71 8 := ⟨by kernel_rfl⟩
instance Tryz.ty72 : TyP Tryz.prog 72 3 true [.int .i64 0, .int .i64 0, .int .i64 0] := TyP.mk' (v := .agg #[.int .i64 0, .int .i64 0, .int .i64 0]) (by kernel_rfl) rfl Tryz.underlying72 rfl
instance Tryz.byt72 : BytP Tryz.prog 72 24 := ⟨by kernel_rfl⟩
instance Tryz.ty73 : TyP Tryz.prog 73 3 true [.int .i64 0, .int .i64 0, .int .i64 0] := TyP.mk' (v := .agg #[.int .i64 0, .int .i64 0, .int .i64 0]) (by kernel_rfl) rfl Tryz.underlying73 rfl
instance Tryz.byt73 : BytP Tryz.prog 73 24 := ⟨by kernel_rfl⟩
instance Tryz.slc74 : SlcP Tryz.prog 74 73 := ⟨Tryz.underlying74⟩
instance Tryz.ty74 : TyP Tryz.prog 74 1 false [.slice none 0 0] := TyP.mk' (v := .slice none 0 0) (by kernel_rfl) rfl Tryz.underlying74 rfl
instance Tryz.byt74 : BytP Tryz.prog 74 24 := ⟨by kernel_rfl⟩
instance Tryz.ty75 : TyP Tryz.prog 75 1 false [.nilFunc] := TyP.mk' (v := .nilFunc) (by kernel_rfl) rfl Tryz.underlying75 rfl
instance Tryz.byt75 : BytP Tryz.prog 75 8 := ⟨by kernel_rfl⟩
instance Tryz.ty76 : TyP Tryz.prog 76 1 false [.nilFunc] := TyP.mk' (v := .nilFunc) (by kernel_rfl) rfl Tryz.underlying76 rfl
instance Tryz.byt76 : BytP Tryz.prog 76 8 := ⟨by kernel_rfl⟩
instance Tryz.ty78 : TyP Tryz.prog 78 1 false [.nilFunc] := TyP.mk' (v := .nilFunc) (by kernel_rfl) rfl Tryz.underlying78 rfl
instance Tryz.byt78 : BytP Tryz.prog 78 8 := ⟨by kernel_rfl⟩
instance Tryz.ty80 : TyP Tryz.prog 80 1 false [.nilFunc] := TyP.mk' (v := .nilFunc) (by kernel_rfl) rfl Tryz.underlying80 rfl
instance Tryz.byt80 : BytP Tryz.prog 80 8 := ⟨by kernel_rfl⟩
instance Tryz.slc81 : SlcP Tryz.prog 81 38 := ⟨Tryz.underlying81⟩
instance Tryz.ty81 : TyP Tryz.prog 81 1 false [.slice none 0 0] := TyP.mk' (v := .slice none 0 0) (by kernel_rfl) rfl Tryz.underlying81 rfl
instance Tryz.byt81 : BytP Tryz.prog 81 24 := ⟨by kernel_rfl⟩
instance Tryz.ty83 : TyP Tryz.prog 83 1 false [.nilFunc] := TyP.mk' (v := .nilFunc) (by kernel_rfl) rfl Tryz.underlying83 rfl
instance Tryz.byt83 : BytP Tryz.prog 83 8 := ⟨by kernel_rfl⟩
instance Tryz.ty84 : TyP Tryz.prog 84 1 false [.nilFunc] := TyP.mk' (v := .nilFunc) (by kernel_rfl) rfl Tryz.underlying84 rfl
instance Tryz.byt84 : BytP Tryz.prog 84 8 := ⟨by kernel_rfl⟩
instance Tryz.ty85 : TyP Tryz.prog 85 1 false [.nilFunc] := TyP.mk' (v := .nilFunc) (by kernel_rfl) rfl Tryz.underlying85 rfl
instance Tryz.byt85 : BytP Tryz.prog 85 8 := ⟨by kernel_rfl⟩
instance Tryz.ty86 : TyP Tryz.prog 86 5 true [.int .i64 0, .int .i64 0, .int .i64 0, .int .i64 0, .int .i64 0] := TyP.mk' (v := .agg #[.int .i64 0, .int .i64 0, .int .i64 0, .int .i64 0, .int .i64 0]) (by kernel_rfl) rfl Tryz.underlying86 rfl
instance Tryz.byt86 : BytP Tryz.prog 86 40 := ⟨by kernel_rfl⟩
instance Tryz.ty87 : TyP Tryz.prog 87 5 true [.int .i64 0, .int .i64 0, .int .i64 0, .int .i64 0, .int .i64 0] := TyP.mk' (v := .agg #[.int .i64 0, .int .i64 0, .int .i64 0, .int .i64 0, .int .i64 0]) (by kernel_rfl) rfl Tryz.underlying87 rfl
instance Tryz.byt87 : BytP Tryz.prog 87 40 := ⟨by kernel_rfl⟩
instance Tryz.ty88 : TyP Tryz.prog 88 1 false [.nilFunc] := TyP.mk' (v := .nilFunc) (by kernel_rfl) rfl Tryz.underlying88 rfl
instance Tryz.byt88 : BytP Tryz.prog 88 8 := ⟨by kernel_rfl⟩
instance Tryz.ty89 : TyP Tryz.prog 89 1 false [.nilFunc] := TyP.mk' (v := .nilFunc) (by kernel_rfl) rfl Tryz.underlying89 rfl
instance Tryz.byt89 : BytP Tryz.prog 89 8 := ⟨by kernel_rfl⟩
instance Tryz.ty90 : TyP Tryz.prog 90 1 false [.nilFunc] := TyP.mk' (v := .nilFunc) (by kernel_rfl) rfl Tryz.underlying90 rfl
instance Tryz.byt90 : BytP Tryz.prog 90 8 := ⟨by kernel_rfl⟩
instance Tryz.ty91 : TyP Tryz.prog 91 4 true [.int .i64 0, .int .i64 0, .int .i64 0, .int .i64 0] := TyP.mk' (v := .agg #[.int .i64 0, .int .i64 0, .int .i64 0, .int .i64 0]) (by kernel_rfl) rfl Tryz.underlying91 rfl
instance Tryz.byt91 : BytP Tryz.prog 91 32 := ⟨by kernel_rfl⟩
instance Tryz.ty92 : TyP Tryz.prog 92 4 true [.int .i64 0, .int .i64 0, .int .i64 0, .int .i64 0] := TyP.mk' (v := .agg #[.int .i64 0, .int .i64 0, .int .i64 0, .int .i64 0]) (by kernel_rfl) rfl Tryz.underlying92 rfl
instance Tryz.byt92 : BytP Tryz.prog 92 32 := ⟨by kernel_rfl⟩
instance Tryz.slc93 : SlcP Tryz.prog 93 92 := ⟨Tryz.underlying93⟩
instance Tryz.ty93 : TyP Tryz.prog 93 1 false [.slice none 0 0] := TyP.mk' (v := .slice none 0 0) (by kernel_rfl) rfl Tryz.underlying93 rfl
instance Tryz.byt93 : BytP Tryz.prog 93 24 := ⟨by kernel_rfl⟩
instance Tryz.ty94 : TyP Tryz.prog 94 1 false [.nilFunc] := TyP.mk' (v := .nilFunc) (by kernel_rfl) rfl Tryz.underlying94 rfl
instance Tryz.byt94 : BytP Tryz.prog 94 8 := ⟨by kernel_rfl⟩
instance Tryz.ty95 : TyP Tryz.prog 95 7 true [.slice none 0 0, .slice none 0 0, .int .i64 0, .int .i64 0, .int .i64 0, .int .i64 0, .int .i64 0] := TyP.mk' (v := .agg #[.slice none 0 0, .slice none 0 0, .int .i64 0, .int .i64 0, .int .i64 0, .int .i64 0, .int .i64 0]) (by kernel_rfl) rfl Tryz.underlying95 rfl
instance Tryz.byt95 : BytP Tryz.prog 95 88 := ⟨by kernel_rfl⟩
instance Tryz.ty96 : TyP Tryz.prog 96 7 true [.slice none 0 0, .slice none 0 0, .int .i64 0, .int .i64 0, .int .i64 0, .int .i64 0, .int .i64 0] := TyP.mk' (v := .agg #[.slice none 0 0, .slice none 0 0, .int .i64 0, .int .i64 0, .int .i64 0, .int .i64 0, .int .i64 0]) (by kernel_rfl) rfl Tryz.underlying96 rfl
instance Tryz.byt96 : BytP Tryz.prog 96 88 := ⟨by kernel_rfl⟩
instance Tryz.ty98 : TyP Tryz.prog 98 1 false [.nilFunc] := TyP.mk' (v := .nilFunc) (by kernel_rfl) rfl Tryz.underlying98 rfl
instance Tryz.byt98 : BytP Tryz.prog 98 8 := ⟨by kernel_rfl⟩
instance Tryz.slc99 : SlcP Tryz.prog 99 106 := ⟨Tryz.underlying99⟩
instance Tryz.ty99 : TyP Tryz.prog 99 1 false [.slice none 0 0] := TyP.mk' (v := .slice none 0 0) (by kernel_rfl) rfl Tryz.underlying99 rfl
instance Tryz.byt99 : BytP Tryz.prog 99 24 := ⟨by kernel_rfl⟩
instance Tryz.ty101 : TyP Tryz.prog 101 1 false [.nilFunc] := TyP.mk' (v := .nilFunc) (by kernel_rfl) rfl Tryz.underlying101 rfl
instance Tryz.byt101 : BytP Tryz.prog 101 8 := ⟨by kernel_rfl⟩
instance Tryz.ty102 : TyP Tryz.prog 102 1 false [.nilFunc] := TyP.mk' (v := .nilFunc) (by kernel_rfl) rfl Tryz.underlying102 rfl
instance Tryz.byt102 : BytP Tryz.prog 102 8 := ⟨by kernel_rfl⟩
instance Tryz.ty103 : TyP Tryz.prog 103 1 false [.nilFunc] := TyP.mk' (v := .nilFunc) (by kernel_rfl) rfl Tryz.underlying103 rfl
instance Tryz.byt103 : BytP Tryz.prog 103 8 := ⟨by kernel_rfl⟩
instance Tryz.ty104 : TyP Tryz.prog 104 1 false [.nilFunc] := TyP.mk' (v := .nilFunc) (by kernel_rfl) rfl Tryz.underlying104 rfl
instance Tryz.byt104 : BytP Tryz.prog 104 8 := ⟨by kernel_rfl⟩
instance Tryz.ary105 : AryP Tryz.prog 105 2 3 := ⟨Tryz.underlying105⟩
instance Tryz.ty105 : TyP Tryz.prog 105 2 true [.int .i64 0, .int .i64 0] := TyP.mk' (v := .agg #[.int .i64 0, .int .i64 0]) (by kernel_rfl) rfl Tryz.underlying105 rfl
instance Tryz.byt105 : BytP Tryz.prog 105 16 := ⟨by kernel_rfl⟩
instance Tryz.ary106 : AryP Tryz.prog 106 2 3 := ⟨Tryz.underlying106⟩
instance Tryz.ty106 : TyP Tryz.prog 106 2 true [.int .i64 0, .int .i64 0] := TyP.mk' (v := .agg #[.int .i64 0, .int .i64 0]) (by kernel_rfl) rfl Tryz.underlying106 rfl
instance Tryz.byt106 : BytP Tryz.prog 106 16 := ⟨by kernel_rfl⟩
instance Tryz.ty107 : TyP Tryz.prog 107 1 false [.nilFunc] := TyP.mk' (v := .nilFunc) (by kernel_rfl) rfl Tryz.underlying107 rfl
instance Tryz.byt107 : BytP Tryz.prog 107 8 := ⟨by kernel_rfl⟩
instance Tryz.ty108 : TyP Tryz.prog 108 1 false [.nilFunc] := TyP.mk' (v := .nilFunc) (by kernel_rfl) rfl Tryz.underlying108 rfl
instance Tryz.byt108 : BytP Tryz.prog 108 8 := ⟨by kernel_rfl⟩
instance Tryz.ty109 : TyP Tryz.prog 109 1 false [.nilFunc] := TyP.mk' (v := .nilFunc) (by kernel_rfl) rfl Tryz.underlying109 rfl
instance Tryz.byt109 : BytP Tryz.prog 109 8 := ⟨by kernel_rfl⟩
instance Tryz.ptr110 : PtrP Tryz.prog 110 119 := ⟨Tryz.underlying110⟩
instance Tryz.ty110 : TyP Tryz.prog 110 1 false [.pointer none] := TyP.mk' (v := .pointer none) (by kernel_rfl) rfl Tryz.underlying110 rfl
instance Tryz.byt110 : BytP Tryz.prog 110 8 := ⟨by kernel_rfl⟩
instance Tryz.ty112 : TyP Tryz.prog 112 1 false [.nilFunc] := TyP.mk' (v := .nilFunc) (by kernel_rfl) rfl Tryz.underlying112 rfl
instance Tryz.byt112 : BytP Tryz.prog 112 8 := ⟨by kernel_rfl⟩
instance Tryz.ty113 : TyP Tryz.prog 113 1 false [.nilFunc] := TyP.mk' (v := .nilFunc) (by kernel_rfl) rfl Tryz.underlying113 rfl
instance Tryz.byt113 : BytP Tryz.prog 113 8 := ⟨by kernel_rfl⟩
instance Tryz.slc114 : SlcP Tryz.prog 114 116 := ⟨Tryz.underlying114⟩
instance Tryz.ty114 : TyP Tryz.prog 114 1 false [.slice none 0 0] := TyP.mk' (v := .slice none 0 0) (by kernel_rfl) rfl Tryz.underlying114 rfl
instance Tryz.byt114 : BytP Tryz.prog 114 24 := ⟨by kernel_rfl⟩
instance Tryz.ty115 : TyP Tryz.prog 115 5 true [.int .i64 0, .int .i64 0, .int .i64 0, .int .i64 0, .int .i64 0] := TyP.mk' (v := .agg #[.int .i64 0, .int .i64 0, .int .i64 0, .int .i64 0, .int .i64 0]) (by kernel_rfl) rfl Tryz.underlying115 rfl
instance Tryz.byt115 : BytP Tryz.prog 115 40 := ⟨by kernel_rfl⟩
instance Tryz.ty116 : TyP Tryz.prog 116 5 true [.int .i64 0, .int .i64 0, .int .i64 0, .int .i64 0, .int .i64 0] := TyP.mk' (v := .agg #[.int .i64 0, .int .i64 0, .int .i64 0, .int .i64 0, .int .i64 0]) (by kernel_rfl) rfl Tryz.underlying116 rfl
instance Tryz.byt116 : BytP Tryz.prog 116 40 := ⟨by kernel_rfl⟩
instance Tryz.map117 : MapP Tryz.prog 117 3 4 := ⟨Tryz.underlying117⟩
instance Tryz.ty117 : TyP Tryz.prog 117 1 false [.map none] := TyP.mk' (v := .map none) (by kernel_rfl) rfl Tryz.underlying117 rfl
instance Tryz.byt117 : BytP Tryz.prog 117 8 := ⟨by kernel_rfl⟩
instance Tryz.ty118 : TyP Tryz.prog 118 4 true [.int .i64 0, .slice none 0 0, .slice none 0 0, .map none] := TyP.mk' (v := .agg #[.int .i64 0, .slice none 0 0, .slice none 0 0, .map none]) (by kernel_rfl) rfl Tryz.underlying118 rfl
instance Tryz.byt118 : BytP Tryz.prog 118 64 := ⟨by kernel_rfl⟩
instance Tryz.ty119 : TyP Tryz.prog 119 4 true [.int .i64 0, .slice none 0 0, .slice none 0 0, .map none] := TyP.mk' (v := .agg #[.int .i64 0, .slice none 0 0, .slice none 0 0, .map none]) (by kernel_rfl) rfl Tryz.underlying119 rfl
instance Tryz.byt119 : BytP Tryz.prog 119 64 := ⟨by kernel_rfl⟩
instance Tryz.ty120 : TyP Tryz.prog 120 1 false [.nilFunc] := TyP.mk' (v := .nilFunc) (by kernel_rfl) rfl Tryz.underlying120 rfl
instance Tryz.byt120 : BytP Tryz.prog 120 8 := ⟨by kernel_rfl⟩
instance Tryz.ty121 : TyP Tryz.prog 121 1 false [.nilFunc] := TyP.mk' (v := .nilFunc) (by kernel_rfl) rfl Tryz.underlying121 rfl
instance Tryz.byt121 : BytP Tryz.prog 121 8 := ⟨by kernel_rfl⟩
instance Tryz.ty122 : TyP Tryz.prog 122 1 false [.nilFunc] := TyP.mk' (v := .nilFunc) (by kernel_rfl) rfl Tryz.underlying122 rfl
instance Tryz.byt122 : BytP Tryz.prog 122 8 := ⟨by kernel_rfl⟩
instance Tryz.ty123 : TyP Tryz.prog 123 1 false [.nilFunc] := TyP.mk' (v := .nilFunc) (by kernel_rfl) rfl Tryz.underlying123 rfl
instance Tryz.byt123 : BytP Tryz.prog 123 8 := ⟨by kernel_rfl⟩
instance Tryz.ty124 : TyP Tryz.prog 124 1 false [.nilFunc] := TyP.mk' (v := .nilFunc) (by kernel_rfl) rfl Tryz.underlying124 rfl
instance Tryz.byt124 : BytP Tryz.prog 124 8 := ⟨by kernel_rfl⟩
instance Tryz.ty125 : TyP Tryz.prog 125 1 false [.nilFunc] := TyP.mk' (v := .nilFunc) (by kernel_rfl) rfl Tryz.underlying125 rfl
instance Tryz.byt125 : BytP Tryz.prog 125 8 := ⟨by kernel_rfl⟩
instance Tryz.ty126 : TyP Tryz.prog 126 1 false [.nilFunc] := TyP.mk' (v := .nilFunc) (by kernel_rfl) rfl Tryz.underlying126 rfl
instance Tryz.byt126 : BytP Tryz.prog 126 8 := ⟨by kernel_rfl⟩
instance Tryz.ty127 : TyP Tryz.prog 127 4 true [.slice none 0 0, .slice none 0 0, .int .i64 0, .int .i64 0] := TyP.mk' (v := .agg #[.slice none 0 0, .slice none 0 0, .int .i64 0, .int .i64 0]) (by kernel_rfl) rfl Tryz.underlying127 rfl
instance Tryz.byt127 : BytP Tryz.prog 127 64 := ⟨by kernel_rfl⟩
instance Tryz.ty128 : TyP Tryz.prog 128 4 true [.slice none 0 0, .slice none 0 0, .int .i64 0, .int .i64 0] := TyP.mk' (v := .agg #[.slice none 0 0, .slice none 0 0, .int .i64 0, .int .i64 0]) (by kernel_rfl) rfl Tryz.underlying128 rfl
instance Tryz.byt128 : BytP Tryz.prog 128 64 := ⟨by kernel_rfl⟩
instance Tryz.ty129 : TyP Tryz.prog 129 1 false [.nilFunc] := TyP.mk' (v := .nilFunc) (by kernel_rfl) rfl Tryz.underlying129 rfl
instance Tryz.byt129 : BytP Tryz.prog 129 8 := ⟨by kernel_rfl⟩
instance Tryz.ty130 : TyP Tryz.prog 130 1 false [.nilFunc] := TyP.mk' (v := .nilFunc) (by kernel_rfl) rfl Tryz.underlying130 rfl
instance Tryz.byt130 : BytP Tryz.prog 130 8 := ⟨by kernel_rfl⟩
instance Tryz.ty131 : TyP Tryz.prog 131 1 false [.nilFunc] := TyP.mk' (v := .nilFunc) (by kernel_rfl) rfl Tryz.underlying131 rfl
instance Tryz.byt131 : BytP Tryz.prog 131 8 := ⟨by kernel_rfl⟩
instance Tryz.ty132 : TyP Tryz.prog 132 1 false [.nilFunc] := TyP.mk' (v := .nilFunc) (by kernel_rfl) rfl Tryz.underlying132 rfl
instance Tryz.byt132 : BytP Tryz.prog 132 8 := ⟨by kernel_rfl⟩
instance Tryz.ty133 : TyP Tryz.prog 133 1 false [.nilFunc] := TyP.mk' (v := .nilFunc) (by kernel_rfl) rfl Tryz.underlying133 rfl
instance Tryz.byt133 : BytP Tryz.prog 133 8 := ⟨by kernel_rfl⟩
instance Tryz.ty134 : TyP Tryz.prog 134 4 true [.int .i64 0, .int .i64 0, .int .i64 0, .int .i64 0] := TyP.mk' (v := .agg #[.int .i64 0, .int .i64 0, .int .i64 0, .int .i64 0]) (by kernel_rfl) rfl Tryz.underlying134 rfl
instance Tryz.byt134 : BytP Tryz.prog 134 32 := ⟨by kernel_rfl⟩
instance Tryz.ty135 : TyP Tryz.prog 135 4 true [.int .i64 0, .int .i64 0, .int .i64 0, .int .i64 0] := TyP.mk' (v := .agg #[.int .i64 0, .int .i64 0, .int .i64 0, .int .i64 0]) (by kernel_rfl) rfl Tryz.underlying135 rfl
instance Tryz.byt135 : BytP Tryz.prog 135 32 := ⟨by kernel_rfl⟩
instance Tryz.ty136 : TyP Tryz.prog 136 1 false [.nilFunc] := TyP.mk' (v := .nilFunc) (by kernel_rfl) rfl Tryz.underlying136 rfl
instance Tryz.byt136 : BytP Tryz.prog 136 8 := ⟨by kernel_rfl⟩
instance Tryz.ty137 : TyP Tryz.prog 137 1 false [.nilFunc] := TyP.mk' (v := .nilFunc) (by kernel_rfl) rfl Tryz.underlying137 rfl
instance Tryz.byt137 : BytP Tryz.prog 137 8 := ⟨by kernel_rfl⟩
instance Tryz.ty138 : TyP Tryz.prog 138 1 false [.nilFunc] := TyP.mk' (v := .nilFunc) (by kernel_rfl) rfl Tryz.underlying138 rfl
instance Tryz.byt138 : BytP Tryz.prog 138 8 := ⟨by kernel_rfl⟩
instance Tryz.ty139 : TyP Tryz.prog 139 1 false [.nilFunc] := TyP.mk' (v := .nilFunc) (by kernel_rfl) rfl Tryz.underlying139 rfl
instance Tryz.byt139 : BytP Tryz.prog 139 8 := ⟨by kernel_rfl⟩
instance Tryz.ty141 : TyP Tryz.prog 141 1 false [.nilFunc] := TyP.mk' (v := .nilFunc) (by kernel_rfl) rfl Tryz.underlying141 rfl
instance Tryz.byt141 : BytP Tryz.prog 141 8 := ⟨by kernel_rfl⟩
instance Tryz.ty142 : TyP Tryz.prog 142 1 false [.nilFunc] := TyP.mk' (v := .nilFunc) (by kernel_rfl) rfl Tryz.underlying142 rfl
instance Tryz.byt142 : BytP Tryz.prog 142 8 := ⟨by kernel_rfl⟩
instance Tryz.ty144 : TyP Tryz.prog 144 1 false [.nilFunc] := TyP.mk' (v := .nilFunc) (by kernel_rfl) rfl Tryz.underlying144 rfl
instance Tryz.byt144 : BytP Tryz.prog 144 8 := ⟨by kernel_rfl⟩
instance Tryz.ty145 : TyP Tryz.prog 145 1 false [.nilFunc] := TyP.mk' (v := .nilFunc) (by kernel_rfl) rfl Tryz.underlying145 rfl
instance Tryz.byt145 : BytP Tryz.prog 145 8 := ⟨by kernel_rfl⟩
instance Tryz.ty146 : TyP Tryz.prog 146 1 false [.nilFunc] := TyP.mk' (v := .nilFunc) (by kernel_rfl) rfl Tryz.underlying146 rfl
instance Tryz.byt146 : BytP Tryz.prog 146 8 := ⟨by kernel_rfl⟩
instance Tryz.ty147 : TyP Tryz.prog 147 1 false [.nilFunc] := TyP.mk' (v := .nilFunc) (by kernel_rfl) rfl Tryz.underlying147 rfl
instance Tryz.byt147 : BytP Tryz.prog 147 8 := ⟨by kernel_rfl⟩
instance Tryz.ty148 : TyP Tryz.prog 148 1 false [.nilFunc] := TyP.mk' (v := .nilFunc) (by kernel_rfl) rfl Tryz.underlying148 rfl
instance Tryz.byt148 : BytP Tryz.prog 148 8 := ⟨by kernel_rfl⟩
instance Tryz.ty149 : TyP Tryz.prog 149 1 false [.nilFunc] := TyP.mk' (v := .nilFunc) (by kernel_rfl) rfl Tryz.underlying149 rfl
instance Tryz.byt149 : BytP Tryz.prog 149 8 := ⟨by kernel_rfl⟩
instance Tryz.ty150 : TyP Tryz.prog 150 1 false [.nilFunc] := TyP.mk' (v := .nilFunc) (by kernel_rfl) rfl Tryz.underlying150 rfl
instance Tryz.byt150 : BytP Tryz.prog 150 8 := ⟨by kernel_rfl⟩
instance Tryz.ty151 : TyP Tryz.prog 151 1 false [.nilFunc] := TyP.mk' (v := .nilFunc) (by kernel_rfl) rfl Tryz.underlying151 rfl
instance Tryz.byt151 : BytP Tryz.prog 151 8 := ⟨by kernel_rfl⟩
instance Tryz.ty152 : TyP Tryz.prog 152 1 false [.nilFunc] := TyP.mk' (v := .nilFunc) (by kernel_rfl) rfl Tryz.underlying152 rfl
instance Tryz.byt152 : BytP Tryz.prog 152 8 := ⟨by kernel_rfl⟩
instance Tryz.ty153 : TyP Tryz.prog 153 1 false [.nilFunc] := TyP.mk' (v := .nilFunc) (by kernel_rfl) rfl Tryz.underlying153 rfl
instance Tryz.byt153 : BytP Tryz.prog 153 8 := ⟨by kernel_rfl⟩
instance Tryz.ty154 : TyP Tryz.prog 154 1 false [.nilFunc] := TyP.mk' (v := .nilFunc) (by kernel_rfl) rfl Tryz.underlying154 rfl
instance Tryz.byt154 : BytP Tryz.prog 154 8 := ⟨by kernel_rfl⟩
instance Tryz.ty155 : TyP Tryz.prog 155 1 false [.nilFunc] := TyP.mk' (v := .nilFunc) (by kernel_rfl) rfl Tryz.underlying155 rfl
instance Tryz.byt155 : BytP Tryz.prog 155 8 := ⟨by kernel_rfl⟩
instance Tryz.ty156 : TyP Tryz.prog 156 1 false [.nilFunc] := TyP.mk' (v := .nilFunc) (by kernel_rfl) rfl Tryz.underlying156 rfl
instance Tryz.byt156 : BytP Tryz.prog 156 8 := ⟨by kernel_rfl⟩
instance Tryz.ty157 : TyP Tryz.prog 157 1 false [.nilFunc] := TyP.mk' (v := .nilFunc) (by kernel_rfl) rfl Tryz.underlying157 rfl
instance Tryz.byt157 : BytP Tryz.prog 157 8 := ⟨by kernel_rfl⟩
instance Tryz.ty158 : TyP Tryz.prog 158 1 false [.nilFunc] := TyP.mk' (v := .nilFunc) (by kernel_rfl) rfl Tryz.underlying158 rfl
instance Tryz.byt158 : BytP Tryz.prog 158 8 := ⟨by kernel_rfl⟩
instance Tryz.ty160 : TyP Tryz.prog 160 1 false [.nilFunc] := TyP.mk' (v := .nilFunc) (by kernel_rfl) rfl Tryz.underlying160 rfl
instance Tryz.byt160 : BytP Tryz.prog 160 8 := ⟨by kernel_rfl⟩
instance Tryz.ty161 : TyP Tryz.prog 161 1 false [.nilFunc] := TyP.mk' (v := .nilFunc) (by kernel_rfl) rfl Tryz.underlying161 rfl
instance Tryz.byt161 : BytP Tryz.prog 161 8 := ⟨by kernel_rfl⟩
instance Tryz.ty162 : TyP Tryz.prog 162 1 false [.nilFunc] := TyP.mk' (v := .nilFunc) (by kernel_rfl) rfl Tryz.underlying162 rfl
instance Tryz.byt162 : BytP Tryz.prog 162 8 := ⟨by kernel_rfl⟩
instance Tryz.ty164 : TyP Tryz.prog 164 1 false [.nilFunc] := TyP.mk' (v := .nilFunc) (by kernel_rfl) rfl Tryz.underlying164 rfl
instance Tryz.byt164 : BytP Tryz.prog 164 8 := ⟨by kernel_rfl⟩
instance Tryz.ty165 : TyP Tryz.prog 165 1 false [.nilFunc] := TyP.mk' (v := .nilFunc) (by kernel_rfl) rfl Tryz.underlying165 rfl
instance Tryz.byt165 : BytP Tryz.prog 165 8 := ⟨by kernel_rfl⟩
instance Tryz.ty166 : TyP Tryz.prog 166 1 false [.nilFunc] := TyP.mk' (v := .nilFunc) (by kernel_rfl) rfl Tryz.underlying166 rfl
instance Tryz.byt166 : BytP Tryz.prog 166 8 := ⟨by kernel_rfl⟩
instance Tryz.ty167 : TyP Tryz.prog 167 4 true [.int .i64 0, .int .i64 0, .int .i64 0, .int .i64 0] := TyP.mk' (v := .agg #[.int .i64 0, .int .i64 0, .int .i64 0, .int .i64 0]) (by kernel_rfl) rfl Tryz.underlying167 rfl
instance Tryz.byt167 : BytP Tryz.prog 167 32 := ⟨by kernel_rfl⟩
instance Tryz.ty168 : TyP Tryz.prog 168 4 true [.int .i64 0, .int .i64 0, .int .i64 0, .int .i64 0] := TyP.mk' (v := .agg #[.int .i64 0, .int .i64 0, .int .i64 0, .int .i64 0]) (by kernel_rfl) rfl Tryz.underlying168 rfl
instance Tryz.byt168 : BytP Tryz.prog 168 32 := ⟨by kernel_rfl⟩
instance Tryz.ty169 : TyP Tryz.prog 169 1 false [.nilFunc] := TyP.mk' (v := .nilFunc) (by kernel_rfl) rfl Tryz.underlying169 rfl
instance Tryz.byt169 : BytP Tryz.prog 169 8 := ⟨by kernel_rfl⟩
instance Tryz.ty170 : TyP Tryz.prog 170 1 false [.nilFunc] := TyP.mk' (v := .nilFunc) (by kernel_rfl) rfl Tryz.underlying170 rfl
instance Tryz.byt170 : BytP Tryz.prog 170 8 := ⟨by kernel_rfl⟩
instance Tryz.ty171 : TyP Tryz.prog 171 1 false [.nilFunc] := TyP.mk' (v := .nilFunc) (by kernel_rfl) rfl Tryz.underlying171 rfl
instance Tryz.byt171 : BytP Tryz.prog 171 8 := ⟨by kernel_rfl⟩
instance Tryz.ty172 : TyP Tryz.prog 172 1 false [.nilFunc] := TyP.mk' (v := .nilFunc) (by kernel_rfl) rfl Tryz.underlying172 rfl
instance Tryz.byt172 : BytP Tryz.prog 172 8 := ⟨by kernel_rfl⟩
instance Tryz.ty173 : TyP Tryz.prog 173 1 false [.nilFunc] := TyP.mk' (v := .nilFunc) (by kernel_rfl) rfl Tryz.underlying173 rfl
instance Tryz.byt173 : BytP Tryz.prog 173 8 := ⟨by kernel_rfl⟩
instance Tryz.ty174 : TyP Tryz.prog 174 1 false [.nilFunc] := TyP.mk' (v := .nilFunc) (by kernel_rfl) rfl Tryz.underlying174 rfl
instance Tryz.byt174 : BytP Tryz.prog 174 8 := ⟨by kernel_rfl⟩
instance Tryz.ty175 : TyP Tryz.prog 175 1 false [.nilFunc] := TyP.mk' (v := .nilFunc) (by kernel_rfl) rfl Tryz.underlying175 rfl
instance Tryz.byt175 : BytP Tryz.prog 175 8 := ⟨by kernel_rfl⟩
instance Tryz.ty176 : TyP Tryz.prog 176 1 false [.nilFunc] := TyP.mk' (v := .nilFunc) (by kernel_rfl) rfl Tryz.underlying176 rfl
instance Tryz.byt176 : BytP Tryz.prog 176 8 := ⟨by kernel_rfl⟩
instance Tryz.ty177 : TyP Tryz.prog 177 1 false [.nilFunc] := TyP.mk' (v := .nilFunc) (by kernel_rfl) rfl Tryz.underlying177 rfl
instance Tryz.byt177 : BytP Tryz.prog 177 8 := ⟨by kernel_rfl⟩
instance Tryz.ty178 : TyP Tryz.prog 178 1 false [.nilFunc] := TyP.mk' (v := .nilFunc) (by kernel_rfl) rfl Tryz.underlying178 rfl
instance Tryz.byt178 : BytP Tryz.prog 178 8 := ⟨by kernel_rfl⟩
instance Tryz.ty179 : TyP Tryz.prog 179 1 false [.nilFunc] := TyP.mk' (v := .nilFunc) (by kernel_rfl) rfl Tryz.underlying179 rfl
instance Tryz.byt179 : BytP Tryz.prog 179 8 := ⟨by kernel_rfl⟩
instance Tryz.ty180 : TyP Tryz.prog 180 1 false [.nilFunc] := TyP.mk' (v := .nilFunc) (by kernel_rfl) rfl Tryz.underlying180 rfl
instance Tryz.byt180 : BytP Tryz.prog 180 8 := ⟨by kernel_rfl⟩
instance Tryz.slc181 : SlcP Tryz.prog 181 5 := ⟨Tryz.underlying181⟩
instance Tryz.ty181 : TyP Tryz.prog 181 1 false [.slice none 0 0] := TyP.mk' (v := .slice none 0 0) (by kernel_rfl) rfl Tryz.underlying181 rfl
instance Tryz.byt181 : BytP Tryz.prog 181 24 := ⟨by kernel_rfl⟩
instance Tryz.ty183 : TyP Tryz.prog 183 1 false [.nilFunc] := TyP.mk' (v := .nilFunc) (by kernel_rfl) rfl Tryz.underlying183 rfl
instance Tryz.byt183 : BytP Tryz.prog 183 8 := ⟨by kernel_rfl⟩
instance Tryz.ty184 : TyP Tryz.prog 184 4 true [.int .i64 0, .int .i64 0, .int .i64 0, .int .i64 0] := TyP.mk' (v := .agg #[.int .i64 0, .int .i64 0, .int .i64 0, .int .i64 0]) (by kernel_rfl) rfl Tryz.underlying184 rfl
instance Tryz.byt184 : BytP Tryz.prog 184 32 := ⟨by kernel_rfl⟩
instance Tryz.ty185 : TyP Tryz.prog 185 4 true [.int .i64 0, .int .i64 0, .int .i64 0, .int .i64 0] := TyP.mk' (v := .agg #[.int .i64 0, .int .i64 0, .int .i64 0, .int .i64 0]) (by kernel_rfl) rfl Tryz.underlying185 rfl
instance Tryz.byt185 : BytP Tryz.prog 185 32 := ⟨by kernel_rfl⟩
instance Tryz.slc186 : SlcP Tryz.prog 186 185 := ⟨Tryz.underlying186⟩
instance Tryz.ty186 : TyP Tryz.prog 186 1 false [.slice none 0 0] := TyP.mk' (v := .slice none 0 0) (by kernel_rfl) rfl Tryz.underlying186 rfl
instance Tryz.byt186 : BytP Tryz.prog 186 24 := ⟨by kernel_rfl⟩
instance Tryz.slc187 : SlcP Tryz.prog 187 297 := ⟨Tryz.underlying187⟩
instance Tryz.ty187 : TyP Tryz.prog 187 1 false [.slice none 0 0] := TyP.mk' (v := .slice none 0 0) (by kernel_rfl) rfl Tryz.underlying187 rfl
instance Tryz.byt187 : BytP Tryz.prog 187 24 := ⟨by kernel_rfl⟩
instance Tryz.slc188 : SlcP Tryz.prog 188 299 := ⟨Tryz.underlying188⟩
instance Tryz.ty188 : TyP Tryz.prog 188 1 false [.slice none 0 0] := TyP.mk' (v := .slice none 0 0) (by kernel_rfl) rfl Tryz.underlying188 rfl
instance Tryz.byt188 : BytP Tryz.prog 188 24 := ⟨by kernel_rfl⟩
instance Tryz.ty189 : TyP Tryz.prog 189 4 true [.int .i64 0, .slice none 0 0, .slice none 0 0, .slice none 0 0] := TyP.mk' (v := .agg #[.int .i64 0, .slice none 0 0, .slice none 0 0, .slice none 0 0]) (by kernel_rfl) rfl Tryz.underlying189 rfl
instance Tryz.byt189 : BytP Tryz.prog 189 80 := ⟨by kernel_rfl⟩
instance Tryz.ty190 : TyP Tryz.prog 190 4 true [.int .i64 0, .slice none 0 0, .slice none 0 0, .slice none 0 0] := TyP.mk' (v := .agg #[.int .i64 0, .slice none 0 0, .slice none 0 0, .slice none 0 0]) (by kernel_rfl) rfl Tryz.underlying190 rfl
instance Tryz.byt190 : BytP Tryz.prog 190 80 := ⟨by kernel_rfl⟩
instance Tryz.ty191 : TyP Tryz.prog 191 1 false [.nilFunc] := TyP.mk' (v := .nilFunc) (by kernel_rfl) rfl Tryz.underlying191 rfl
instance Tryz.byt191 : BytP Tryz.prog 191 8 := ⟨by kernel_rfl⟩
instance Tryz.ty192 : TyP Tryz.prog 192 6 true [.int .i64 0, .int .i64 0, .int .i64 0, .int .i64 0, .int .i64 0, .int .i64 0] := TyP.mk' (v := .agg #[.int .i64 0, .int .i64 0, .int .i64 0, .int .i64 0, .int .i64 0, .int .i64 0]) (by kernel_rfl) rfl Tryz.underlying192 rfl
instance Tryz.byt192 : BytP Tryz.prog 192 48 := ⟨by kernel_rfl⟩
instance Tryz.ty193 : TyP Tryz.prog 193 6 true [.int .i64 0, .int .i64 0, .int .i64 0, .int .i64 0, .int .i64 0, .int .i64 0] := TyP.mk' (v := .agg #[.int .i64 0, .int .i64 0, .int .i64 0, .int .i64 0, .int .i64 0, .int .i64 0]) (by kernel_rfl) rfl Tryz.underlying193 rfl
instance Tryz.byt193 : BytP Tryz.prog 193 48 := ⟨by kernel_rfl⟩
instance Tryz.slc194 : SlcP Tryz.prog 194 193 := ⟨Tryz.underlying194⟩
instance Tryz.ty194 : TyP Tryz.prog 194 1 false [.slice none 0 0] := TyP.mk' (v := .slice none 0 0) (by kernel_rfl) rfl Tryz.underlying194 rfl
instance Tryz.byt194 : BytP Tryz.prog 194 24 := ⟨by kernel_rfl⟩
instance Tryz.ty196 : TyP Tryz.prog 196 1 false [.nilFunc] := TyP.mk' (v := .nilFunc) (by kernel_rfl) rfl Tryz.underlying196 rfl
instance Tryz.byt196 : BytP Tryz.prog 196 8 := ⟨by kernel_rfl⟩
instance Tryz.ty197 : TyP Tryz.prog 197 1 false [.nilFunc] := TyP.mk' (v := .nilFunc) (by kernel_rfl) rfl Tryz.underlying197 rfl
instance Tryz.byt197 : BytP Tryz.prog 197 8 := ⟨by kernel_rfl⟩
instance Tryz.ty198 : TyP Tryz.prog 198 1 false [.nilFunc] := TyP.mk' (v := .nilFunc) (by kernel_rfl) rfl Tryz.underlying198 rfl
instance Tryz.byt198 : BytP Tryz.prog 198 8 := ⟨by kernel_rfl⟩
instance Tryz.ty199 : TyP Tryz.prog 199 1 false [.nilFunc] := TyP.mk' (v := .nilFunc) (by kernel_rfl) rfl Tryz.underlying199 rfl
instance Tryz.byt199 : BytP Tryz.prog 199 8 := ⟨by kernel_rfl⟩
instance Tryz.ty200 : TyP Tryz.prog 200 1 false [.nilFunc] := TyP.mk' (v := .nilFunc) (by kernel_rfl) rfl Tryz.underlying200 rfl
instance Tryz.byt200 : BytP Tryz.prog 200 8 := ⟨by kernel_rfl⟩
instance Tryz.ty201 : TyP Tryz.prog 201 1 false [.nilFunc] := TyP.mk' (v := .nilFunc) (by kernel_rfl) rfl Tryz.underlying201 rfl
instance Tryz.byt201 : BytP Tryz.prog 201 8 := ⟨by kernel_rfl⟩
instance Tryz.ty202 : TyP Tryz.prog 202 1 false [.nilFunc] := TyP.mk' (v := .nilFunc) (by kernel_rfl) rfl Tryz.underlying202 rfl
instance Tryz.byt202 : BytP Tryz.prog 202 8 := ⟨by kernel_rfl⟩
instance Tryz.ty204 : TyP Tryz.prog 204 1 false [.nilFunc] := TyP.mk' (v := .nilFunc) (by kernel_rfl) rfl Tryz.underlying204 rfl
instance Tryz.byt204 : BytP Tryz.prog 204 8 := ⟨by kernel_rfl⟩
instance Tryz.ty205 : TyP Tryz.prog 205 1 false [.nilFunc] := TyP.mk' (v := .nilFunc) (by kernel_rfl) rfl Tryz.underlying205 rfl
instance Tryz.byt205 : BytP Tryz.prog 205 8 := ⟨by kernel_rfl⟩
instance Tryz.ty206 : TyP Tryz.prog 206 1 false [.nilFunc] := TyP.mk' (v := .nilFunc) (by kernel_rfl) rfl Tryz.underlying206 rfl
instance Tryz.byt206 : BytP Tryz.prog 206 8 := ⟨by kernel_rfl⟩
instance Tryz.ty207 : TyP Tryz.prog 207 1 false [.nilFunc] := TyP.mk' (v := .nilFunc) (by kernel_rfl) rfl Tryz.underlying207 rfl
instance Tryz.byt207 : BytP Tryz.prog 207 8 := ⟨by kernel_rfl⟩
instance Tryz.ty208 : TyP Tryz.prog 208 1 false [.nilFunc] := TyP.mk' (v := .nilFunc) (by kernel_rfl) rfl Tryz.underlying208 rfl
instance Tryz.byt208 : BytP Tryz.prog 208 8 := ⟨by kernel_rfl⟩
instance Tryz.map209 : MapP Tryz.prog 209 3 50 := ⟨Tryz.underlying209⟩
instance Tryz.ty209 : TyP Tryz.prog 209 1 false [.map none] := TyP.mk' (v := .map none) (by kernel_rfl) rfl Tryz.underlying209 rfl
instance Tryz.byt209 : BytP Tryz.prog 209 8 := ⟨by kernel_rfl⟩
instance Tryz.ty211 : TyP Tryz.prog 211 1 false [.nilFunc] := TyP.mk' (v := .nilFunc) (by kernel_rfl) rfl Tryz.underlying211 rfl
instance Tryz.byt211 : BytP Tryz.prog 211 8 := ⟨by kernel_rfl⟩
instance Tryz.ty212 : TyP Tryz.prog 212 1 false [.nilFunc] := TyP.mk' (v := .nilFunc) (by kernel_rfl) rfl Tryz.underlying212 rfl
instance Tryz.byt212 : BytP Tryz.prog 212 8 := ⟨by kernel_rfl⟩
instance Tryz.ty213 : TyP Tryz.prog 213 2 true [.int .i64 0, .int .i64 0] := TyP.mk' (v := .agg #[.int .i64 0, .int .i64 0]) (by kernel_rfl) rfl Tryz.underlying213 rfl
instance Tryz.byt213 : BytP Tryz.prog 213 16 := ⟨by kernel_rfl⟩
instance Tryz.ty214 : TyP Tryz.prog 214 2 true [.int .i64 0, .int .i64 0] := TyP.mk' (v := .agg #[.int .i64 0, .int .i64 0]) (by kernel_rfl) rfl Tryz.underlying214 rfl
instance Tryz.byt214 : BytP Tryz.prog 214 16 := ⟨by kernel_rfl⟩
instance Tryz.ty215 : TyP Tryz.prog 215 1 false [.nilFunc] := TyP.mk' (v := .nilFunc) (by kernel_rfl) rfl Tryz.underlying215 rfl
instance Tryz.byt215 : BytP Tryz.prog 215 8 := ⟨by kernel_rfl⟩
instance Tryz.ty216 : TyP Tryz.prog 216 1 false [.nilFunc] := TyP.mk' (v := .nilFunc) (by kernel_rfl) rfl Tryz.underlying216 rfl
instance Tryz.byt216 : BytP Tryz.prog 216 8 := ⟨by kernel_rfl⟩
instance Tryz.int217 : IntP Tryz.prog 217 .u8 := ⟨Tryz.underlying217⟩
instance Tryz.ty217 : TyP Tryz.prog 217 1 false [.int .u8 0] := TyP.mk' (v := .int .u8 0) (by kernel_rfl) rfl Tryz.underlying217 rfl
instance Tryz.byt217 : BytP Tryz.prog 217 1 := ⟨by kernel_rfl⟩
instance Tryz.ty219 : TyP Tryz.prog 219 1 false [.nilFunc] := TyP.mk' (v := .nilFunc) (by kernel_rfl) rfl Tryz.underlying219 rfl
instance Tryz.byt219 : BytP Tryz.prog 219 8 := ⟨by kernel_rfl⟩
instance Tryz.ty220 : TyP Tryz.prog 220 1 false [.nilFunc] := TyP.mk' (v := .nilFunc) (by kernel_rfl) rfl Tryz.underlying220 rfl
instance Tryz.byt220 : BytP Tryz.prog 220 8 := ⟨by kernel_rfl⟩
instance Tryz.ty221 : TyP Tryz.prog 221 5 true [.bool false, .bool false, .bool false, .bool false, .nilFunc] := TyP.mk' (v := .agg #[.bool false, .bool false, .bool false, .bool false, .nilFunc]) (by kernel_rfl) rfl Tryz.underlying221 rfl
instance Tryz.byt221 : BytP Tryz.prog 221 16 := ⟨by kernel_rfl⟩
instance Tryz.ty222 : TyP Tryz.prog 222 5 true [.bool false, .bool false, .bool false, .bool false, .nilFunc] := TyP.mk' (v := .agg #[.bool false, .bool false, .bool false, .bool false, .nilFunc]) (by kernel_rfl) rfl Tryz.underlying222 rfl
instance Tryz.byt222 : BytP Tryz.prog 222 16 := ⟨by kernel_rfl⟩
instance Tryz.map223 : MapP Tryz.prog 223 5 222 := ⟨Tryz.underlying223⟩
instance Tryz.ty223 : TyP Tryz.prog 223 1 false [.map none] := TyP.mk' (v := .map none) (by kernel_rfl) rfl Tryz.underlying223 rfl
instance Tryz.byt223 : BytP Tryz.prog 223 8 := ⟨by kernel_rfl⟩
instance Tryz.ty224 : TyP Tryz.prog 224 1 false [.nilFunc] := TyP.mk' (v := .nilFunc) (by kernel_rfl) rfl Tryz.underlying224 rfl
instance Tryz.byt224 : BytP Tryz.prog 224 8 := ⟨by kernel_rfl⟩
instance Tryz.ty225 : TyP Tryz.prog 225 1 false [.nilFunc] := TyP.mk' (v := .nilFunc) (by kernel_rfl) rfl Tryz.underlying225 rfl
instance Tryz.byt225 : BytP Tryz.prog 225 8 := ⟨by kernel_rfl⟩
instance Tryz.ty226 : TyP Tryz.prog 226 1 false [.nilFunc] := TyP.mk' (v := .nilFunc) (by kernel_rfl) rfl Tryz.underlying226 rfl
instance Tryz.byt226 : BytP Tryz.prog 226 8 := ⟨by kernel_rfl⟩
instance Tryz.ty227 : TyP Tryz.prog 227 1 false [.nilFunc] := TyP.mk' (v := .nilFunc) (by kernel_rfl) rfl Tryz.underlying227 rfl
instance Tryz.byt227 : BytP Tryz.prog 227 8 := ⟨by kernel_rfl⟩
instance Tryz.map228 : MapP Tryz.prog 228 3 3 := ⟨Tryz.underlying228⟩
instance Tryz.ty228 : TyP Tryz.prog 228 1 false [.map none] := TyP.mk' (v := .map none) (by kernel_rfl) rfl Tryz.underlying228 rfl
instance Tryz.byt228 : BytP Tryz.prog 228 8 := ⟨by kernel_rfl⟩
instance Tryz.ty229 : TyP Tryz.prog 229 1 false [.nilFunc] := TyP.mk' (v := .nilFunc) (by kernel_rfl) rfl Tryz.underlying229 rfl
instance Tryz.byt229 : BytP Tryz.prog 229 8 := ⟨by kernel_rfl⟩
instance Tryz.ptr230 : PtrP Tryz.prog 230 301 := ⟨Tryz.underlying230⟩
instance Tryz.ty230 : TyP Tryz.prog 230 1 false [.pointer none] := TyP.mk' (v := .pointer none) (by kernel_rfl) rfl Tryz.underlying230 rfl
instance Tryz.byt230 : BytP Tryz.prog 230 8 := ⟨by kernel_rfl⟩
instance Tryz.ty232 : TyP Tryz.prog 232 1 false [.nilFunc] := TyP.mk' (v := .nilFunc) (by kernel_rfl) rfl Tryz.underlying232 rfl
instance Tryz.byt232 : BytP Tryz.prog 232 8 := ⟨by kernel_rfl⟩
instance Tryz.slc233 : SlcP Tryz.prog 233 265 := ⟨Tryz.underlying233⟩
instance Tryz.ty233 : TyP Tryz.prog 233 1 false [.slice none 0 0] := TyP.mk' (v := .slice none 0 0) (by kernel_rfl) rfl Tryz.underlying233 rfl
instance Tryz.byt233 : BytP Tryz.prog 233 24 := ⟨by kernel_rfl⟩
instance Tryz.ty234 : TyP Tryz.prog 234 1 false [.nilFunc] := TyP.mk' (v := .nilFunc) (by kernel_rfl) rfl Tryz.underlying234 rfl
instance Tryz.byt234 : BytP Tryz.prog 234 8 := ⟨by kernel_rfl⟩
instance Tryz.slc235 : SlcP Tryz.prog 235 242 := ⟨Tryz.underlying235⟩
instance Tryz.ty235 : TyP Tryz.prog 235 1 false [.slice none 0 0] := TyP.mk' (v := .slice none 0 0) (by kernel_rfl) rfl Tryz.underlying235 rfl
instance Tryz.byt235 : BytP Tryz.prog 235 24 := ⟨by kernel_rfl⟩
instance Tryz.ty236 : TyP Tryz.prog 236 2 true [.slice none 0 0, .slice none 0 0] := TyP.mk' (v := .agg #[.slice none 0 0, .slice none 0 0]) (by kernel_rfl) rfl Tryz.underlying236 rfl
instance Tryz.byt236 : BytP Tryz.prog 236 48 := ⟨by kernel_rfl⟩
instance Tryz.ty237 : TyP Tryz.prog 237 2 true [.slice none 0 0, .slice none 0 0] := TyP.mk' (v := .agg #[.slice none 0 0, .slice none 0 0]) (by kernel_rfl) rfl Tryz.underlying237 rfl
instance Tryz.byt237 : BytP Tryz.prog 237 48 := ⟨by kernel_rfl⟩
instance Tryz.ty238 : TyP Tryz.prog 238 1 false [.nilFunc] := TyP.mk' (v := .nilFunc) (by kernel_rfl) rfl Tryz.underlying238 rfl
instance Tryz.byt238 : BytP Tryz.prog 238 8 := ⟨by kernel_rfl⟩
instance Tryz.ty240 : TyP Tryz.prog 240 1 false [.nilFunc] := TyP.mk' (v := .nilFunc) (by kernel_rfl) rfl Tryz.underlying240 rfl
instance Tryz.byt240 : BytP Tryz.prog 240 8 := ⟨by kernel_rfl⟩
instance Tryz.ty241 : TyP Tryz.prog 241 6 true [.int .i64 0, .int .i64 0, .int .i64 0, .int .i64 0, .int .i64 0, .int .i64 0] := TyP.mk' (v := .agg #[.int .i64 0, .int .i64 0, .int .i64 0, .int .i64 0, .int .i64 0, .int .i64 0]) (by kernel_rfl) rfl Tryz.underlying241 rfl
instance Tryz.byt241 : BytP Tryz.prog 241 48 := ⟨by kernel_rfl⟩
instance Tryz.ty242 : TyP Tryz.prog 242 6 true [.int .i64 0, .int .i64 0, .int .i64 0, .int .i64 0, .int .i64 0, .int .i64 0] := TyP.mk' (v := .agg #[.int .i64 0, .int .i64 0, .int .i64 0, .int .i64 0, .int .i64 0, .int .i64 0]) (by kernel_rfl) rfl Tryz.underlying242 rfl
instance Tryz.byt242 : BytP Tryz.prog 242 48 := ⟨by kernel_rfl⟩
instance Tryz.map244 : MapP Tryz.prog 244 5 204 := ⟨Tryz.underlying244⟩
instance Tryz.ty244 : TyP Tryz.prog 244 1 false [.map none] := TyP.mk' (v := .map none) (by kernel_rfl) rfl Tryz.underlying244 rfl
instance Tryz.byt244 : BytP Tryz.prog 244 8 := ⟨by kernel_rfl⟩
instance Tryz.ty245 : TyP Tryz.prog 245 1 false [.nilFunc] := TyP.mk' (v := .nilFunc) (by kernel_rfl) rfl Tryz.underlying245 rfl
instance Tryz.byt245 : BytP Tryz.prog 245 8 := ⟨by kernel_rfl⟩
instance Tryz.ty246 : TyP Tryz.prog 246 1 false [.nilFunc] := TyP.mk' (v := .nilFunc) (by kernel_rfl) rfl Tryz.underlying246 rfl
instance Tryz.byt246 : BytP Tryz.prog 246 8 := ⟨by kernel_rfl⟩
instance Tryz.ty247 : TyP Tryz.prog 247 1 false [.nilFunc] := TyP.mk' (v := .nilFunc) (by kernel_rfl) rfl Tryz.underlying247 rfl
instance Tryz.byt247 : BytP Tryz.prog 247 8 := ⟨by kernel_rfl⟩
instance Tryz.ty249 : TyP Tryz.prog 249 1 false [.nilFunc] := TyP.mk' (v := .nilFunc) (by kernel_rfl) rfl Tryz.underlying249 rfl
instance Tryz.byt249 : BytP Tryz.prog 249 8 := ⟨by kernel_rfl⟩
instance Tryz.ty250 : TyP Tryz.prog 250 1 false [.nilFunc] := TyP.mk' (v := .nilFunc) (by kernel_rfl) rfl Tryz.underlying250 rfl
instance Tryz.byt250 : BytP Tryz.prog 250 8 := ⟨by kernel_rfl⟩
instance Tryz.slc251 : SlcP Tryz.prog 251 216 := ⟨Tryz.underlying251⟩
instance Tryz.ty251 : TyP Tryz.prog 251 1 false [.slice none 0 0] := TyP.mk' (v := .slice none 0 0) (by kernel_rfl) rfl Tryz.underlying251 rfl
instance Tryz.byt251 : BytP Tryz.prog 251 24 := ⟨by kernel_rfl⟩
instance Tryz.ty252 : TyP Tryz.prog 252 1 false [.nilFunc] := TyP.mk' (v := .nilFunc) (by kernel_rfl) rfl Tryz.underlying252 rfl
instance Tryz.byt252 : BytP Tryz.prog 252 8 := ⟨by kernel_rfl⟩
instance Tryz.ty253 : TyP Tryz.prog 253 1 false [.nilFunc] := TyP.mk' (v := .nilFunc) (by kernel_rfl) rfl Tryz.underlying253 rfl
instance Tryz.byt253 : BytP Tryz.prog 253 8 := ⟨by kernel_rfl⟩
instance Tryz.ty254 : TyP Tryz.prog 254 1 false [.nilFunc] := TyP.mk' (v := .nilFunc) (by kernel_rfl) rfl Tryz.underlying254 rfl
instance Tryz.byt254 : BytP Tryz.prog 254 8 := ⟨by kernel_rfl⟩
instance Tryz.ty255 : TyP Tryz.prog 255 1 false [.nilFunc] := TyP.mk' (v := .nilFunc) (by kernel_rfl) rfl Tryz.underlying255 rfl
instance Tryz.byt255 : BytP Tryz.prog 255 8 := ⟨by kernel_rfl⟩
instance Tryz.ty256 : TyP Tryz.prog 256 1 false [.nilFunc] := TyP.mk' (v := .nilFunc) (by kernel_rfl) rfl Tryz.underlying256 rfl
instance Tryz.byt256 : BytP Tryz.prog 256 8 := ⟨by kernel_rfl⟩
instance Tryz.ty258 : TyP Tryz.prog 258 6 true [.int .i64 0, .slice none 0 0, .slice none 0 0, .slice none 0 0, .map none, .int .i64 0] := TyP.mk' (v := .agg #[.int .i64 0, .slice none 0 0, .slice none 0 0, .slice none 0 0, .map none, .int .i64 0]) (by kernel_rfl) rfl Tryz.underlying258 rfl
instance Tryz.byt258 : BytP Tryz.prog 258 96 := ⟨by kernel_rfl⟩
instance Tryz.ty259 : TyP Tryz.prog 259 6 true [.int .i64 0, .slice none 0 0, .slice none 0 0, .slice none 0 0, .map none, .int .i64 0] := TyP.mk' (v := .agg #[.int .i64 0, .slice none 0 0, .slice none 0 0, .slice none 0 0, .map none, .int .i64 0]) (by kernel_rfl) rfl Tryz.underlying259 rfl
instance Tryz.byt259 : BytP Tryz.prog 259 96 := ⟨by kernel_rfl⟩
instance Tryz.ty260 : TyP Tryz.prog 260 1 false [.nilFunc] := TyP.mk' (v := .nilFunc) (by kernel_rfl) rfl Tryz.underlying260 rfl
instance Tryz.byt260 : BytP Tryz.prog 260 8 := ⟨by kernel_rfl⟩
instance Tryz.ary261 : AryP Tryz.prog 261 21 3 := ⟨Tryz.underlying261⟩
instance Tryz.ty261 : TyP Tryz.prog 261 21 true [.int .i64 0, .int .i64 0, .int .i64 0, .int .i64 0, .int .i64 0, .int .i64 0, .int .i64 0, .int .i64 0, .int .i64 0, .int .i64 0, .int .i64 0, .int .i64 0, .int .i64 0, .int .i64 0, .int .i64 0, .int .i64 0, .int .i64 0, .int .i64 0, .int .i64 0, .int .i64 0, .int .i64 0] := TyP.mk' (v := .agg #[.int .i64 0, .int .i64 0, .int .i64 0, .int .i64 0, .int .i64 0, .int .i64 0, .int .i64 0, .int .i64 0, .int .i64 0, .int .i64 0, .int .i64 0, .int .i64 0, .int .i64 0, .int .i64 0, .int .i64 0, .int .i64 0, .int .i64 0, .int .i64 0, .int .i64 0, .int .i64 0, .int .i64 0]) (by kernel_rfl) rfl Tryz.underlying261 rfl
instance Tryz.byt261 : BytP Tryz.prog 261 168 := ⟨by kernel_rfl⟩
instance Tryz.ty262 : TyP Tryz.prog 262 1 false [.nilFunc] := TyP.mk' (v := .nilFunc) (by kernel_rfl) rfl Tryz.underlying262 rfl
instance Tryz.byt262 : BytP Tryz.prog 262 8 := ⟨by kernel_rfl⟩
instance Tryz.ty263 : TyP Tryz.prog 263 1 false [.nilFunc] := TyP.mk' (v := .nilFunc) (by kernel_rfl) rfl Tryz.underlying263 rfl
instance Tryz.byt263 : BytP Tryz.prog 263 8 := ⟨by kernel_rfl⟩
instance Tryz.ty264 : TyP Tryz.prog 264 3 true [.int .i64 0, .int .i64 0, .int .i64 0] := TyP.mk' (v := .agg #[.int .i64 0, .int .i64 0, .int .i64 0]) (by kernel_rfl) rfl Tryz.underlying264 rfl
instance Tryz.byt264 : BytP Tryz.prog 264 24 := ⟨by kernel_rfl⟩
instance Tryz.ty265 : TyP Tryz.prog 265 3 true [.int .i64 0, .int .i64 0, .int .i64 0] := TyP.mk' (v := .agg #[.int .i64 0, .int .i64 0, .int .i64 0]) (by kernel_rfl) rfl Tryz.underlying265 rfl
instance Tryz.byt265 : BytP Tryz.prog 265 24 := ⟨by kernel_rfl⟩
instance Tryz.ty266 : TyP Tryz.prog 266 1 false [.nilFunc] := TyP.mk' (v := .nilFunc) (by kernel_rfl) rfl Tryz.underlying266 rfl
instance Tryz.byt266 : BytP Tryz.prog 266 8 := ⟨by kernel_rfl⟩
instance Tryz.ty267 : TyP Tryz.prog 267 1 false [.nilFunc] := TyP.mk' (v := .nilFunc) (by kernel_rfl) rfl Tryz.underlying267 rfl
instance Tryz.byt267 : BytP Tryz.prog 267 8 := ⟨by kernel_rfl⟩
instance Tryz.ty268 : TyP Tryz.prog 268 1 false [.nilFunc] := TyP.mk' (v := .nilFunc) (by kernel_rfl) rfl Tryz.underlying268 rfl
instance Tryz.byt268 : BytP Tryz.prog 268 8 := ⟨by kernel_rfl⟩
instance Tryz.ty269 : TyP Tryz.prog 269 1 false [.nilFunc] := TyP.mk' (v := .nilFunc) (by kernel_rfl) rfl Tryz.underlying269 rfl
instance Tryz.byt269 : BytP Tryz.prog 269 8 := ⟨by kernel_rfl⟩
instance Tryz.ty270 : TyP Tryz.prog 270 1 true [.int .i64 0] := TyP.mk' (v := .agg #[.int .i64 0]) (by kernel_rfl) rfl Tryz.underlying270 rfl
instance Tryz.byt270 : BytP Tryz.prog 270 8 := ⟨by kernel_rfl⟩
instance Tryz.ty271 : TyP Tryz.prog 271 1 true [.int .i64 0] := TyP.mk' (v := .agg #[.int .i64 0]) (by kernel_rfl) rfl Tryz.underlying271 rfl
instance Tryz.byt271 : BytP Tryz.prog 271 8 := ⟨by kernel_rfl⟩
instance Tryz.ty273 : TyP Tryz.prog 273 1 false [.nilFunc] := TyP.mk' (v := .nilFunc) (by kernel_rfl) rfl Tryz.underlying273 rfl
instance Tryz.byt273 : BytP Tryz.prog 273 8 := ⟨by kernel_rfl⟩
instance Tryz.ty274 : TyP Tryz.prog 274 1 false [.nilFunc] := TyP.mk' (v := .nilFunc) (by kernel_rfl) rfl Tryz.underlying274 rfl
instance Tryz.byt274 : BytP Tryz.prog 274 8 := ⟨by kernel_rfl⟩
instance Tryz.ty275 : TyP Tryz.prog 275 1 false [.nilFunc] := TyP.mk' (v := .nilFunc) (by kernel_rfl) rfl Tryz.underlying275 rfl
instance Tryz.byt275 : BytP Tryz.prog 275 8 := ⟨by kernel_rfl⟩
instance Tryz.ty276 : TyP Tryz.prog 276 1 false [.nilFunc] := TyP.mk' (v := .nilFunc) (by kernel_rfl) rfl Tryz.underlying276 rfl
instance Tryz.byt276 : BytP Tryz.prog 276 8 := ⟨by kernel_rfl⟩
instance Tryz.ty277 : TyP Tryz.prog 277 1 false [.nilFunc] := TyP.mk' (v := .nilFunc) (by kernel_rfl) rfl Tryz.underlying277 rfl
instance Tryz.byt277 : BytP Tryz.prog 277 8 := ⟨by kernel_rfl⟩
instance Tryz.ty278 : TyP Tryz.prog 278 1 false [.nilFunc] := TyP.mk' (v := .nilFunc) (by kernel_rfl) rfl Tryz.underlying278 rfl
instance Tryz.byt278 : BytP Tryz.prog 278 8 := ⟨by kernel_rfl⟩
instance Tryz.ty279 : TyP Tryz.prog 279 1 false [.nilFunc] := TyP.mk' (v := .nilFunc) (by kernel_rfl) rfl Tryz.underlying279 rfl
instance Tryz.byt279 : BytP Tryz.prog 279 8 := ⟨by kernel_rfl⟩
instance Tryz.ty280 : TyP Tryz.prog 280 1 false [.nilFunc] := TyP.mk' (v := .nilFunc) (by kernel_rfl) rfl Tryz.underlying280 rfl
instance Tryz.byt280 : BytP Tryz.prog 280 8 := ⟨by kernel_rfl⟩
instance Tryz.ty281 : TyP Tryz.prog 281 1 false [.nilFunc] := TyP.mk' (v := .nilFunc) (by kernel_rfl) rfl Tryz.underlying281 rfl
instance Tryz.byt281 : BytP Tryz.prog 281 8 := ⟨by kernel_rfl⟩
instance Tryz.ty282 : TyP Tryz.prog 282 1 false [.nilFunc] := TyP.mk' (v := .nilFunc) (by kernel_rfl) rfl Tryz.underlying282 rfl
instance Tryz.byt282 : BytP Tryz.prog 282 8 := ⟨by kernel_rfl⟩
instance Tryz.ty283 : TyP Tryz.prog 283 1 false [.nilFunc] := TyP.mk' (v := .nilFunc) (by kernel_rfl) rfl Tryz.underlying283 rfl
instance Tryz.byt283 : BytP Tryz.prog 283 8 := ⟨by kernel_rfl⟩
instance Tryz.ty284 : TyP Tryz.prog 284 1 false [.nilFunc] := TyP.mk' (v := .nilFunc) (by kernel_rfl) rfl Tryz.underlying284 rfl
instance Tryz.byt284 : BytP Tryz.prog 284 8 := ⟨by kernel_rfl⟩
instance Tryz.ty285 : TyP Tryz.prog 285 1 false [.nilFunc] := TyP.mk' (v := .nilFunc) (by kernel_rfl) rfl Tryz.underlying285 rfl
instance Tryz.byt285 : BytP Tryz.prog 285 8 := ⟨by kernel_rfl⟩
instance Tryz.ty286 : TyP Tryz.prog 286 1 false [.nilFunc] := TyP.mk' (v := .nilFunc) (by kernel_rfl) rfl Tryz.underlying286 rfl
instance Tryz.byt286 : BytP Tryz.prog 286 8 := ⟨by kernel_rfl⟩
instance Tryz.ty287 : TyP Tryz.prog 287 1 false [.nilFunc] := TyP.mk' (v := .nilFunc) (by kernel_rfl) rfl Tryz.underlying287 rfl
instance Tryz.byt287 : BytP Tryz.prog 287 8 := ⟨by kernel_rfl⟩
instance Tryz.ty288 : TyP Tryz.prog 288 1 false [.nilFunc] := TyP.mk' (v := .nilFunc) (by kernel_rfl) rfl Tryz.underlying288 rfl
instance Tryz.byt288 : BytP Tryz.prog 288 8 := ⟨by kernel_rfl⟩
instance Tryz.ptr289 : PtrP Tryz.prog 289 116 := ⟨Tryz.underlying289⟩
instance Tryz.ty289 : TyP Tryz.prog 289 1 false [.pointer none] := TyP.mk' (v := .pointer none) (by kernel_rfl) rfl Tryz.underlying289 rfl
instance Tryz.byt289 : BytP Tryz.prog 289 8 := ⟨by kernel_rfl⟩
instance Tryz.ty290 : TyP Tryz.prog 290 1 false [.nilFunc] := TyP.mk' (v := .nilFunc) (by kernel_rfl) rfl Tryz.underlying290 rfl
instance Tryz.byt290 : BytP Tryz.prog 290 8 := ⟨by kernel_rfl⟩
instance Tryz.ty291 : TyP Tryz.prog 291 1 false [.nilFunc] := TyP.mk' (v := .nilFunc) (by kernel_rfl) rfl Tryz.underlying291 rfl
instance Tryz.byt291 : BytP Tryz.prog 291 8 := ⟨by kernel_rfl⟩
instance Tryz.ty292 : TyP Tryz.prog 292 1 false [.nilFunc] := TyP.mk' (v := .nilFunc) (by kernel_rfl) rfl Tryz.underlying292 rfl
instance Tryz.byt292 : BytP Tryz.prog 292 8 := ⟨by kernel_rfl⟩
instance Tryz.ty293 : TyP Tryz.prog 293 1 false [.nilFunc] := TyP.mk' (v := .nilFunc) (by kernel_rfl) rfl Tryz.underlying293 rfl
instance Tryz.byt293 : BytP Tryz.prog 293 8 := ⟨by kernel_rfl⟩
instance Tryz.ty294 : TyP Tryz.prog 294 1 false [.nilFunc] := TyP.mk' (v := .nilFunc) (by kernel_rfl) rfl Tryz.underlying294 rfl
instance Tryz.byt294 : BytP Tryz.prog 294 8 := ⟨by kernel_rfl⟩
instance Tryz.ty295 : TyP Tryz.prog 295 1 false [.nilFunc] := TyP.mk' (v := .nilFunc) (by kernel_rfl) rfl Tryz.underlying295 rfl
instance Tryz.byt295 : BytP Tryz.prog 295 8 := ⟨by kernel_rfl⟩
instance Tryz.ty296 : TyP Tryz.prog 296 3 true [.int .i64 0, .int .i64 0, .int .i64 0] := TyP.mk' (v := .agg #[.int .i64 0, .int .i64 0, .int .i64 0]) (by kernel_rfl) rfl Tryz.underlying296 rfl
instance Tryz.byt296 : BytP Tryz.prog 296 24 := ⟨by kernel_rfl⟩
instance Tryz.ty297 : TyP Tryz.prog 297 3 true [.int .i64 0, .int .i64 0, .int .i64 0] := TyP.mk' (v := .agg #[.int .i64 0, .int .i64 0, .int .i64 0]) (by kernel_rfl) rfl Tryz.underlying297 rfl
instance Tryz.byt297 : BytP Tryz.prog 297 24 := ⟨by kernel_rfl⟩
instance Tryz.ty298 : TyP Tryz.prog 298 4 true [.int .i64 0, .int .i64 0, .int .i64 0, .int .i64 0] := TyP.mk' (v := .agg #[.int .i64 0, .int .i64 0, .int .i64 0, .int .i64 0]) (by kernel_rfl) rfl Tryz.underlying298 rfl
instance Tryz.byt298 : BytP Tryz.prog 298 32 := ⟨by kernel_rfl⟩
instance Tryz.ty299 : TyP Tryz.prog 299 4 true [.int .i64 0, .int .i64 0, .int .i64 0, .int .i64 0] := TyP.mk' (v := .agg #[.int .i64 0, .int .i64 0, .int .i64 0, .int .i64 0]) (by kernel_rfl) rfl Tryz.underlying299 rfl
instance Tryz.byt299 : BytP Tryz.prog 299 32 := ⟨by kernel_rfl⟩
instance Tryz.ary300 : AryP Tryz.prog 300 21 261 := ⟨Tryz.underlying300⟩
instance Tryz.ary301 : AryP Tryz.prog 301 21 261 := ⟨Tryz.underlying301⟩
instance Tryz.ty302 : TyP Tryz.prog 302 3 true [.int .i64 0, .int .i64 0, .int .i64 0] := TyP.mk' (v := .agg #[.int .i64 0, .int .i64 0, .int .i64 0]) (by kernel_rfl) rfl Tryz.underlying302 rfl
instance Tryz.byt302 : BytP Tryz.prog 302 24 := ⟨by kernel_rfl⟩
instance Tryz.ty303 : TyP Tryz.prog 303 3 true [.int .i64 0, .int .i64 0, .int .i64 0] := TyP.mk' (v := .agg #[.int .i64 0, .int .i64 0, .int .i64 0]) (by kernel_rfl) rfl Tryz.underlying303 rfl
instance Tryz.byt303 : BytP Tryz.prog 303 24 := ⟨by kernel_rfl⟩
instance Tryz.ty304 : TyP Tryz.prog 304 1 false [.nilFunc] := TyP.mk' (v := .nilFunc) (by kernel_rfl) rfl Tryz.underlying304 rfl
instance Tryz.byt304 : BytP Tryz.prog 304 8 := ⟨by kernel_rfl⟩
instance Tryz.ty305 : TyP Tryz.prog 305 1 false [.nilFunc] := TyP.mk' (v := .nilFunc) (by kernel_rfl) rfl Tryz.underlying305 rfl
instance Tryz.byt305 : BytP Tryz.prog 305 8 := ⟨by kernel_rfl⟩
instance Tryz.ty306 : TyP Tryz.prog 306 1 false [.nilFunc] := TyP.mk' (v := .nilFunc) (by kernel_rfl) rfl Tryz.underlying306 rfl
instance Tryz.byt306 : BytP Tryz.prog 306 8 := ⟨by kernel_rfl⟩
instance Tryz.ty307 : TyP Tryz.prog 307 1 false [.nilFunc] := TyP.mk' (v := .nilFunc) (by kernel_rfl) rfl Tryz.underlying307 rfl
instance Tryz.byt307 : BytP Tryz.prog 307 8 := ⟨by kernel_rfl⟩
instance Tryz.ty308 : TyP Tryz.prog 308 1 false [.nilFunc] := TyP.mk' (v := .nilFunc) (by kernel_rfl) rfl Tryz.underlying308 rfl
instance Tryz.byt308 : BytP Tryz.prog 308 8 := ⟨by kernel_rfl⟩
instance Tryz.ty309 : TyP Tryz.prog 309 1 false [.nilFunc] := TyP.mk' (v := .nilFunc) (by kernel_rfl) rfl Tryz.underlying309 rfl
instance Tryz.byt309 : BytP Tryz.prog 309 8 := ⟨by kernel_rfl⟩
instance Tryz.int310 : IntP Tryz.prog 310 .u64 := ⟨Tryz.underlying310⟩
instance Tryz.ty310 : TyP Tryz.prog 310 1 false [.int .u64 0] := TyP.mk' (v := .int .u64 0) (by kernel_rfl) rfl Tryz.underlying310 rfl
instance Tryz.byt310 : BytP Tryz.prog 310 8 := ⟨by kernel_rfl⟩
instance Tryz.ty312 : TyP Tryz.prog 312 1 false [.nilFunc] := TyP.mk' (v := .nilFunc) (by kernel_rfl) rfl Tryz.underlying312 rfl
instance Tryz.byt312 : BytP Tryz.prog 312 8 := ⟨by kernel_rfl⟩
instance Tryz.ty313 : TyP Tryz.prog 313 1 false [.nilFunc] := TyP.mk' (v := .nilFunc) (by kernel_rfl) rfl Tryz.underlying313 rfl
instance Tryz.byt313 : BytP Tryz.prog 313 8 := ⟨by kernel_rfl⟩
instance Tryz.ty314 : TyP Tryz.prog 314 1 false [.nilFunc] := TyP.mk' (v := .nilFunc) (by kernel_rfl) rfl Tryz.underlying314 rfl
instance Tryz.byt314 : BytP Tryz.prog 314 8 := ⟨by kernel_rfl⟩
instance Tryz.ty315 : TyP Tryz.prog 315 1 false [.nilFunc] := TyP.mk' (v := .nilFunc) (by kernel_rfl) rfl Tryz.underlying315 rfl
instance Tryz.byt315 : BytP Tryz.prog 315 8 := ⟨by kernel_rfl⟩
instance Tryz.ty316 : TyP Tryz.prog 316 1 false [.nilFunc] := TyP.mk' (v := .nilFunc) (by kernel_rfl) rfl Tryz.underlying316 rfl
instance Tryz.byt316 : BytP Tryz.prog 316 8 := ⟨by kernel_rfl⟩
instance Tryz.ty317 : TyP Tryz.prog 317 1 false [.nilFunc] := TyP.mk' (v := .nilFunc) (by kernel_rfl) rfl Tryz.underlying317 rfl
instance Tryz.byt317 : BytP Tryz.prog 317 8 := ⟨by kernel_rfl⟩
instance Tryz.ty318 : TyP Tryz.prog 318 1 false [.nilFunc] := TyP.mk' (v := .nilFunc) (by kernel_rfl) rfl Tryz.underlying318 rfl
instance Tryz.byt318 : BytP Tryz.prog 318 8 := ⟨by kernel_rfl⟩
instance Tryz.ty319 : TyP Tryz.prog 319 1 false [.nilFunc] := TyP.mk' (v := .nilFunc) (by kernel_rfl) rfl Tryz.underlying319 rfl
instance Tryz.byt319 : BytP Tryz.prog 319 8 := ⟨by kernel_rfl⟩
instance Tryz.ty320 : TyP Tryz.prog 320 1 false [.nilFunc] := TyP.mk' (v := .nilFunc) (by kernel_rfl) rfl Tryz.underlying320 rfl
instance Tryz.byt320 : BytP Tryz.prog 320 8 := ⟨by kernel_rfl⟩
instance Tryz.ty321 : TyP Tryz.prog 321 1 false [.nilFunc] := TyP.mk' (v := .nilFunc) (by kernel_rfl) rfl Tryz.underlying321 rfl
instance Tryz.byt321 : BytP Tryz.prog 321 8 := ⟨by kernel_rfl⟩
instance Tryz.ty322 : TyP Tryz.prog 322 1 false [.nilFunc] := TyP.mk' (v := .nilFunc) (by kernel_rfl) rfl Tryz.underlying322 rfl
instance Tryz.byt322 : BytP Tryz.prog 322 8 := ⟨by kernel_rfl⟩
instance Tryz.ty324 : TyP Tryz.prog 324 1 false [.nilFunc] := TyP.mk' (v := .nilFunc) (by kernel_rfl) rfl Tryz.underlying324 rfl
instance Tryz.byt324 : BytP Tryz.prog 324 8 := ⟨by kernel_rfl⟩
instance Tryz.int325 : IntP Tryz.prog 325 .u64 := ⟨Tryz.underlying325⟩
instance Tryz.ty325 : TyP Tryz.prog 325 1 false [.int .u64 0] := TyP.mk' (v := .int .u64 0) (by kernel_rfl) rfl Tryz.underlying325 rfl
instance Tryz.byt325 : BytP Tryz.prog 325 8 := ⟨by kernel_rfl⟩
instance Tryz.ty327 : TyP Tryz.prog 327 1 false [.nilFunc] := TyP.mk' (v := .nilFunc) (by kernel_rfl) rfl Tryz.underlying327 rfl
instance Tryz.byt327 : BytP Tryz.prog 327 8 := ⟨by kernel_rfl⟩
instance Tryz.ty328 : TyP Tryz.prog 328 1 false [.nilFunc] := TyP.mk' (v := .nilFunc) (by kernel_rfl) rfl Tryz.underlying328 rfl
instance Tryz.byt328 : BytP Tryz.prog 328 8 := ⟨by kernel_rfl⟩
instance Tryz.ty329 : TyP Tryz.prog 329 1 false [.nilFunc] := TyP.mk' (v := .nilFunc) (by kernel_rfl) rfl Tryz.underlying329 rfl
instance Tryz.byt329 : BytP Tryz.prog 329 8 := ⟨by kernel_rfl⟩
instance Tryz.ty330 : TyP Tryz.prog 330 1 false [.nilFunc] := TyP.mk' (v := .nilFunc) (by kernel_rfl) rfl Tryz.underlying330 rfl
instance Tryz.byt330 : BytP Tryz.prog 330 8 := ⟨by kernel_rfl⟩
instance Tryz.ty331 : TyP Tryz.prog 331 1 false [.nilFunc] := TyP.mk' (v := .nilFunc) (by kernel_rfl) rfl Tryz.underlying331 rfl
instance Tryz.byt331 : BytP Tryz.prog 331 8 := ⟨by kernel_rfl⟩
instance Tryz.ty332 : TyP Tryz.prog 332 1 false [.nilFunc] := TyP.mk' (v := .nilFunc) (by kernel_rfl) rfl Tryz.underlying332 rfl
instance Tryz.byt332 : BytP Tryz.prog 332 8 := ⟨by kernel_rfl⟩
instance Tryz.ty333 : TyP Tryz.prog 333 1 false [.nilFunc] := TyP.mk' (v := .nilFunc) (by kernel_rfl) rfl Tryz.underlying333 rfl
instance Tryz.byt333 : BytP Tryz.prog 333 8 := ⟨by kernel_rfl⟩
instance Tryz.ty334 : TyP Tryz.prog 334 1 false [.nilFunc] := TyP.mk' (v := .nilFunc) (by kernel_rfl) rfl Tryz.underlying334 rfl
instance Tryz.byt334 : BytP Tryz.prog 334 8 := ⟨by kernel_rfl⟩
instance Tryz.ary337 : AryP Tryz.prog 337 0 16 := ⟨Tryz.underlying337⟩
instance Tryz.ty337 : TyP Tryz.prog 337 0 true [] := TyP.mk' (v := .agg #[]) (by kernel_rfl) rfl Tryz.underlying337 rfl
instance Tryz.byt337 : BytP Tryz.prog 337 0 := ⟨by kernel_rfl⟩
instance Tryz.ty338 : TyP Tryz.prog 338 0 true [] := TyP.mk' (v := .agg #[]) (by kernel_rfl) rfl Tryz.underlying338 rfl
instance Tryz.byt338 : BytP Tryz.prog 338 0 := ⟨by kernel_rfl⟩
instance Tryz.ty339 : TyP Tryz.prog 339 0 true [] := TyP.mk' (v := .agg #[]) (by kernel_rfl) rfl Tryz.underlying339 rfl
instance Tryz.byt339 : BytP Tryz.prog 339 0 := ⟨by kernel_rfl⟩
instance Tryz.int340 : IntP Tryz.prog 340 .u8 := ⟨Tryz.underlying340⟩
instance Tryz.ty340 : TyP Tryz.prog 340 1 false [.int .u8 0] := TyP.mk' (v := .int .u8 0) (by kernel_rfl) rfl Tryz.underlying340 rfl
instance Tryz.byt340 : BytP Tryz.prog 340 1 := ⟨by kernel_rfl⟩
instance Tryz.int341 : IntP Tryz.prog 341 .u8 := ⟨Tryz.underlying341⟩
instance Tryz.ty341 : TyP Tryz.prog 341 1 false [.int .u8 0] := TyP.mk' (v := .int .u8 0) (by kernel_rfl) rfl Tryz.underlying341 rfl
instance Tryz.byt341 : BytP Tryz.prog 341 1 := ⟨by kernel_rfl⟩
instance Tryz.ty342 : TyP Tryz.prog 342 1 false [.nilFunc] := TyP.mk' (v := .nilFunc) (by kernel_rfl) rfl Tryz.underlying342 rfl
instance Tryz.byt342 : BytP Tryz.prog 342 8 := ⟨by kernel_rfl⟩
instance Tryz.ptr343 : PtrP Tryz.prog 343 5 := ⟨Tryz.underlying343⟩
instance Tryz.ty343 : TyP Tryz.prog 343 1 false [.pointer none] := TyP.mk' (v := .pointer none) (by kernel_rfl) rfl Tryz.underlying343 rfl
instance Tryz.byt343 : BytP Tryz.prog 343 8 := ⟨by kernel_rfl⟩
instance Tryz.int344 : IntP Tryz.prog 344 .i32 := ⟨Tryz.underlying344⟩
instance Tryz.ty344 : TyP Tryz.prog 344 1 false [.int .i32 0] := TyP.mk' (v := .int .i32 0) (by kernel_rfl) rfl Tryz.underlying344 rfl
instance Tryz.byt344 : BytP Tryz.prog 344 4 := ⟨by kernel_rfl⟩
instance Tryz.int345 : IntP Tryz.prog 345 .i32 := ⟨Tryz.underlying345⟩
instance Tryz.ty345 : TyP Tryz.prog 345 1 false [.int .i32 0] := TyP.mk' (v := .int .i32 0) (by kernel_rfl) rfl Tryz.underlying345 rfl
instance Tryz.byt345 : BytP Tryz.prog 345 4 := ⟨by kernel_rfl⟩
instance Tryz.ty346 : TyP Tryz.prog 346 11 true [.int .u64 0, .int .u64 0, .int .u32 0, .int .u8 0, .int .u8 0, .int .u8 0, .int .u8 0, .nilFunc, .pointer none, .int .i32 0, .int .i32 0] := TyP.mk' (v := .agg #[.int .u64 0, .int .u64 0, .int .u32 0, .int .u8 0, .int .u8 0, .int .u8 0, .int .u8 0, .nilFunc, .pointer none, .int .i32 0, .int .i32 0]) (by kernel_rfl) rfl Tryz.underlying346 rfl
instance Tryz.byt346 : BytP Tryz.prog 346 48 := ⟨by kernel_rfl⟩
instance Tryz.ty347 : TyP Tryz.prog 347 11 true [.int .u64 0, .int .u64 0, .int .u32 0, .int .u8 0, .int .u8 0, .int .u8 0, .int .u8 0, .nilFunc, .pointer none, .int .i32 0, .int .i32 0] := TyP.mk' (v := .agg #[.int .u64 0, .int .u64 0, .int .u32 0, .int .u8 0, .int .u8 0, .int .u8 0, .int .u8 0, .nilFunc, .pointer none, .int .i32 0, .int .i32 0]) (by kernel_rfl) rfl Tryz.underlying347 rfl
instance Tryz.byt347 : BytP Tryz.prog 347 48 := ⟨by kernel_rfl⟩
instance Tryz.ty348 : TyP Tryz.prog 348 1 false [.pointer none] := TyP.mk' (v := .pointer none) (by kernel_rfl) rfl Tryz.underlying348 rfl
instance Tryz.byt348 : BytP Tryz.prog 348 8 := ⟨by kernel_rfl⟩
instance Tryz.st7 : StP Tryz.prog 7 [.int .i64 0, .int .i64 0, .bool false, .int .u8 0] [(0, 1), (1, 1), (2, 1), (3, 1)] := StP.mk' Tryz.ty7 Tryz.underlying7 (by kernel_rfl)
instance Tryz.fv7_0 : FldV Tryz.prog 7 0 0 1 false := FldV.mk' Tryz.underlying7 rfl rfl Tryz.ty2
instance Tryz.fld7_0 : FldP Tryz.prog 7 0 0 := FldP.mk' (sz := 1) Tryz.underlying7 rfl rfl (by kernel_rfl) rfl
instance Tryz.fv7_1 : FldV Tryz.prog 7 1 1 1 false := FldV.mk' Tryz.underlying7 rfl rfl Tryz.ty3
instance Tryz.fld7_1 : FldP Tryz.prog 7 1 1 := FldP.mk' (sz := 1) Tryz.underlying7 rfl rfl (by kernel_rfl) rfl
instance Tryz.fv7_2 : FldV Tryz.prog 7 2 2 1 false := FldV.mk' Tryz.underlying7 rfl rfl Tryz.ty4
instance Tryz.fld7_2 : FldP Tryz.prog 7 2 2 := FldP.mk' (sz := 1) Tryz.underlying7 rfl rfl (by kernel_rfl) rfl
instance Tryz.fv7_3 : FldV Tryz.prog 7 3 3 1 false := FldV.mk' Tryz.underlying7 rfl rfl Tryz.ty6
instance Tryz.fld7_3 : FldP Tryz.prog 7 3 3 := FldP.mk' (sz := 1) Tryz.underlying7 rfl rfl (by kernel_rfl) rfl
instance Tryz.st8 : StP Tryz.prog 8 [.int .i64 0, .int .i64 0, .bool false, .int .u8 0] [(0, 1), (1, 1), (2, 1), (3, 1)] := StP.mk' Tryz.ty8 Tryz.underlying8 (by kernel_rfl)
instance Tryz.fv8_0 : FldV Tryz.prog 8 0 0 1 false := FldV.mk' Tryz.underlying8 rfl rfl Tryz.ty2
instance Tryz.fld8_0 : FldP Tryz.prog 8 0 0 := FldP.mk' (sz := 1) Tryz.underlying8 rfl rfl (by kernel_rfl) rfl
instance Tryz.fv8_1 : FldV Tryz.prog 8 1 1 1 false := FldV.mk' Tryz.underlying8 rfl rfl Tryz.ty3
instance Tryz.fld8_1 : FldP Tryz.prog 8 1 1 := FldP.mk' (sz := 1) Tryz.underlying8 rfl rfl (by kernel_rfl) rfl
instance Tryz.fv8_2 : FldV Tryz.prog 8 2 2 1 false := FldV.mk' Tryz.underlying8 rfl rfl Tryz.ty4
instance Tryz.fld8_2 : FldP Tryz.prog 8 2 2 := FldP.mk' (sz := 1) Tryz.underlying8 rfl rfl (by kernel_rfl) rfl
instance Tryz.fv8_3 : FldV Tryz.prog 8 3 3 1 false := FldV.mk' Tryz.underlying8 rfl rfl Tryz.ty6
instance Tryz.fld8_3 : FldP Tryz.prog 8 3 3 := FldP.mk' (sz := 1) Tryz.underlying8 rfl rfl (by kernel_rfl) rfl
instance Tryz.st18 : StP Tryz.prog 18 [.pointer none] [(0, 1)] := StP.mk' Tryz.ty18 Tryz.underlying18 (by kernel_rfl)
instance Tryz.fv18_0 : FldV Tryz.prog 18 0 0 1 false := FldV.mk' Tryz.underlying18 rfl rfl Tryz.ty17
instance Tryz.fld18_0 : FldP Tryz.prog 18 0 0 := FldP.mk' (sz := 1) Tryz.underlying18 rfl rfl (by kernel_rfl) rfl
instance Tryz.st19 : StP Tryz.prog 19 [.pointer none] [(0, 1)] := StP.mk' Tryz.ty19 Tryz.underlying19 (by kernel_rfl)
instance Tryz.fv19_0 : FldV Tryz.prog 19 0 0 1 false := FldV.mk' Tryz.underlying19 rfl rfl Tryz.ty17
instance Tryz.fld19_0 : FldP Tryz.prog 19 0 0 := FldP.mk' (sz := 1) Tryz.underlying19 rfl rfl (by kernel_rfl) rfl
instance Tryz.st24 : StP Tryz.prog 24 [.int .i64 0, .int .i64 0] [(0, 1), (1, 1)] := StP.mk' Tryz.ty24 Tryz.underlying24 (by kernel_rfl)
instance Tryz.fv24_0 : FldV Tryz.prog 24 0 0 1 false := FldV.mk' Tryz.underlying24 rfl rfl Tryz.ty3
instance Tryz.fld24_0 : FldP Tryz.prog 24 0 0 := FldP.mk' (sz := 1) Tryz.underlying24 rfl rfl (by kernel_rfl) rfl
instance Tryz.fv24_1 : FldV Tryz.prog 24 1 1 1 false := FldV.mk' Tryz.underlying24 rfl rfl Tryz.ty3
instance Tryz.fld24_1 : FldP Tryz.prog 24 1 1 := FldP.mk' (sz := 1) Tryz.underlying24 rfl rfl (by kernel_rfl) rfl
instance Tryz.st25 : StP Tryz.prog 25 [.int .i64 0, .int .i64 0] [(0, 1), (1, 1)] := StP.mk' Tryz.ty25 Tryz.underlying25 (by kernel_rfl)
instance Tryz.fv25_0 : FldV Tryz.prog 25 0 0 1 false := FldV.mk' Tryz.underlying25 rfl rfl Tryz.ty3
instance Tryz.fld25_0 : FldP Tryz.prog 25 0 0 := FldP.mk' (sz := 1) Tryz.underlying25 rfl rfl (by kernel_rfl) rfl
instance Tryz.fv25_1 : FldV Tryz.prog 25 1 1 1 false := FldV.mk' Tryz.underlying25 rfl rfl Tryz.ty3
instance Tryz.fld25_1 : FldP Tryz.prog 25 1 1 := FldP.mk' (sz := 1) Tryz.underlying25 rfl rfl (by kernel_rfl) rfl
instance Tryz.st26 : StP Tryz.prog 26 [.slice none 0 0, .slice none 0 0, .int .i64 0, .int .i64 0, .int .i64 0, .int .i64 0] [(0, 1), (1, 1), (2, 2), (4, 2)] := StP.mk' Tryz.ty26 Tryz.underlying26 (by kernel_rfl)
instance Tryz.fv26_0 : FldV Tryz.prog 26 0 0 1 false := FldV.mk' Tryz.underlying26 rfl rfl Tryz.ty22
instance Tryz.fld26_0 : FldP Tryz.prog 26 0 0 := FldP.mk' (sz := 1) Tryz.underlying26 rfl rfl (by kernel_rfl) rfl
instance Tryz.fv26_1 : FldV Tryz.prog 26 1 1 1 false := FldV.mk' Tryz.underlying26 rfl rfl Tryz.ty23
instance Tryz.fld26_1 : FldP Tryz.prog 26 1 1 := FldP.mk' (sz := 1) Tryz.underlying26 rfl rfl (by kernel_rfl) rfl
instance Tryz.fv26_2 : FldV Tryz.prog 26 2 2 2 true := FldV.mk' Tryz.underlying26 rfl rfl Tryz.ty25
instance Tryz.fld26_2 : FldP Tryz.prog 26 2 2 := FldP.mk' (sz := 2) Tryz.underlying26 rfl rfl (by kernel_rfl) rfl
instance Tryz.fv26_3 : FldV Tryz.prog 26 3 4 2 true := FldV.mk' Tryz.underlying26 rfl rfl Tryz.ty25
instance Tryz.fld26_3 : FldP Tryz.prog 26 3 4 := FldP.mk' (sz := 2) Tryz.underlying26 rfl rfl (by kernel_rfl) rfl
instance Tryz.st27 : StP Tryz.prog 27 [.slice none 0 0, .slice none 0 0, .int .i64 0, .int .i64 0, .int .i64 0, .int .i64 0] [(0, 1), (1, 1), (2, 2), (4, 2)] := StP.mk' Tryz.ty27 Tryz.underlying27 (by kernel_rfl)
instance Tryz.fv27_0 : FldV Tryz.prog 27 0 0 1 false := FldV.mk' Tryz.underlying27 rfl rfl Tryz.ty22
instance Tryz.fld27_0 : FldP Tryz.prog 27 0 0 := FldP.mk' (sz := 1) Tryz.underlying27 rfl rfl (by kernel_rfl) rfl
instance Tryz.fv27_1 : FldV Tryz.prog 27 1 1 1 false := FldV.mk' Tryz.underlying27 rfl rfl Tryz.ty23
instance Tryz.fld27_1 : FldP Tryz.prog 27 1 1 := FldP.mk' (sz := 1) Tryz.underlying27 rfl rfl (by kernel_rfl) rfl
instance Tryz.fv27_2 : FldV Tryz.prog 27 2 2 2 true := FldV.mk' Tryz.underlying27 rfl rfl Tryz.ty25
instance Tryz.fld27_2 : FldP Tryz.prog 27 2 2 := FldP.mk' (sz := 2) Tryz.underlying27 rfl rfl (by kernel_rfl) rfl
instance Tryz.fv27_3 : FldV Tryz.prog 27 3 4 2 true := FldV.mk' Tryz.underlying27 rfl rfl Tryz.ty25
instance Tryz.fld27_3 : FldP Tryz.prog 27 3 4 := FldP.mk' (sz := 2) Tryz.underlying27 rfl rfl (by kernel_rfl) rfl
instance Tryz.st37 : StP Tryz.prog 37 [.int .i64 0, .int .i64 0] [(0, 1), (1, 1)] := StP.mk' Tryz.ty37 Tryz.underlying37 (by kernel_rfl)
instance Tryz.fv37_0 : FldV Tryz.prog 37 0 0 1 false := FldV.mk' Tryz.underlying37 rfl rfl Tryz.ty3
instance Tryz.fld37_0 : FldP Tryz.prog 37 0 0 := FldP.mk' (sz := 1) Tryz.underlying37 rfl rfl (by kernel_rfl) rfl
instance Tryz.fv37_1 : FldV Tryz.prog 37 1 1 1 false := FldV.mk' Tryz.underlying37 rfl rfl Tryz.ty3
instance Tryz.fld37_1 : FldP Tryz.prog 37 1 1 := FldP.mk' (sz := 1) Tryz.underlying37 rfl rfl (by kernel_rfl) rfl
instance Tryz.st38 : StP Tryz.prog 38 [.int .i64 0, .int .i64 0] [(0, 1), (1, 1)] := StP.mk' Tryz.ty38 Tryz.underlying38 (by kernel_rfl)
instance Tryz.fv38_0 : FldV Tryz.prog 38 0 0 1 false := FldV.mk' Tryz.underlying38 rfl rfl Tryz.ty3
instance Tryz.fld38_0 : FldP Tryz.prog 38 0 0 := FldP.mk' (sz := 1) Tryz.underlying38 rfl rfl (by kernel_rfl) rfl
instance Tryz.fv38_1 : FldV Tryz.prog 38 1 1 1 false := FldV.mk' Tryz.underlying38 rfl rfl Tryz.ty3
instance Tryz.fld38_1 : FldP Tryz.prog 38 1 1 := FldP.mk' (sz := 1) Tryz.underlying38 rfl rfl (by kernel_rfl) rfl
instance Tryz.st39 : StP Tryz.prog 39 [.int .i64 0, .int .i64 0, .int .i64 0] [(0, 1), (1, 2)] := StP.mk' Tryz.ty39 Tryz.underlying39 (by kernel_rfl)
instance Tryz.fv39_0 : FldV Tryz.prog 39 0 0 1 false := FldV.mk' Tryz.underlying39 rfl rfl Tryz.ty3
instance Tryz.fld39_0 : FldP Tryz.prog 39 0 0 := FldP.mk' (sz := 1) Tryz.underlying39 rfl rfl (by kernel_rfl) rfl
instance Tryz.fv39_1 : FldV Tryz.prog 39 1 1 2 true := FldV.mk' Tryz.underlying39 rfl rfl Tryz.ty38
instance Tryz.fld39_1 : FldP Tryz.prog 39 1 1 := FldP.mk' (sz := 2) Tryz.underlying39 rfl rfl (by kernel_rfl) rfl
instance Tryz.st40 : StP Tryz.prog 40 [.int .i64 0, .int .i64 0, .int .i64 0] [(0, 1), (1, 2)] := StP.mk' Tryz.ty40 Tryz.underlying40 (by kernel_rfl)
instance Tryz.fv40_0 : FldV Tryz.prog 40 0 0 1 false := FldV.mk' Tryz.underlying40 rfl rfl Tryz.ty3
instance Tryz.fld40_0 : FldP Tryz.prog 40 0 0 := FldP.mk' (sz := 1) Tryz.underlying40 rfl rfl (by kernel_rfl) rfl
instance Tryz.fv40_1 : FldV Tryz.prog 40 1 1 2 true := FldV.mk' Tryz.underlying40 rfl rfl Tryz.ty38
instance Tryz.fld40_1 : FldP Tryz.prog 40 1 1 := FldP.mk' (sz := 2) Tryz.underlying40 rfl rfl (by kernel_rfl) rfl
instance Tryz.st42 : StP Tryz.prog 42 [.int .i64 0, .slice none 0 0] [(0, 1), (1, 1)] := StP.mk' Tryz.ty42 Tryz.underlying42 (by kernel_rfl)
instance Tryz.fv42_0 : FldV Tryz.prog 42 0 0 1 false := FldV.mk' Tryz.underlying42 rfl rfl Tryz.ty3
instance Tryz.fld42_0 : FldP Tryz.prog 42 0 0 := FldP.mk' (sz := 1) Tryz.underlying42 rfl rfl (by kernel_rfl) rfl
instance Tryz.fv42_1 : FldV Tryz.prog 42 1 1 1 false := FldV.mk' Tryz.underlying42 rfl rfl Tryz.ty41
instance Tryz.fld42_1 : FldP Tryz.prog 42 1 1 := FldP.mk' (sz := 1) Tryz.underlying42 rfl rfl (by kernel_rfl) rfl
instance Tryz.st43 : StP Tryz.prog 43 [.int .i64 0, .slice none 0 0] [(0, 1), (1, 1)] := StP.mk' Tryz.ty43 Tryz.underlying43 (by kernel_rfl)
instance Tryz.fv43_0 : FldV Tryz.prog 43 0 0 1 false := FldV.mk' Tryz.underlying43 rfl rfl Tryz.ty3
instance Tryz.fld43_0 : FldP Tryz.prog 43 0 0 := FldP.mk' (sz := 1) Tryz.underlying43 rfl rfl (by kernel_rfl) rfl
instance Tryz.fv43_1 : FldV Tryz.prog 43 1 1 1 false := FldV.mk' Tryz.underlying43 rfl rfl Tryz.ty41
instance Tryz.fld43_1 : FldP Tryz.prog 43 1 1 := FldP.mk' (sz := 1) Tryz.underlying43 rfl rfl (by kernel_rfl) rfl
instance Tryz.st49 : StP Tryz.prog 49 [.int .i64 0, .int .i64 0, .int .u8 0, .int .i64 0, .int .i64 0, .int .i64 0, .int .i64 0, .int .i64 0, .slice none 0 0] [(0, 1), (1, 1), (2, 1), (3, 1), (4, 1), (5, 2), (7, 1), (8, 1)] := StP.mk' Tryz.ty49 Tryz.underlying49 (by kernel_rfl)
instance Tryz.fv49_0 : FldV Tryz.prog 49 0 0 1 false := FldV.mk' Tryz.underlying49 rfl rfl Tryz.ty3
instance Tryz.fld49_0 : FldP Tryz.prog 49 0 0 := FldP.mk' (sz := 1) Tryz.underlying49 rfl rfl (by kernel_rfl) rfl
instance Tryz.fv49_1 : FldV Tryz.prog 49 1 1 1 false := FldV.mk' Tryz.underlying49 rfl rfl Tryz.ty3
instance Tryz.fld49_1 : FldP Tryz.prog 49 1 1 := FldP.mk' (sz := 1) Tryz.underlying49 rfl rfl (by kernel_rfl) rfl
instance Tryz.fv49_2 : FldV Tryz.prog 49 2 2 1 false := FldV.mk' Tryz.underlying49 rfl rfl Tryz.ty5
instance Tryz.fld49_2 : FldP Tryz.prog 49 2 2 := FldP.mk' (sz := 1) Tryz.underlying49 rfl rfl (by kernel_rfl) rfl
instance Tryz.fv49_3 : FldV Tryz.prog 49 3 3 1 false := FldV.mk' Tryz.underlying49 rfl rfl Tryz.ty3
instance Tryz.fld49_3 : FldP Tryz.prog 49 3 3 := FldP.mk' (sz := 1) Tryz.underlying49 rfl rfl (by kernel_rfl) rfl
instance Tryz.fv49_4 : FldV Tryz.prog 49 4 4 1 false := FldV.mk' Tryz.underlying49 rfl rfl Tryz.ty3
instance Tryz.fld49_4 : FldP Tryz.prog 49 4 4 := FldP.mk' (sz := 1) Tryz.underlying49 rfl rfl (by kernel_rfl) rfl
instance Tryz.fv49_5 : FldV Tryz.prog 49 5 5 2 true := FldV.mk' Tryz.underlying49 rfl rfl Tryz.ty38
instance Tryz.fld49_5 : FldP Tryz.prog 49 5 5 := FldP.mk' (sz := 2) Tryz.underlying49 rfl rfl (by kernel_rfl) rfl
instance Tryz.fv49_6 : FldV Tryz.prog 49 6 7 1 false := FldV.mk' Tryz.underlying49 rfl rfl Tryz.ty3
instance Tryz.fld49_6 : FldP Tryz.prog 49 6 7 := FldP.mk' (sz := 1) Tryz.underlying49 rfl rfl (by kernel_rfl) rfl
instance Tryz.fv49_7 : FldV Tryz.prog 49 7 8 1 false := FldV.mk' Tryz.underlying49 rfl rfl Tryz.ty48
instance Tryz.fld49_7 : FldP Tryz.prog 49 7 8 := FldP.mk' (sz := 1) Tryz.underlying49 rfl rfl (by kernel_rfl) rfl
instance Tryz.st50 : StP Tryz.prog 50 [.int .i64 0, .int .i64 0, .int .u8 0, .int .i64 0, .int .i64 0, .int .i64 0, .int .i64 0, .int .i64 0, .slice none 0 0] [(0, 1), (1, 1), (2, 1), (3, 1), (4, 1), (5, 2), (7, 1), (8, 1)] := StP.mk' Tryz.ty50 Tryz.underlying50 (by kernel_rfl)
instance Tryz.fv50_0 : FldV Tryz.prog 50 0 0 1 false := FldV.mk' Tryz.underlying50 rfl rfl Tryz.ty3
instance Tryz.fld50_0 : FldP Tryz.prog 50 0 0 := FldP.mk' (sz := 1) Tryz.underlying50 rfl rfl (by kernel_rfl) rfl
instance Tryz.fv50_1 : FldV Tryz.prog 50 1 1 1 false := FldV.mk' Tryz.underlying50 rfl rfl Tryz.ty3
instance Tryz.fld50_1 : FldP Tryz.prog 50 1 1 := FldP.mk' (sz := 1) Tryz.underlying50 rfl rfl (by kernel_rfl) rfl
instance Tryz.fv50_2 : FldV Tryz.prog 50 2 2 1 false := FldV.mk' Tryz.underlying50 rfl rfl Tryz.ty5
instance Tryz.fld50_2 : FldP Tryz.prog 50 2 2 := FldP.mk' (sz := 1) Tryz.underlying50 rfl rfl (by kernel_rfl) rfl
instance Tryz.fv50_3 : FldV Tryz.prog 50 3 3 1 false := FldV.mk' Tryz.underlying50 rfl rfl Tryz.ty3
instance Tryz.fld50_3 : FldP Tryz.prog 50 3 3 := FldP.mk' (sz := 1) Tryz.underlying50 rfl rfl (by kernel_rfl) rfl
instance Tryz.fv50_4 : FldV Tryz.prog 50 4 4 1 false := FldV.mk' Tryz.underlying50 rfl rfl Tryz.ty3
instance Tryz.fld50_4 : FldP Tryz.prog 50 4 4 := FldP.mk' (sz := 1) Tryz.underlying50 rfl rfl (by kernel_rfl) rfl
instance Tryz.fv50_5 : FldV Tryz.prog 50 5 5 2 true := FldV.mk' Tryz.underlying50 rfl rfl Tryz.ty38
instance Tryz.fld50_5 : FldP Tryz.prog 50 5 5 := FldP.mk' (sz := 2) Tryz.underlying50 rfl rfl (by kernel_rfl) rfl
instance Tryz.fv50_6 : FldV Tryz.prog 50 6 7 1 false := FldV.mk' Tryz.underlying50 rfl rfl Tryz.ty3
instance Tryz.fld50_6 : FldP Tryz.prog 50 6 7 := FldP.mk' (sz := 1) Tryz.underlying50 rfl rfl (by kernel_rfl) rfl
instance Tryz.fv50_7 : FldV Tryz.prog 50 7 8 1 false := FldV.mk' Tryz.underlying50 rfl rfl Tryz.ty48
instance Tryz.fld50_7 : FldP Tryz.prog 50 7 8 := FldP.mk' (sz := 1) Tryz.underlying50 rfl rfl (by kernel_rfl) rfl
instance Tryz.st56 : StP Tryz.prog 56 [.slice none 0 0, .slice none 0 0, .int .i64 0, .int .i64 0] [(0, 1), (1, 1), (2, 1), (3, 1)] := StP.mk' Tryz.ty56 Tryz.underlying56 (by kernel_rfl)
instance Tryz.fv56_0 : FldV Tryz.prog 56 0 0 1 false := FldV.mk' Tryz.underlying56 rfl rfl Tryz.ty54
instance Tryz.fld56_0 : FldP Tryz.prog 56 0 0 := FldP.mk' (sz := 1) Tryz.underlying56 rfl rfl (by kernel_rfl) rfl
instance Tryz.fv56_1 : FldV Tryz.prog 56 1 1 1 false := FldV.mk' Tryz.underlying56 rfl rfl Tryz.ty55
instance Tryz.fld56_1 : FldP Tryz.prog 56 1 1 := FldP.mk' (sz := 1) Tryz.underlying56 rfl rfl (by kernel_rfl) rfl
instance Tryz.fv56_2 : FldV Tryz.prog 56 2 2 1 false := FldV.mk' Tryz.underlying56 rfl rfl Tryz.ty3
instance Tryz.fld56_2 : FldP Tryz.prog 56 2 2 := FldP.mk' (sz := 1) Tryz.underlying56 rfl rfl (by kernel_rfl) rfl
instance Tryz.fv56_3 : FldV Tryz.prog 56 3 3 1 false := FldV.mk' Tryz.underlying56 rfl rfl Tryz.ty3
instance Tryz.fld56_3 : FldP Tryz.prog 56 3 3 := FldP.mk' (sz := 1) Tryz.underlying56 rfl rfl (by kernel_rfl) rfl
instance Tryz.st57 : StP Tryz.prog 57 [.slice none 0 0, .slice none 0 0, .int .i64 0, .int .i64 0] [(0, 1), (1, 1), (2, 1), (3, 1)] := StP.mk' Tryz.ty57 Tryz.underlying57 (by kernel_rfl)
instance Tryz.fv57_0 : FldV Tryz.prog 57 0 0 1 false := FldV.mk' Tryz.underlying57 rfl rfl Tryz.ty54
instance Tryz.fld57_0 : FldP Tryz.prog 57 0 0 := FldP.mk' (sz := 1) Tryz.underlying57 rfl rfl (by kernel_rfl) rfl
instance Tryz.fv57_1 : FldV Tryz.prog 57 1 1 1 false := FldV.mk' Tryz.underlying57 rfl rfl Tryz.ty55
instance Tryz.fld57_1 : FldP Tryz.prog 57 1 1 := FldP.mk' (sz := 1) Tryz.underlying57 rfl rfl (by kernel_rfl) rfl
instance Tryz.fv57_2 : FldV Tryz.prog 57 2 2 1 false := FldV.mk' Tryz.underlying57 rfl rfl Tryz.ty3
instance Tryz.fld57_2 : FldP Tryz.prog 57 2 2 := FldP.mk' (sz := 1) Tryz.underlying57 rfl rfl (by kernel_rfl) rfl
instance Tryz.fv57_3 : FldV Tryz.prog 57 3 3 1 false := FldV.mk' Tryz.underlying57 rfl rfl Tryz.ty3
instance Tryz.fld57_3 : FldP Tryz.prog 57 3 3 := FldP.mk' (sz := 1) Tryz.underlying57 rfl rfl (by kernel_rfl) rfl
instance Tryz.st63 : StP Tryz.prog 63 [.int .u8 0, .int .i64 0, .int .i64 0, .int .i64 0, .int .i64 0] [(0, 1), (1, 1), (2, 1), (3, 2)] := StP.mk' Tryz.ty63 Tryz.underlying63 (by kernel_rfl)
instance Tryz.fv63_0 : FldV Tryz.prog 63 0 0 1 false := FldV.mk' Tryz.underlying63 rfl rfl Tryz.ty5
instance Tryz.fld63_0 : FldP Tryz.prog 63 0 0 := FldP.mk' (sz := 1) Tryz.underlying63 rfl rfl (by kernel_rfl) rfl
instance Tryz.fv63_1 : FldV Tryz.prog 63 1 1 1 false := FldV.mk' Tryz.underlying63 rfl rfl Tryz.ty3
instance Tryz.fld63_1 : FldP Tryz.prog 63 1 1 := FldP.mk' (sz := 1) Tryz.underlying63 rfl rfl (by kernel_rfl) rfl
instance Tryz.fv63_2 : FldV Tryz.prog 63 2 2 1 false := FldV.mk' Tryz.underlying63 rfl rfl Tryz.ty3
instance Tryz.fld63_2 : FldP Tryz.prog 63 2 2 := FldP.mk' (sz := 1) Tryz.underlying63 rfl rfl (by kernel_rfl) rfl
instance Tryz.fv63_3 : FldV Tryz.prog 63 3 3 2 true := FldV.mk' Tryz.underlying63 rfl rfl Tryz.ty25
instance Tryz.fld63_3 : FldP Tryz.prog 63 3 3 := FldP.mk' (sz := 2) Tryz.underlying63 rfl rfl (by kernel_rfl) rfl
instance Tryz.st64 : StP Tryz.prog 64 [.int .u8 0, .int .i64 0, .int .i64 0, .int .i64 0, .int .i64 0] [(0, 1), (1, 1), (2, 1), (3, 2)] := StP.mk' Tryz.ty64 Tryz.underlying64 (by kernel_rfl)
instance Tryz.fv64_0 : FldV Tryz.prog 64 0 0 1 false := FldV.mk' Tryz.underlying64 rfl rfl Tryz.ty5
instance Tryz.fld64_0 : FldP Tryz.prog 64 0 0 := FldP.mk' (sz := 1) Tryz.underlying64 rfl rfl (by kernel_rfl) rfl
instance Tryz.fv64_1 : FldV Tryz.prog 64 1 1 1 false := FldV.mk' Tryz.underlying64 rfl rfl Tryz.ty3
instance Tryz.fld64_1 : FldP Tryz.prog 64 1 1 := FldP.mk' (sz := 1) Tryz.underlying64 rfl rfl (by kernel_rfl) rfl
instance Tryz.fv64_2 : FldV Tryz.prog 64 2 2 1 false := FldV.mk' Tryz.underlying64 rfl rfl Tryz.ty3
instance Tryz.fld64_2 : FldP Tryz.prog 64 2 2 := FldP.mk' (sz := 1) Tryz.underlying64 rfl rfl (by kernel_rfl) rfl
instance Tryz.fv64_3 : FldV Tryz.prog 64 3 3 2 true := FldV.mk' Tryz.underlying64 rfl rfl Tryz.ty25
instance Tryz.fld64_3 : FldP Tryz.prog 64 3 3 := FldP.mk' (sz := 2) Tryz.underlying64 rfl rfl (by kernel_rfl) rfl
instance Tryz.st66 : StP Tryz.prog 66 [.slice none 0 0, .int .i64 0, .bool false] [(0, 1), (1, 1), (2, 1)] := StP.mk' Tryz.ty66 Tryz.underlying66 (by kernel_rfl)
instance Tryz.fv66_0 : FldV Tryz.prog 66 0 0 1 false := FldV.mk' Tryz.underlying66 rfl rfl Tryz.ty65
instance Tryz.fld66_0 : FldP Tryz.prog 66 0 0 := FldP.mk' (sz := 1) Tryz.underlying66 rfl rfl (by kernel_rfl) rfl
instance Tryz.fv66_1 : FldV Tryz.prog 66 1 1 1 false := FldV.mk' Tryz.underlying66 rfl rfl Tryz.ty3
instance Tryz.fld66_1 : FldP Tryz.prog 66 1 1 := FldP.mk' (sz := 1) Tryz.underlying66 rfl rfl (by kernel_rfl) rfl
instance Tryz.fv66_2 : FldV Tryz.prog 66 2 2 1 false := FldV.mk' Tryz.underlying66 rfl rfl Tryz.ty4
instance Tryz.fld66_2 : FldP Tryz.prog 66 2 2 := FldP.mk' (sz := 1) Tryz.underlying66 rfl rfl (by kernel_rfl) rfl
instance Tryz.st67 : StP Tryz.prog 67 [.slice none 0 0, .int .i64 0, .bool false] [(0, 1), (1, 1), (2, 1)] := StP.mk' Tryz.ty67 Tryz.underlying67 (by kernel_rfl)
instance Tryz.fv67_0 : FldV Tryz.prog 67 0 0 1 false := FldV.mk' Tryz.underlying67 rfl rfl Tryz.ty65
instance Tryz.fld67_0 : FldP Tryz.prog 67 0 0 := FldP.mk' (sz := 1) Tryz.underlying67 rfl rfl (by kernel_rfl) rfl
instance Tryz.fv67_1 : FldV Tryz.prog 67 1 1 1 false := FldV.mk' Tryz.underlying67 rfl rfl Tryz.ty3
instance Tryz.fld67_1 : FldP Tryz.prog 67 1 1 := FldP.mk' (sz := 1) Tryz.underlying67 rfl rfl (by kernel_rfl) rfl
instance Tryz.fv67_2 : FldV Tryz.prog 67 2 2 1 false := FldV.mk' Tryz.underlying67 rfl rfl Tryz.ty4
instance Tryz.fld67_2 : FldP Tryz.prog 67 2 2 := FldP.mk' (sz := 1) Tryz.underlying67 rfl rfl (by kernel_rfl) rfl
instance Tryz.st72 : StP Tryz.prog 72 [.int .i64 0, .int .i64 0, .int .i64 0] [(0, 1), (1, 2)] := StP.mk' Tryz.ty72 Tryz.underlying72 (by kernel_rfl)
instance Tryz.fv72_0 : FldV Tryz.prog 72 0 0 1 false := FldV.mk' Tryz.underlying72 rfl rfl Tryz.ty3
instance Tryz.fld72_0 : FldP Tryz.prog 72 0 0 := FldP.mk' (sz := 1) Tryz.underlying72 rfl rfl (by kernel_rfl) rfl
instance Tryz.fv72_1 : FldV Tryz.prog 72 1 1 2 true := FldV.mk' Tryz.underlying72 rfl rfl Tryz.ty38
instance Tryz.fld72_1 : FldP Tryz.prog 72 1 1 := FldP.mk' (sz := 2) Tryz.underlying72 rfl rfl (by kernel_rfl) rfl
instance Tryz.st73 : StP Tryz.prog 73 [.int .i64 0, .int .i64 0, .int .i64 0] [(0, 1), (1, 2)] := StP.mk' Tryz.ty73 Tryz.underlying73 (by kernel_rfl)
instance Tryz.fv73_0 : FldV Tryz.prog 73 0 0 1 false := FldV.mk' Tryz.underlying73 rfl rfl Tryz.ty3
instance Tryz.fld73_0 : FldP Tryz.prog 73 0 0 := FldP.mk' (sz := 1) Tryz.underlying73 rfl rfl (by kernel_rfl) rfl
instance Tryz.fv73_1 : FldV Tryz.prog 73 1 1 2 true := FldV.mk' Tryz.underlying73 rfl rfl Tryz.ty38
instance Tryz.fld73_1 : FldP Tryz.prog 73 1 1 := FldP.mk' (sz := 2) Tryz.underlying73 rfl rfl (by kernel_rfl) rfl
instance Tryz.st86 : StP Tryz.prog 86 [.int .i64 0, .int .i64 0, .int .i64 0, .int .i64 0, .int .i64 0] [(0, 1), (1, 2), (3, 2)] := StP.mk' Tryz.ty86 Tryz.underlying86 (by kernel_rfl)
instance Tryz.fv86_0 : FldV Tryz.prog 86 0 0 1 false := FldV.mk' Tryz.underlying86 rfl rfl Tryz.ty3
instance Tryz.fld86_0 : FldP Tryz.prog 86 0 0 := FldP.mk' (sz := 1) Tryz.underlying86 rfl rfl (by kernel_rfl) rfl
instance Tryz.fv86_1 : FldV Tryz.prog 86 1 1 2 true := FldV.mk' Tryz.underlying86 rfl rfl Tryz.ty25
instance Tryz.fld86_1 : FldP Tryz.prog 86 1 1 := FldP.mk' (sz := 2) Tryz.underlying86 rfl rfl (by kernel_rfl) rfl
instance Tryz.fv86_2 : FldV Tryz.prog 86 2 3 2 true := FldV.mk' Tryz.underlying86 rfl rfl Tryz.ty25
instance Tryz.fld86_2 : FldP Tryz.prog 86 2 3 := FldP.mk' (sz := 2) Tryz.underlying86 rfl rfl (by kernel_rfl) rfl
instance Tryz.st87 : StP Tryz.prog 87 [.int .i64 0, .int .i64 0, .int .i64 0, .int .i64 0, .int .i64 0] [(0, 1), (1, 2), (3, 2)] := StP.mk' Tryz.ty87 Tryz.underlying87 (by kernel_rfl)
instance Tryz.fv87_0 : FldV Tryz.prog 87 0 0 1 false := FldV.mk' Tryz.underlying87 rfl rfl Tryz.ty3
instance Tryz.fld87_0 : FldP Tryz.prog 87 0 0 := FldP.mk' (sz := 1) Tryz.underlying87 rfl rfl (by kernel_rfl) rfl
instance Tryz.fv87_1 : FldV Tryz.prog 87 1 1 2 true := FldV.mk' Tryz.underlying87 rfl rfl Tryz.ty25
instance Tryz.fld87_1 : FldP Tryz.prog 87 1 1 := FldP.mk' (sz := 2) Tryz.underlying87 rfl rfl (by kernel_rfl) rfl
instance Tryz.fv87_2 : FldV Tryz.prog 87 2 3 2 true := FldV.mk' Tryz.underlying87 rfl rfl Tryz.ty25
instance Tryz.fld87_2 : FldP Tryz.prog 87 2 3 := FldP.mk' (sz := 2) Tryz.underlying87 rfl rfl (by kernel_rfl) rfl
instance Tryz.st91 : StP Tryz.prog 91 [.int .i64 0, .int .i64 0, .int .i64 0, .int .i64 0] [(0, 1), (1, 2), (3, 1)] := StP.mk' Tryz.ty91 Tryz.underlying91 (by kernel_rfl)
instance Tryz.fv91_0 : FldV Tryz.prog 91 0 0 1 false := FldV.mk' Tryz.underlying91 rfl rfl Tryz.ty3
instance Tryz.fld91_0 : FldP Tryz.prog 91 0 0 := FldP.mk' (sz := 1) Tryz.underlying91 rfl rfl (by kernel_rfl) rfl
instance Tryz.fv91_1 : FldV Tryz.prog 91 1 1 2 true := FldV.mk' Tryz.underlying91 rfl rfl Tryz.ty38
instance Tryz.fld91_1 : FldP Tryz.prog 91 1 1 := FldP.mk' (sz := 2) Tryz.underlying91 rfl rfl (by kernel_rfl) rfl
instance Tryz.fv91_2 : FldV Tryz.prog 91 2 3 1 false := FldV.mk' Tryz.underlying91 rfl rfl Tryz.ty3
instance Tryz.fld91_2 : FldP Tryz.prog 91 2 3 := FldP.mk' (sz := 1) Tryz.underlying91 rfl rfl (by kernel_rfl) rfl
instance Tryz.st92 : StP Tryz.prog 92 [.int .i64 0, .int .i64 0, .int .i64 0, .int .i64 0] [(0, 1), (1, 2), (3, 1)] := StP.mk' Tryz.ty92 Tryz.underlying92 (by kernel_rfl)
instance Tryz.fv92_0 : FldV Tryz.prog 92 0 0 1 false := FldV.mk' Tryz.underlying92 rfl rfl Tryz.ty3
instance Tryz.fld92_0 : FldP Tryz.prog 92 0 0 := FldP.mk' (sz := 1) Tryz.underlying92 rfl rfl (by kernel_rfl) rfl
instance Tryz.fv92_1 : FldV Tryz.prog 92 1 1 2 true := FldV.mk' Tryz.underlying92 rfl rfl Tryz.ty38
instance Tryz.fld92_1 : FldP Tryz.prog 92 1 1 := FldP.mk' (sz := 2) Tryz.underlying92 rfl rfl (by kernel_rfl) rfl
instance Tryz.fv92_2 : FldV Tryz.prog 92 2 3 1 false := FldV.mk' Tryz.underlying92 rfl rfl Tryz.ty3
instance Tryz.fld92_2 : FldP Tryz.prog 92 2 3 := FldP.mk' (sz := 1) Tryz.underlying92 rfl rfl (by kernel_rfl) rfl
instance Tryz.st95 : StP Tryz.prog 95 [.slice none 0 0, .slice none 0 0, .int .i64 0, .int .i64 0, .int .i64 0, .int .i64 0, .int .i64 0] [(0, 6), (6, 1)] := StP.mk' Tryz.ty95 Tryz.underlying95 (by kernel_rfl)
instance Tryz.fv95_0 : FldV Tryz.prog 95 0 0 6 true := FldV.mk' Tryz.underlying95 rfl rfl Tryz.ty27
instance Tryz.fld95_0 : FldP Tryz.prog 95 0 0 := FldP.mk' (sz := 6) Tryz.underlying95 rfl rfl (by kernel_rfl) rfl
instance Tryz.fv95_1 : FldV Tryz.prog 95 1 6 1 false := FldV.mk' Tryz.underlying95 rfl rfl Tryz.ty3
instance Tryz.fld95_1 : FldP Tryz.prog 95 1 6 := FldP.mk' (sz := 1) Tryz.underlying95 rfl rfl (by kernel_rfl) rfl
instance Tryz.st96 : StP Tryz.prog 96 [.slice none 0 0, .slice none 0 0, .int .i64 0, .int .i64 0, .int .i64 0, .int .i64 0, .int .i64 0] [(0, 6), (6, 1)] := StP.mk' Tryz.ty96 Tryz.underlying96 (by kernel_rfl)
instance Tryz.fv96_0 : FldV Tryz.prog 96 0 0 6 true := FldV.mk' Tryz.underlying96 rfl rfl Tryz.ty27
instance Tryz.fld96_0 : FldP Tryz.prog 96 0 0 := FldP.mk' (sz := 6) Tryz.underlying96 rfl rfl (by kernel_rfl) rfl
instance Tryz.fv96_1 : FldV Tryz.prog 96 1 6 1 false := FldV.mk' Tryz.underlying96 rfl rfl Tryz.ty3
instance Tryz.fld96_1 : FldP Tryz.prog 96 1 6 := FldP.mk' (sz := 1) Tryz.underlying96 rfl rfl (by kernel_rfl) rfl
instance Tryz.ar105 : ArP Tryz.prog 105 [.int .i64 0, .int .i64 0] 2 1 := ArP.mk' Tryz.ty105 Tryz.underlying105 Tryz.ty3
instance Tryz.ar106 : ArP Tryz.prog 106 [.int .i64 0, .int .i64 0] 2 1 := ArP.mk' Tryz.ty106 Tryz.underlying106 Tryz.ty3
instance Tryz.st115 : StP Tryz.prog 115 [.int .i64 0, .int .i64 0, .int .i64 0, .int .i64 0, .int .i64 0] [(0, 2), (2, 1), (3, 1), (4, 1)] := StP.mk' Tryz.ty115 Tryz.underlying115 (by kernel_rfl)
instance Tryz.fv115_0 : FldV Tryz.prog 115 0 0 2 true := FldV.mk' Tryz.underlying115 rfl rfl Tryz.ty38
instance Tryz.fld115_0 : FldP Tryz.prog 115 0 0 := FldP.mk' (sz := 2) Tryz.underlying115 rfl rfl (by kernel_rfl) rfl
instance Tryz.fv115_1 : FldV Tryz.prog 115 1 2 1 false := FldV.mk' Tryz.underlying115 rfl rfl Tryz.ty3
instance Tryz.fld115_1 : FldP Tryz.prog 115 1 2 := FldP.mk' (sz := 1) Tryz.underlying115 rfl rfl (by kernel_rfl) rfl
instance Tryz.fv115_2 : FldV Tryz.prog 115 2 3 1 false := FldV.mk' Tryz.underlying115 rfl rfl Tryz.ty3
instance Tryz.fld115_2 : FldP Tryz.prog 115 2 3 := FldP.mk' (sz := 1) Tryz.underlying115 rfl rfl (by kernel_rfl) rfl
instance Tryz.fv115_3 : FldV Tryz.prog 115 3 4 1 false := FldV.mk' Tryz.underlying115 rfl rfl Tryz.ty3
instance Tryz.fld115_3 : FldP Tryz.prog 115 3 4 := FldP.mk' (sz := 1) Tryz.underlying115 rfl rfl (by kernel_rfl) rfl
instance Tryz.st116 : StP Tryz.prog 116 [.int .i64 0, .int .i64 0, .int .i64 0, .int .i64 0, .int .i64 0] [(0, 2), (2, 1), (3, 1), (4, 1)] := StP.mk' Tryz.ty116 Tryz.underlying116 (by kernel_rfl)
instance Tryz.fv116_0 : FldV Tryz.prog 116 0 0 2 true := FldV.mk' Tryz.underlying116 rfl rfl Tryz.ty38
instance Tryz.fld116_0 : FldP Tryz.prog 116 0 0 := FldP.mk' (sz := 2) Tryz.underlying116 rfl rfl (by kernel_rfl) rfl
instance Tryz.fv116_1 : FldV Tryz.prog 116 1 2 1 false := FldV.mk' Tryz.underlying116 rfl rfl Tryz.ty3
instance Tryz.fld116_1 : FldP Tryz.prog 116 1 2 := FldP.mk' (sz := 1) Tryz.underlying116 rfl rfl (by kernel_rfl) rfl
instance Tryz.fv116_2 : FldV Tryz.prog 116 2 3 1 false := FldV.mk' Tryz.underlying116 rfl rfl Tryz.ty3
instance Tryz.fld116_2 : FldP Tryz.prog 116 2 3 := FldP.mk' (sz := 1) Tryz.underlying116 rfl rfl (by kernel_rfl) rfl
instance Tryz.fv116_3 : FldV Tryz.prog 116 3 4 1 false := FldV.mk' Tryz.underlying116 rfl rfl Tryz.ty3
instance Tryz.fld116_3 : FldP Tryz.prog 116 3 4 := FldP.mk' (sz := 1) Tryz.underlying116 rfl rfl (by kernel_rfl) rfl
instance Tryz.st118 : StP Tryz.prog 118 [.int .i64 0, .slice none 0 0, .slice none 0 0, .map none] [(0, 2), (2, 1), (3, 1)] := StP.mk' Tryz.ty118 Tryz.underlying118 (by kernel_rfl)
instance Tryz.fv118_0 : FldV Tryz.prog 118 0 0 2 true := FldV.mk' Tryz.underlying118 rfl rfl Tryz.ty43
instance Tryz.fld118_0 : FldP Tryz.prog 118 0 0 := FldP.mk' (sz := 2) Tryz.underlying118 rfl rfl (by kernel_rfl) rfl
instance Tryz.fv118_1 : FldV Tryz.prog 118 1 2 1 false := FldV.mk' Tryz.underlying118 rfl rfl Tryz.ty114
instance Tryz.fld118_1 : FldP Tryz.prog 118 1 2 := FldP.mk' (sz := 1) Tryz.underlying118 rfl rfl (by kernel_rfl) rfl
instance Tryz.fv118_2 : FldV Tryz.prog 118 2 3 1 false := FldV.mk' Tryz.underlying118 rfl rfl Tryz.ty117
instance Tryz.fld118_2 : FldP Tryz.prog 118 2 3 := FldP.mk' (sz := 1) Tryz.underlying118 rfl rfl (by kernel_rfl) rfl
instance Tryz.st119 : StP Tryz.prog 119 [.int .i64 0, .slice none 0 0, .slice none 0 0, .map none] [(0, 2), (2, 1), (3, 1)] := StP.mk' Tryz.ty119 Tryz.underlying119 (by kernel_rfl)
instance Tryz.fv119_0 : FldV Tryz.prog 119 0 0 2 true := FldV.mk' Tryz.underlying119 rfl rfl Tryz.ty43
instance Tryz.fld119_0 : FldP Tryz.prog 119 0 0 := FldP.mk' (sz := 2) Tryz.underlying119 rfl rfl (by kernel_rfl) rfl
instance Tryz.fv119_1 : FldV Tryz.prog 119 1 2 1 false := FldV.mk' Tryz.underlying119 rfl rfl Tryz.ty114
instance Tryz.fld119_1 : FldP Tryz.prog 119 1 2 := FldP.mk' (sz := 1) Tryz.underlying119 rfl rfl (by kernel_rfl) rfl
instance Tryz.fv119_2 : FldV Tryz.prog 119 2 3 1 false := FldV.mk' Tryz.underlying119 rfl rfl Tryz.ty117
instance Tryz.fld119_2 : FldP Tryz.prog 119 2 3 := FldP.mk' (sz := 1) Tryz.underlying119 rfl rfl (by kernel_rfl) rfl
instance Tryz.st127 : StP Tryz.prog 127 [.slice none 0 0, .slice none 0 0, .int .i64 0, .int .i64 0] [(0, 4)] := StP.mk' Tryz.ty127 Tryz.underlying127 (by kernel_rfl)
instance Tryz.fv127_0 : FldV Tryz.prog 127 0 0 4 true := FldV.mk' Tryz.underlying127 rfl rfl Tryz.ty57
instance Tryz.fld127_0 : FldP Tryz.prog 127 0 0 := FldP.mk' (sz := 4) Tryz.underlying127 rfl rfl (by kernel_rfl) rfl
instance Tryz.st128 : StP Tryz.prog 128 [.slice none 0 0, .slice none 0 0, .int .i64 0, .int .i64 0] [(0, 4)] := StP.mk' Tryz.ty128 Tryz.underlying128 (by kernel_rfl)
instance Tryz.fv128_0 : FldV Tryz.prog 128 0 0 4 true := FldV.mk' Tryz.underlying128 rfl rfl Tryz.ty57
instance Tryz.fld128_0 : FldP Tryz.prog 128 0 0 := FldP.mk' (sz := 4) Tryz.underlying128 rfl rfl (by kernel_rfl) rfl
instance Tryz.st134 : StP Tryz.prog 134 [.int .i64 0, .int .i64 0, .int .i64 0, .int .i64 0] [(0, 2), (2, 2)] := StP.mk' Tryz.ty134 Tryz.underlying134 (by kernel_rfl)
instance Tryz.fv134_0 : FldV Tryz.prog 134 0 0 2 true := FldV.mk' Tryz.underlying134 rfl rfl Tryz.ty25
instance Tryz.fld134_0 : FldP Tryz.prog 134 0 0 := FldP.mk' (sz := 2) Tryz.underlying134 rfl rfl (by kernel_rfl) rfl
instance Tryz.fv134_1 : FldV Tryz.prog 134 1 2 2 true := FldV.mk' Tryz.underlying134 rfl rfl Tryz.ty25
instance Tryz.fld134_1 : FldP Tryz.prog 134 1 2 := FldP.mk' (sz := 2) Tryz.underlying134 rfl rfl (by kernel_rfl) rfl
instance Tryz.st135 : StP Tryz.prog 135 [.int .i64 0, .int .i64 0, .int .i64 0, .int .i64 0] [(0, 2), (2, 2)] := StP.mk' Tryz.ty135 Tryz.underlying135 (by kernel_rfl)
instance Tryz.fv135_0 : FldV Tryz.prog 135 0 0 2 true := FldV.mk' Tryz.underlying135 rfl rfl Tryz.ty25
instance Tryz.fld135_0 : FldP Tryz.prog 135 0 0 := FldP.mk' (sz := 2) Tryz.underlying135 rfl rfl (by kernel_rfl) rfl
instance Tryz.fv135_1 : FldV Tryz.prog 135 1 2 2 true := FldV.mk' Tryz.underlying135 rfl rfl Tryz.ty25
instance Tryz.fld135_1 : FldP Tryz.prog 135 1 2 := FldP.mk' (sz := 2) Tryz.underlying135 rfl rfl (by kernel_rfl) rfl
instance Tryz.st167 : StP Tryz.prog 167 [.int .i64 0, .int .i64 0, .int .i64 0, .int .i64 0] [(0, 2), (2, 2)] := StP.mk' Tryz.ty167 Tryz.underlying167 (by kernel_rfl)
instance Tryz.fv167_0 : FldV Tryz.prog 167 0 0 2 true := FldV.mk' Tryz.underlying167 rfl rfl Tryz.ty25
instance Tryz.fld167_0 : FldP Tryz.prog 167 0 0 := FldP.mk' (sz := 2) Tryz.underlying167 rfl rfl (by kernel_rfl) rfl
instance Tryz.fv167_1 : FldV Tryz.prog 167 1 2 2 true := FldV.mk' Tryz.underlying167 rfl rfl Tryz.ty25
instance Tryz.fld167_1 : FldP Tryz.prog 167 1 2 := FldP.mk' (sz := 2) Tryz.underlying167 rfl rfl (by kernel_rfl) rfl
instance Tryz.st168 : StP Tryz.prog 168 [.int .i64 0, .int .i64 0, .int .i64 0, .int .i64 0] [(0, 2), (2, 2)] := StP.mk' Tryz.ty168 Tryz.underlying168 (by kernel_rfl)
instance Tryz.fv168_0 : FldV Tryz.prog 168 0 0 2 true := FldV.mk' Tryz.underlying168 rfl rfl Tryz.ty25
instance Tryz.fld168_0 : FldP Tryz.prog 168 0 0 := FldP.mk' (sz := 2) Tryz.underlying168 rfl rfl (by kernel_rfl) rfl
instance Tryz.fv168_1 : FldV Tryz.prog 168 1 2 2 true := FldV.mk' Tryz.underlying168 rfl rfl Tryz.ty25
instance Tryz.fld168_1 : FldP Tryz.prog 168 1 2 := FldP.mk' (sz := 2) Tryz.underlying168 rfl rfl (by kernel_rfl) rfl
instance Tryz.st184 : StP Tryz.prog 184 [.int .i64 0, .int .i64 0, .int .i64 0, .int .i64 0] [(0, 1), (1, 1), (2, 2)] := StP.mk' Tryz.ty184 Tryz.underlying184 (by kernel_rfl)
instance Tryz.fv184_0 : FldV Tryz.prog 184 0 0 1 false := FldV.mk' Tryz.underlying184 rfl rfl Tryz.ty3
instance Tryz.fld184_0 : FldP Tryz.prog 184 0 0 := FldP.mk' (sz := 1) Tryz.underlying184 rfl rfl (by kernel_rfl) rfl
instance Tryz.fv184_1 : FldV Tryz.prog 184 1 1 1 false := FldV.mk' Tryz.underlying184 rfl rfl Tryz.ty3
instance Tryz.fld184_1 : FldP Tryz.prog 184 1 1 := FldP.mk' (sz := 1) Tryz.underlying184 rfl rfl (by kernel_rfl) rfl
instance Tryz.fv184_2 : FldV Tryz.prog 184 2 2 2 true := FldV.mk' Tryz.underlying184 rfl rfl Tryz.ty25
instance Tryz.fld184_2 : FldP Tryz.prog 184 2 2 := FldP.mk' (sz := 2) Tryz.underlying184 rfl rfl (by kernel_rfl) rfl
instance Tryz.st185 : StP Tryz.prog 185 [.int .i64 0, .int .i64 0, .int .i64 0, .int .i64 0] [(0, 1), (1, 1), (2, 2)] := StP.mk' Tryz.ty185 Tryz.underlying185 (by kernel_rfl)
instance Tryz.fv185_0 : FldV Tryz.prog 185 0 0 1 false := FldV.mk' Tryz.underlying185 rfl rfl Tryz.ty3
instance Tryz.fld185_0 : FldP Tryz.prog 185 0 0 := FldP.mk' (sz := 1) Tryz.underlying185 rfl rfl (by kernel_rfl) rfl
instance Tryz.fv185_1 : FldV Tryz.prog 185 1 1 1 false := FldV.mk' Tryz.underlying185 rfl rfl Tryz.ty3
instance Tryz.fld185_1 : FldP Tryz.prog 185 1 1 := FldP.mk' (sz := 1) Tryz.underlying185 rfl rfl (by kernel_rfl) rfl
instance Tryz.fv185_2 : FldV Tryz.prog 185 2 2 2 true := FldV.mk' Tryz.underlying185 rfl rfl Tryz.ty25
instance Tryz.fld185_2 : FldP Tryz.prog 185 2 2 := FldP.mk' (sz := 2) Tryz.underlying185 rfl rfl (by kernel_rfl) rfl
instance Tryz.st189 : StP Tryz.prog 189 [.int .i64 0, .slice none 0 0, .slice none 0 0, .slice none 0 0] [(0, 1), (1, 1), (2, 1), (3, 1)] := StP.mk' Tryz.ty189 Tryz.underlying189 (by kernel_rfl)
instance Tryz.fv189_0 : FldV Tryz.prog 189 0 0 1 false := FldV.mk' Tryz.underlying189 rfl rfl Tryz.ty3
instance Tryz.fld189_0 : FldP Tryz.prog 189 0 0 := FldP.mk' (sz := 1) Tryz.underlying189 rfl rfl (by kernel_rfl) rfl
instance Tryz.fv189_1 : FldV Tryz.prog 189 1 1 1 false := FldV.mk' Tryz.underlying189 rfl rfl Tryz.ty186
instance Tryz.fld189_1 : FldP Tryz.prog 189 1 1 := FldP.mk' (sz := 1) Tryz.underlying189 rfl rfl (by kernel_rfl) rfl
instance Tryz.fv189_2 : FldV Tryz.prog 189 2 2 1 false := FldV.mk' Tryz.underlying189 rfl rfl Tryz.ty187
instance Tryz.fld189_2 : FldP Tryz.prog 189 2 2 := FldP.mk' (sz := 1) Tryz.underlying189 rfl rfl (by kernel_rfl) rfl
instance Tryz.fv189_3 : FldV Tryz.prog 189 3 3 1 false := FldV.mk' Tryz.underlying189 rfl rfl Tryz.ty188
instance Tryz.fld189_3 : FldP Tryz.prog 189 3 3 := FldP.mk' (sz := 1) Tryz.underlying189 rfl rfl (by kernel_rfl) rfl
instance Tryz.st190 : StP Tryz.prog 190 [.int .i64 0, .slice none 0 0, .slice none 0 0, .slice none 0 0] [(0, 1), (1, 1), (2, 1), (3, 1)] := StP.mk' Tryz.ty190 Tryz.underlying190 (by kernel_rfl)
instance Tryz.fv190_0 : FldV Tryz.prog 190 0 0 1 false := FldV.mk' Tryz.underlying190 rfl rfl Tryz.ty3
instance Tryz.fld190_0 : FldP Tryz.prog 190 0 0 := FldP.mk' (sz := 1) Tryz.underlying190 rfl rfl (by kernel_rfl) rfl
instance Tryz.fv190_1 : FldV Tryz.prog 190 1 1 1 false := FldV.mk' Tryz.underlying190 rfl rfl Tryz.ty186
instance Tryz.fld190_1 : FldP Tryz.prog 190 1 1 := FldP.mk' (sz := 1) Tryz.underlying190 rfl rfl (by kernel_rfl) rfl
instance Tryz.fv190_2 : FldV Tryz.prog 190 2 2 1 false := FldV.mk' Tryz.underlying190 rfl rfl Tryz.ty187
instance Tryz.fld190_2 : FldP Tryz.prog 190 2 2 := FldP.mk' (sz := 1) Tryz.underlying190 rfl rfl (by kernel_rfl) rfl
instance Tryz.fv190_3 : FldV Tryz.prog 190 3 3 1 false := FldV.mk' Tryz.underlying190 rfl rfl Tryz.ty188
instance Tryz.fld190_3 : FldP Tryz.prog 190 3 3 := FldP.mk' (sz := 1) Tryz.underlying190 rfl rfl (by kernel_rfl) rfl
instance Tryz.st192 : StP Tryz.prog 192 [.int .i64 0, .int .i64 0, .int .i64 0, .int .i64 0, .int .i64 0, .int .i64 0] [(0, 2), (2, 2), (4, 2)] := StP.mk' Tryz.ty192 Tryz.underlying192 (by kernel_rfl)
instance Tryz.fv192_0 : FldV Tryz.prog 192 0 0 2 true := FldV.mk' Tryz.underlying192 rfl rfl Tryz.ty25
instance Tryz.fld192_0 : FldP Tryz.prog 192 0 0 := FldP.mk' (sz := 2) Tryz.underlying192 rfl rfl (by kernel_rfl) rfl
instance Tryz.fv192_1 : FldV Tryz.prog 192 1 2 2 true := FldV.mk' Tryz.underlying192 rfl rfl Tryz.ty25
instance Tryz.fld192_1 : FldP Tryz.prog 192 1 2 := FldP.mk' (sz := 2) Tryz.underlying192 rfl rfl (by kernel_rfl) rfl
instance Tryz.fv192_2 : FldV Tryz.prog 192 2 4 2 true := FldV.mk' Tryz.underlying192 rfl rfl Tryz.ty25
instance Tryz.fld192_2 : FldP Tryz.prog 192 2 4 := FldP.mk' (sz := 2) Tryz.underlying192 rfl rfl (by kernel_rfl) rfl
instance Tryz.st193 : StP Tryz.prog 193 [.int .i64 0, .int .i64 0, .int .i64 0, .int .i64 0, .int .i64 0, .int .i64 0] [(0, 2), (2, 2), (4, 2)] := StP.mk' Tryz.ty193 Tryz.underlying193 (by kernel_rfl)
instance Tryz.fv193_0 : FldV Tryz.prog 193 0 0 2 true := FldV.mk' Tryz.underlying193 rfl rfl Tryz.ty25
instance Tryz.fld193_0 : FldP Tryz.prog 193 0 0 := FldP.mk' (sz := 2) Tryz.underlying193 rfl rfl (by kernel_rfl) rfl
instance Tryz.fv193_1 : FldV Tryz.prog 193 1 2 2 true := FldV.mk' Tryz.underlying193 rfl rfl Tryz.ty25
instance Tryz.fld193_1 : FldP Tryz.prog 193 1 2 := FldP.mk' (sz := 2) Tryz.underlying193 rfl rfl (by kernel_rfl) rfl
instance Tryz.fv193_2 : FldV Tryz.prog 193 2 4 2 true := FldV.mk' Tryz.underlying193 rfl rfl Tryz.ty25
instance Tryz.fld193_2 : FldP Tryz.prog 193 2 4 := FldP.mk' (sz := 2) Tryz.underlying193 rfl rfl (by kernel_rfl) rfl
instance Tryz.st213 : StP Tryz.prog 213 [.int .i64 0, .int .i64 0] [(0, 1), (1, 1)] := StP.mk' Tryz.ty213 Tryz.underlying213 (by kernel_rfl)
instance Tryz.fv213_0 : FldV Tryz.prog 213 0 0 1 false := FldV.mk' Tryz.underlying213 rfl rfl Tryz.ty3
instance Tryz.fld213_0 : FldP Tryz.prog 213 0 0 := FldP.mk' (sz := 1) Tryz.underlying213 rfl rfl (by kernel_rfl) rfl
instance Tryz.fv213_1 : FldV Tryz.prog 213 1 1 1 false := FldV.mk' Tryz.underlying213 rfl rfl Tryz.ty3
instance Tryz.fld213_1 : FldP Tryz.prog 213 1 1 := FldP.mk' (sz := 1) Tryz.underlying213 rfl rfl (by kernel_rfl) rfl
instance Tryz.st214 : StP Tryz.prog 214 [.int .i64 0, .int .i64 0] [(0, 1), (1, 1)] := StP.mk' Tryz.ty214 Tryz.underlying214 (by kernel_rfl)
instance Tryz.fv214_0 : FldV Tryz.prog 214 0 0 1 false := FldV.mk' Tryz.underlying214 rfl rfl Tryz.ty3
instance Tryz.fld214_0 : FldP Tryz.prog 214 0 0 := FldP.mk' (sz := 1) Tryz.underlying214 rfl rfl (by kernel_rfl) rfl
instance Tryz.fv214_1 : FldV Tryz.prog 214 1 1 1 false := FldV.mk' Tryz.underlying214 rfl rfl Tryz.ty3
instance Tryz.fld214_1 : FldP Tryz.prog 214 1 1 := FldP.mk' (sz := 1) Tryz.underlying214 rfl rfl (by kernel_rfl) rfl
instance Tryz.st221 : StP Tryz.prog 221 [.bool false, .bool false, .bool false, .bool false, .nilFunc] [(0, 1), (1, 1), (2, 1), (3, 1), (4, 1)] := StP.mk' Tryz.ty221 Tryz.underlying221 (by kernel_rfl)
instance Tryz.fv221_0 : FldV Tryz.prog 221 0 0 1 false := FldV.mk' Tryz.underlying221 rfl rfl Tryz.ty4
instance Tryz.fld221_0 : FldP Tryz.prog 221 0 0 := FldP.mk' (sz := 1) Tryz.underlying221 rfl rfl (by kernel_rfl) rfl
instance Tryz.fv221_1 : FldV Tryz.prog 221 1 1 1 false := FldV.mk' Tryz.underlying221 rfl rfl Tryz.ty4
instance Tryz.fld221_1 : FldP Tryz.prog 221 1 1 := FldP.mk' (sz := 1) Tryz.underlying221 rfl rfl (by kernel_rfl) rfl
instance Tryz.fv221_2 : FldV Tryz.prog 221 2 2 1 false := FldV.mk' Tryz.underlying221 rfl rfl Tryz.ty4
instance Tryz.fld221_2 : FldP Tryz.prog 221 2 2 := FldP.mk' (sz := 1) Tryz.underlying221 rfl rfl (by kernel_rfl) rfl
instance Tryz.fv221_3 : FldV Tryz.prog 221 3 3 1 false := FldV.mk' Tryz.underlying221 rfl rfl Tryz.ty4
instance Tryz.fld221_3 : FldP Tryz.prog 221 3 3 := FldP.mk' (sz := 1) Tryz.underlying221 rfl rfl (by kernel_rfl) rfl
instance Tryz.fv221_4 : FldV Tryz.prog 221 4 4 1 false := FldV.mk' Tryz.underlying221 rfl rfl Tryz.ty220
instance Tryz.fld221_4 : FldP Tryz.prog 221 4 4 := FldP.mk' (sz := 1) Tryz.underlying221 rfl rfl (by kernel_rfl) rfl
instance Tryz.st222 : StP Tryz.prog 222 [.bool false, .bool false, .bool false, .bool false, .nilFunc] [(0, 1), (1, 1), (2, 1), (3, 1), (4, 1)] := StP.mk' Tryz.ty222 Tryz.underlying222 (by kernel_rfl)
instance Tryz.fv222_0 : FldV Tryz.prog 222 0 0 1 false := FldV.mk' Tryz.underlying222 rfl rfl Tryz.ty4
instance Tryz.fld222_0 : FldP Tryz.prog 222 0 0 := FldP.mk' (sz := 1) Tryz.underlying222 rfl rfl (by kernel_rfl) rfl
instance Tryz.fv222_1 : FldV Tryz.prog 222 1 1 1 false := FldV.mk' Tryz.underlying222 rfl rfl Tryz.ty4
instance Tryz.fld222_1 : FldP Tryz.prog 222 1 1 := FldP.mk' (sz := 1) Tryz.underlying222 rfl rfl (by kernel_rfl) rfl
instance Tryz.fv222_2 : FldV Tryz.prog 222 2 2 1 false := FldV.mk' Tryz.underlying222 rfl rfl Tryz.ty4
instance Tryz.fld222_2 : FldP Tryz.prog 222 2 2 := FldP.mk' (sz := 1) Tryz.underlying222 rfl rfl (by kernel_rfl) rfl
instance Tryz.fv222_3 : FldV Tryz.prog 222 3 3 1 false := FldV.mk' Tryz.underlying222 rfl rfl Tryz.ty4
instance Tryz.fld222_3 : FldP Tryz.prog 222 3 3 := FldP.mk' (sz := 1) Tryz.underlying222 rfl rfl (by kernel_rfl) rfl
instance Tryz.fv222_4 : FldV Tryz.prog 222 4 4 1 false := FldV.mk' Tryz.underlying222 rfl rfl Tryz.ty220
instance Tryz.fld222_4 : FldP Tryz.prog 222 4 4 := FldP.mk' (sz := 1) Tryz.underlying222 rfl rfl (by kernel_rfl) rfl
instance Tryz.st236 : StP Tryz.prog 236 [.slice none 0 0, .slice none 0 0] [(0, 1), (1, 1)] := StP.mk' Tryz.ty236 Tryz.underlying236 (by kernel_rfl)
instance Tryz.fv236_0 : FldV Tryz.prog 236 0 0 1 false := FldV.mk' Tryz.underlying236 rfl rfl Tryz.ty235
instance Tryz.fld236_0 : FldP Tryz.prog 236 0 0 := FldP.mk' (sz := 1) Tryz.underlying236 rfl rfl (by kernel_rfl) rfl
instance Tryz.fv236_1 : FldV Tryz.prog 236 1 1 1 false := FldV.mk' Tryz.underlying236 rfl rfl Tryz.ty22
instance Tryz.fld236_1 : FldP Tryz.prog 236 1 1 := FldP.mk' (sz := 1) Tryz.underlying236 rfl rfl (by kernel_rfl) rfl
instance Tryz.st237 : StP Tryz.prog 237 [.slice none 0 0, .slice none 0 0] [(0, 1), (1, 1)] := StP.mk' Tryz.ty237 Tryz.underlying237 (by kernel_rfl)
instance Tryz.fv237_0 : FldV Tryz.prog 237 0 0 1 false := FldV.mk' Tryz.underlying237 rfl rfl Tryz.ty235
instance Tryz.fld237_0 : FldP Tryz.prog 237 0 0 := FldP.mk' (sz := 1) Tryz.underlying237 rfl rfl (by kernel_rfl) rfl
instance Tryz.fv237_1 : FldV Tryz.prog 237 1 1 1 false := FldV.mk' Tryz.underlying237 rfl rfl Tryz.ty22
instance Tryz.fld237_1 : FldP Tryz.prog 237 1 1 := FldP.mk' (sz := 1) Tryz.underlying237 rfl rfl (by kernel_rfl) rfl
instance Tryz.st241 : StP Tryz.prog 241 [.int .i64 0, .int .i64 0, .int .i64 0, .int .i64 0, .int .i64 0, .int .i64 0] [(0, 6)] := StP.mk' Tryz.ty241 Tryz.underlying241 (by kernel_rfl)
instance Tryz.fv241_0 : FldV Tryz.prog 241 0 0 6 true := FldV.mk' Tryz.underlying241 rfl rfl Tryz.ty193
instance Tryz.fld241_0 : FldP Tryz.prog 241 0 0 := FldP.mk' (sz := 6) Tryz.underlying241 rfl rfl (by kernel_rfl) rfl
instance Tryz.st242 : StP Tryz.prog 242 [.int .i64 0, .int .i64 0, .int .i64 0, .int .i64 0, .int .i64 0, .int .i64 0] [(0, 6)] := StP.mk' Tryz.ty242 Tryz.underlying242 (by kernel_rfl)
instance Tryz.fv242_0 : FldV Tryz.prog 242 0 0 6 true := FldV.mk' Tryz.underlying242 rfl rfl Tryz.ty193
instance Tryz.fld242_0 : FldP Tryz.prog 242 0 0 := FldP.mk' (sz := 6) Tryz.underlying242 rfl rfl (by kernel_rfl) rfl
instance Tryz.st258 : StP Tryz.prog 258 [.int .i64 0, .slice none 0 0, .slice none 0 0, .slice none 0 0, .map none, .int .i64 0] [(0, 4), (4, 1), (5, 1)] := StP.mk' Tryz.ty258 Tryz.underlying258 (by kernel_rfl)
instance Tryz.fv258_0 : FldV Tryz.prog 258 0 0 4 true := FldV.mk' Tryz.underlying258 rfl rfl Tryz.ty190
instance Tryz.fld258_0 : FldP Tryz.prog 258 0 0 := FldP.mk' (sz := 4) Tryz.underlying258 rfl rfl (by kernel_rfl) rfl
instance Tryz.fv258_1 : FldV Tryz.prog 258 1 4 1 false := FldV.mk' Tryz.underlying258 rfl rfl Tryz.ty117
instance Tryz.fld258_1 : FldP Tryz.prog 258 1 4 := FldP.mk' (sz := 1) Tryz.underlying258 rfl rfl (by kernel_rfl) rfl
instance Tryz.fv258_2 : FldV Tryz.prog 258 2 5 1 false := FldV.mk' Tryz.underlying258 rfl rfl Tryz.ty3
instance Tryz.fld258_2 : FldP Tryz.prog 258 2 5 := FldP.mk' (sz := 1) Tryz.underlying258 rfl rfl (by kernel_rfl) rfl
instance Tryz.st259 : StP Tryz.prog 259 [.int .i64 0, .slice none 0 0, .slice none 0 0, .slice none 0 0, .map none, .int .i64 0] [(0, 4), (4, 1), (5, 1)] := StP.mk' Tryz.ty259 Tryz.underlying259 (by kernel_rfl)
instance Tryz.fv259_0 : FldV Tryz.prog 259 0 0 4 true := FldV.mk' Tryz.underlying259 rfl rfl Tryz.ty190
instance Tryz.fld259_0 : FldP Tryz.prog 259 0 0 := FldP.mk' (sz := 4) Tryz.underlying259 rfl rfl (by kernel_rfl) rfl
instance Tryz.fv259_1 : FldV Tryz.prog 259 1 4 1 false := FldV.mk' Tryz.underlying259 rfl rfl Tryz.ty117
instance Tryz.fld259_1 : FldP Tryz.prog 259 1 4 := FldP.mk' (sz := 1) Tryz.underlying259 rfl rfl (by kernel_rfl) rfl
instance Tryz.fv259_2 : FldV Tryz.prog 259 2 5 1 false := FldV.mk' Tryz.underlying259 rfl rfl Tryz.ty3
instance Tryz.fld259_2 : FldP Tryz.prog 259 2 5 := FldP.mk' (sz := 1) Tryz.underlying259 rfl rfl (by kernel_rfl) rfl
instance Tryz.ar261 : ArP Tryz.prog 261 [.int .i64 0, .int .i64 0, .int .i64 0, .int .i64 0, .int .i64 0, .int .i64 0, .int .i64 0, .int .i64 0, .int .i64 0, .int .i64 0, .int .i64 0, .int .i64 0, .int .i64 0, .int .i64 0, .int .i64 0, .int .i64 0, .int .i64 0, .int .i64 0, .int .i64 0, .int .i64 0, .int .i64 0] 21 1 := ArP.mk' Tryz.ty261 Tryz.underlying261 Tryz.ty3
instance Tryz.st264 : StP Tryz.prog 264 [.int .i64 0, .int .i64 0, .int .i64 0] [(0, 1), (1, 2)] := StP.mk' Tryz.ty264 Tryz.underlying264 (by kernel_rfl)
instance Tryz.fv264_0 : FldV Tryz.prog 264 0 0 1 false := FldV.mk' Tryz.underlying264 rfl rfl Tryz.ty3
instance Tryz.fld264_0 : FldP Tryz.prog 264 0 0 := FldP.mk' (sz := 1) Tryz.underlying264 rfl rfl (by kernel_rfl) rfl
instance Tryz.fv264_1 : FldV Tryz.prog 264 1 1 2 true := FldV.mk' Tryz.underlying264 rfl rfl Tryz.ty25
instance Tryz.fld264_1 : FldP Tryz.prog 264 1 1 := FldP.mk' (sz := 2) Tryz.underlying264 rfl rfl (by kernel_rfl) rfl
instance Tryz.st265 : StP Tryz.prog 265 [.int .i64 0, .int .i64 0, .int .i64 0] [(0, 1), (1, 2)] := StP.mk' Tryz.ty265 Tryz.underlying265 (by kernel_rfl)
instance Tryz.fv265_0 : FldV Tryz.prog 265 0 0 1 false := FldV.mk' Tryz.underlying265 rfl rfl Tryz.ty3
instance Tryz.fld265_0 : FldP Tryz.prog 265 0 0 := FldP.mk' (sz := 1) Tryz.underlying265 rfl rfl (by kernel_rfl) rfl
instance Tryz.fv265_1 : FldV Tryz.prog 265 1 1 2 true := FldV.mk' Tryz.underlying265 rfl rfl Tryz.ty25
instance Tryz.fld265_1 : FldP Tryz.prog 265 1 1 := FldP.mk' (sz := 2) Tryz.underlying265 rfl rfl (by kernel_rfl) rfl
instance Tryz.st270 : StP Tryz.prog 270 [.int .i64 0] [(0, 1)] := StP.mk' Tryz.ty270 Tryz.underlying270 (by kernel_rfl)
instance Tryz.fv270_0 : FldV Tryz.prog 270 0 0 1 false := FldV.mk' Tryz.underlying270 rfl rfl Tryz.ty3
instance Tryz.fld270_0 : FldP Tryz.prog 270 0 0 := FldP.mk' (sz := 1) Tryz.underlying270 rfl rfl (by kernel_rfl) rfl
instance Tryz.st271 : StP Tryz.prog 271 [.int .i64 0] [(0, 1)] := StP.mk' Tryz.ty271 Tryz.underlying271 (by kernel_rfl)
instance Tryz.fv271_0 : FldV Tryz.prog 271 0 0 1 false := FldV.mk' Tryz.underlying271 rfl rfl Tryz.ty3
instance Tryz.fld271_0 : FldP Tryz.prog 271 0 0 := FldP.mk' (sz := 1) Tryz.underlying271 rfl rfl (by kernel_rfl) rfl
instance Tryz.st296 : StP Tryz.prog 296 [.int .i64 0, .int .i64 0, .int .i64 0] [(0, 1), (1, 2)] := StP.mk' Tryz.ty296 Tryz.underlying296 (by kernel_rfl)
instance Tryz.fv296_0 : FldV Tryz.prog 296 0 0 1 false := FldV.mk' Tryz.underlying296 rfl rfl Tryz.ty3
instance Tryz.fld296_0 : FldP Tryz.prog 296 0 0 := FldP.mk' (sz := 1) Tryz.underlying296 rfl rfl (by kernel_rfl) rfl
instance Tryz.fv296_1 : FldV Tryz.prog 296 1 1 2 true := FldV.mk' Tryz.underlying296 rfl rfl Tryz.ty25
instance Tryz.fld296_1 : FldP Tryz.prog 296 1 1 := FldP.mk' (sz := 2) Tryz.underlying296 rfl rfl (by kernel_rfl) rfl
instance Tryz.st297 : StP Tryz.prog 297 [.int .i64 0, .int .i64 0, .int .i64 0] [(0, 1), (1, 2)] := StP.mk' Tryz.ty297 Tryz.underlying297 (by kernel_rfl)
instance Tryz.fv297_0 : FldV Tryz.prog 297 0 0 1 false := FldV.mk' Tryz.underlying297 rfl rfl Tryz.ty3
instance Tryz.fld297_0 : FldP Tryz.prog 297 0 0 := FldP.mk' (sz := 1) Tryz.underlying297 rfl rfl (by kernel_rfl) rfl
instance Tryz.fv297_1 : FldV Tryz.prog 297 1 1 2 true := FldV.mk' Tryz.underlying297 rfl rfl Tryz.ty25
instance Tryz.fld297_1 : FldP Tryz.prog 297 1 1 := FldP.mk' (sz := 2) Tryz.underlying297 rfl rfl (by kernel_rfl) rfl
instance Tryz.st298 : StP Tryz.prog 298 [.int .i64 0, .int .i64 0, .int .i64 0, .int .i64 0] [(0, 1), (1, 1), (2, 2)] := StP.mk' Tryz.ty298 Tryz.underlying298 (by kernel_rfl)
instance Tryz.fv298_0 : FldV Tryz.prog 298 0 0 1 false := FldV.mk' Tryz.underlying298 rfl rfl Tryz.ty3
instance Tryz.fld298_0 : FldP Tryz.prog 298 0 0 := FldP.mk' (sz := 1) Tryz.underlying298 rfl rfl (by kernel_rfl) rfl
instance Tryz.fv298_1 : FldV Tryz.prog 298 1 1 1 false := FldV.mk' Tryz.underlying298 rfl rfl Tryz.ty3
instance Tryz.fld298_1 : FldP Tryz.prog 298 1 1 := FldP.mk' (sz := 1) Tryz.underlying298 rfl rfl (by kernel_rfl) rfl
instance Tryz.fv298_2 : FldV Tryz.prog 298 2 2 2 true := FldV.mk' Tryz.underlying298 rfl rfl Tryz.ty25
instance Tryz.fld298_2 : FldP Tryz.prog 298 2 2 := FldP.mk' (sz := 2) Tryz.underlying298 rfl rfl (by kernel_rfl) rfl
instance Tryz.st299 : StP Tryz.prog 299 [.int .i64 0, .int .i64 0, .int .i64 0, .int .i64 0] [(0, 1), (1, 1), (2, 2)] := StP.mk' Tryz.ty299 Tryz.underlying299 (by kernel_rfl)
instance Tryz.fv299_0 : FldV Tryz.prog 299 0 0 1 false := FldV.mk' Tryz.underlying299 rfl rfl Tryz.ty3
instance Tryz.fld299_0 : FldP Tryz.prog 299 0 0 := FldP.mk' (sz := 1) Tryz.underlying299 rfl rfl (by kernel_rfl) rfl
instance Tryz.fv299_1 : FldV Tryz.prog 299 1 1 1 false := FldV.mk' Tryz.underlying299 rfl rfl Tryz.ty3
instance Tryz.fld299_1 : FldP Tryz.prog 299 1 1 := FldP.mk' (sz := 1) Tryz.underlying299 rfl rfl (by kernel_rfl) rfl
instance Tryz.fv299_2 : FldV Tryz.prog 299 2 2 2 true := FldV.mk' Tryz.underlying299 rfl rfl Tryz.ty25
instance Tryz.fld299_2 : FldP Tryz.prog 299 2 2 := FldP.mk' (sz := 2) Tryz.underlying299 rfl rfl (by kernel_rfl) rfl
instance Tryz.st302 : StP Tryz.prog 302 [.int .i64 0, .int .i64 0, .int .i64 0] [(0, 1), (1, 1), (2, 1)] := StP.mk' Tryz.ty302 Tryz.underlying302 (by kernel_rfl)
instance Tryz.fv302_0 : FldV Tryz.prog 302 0 0 1 false := FldV.mk' Tryz.underlying302 rfl rfl Tryz.ty3
instance Tryz.fld302_0 : FldP Tryz.prog 302 0 0 := FldP.mk' (sz := 1) Tryz.underlying302 rfl rfl (by kernel_rfl) rfl
instance Tryz.fv302_1 : FldV Tryz.prog 302 1 1 1 false := FldV.mk' Tryz.underlying302 rfl rfl Tryz.ty3
instance Tryz.fld302_1 : FldP Tryz.prog 302 1 1 := FldP.mk' (sz := 1) Tryz.underlying302 rfl rfl (by kernel_rfl) rfl
instance Tryz.fv302_2 : FldV Tryz.prog 302 2 2 1 false := FldV.mk' Tryz.underlying302 rfl rfl Tryz.ty3
instance Tryz.fld302_2 : FldP Tryz.prog 302 2 2 := FldP.mk' (sz := 1) Tryz.underlying302 rfl rfl (by kernel_rfl) rfl
instance Tryz.st303 : StP Tryz.prog 303 [.int .i64 0, .int .i64 0, .int .i64 0] [(0, 1), (1, 1), (2, 1)] := StP.mk' Tryz.ty303 Tryz.underlying303 (by kernel_rfl)
instance Tryz.fv303_0 : FldV Tryz.prog 303 0 0 1 false := FldV.mk' Tryz.underlying303 rfl rfl Tryz.ty3
instance Tryz.fld303_0 : FldP Tryz.prog 303 0 0 := FldP.mk' (sz := 1) Tryz.underlying303 rfl rfl (by kernel_rfl) rfl
instance Tryz.fv303_1 : FldV Tryz.prog 303 1 1 1 false := FldV.mk' Tryz.underlying303 rfl rfl Tryz.ty3
instance Tryz.fld303_1 : FldP Tryz.prog 303 1 1 := FldP.mk' (sz := 1) Tryz.underlying303 rfl rfl (by kernel_rfl) rfl
instance Tryz.fv303_2 : FldV Tryz.prog 303 2 2 1 false := FldV.mk' Tryz.underlying303 rfl rfl Tryz.ty3
instance Tryz.fld303_2 : FldP Tryz.prog 303 2 2 := FldP.mk' (sz := 1) Tryz.underlying303 rfl rfl (by kernel_rfl) rfl
instance Tryz.ar337 : ArP Tryz.prog 337 [] 0 1 := ArP.mk' Tryz.ty337 Tryz.underlying337 Tryz.ty16
instance Tryz.st338 : StP Tryz.prog 338 [] [(0, 0)] := StP.mk' Tryz.ty338 Tryz.underlying338 (by kernel_rfl)
instance Tryz.st339 : StP Tryz.prog 339 [] [(0, 0)] := StP.mk' Tryz.ty339 Tryz.underlying339 (by kernel_rfl)
instance Tryz.st346 : StP Tryz.prog 346 [.int .u64 0, .int .u64 0, .int .u32 0, .int .u8 0, .int .u8 0, .int .u8 0, .int .u8 0, .nilFunc, .pointer none, .int .i32 0, .int .i32 0] [(0, 1), (1, 1), (2, 1), (3, 1), (4, 1), (5, 1), (6, 1), (7, 1), (8, 1), (9, 1), (10, 1)] := StP.mk' Tryz.ty346 Tryz.underlying346 (by kernel_rfl)
instance Tryz.fv346_0 : FldV Tryz.prog 346 0 0 1 false := FldV.mk' Tryz.underlying346 rfl rfl Tryz.ty12
instance Tryz.fld346_0 : FldP Tryz.prog 346 0 0 := FldP.mk' (sz := 1) Tryz.underlying346 rfl rfl (by kernel_rfl) rfl
instance Tryz.fv346_1 : FldV Tryz.prog 346 1 1 1 false := FldV.mk' Tryz.underlying346 rfl rfl Tryz.ty12
instance Tryz.fld346_1 : FldP Tryz.prog 346 1 1 := FldP.mk' (sz := 1) Tryz.underlying346 rfl rfl (by kernel_rfl) rfl
instance Tryz.fv346_2 : FldV Tryz.prog 346 2 2 1 false := FldV.mk' Tryz.underlying346 rfl rfl Tryz.ty46
instance Tryz.fld346_2 : FldP Tryz.prog 346 2 2 := FldP.mk' (sz := 1) Tryz.underlying346 rfl rfl (by kernel_rfl) rfl
instance Tryz.fv346_3 : FldV Tryz.prog 346 3 3 1 false := FldV.mk' Tryz.underlying346 rfl rfl Tryz.ty340
instance Tryz.fld346_3 : FldP Tryz.prog 346 3 3 := FldP.mk' (sz := 1) Tryz.underlying346 rfl rfl (by kernel_rfl) rfl
instance Tryz.fv346_4 : FldV Tryz.prog 346 4 4 1 false := FldV.mk' Tryz.underlying346 rfl rfl Tryz.ty5
instance Tryz.fld346_4 : FldP Tryz.prog 346 4 4 := FldP.mk' (sz := 1) Tryz.underlying346 rfl rfl (by kernel_rfl) rfl
instance Tryz.fv346_5 : FldV Tryz.prog 346 5 5 1 false := FldV.mk' Tryz.underlying346 rfl rfl Tryz.ty5
instance Tryz.fld346_5 : FldP Tryz.prog 346 5 5 := FldP.mk' (sz := 1) Tryz.underlying346 rfl rfl (by kernel_rfl) rfl
instance Tryz.fv346_6 : FldV Tryz.prog 346 6 6 1 false := FldV.mk' Tryz.underlying346 rfl rfl Tryz.ty341
instance Tryz.fld346_6 : FldP Tryz.prog 346 6 6 := FldP.mk' (sz := 1) Tryz.underlying346 rfl rfl (by kernel_rfl) rfl
instance Tryz.fv346_7 : FldV Tryz.prog 346 7 7 1 false := FldV.mk' Tryz.underlying346 rfl rfl Tryz.ty342
instance Tryz.fld346_7 : FldP Tryz.prog 346 7 7 := FldP.mk' (sz := 1) Tryz.underlying346 rfl rfl (by kernel_rfl) rfl
instance Tryz.fv346_8 : FldV Tryz.prog 346 8 8 1 false := FldV.mk' Tryz.underlying346 rfl rfl Tryz.ty343
instance Tryz.fld346_8 : FldP Tryz.prog 346 8 8 := FldP.mk' (sz := 1) Tryz.underlying346 rfl rfl (by kernel_rfl) rfl
instance Tryz.fv346_9 : FldV Tryz.prog 346 9 9 1 false := FldV.mk' Tryz.underlying346 rfl rfl Tryz.ty344
instance Tryz.fld346_9 : FldP Tryz.prog 346 9 9 := FldP.mk' (sz := 1) Tryz.underlying346 rfl rfl (by kernel_rfl) rfl
instance Tryz.fv346_10 : FldV Tryz.prog 346 10 10 1 false := FldV.mk' Tryz.underlying346 rfl rfl Tryz.ty345
instance Tryz.fld346_10 : FldP Tryz.prog 346 10 10 := FldP.mk' (sz := 1) Tryz.underlying346 rfl rfl (by kernel_rfl) rfl
instance Tryz.st347 : StP Tryz.prog 347 [.int .u64 0, .int .u64 0, .int .u32 0, .int .u8 0, .int .u8 0, .int .u8 0, .int .u8 0, .nilFunc, .pointer none, .int .i32 0, .int .i32 0] [(0, 1), (1, 1), (2, 1), (3, 1), (4, 1), (5, 1), (6, 1), (7, 1), (8, 1), (9, 1), (10, 1)] := StP.mk' Tryz.ty347 Tryz.underlying347 (by kernel_rfl)
instance Tryz.fv347_0 : FldV Tryz.prog 347 0 0 1 false := FldV.mk' Tryz.underlying347 rfl rfl Tryz.ty12
instance Tryz.fld347_0 : FldP Tryz.prog 347 0 0 := FldP.mk' (sz := 1) Tryz.underlying347 rfl rfl (by kernel_rfl) rfl
instance Tryz.fv347_1 : FldV Tryz.prog 347 1 1 1 false := FldV.mk' Tryz.underlying347 rfl rfl Tryz.ty12
instance Tryz.fld347_1 : FldP Tryz.prog 347 1 1 := FldP.mk' (sz := 1) Tryz.underlying347 rfl rfl (by kernel_rfl) rfl
instance Tryz.fv347_2 : FldV Tryz.prog 347 2 2 1 false := FldV.mk' Tryz.underlying347 rfl rfl Tryz.ty46
instance Tryz.fld347_2 : FldP Tryz.prog 347 2 2 := FldP.mk' (sz := 1) Tryz.underlying347 rfl rfl (by kernel_rfl) rfl
instance Tryz.fv347_3 : FldV Tryz.prog 347 3 3 1 false := FldV.mk' Tryz.underlying347 rfl rfl Tryz.ty340
instance Tryz.fld347_3 : FldP Tryz.prog 347 3 3 := FldP.mk' (sz := 1) Tryz.underlying347 rfl rfl (by kernel_rfl) rfl
instance Tryz.fv347_4 : FldV Tryz.prog 347 4 4 1 false := FldV.mk' Tryz.underlying347 rfl rfl Tryz.ty5
instance Tryz.fld347_4 : FldP Tryz.prog 347 4 4 := FldP.mk' (sz := 1) Tryz.underlying347 rfl rfl (by kernel_rfl) rfl
instance Tryz.fv347_5 : FldV Tryz.prog 347 5 5 1 false := FldV.mk' Tryz.underlying347 rfl rfl Tryz.ty5
instance Tryz.fld347_5 : FldP Tryz.prog 347 5 5 := FldP.mk' (sz := 1) Tryz.underlying347 rfl rfl (by kernel_rfl) rfl
instance Tryz.fv347_6 : FldV Tryz.prog 347 6 6 1 false := FldV.mk' Tryz.underlying347 rfl rfl Tryz.ty341
instance Tryz.fld347_6 : FldP Tryz.prog 347 6 6 := FldP.mk' (sz := 1) Tryz.underlying347 rfl rfl (by kernel_rfl) rfl
instance Tryz.fv347_7 : FldV Tryz.prog 347 7 7 1 false := FldV.mk' Tryz.underlying347 rfl rfl Tryz.ty342
instance Tryz.fld347_7 : FldP Tryz.prog 347 7 7 := FldP.mk' (sz := 1) Tryz.underlying347 rfl rfl (by kernel_rfl) rfl
instance Tryz.fv347_8 : FldV Tryz.prog 347 8 8 1 false := FldV.mk' Tryz.underlying347 rfl rfl Tryz.ty343
instance Tryz.fld347_8 : FldP Tryz.prog 347 8 8 := FldP.mk' (sz := 1) Tryz.underlying347 rfl rfl (by kernel_rfl) rfl
instance Tryz.fv347_9 : FldV Tryz.prog 347 9 9 1 false := FldV.mk' Tryz.underlying347 rfl rfl Tryz.ty344
instance Tryz.fld347_9 : FldP Tryz.prog 347 9 9 := FldP.mk' (sz := 1) Tryz.underlying347 rfl rfl (by kernel_rfl) rfl
instance Tryz.fv347_10 : FldV Tryz.prog 347 10 10 1 false := FldV.mk' Tryz.underlying347 rfl rfl Tryz.ty345
instance Tryz.fld347_10 : FldP Tryz.prog 347 10 10 := FldP.mk' (sz := 1) Tryz.underlying347 rfl rfl (by kernel_rfl) rfl
instance Tryz.eq2 : EqP Tryz.prog 2 1 1 := EqP.int
instance Tryz.eq3 : EqP Tryz.prog 3 1 1 := EqP.int
instance Tryz.eq34 : EqP Tryz.prog 34 1 1 := EqP.int
instance Tryz.eq24 : EqP Tryz.prog 24 2 2 := EqP.struct (ht := Tryz.ty24) _ Tryz.underlying24 Tryz.stoodInHeld24 ((FsP.cons (by kernel_rfl) rfl Tryz.ty3 Tryz.eq3 rfl rfl (FsP.cons (by kernel_rfl) rfl Tryz.ty3 Tryz.eq3 rfl rfl FsP.nil)) : FsP Tryz.prog 1 0 _ (1 + (1 + 0)))
instance Tryz.eqg24 : EqG Tryz.prog 24 := ⟨Tryz.eqGuardType24⟩
instance Tryz.eq25 : EqP Tryz.prog 25 2 2 := EqP.struct (ht := Tryz.ty25) _ Tryz.underlying25 Tryz.stoodInHeld25 ((FsP.cons (by kernel_rfl) rfl Tryz.ty3 Tryz.eq3 rfl rfl (FsP.cons (by kernel_rfl) rfl Tryz.ty3 Tryz.eq3 rfl rfl FsP.nil)) : FsP Tryz.prog 1 0 _ (1 + (1 + 0)))
instance Tryz.eqg25 : EqG Tryz.prog 25 := ⟨Tryz.eqGuardType25⟩
instance Tryz.eq37 : EqP Tryz.prog 37 2 2 := EqP.struct (ht := Tryz.ty37) _ Tryz.underlying37 Tryz.stoodInHeld37 ((FsP.cons (by kernel_rfl) rfl Tryz.ty3 Tryz.eq3 rfl rfl (FsP.cons (by kernel_rfl) rfl Tryz.ty3 Tryz.eq3 rfl rfl FsP.nil)) : FsP Tryz.prog 1 0 _ (1 + (1 + 0)))
instance Tryz.eqg37 : EqG Tryz.prog 37 := ⟨Tryz.eqGuardType37⟩
instance Tryz.eq38 : EqP Tryz.prog 38 2 2 := EqP.struct (ht := Tryz.ty38) _ Tryz.underlying38 Tryz.stoodInHeld38 ((FsP.cons (by kernel_rfl) rfl Tryz.ty3 Tryz.eq3 rfl rfl (FsP.cons (by kernel_rfl) rfl Tryz.ty3 Tryz.eq3 rfl rfl FsP.nil)) : FsP Tryz.prog 1 0 _ (1 + (1 + 0)))
instance Tryz.eqg38 : EqG Tryz.prog 38 := ⟨Tryz.eqGuardType38⟩
instance Tryz.eq39 : EqP Tryz.prog 39 3 3 := EqP.struct (ht := Tryz.ty39) _ Tryz.underlying39 Tryz.stoodInHeld39 ((FsP.cons (by kernel_rfl) rfl Tryz.ty3 Tryz.eq3 rfl rfl (FsP.cons (by kernel_rfl) rfl Tryz.ty38 Tryz.eq38 rfl rfl FsP.nil)) : FsP Tryz.prog 2 0 _ (1 + (2 + 0)))
instance Tryz.eqg39 : EqG Tryz.prog 39 := ⟨Tryz.eqGuardType39⟩
instance Tryz.eq40 : EqP Tryz.prog 40 3 3 := EqP.struct (ht := Tryz.ty40) _ Tryz.underlying40 Tryz.stoodInHeld40 ((FsP.cons (by kernel_rfl) rfl Tryz.ty3 Tryz.eq3 rfl rfl (FsP.cons (by kernel_rfl) rfl Tryz.ty38 Tryz.eq38 rfl rfl FsP.nil)) : FsP Tryz.prog 2 0 _ (1 + (2 + 0)))
instance Tryz.eqg40 : EqG Tryz.prog 40 := ⟨Tryz.eqGuardType40⟩
instance Tryz.eq72 : EqP Tryz.prog 72 3 3 := EqP.struct (ht := Tryz.ty72) _ Tryz.underlying72 Tryz.stoodInHeld72 ((FsP.cons (by kernel_rfl) rfl Tryz.ty3 Tryz.eq3 rfl rfl (FsP.cons (by kernel_rfl) rfl Tryz.ty38 Tryz.eq38 rfl rfl FsP.nil)) : FsP Tryz.prog 2 0 _ (1 + (2 + 0)))
instance Tryz.eqg72 : EqG Tryz.prog 72 := ⟨Tryz.eqGuardType72⟩
instance Tryz.eq73 : EqP Tryz.prog 73 3 3 := EqP.struct (ht := Tryz.ty73) _ Tryz.underlying73 Tryz.stoodInHeld73 ((FsP.cons (by kernel_rfl) rfl Tryz.ty3 Tryz.eq3 rfl rfl (FsP.cons (by kernel_rfl) rfl Tryz.ty38 Tryz.eq38 rfl rfl FsP.nil)) : FsP Tryz.prog 2 0 _ (1 + (2 + 0)))
instance Tryz.eqg73 : EqG Tryz.prog 73 := ⟨Tryz.eqGuardType73⟩
instance Tryz.eq86 : EqP Tryz.prog 86 3 5 := EqP.struct (ht := Tryz.ty86) _ Tryz.underlying86 Tryz.stoodInHeld86 ((FsP.cons (by kernel_rfl) rfl Tryz.ty3 Tryz.eq3 rfl rfl (FsP.cons (by kernel_rfl) rfl Tryz.ty25 Tryz.eq25 rfl rfl (FsP.cons (by kernel_rfl) rfl Tryz.ty25 Tryz.eq25 rfl rfl FsP.nil))) : FsP Tryz.prog 2 0 _ (1 + (2 + (2 + 0))))
instance Tryz.eqg86 : EqG Tryz.prog 86 := ⟨Tryz.eqGuardType86⟩
instance Tryz.eq87 : EqP Tryz.prog 87 3 5 := EqP.struct (ht := Tryz.ty87) _ Tryz.underlying87 Tryz.stoodInHeld87 ((FsP.cons (by kernel_rfl) rfl Tryz.ty3 Tryz.eq3 rfl rfl (FsP.cons (by kernel_rfl) rfl Tryz.ty25 Tryz.eq25 rfl rfl (FsP.cons (by kernel_rfl) rfl Tryz.ty25 Tryz.eq25 rfl rfl FsP.nil))) : FsP Tryz.prog 2 0 _ (1 + (2 + (2 + 0))))
instance Tryz.eqg87 : EqG Tryz.prog 87 := ⟨Tryz.eqGuardType87⟩
instance Tryz.eq91 : EqP Tryz.prog 91 3 4 := EqP.struct (ht := Tryz.ty91) _ Tryz.underlying91 Tryz.stoodInHeld91 ((FsP.cons (by kernel_rfl) rfl Tryz.ty3 Tryz.eq3 rfl rfl (FsP.cons (by kernel_rfl) rfl Tryz.ty38 Tryz.eq38 rfl rfl (FsP.cons (by kernel_rfl) rfl Tryz.ty3 Tryz.eq3 rfl rfl FsP.nil))) : FsP Tryz.prog 2 0 _ (1 + (2 + (1 + 0))))
instance Tryz.eqg91 : EqG Tryz.prog 91 := ⟨Tryz.eqGuardType91⟩
instance Tryz.eq92 : EqP Tryz.prog 92 3 4 := EqP.struct (ht := Tryz.ty92) _ Tryz.underlying92 Tryz.stoodInHeld92 ((FsP.cons (by kernel_rfl) rfl Tryz.ty3 Tryz.eq3 rfl rfl (FsP.cons (by kernel_rfl) rfl Tryz.ty38 Tryz.eq38 rfl rfl (FsP.cons (by kernel_rfl) rfl Tryz.ty3 Tryz.eq3 rfl rfl FsP.nil))) : FsP Tryz.prog 2 0 _ (1 + (2 + (1 + 0))))
instance Tryz.eqg92 : EqG Tryz.prog 92 := ⟨Tryz.eqGuardType92⟩
instance Tryz.eq105 : EqP Tryz.prog 105 2 2 := EqP.array (ht := Tryz.ty105) (he := Tryz.ty3) Tryz.underlying105 rfl rfl
instance Tryz.eq106 : EqP Tryz.prog 106 2 2 := EqP.array (ht := Tryz.ty106) (he := Tryz.ty3) Tryz.underlying106 rfl rfl
instance Tryz.eq115 : EqP Tryz.prog 115 3 5 := EqP.struct (ht := Tryz.ty115) _ Tryz.underlying115 Tryz.stoodInHeld115 ((FsP.cons (by kernel_rfl) rfl Tryz.ty38 Tryz.eq38 rfl rfl (FsP.cons (by kernel_rfl) rfl Tryz.ty3 Tryz.eq3 rfl rfl (FsP.cons (by kernel_rfl) rfl Tryz.ty3 Tryz.eq3 rfl rfl (FsP.cons (by kernel_rfl) rfl Tryz.ty3 Tryz.eq3 rfl rfl FsP.nil)))) : FsP Tryz.prog 2 0 _ (2 + (1 + (1 + (1 + 0)))))
instance Tryz.eqg115 : EqG Tryz.prog 115 := ⟨Tryz.eqGuardType115⟩
instance Tryz.eq116 : EqP Tryz.prog 116 3 5 := EqP.struct (ht := Tryz.ty116) _ Tryz.underlying116 Tryz.stoodInHeld116 ((FsP.cons (by kernel_rfl) rfl Tryz.ty38 Tryz.eq38 rfl rfl (FsP.cons (by kernel_rfl) rfl Tryz.ty3 Tryz.eq3 rfl rfl (FsP.cons (by kernel_rfl) rfl Tryz.ty3 Tryz.eq3 rfl rfl (FsP.cons (by kernel_rfl) rfl Tryz.ty3 Tryz.eq3 rfl rfl FsP.nil)))) : FsP Tryz.prog 2 0 _ (2 + (1 + (1 + (1 + 0)))))
instance Tryz.eqg116 : EqG Tryz.prog 116 := ⟨Tryz.eqGuardType116⟩
instance Tryz.eq134 : EqP Tryz.prog 134 3 4 := EqP.struct (ht := Tryz.ty134) _ Tryz.underlying134 Tryz.stoodInHeld134 ((FsP.cons (by kernel_rfl) rfl Tryz.ty25 Tryz.eq25 rfl rfl (FsP.cons (by kernel_rfl) rfl Tryz.ty25 Tryz.eq25 rfl rfl FsP.nil)) : FsP Tryz.prog 2 0 _ (2 + (2 + 0)))
instance Tryz.eqg134 : EqG Tryz.prog 134 := ⟨Tryz.eqGuardType134⟩
instance Tryz.eq135 : EqP Tryz.prog 135 3 4 := EqP.struct (ht := Tryz.ty135) _ Tryz.underlying135 Tryz.stoodInHeld135 ((FsP.cons (by kernel_rfl) rfl Tryz.ty25 Tryz.eq25 rfl rfl (FsP.cons (by kernel_rfl) rfl Tryz.ty25 Tryz.eq25 rfl rfl FsP.nil)) : FsP Tryz.prog 2 0 _ (2 + (2 + 0)))
instance Tryz.eqg135 : EqG Tryz.prog 135 := ⟨Tryz.eqGuardType135⟩
instance Tryz.eq167 : EqP Tryz.prog 167 3 4 := EqP.struct (ht := Tryz.ty167) _ Tryz.underlying167 Tryz.stoodInHeld167 ((FsP.cons (by kernel_rfl) rfl Tryz.ty25 Tryz.eq25 rfl rfl (FsP.cons (by kernel_rfl) rfl Tryz.ty25 Tryz.eq25 rfl rfl FsP.nil)) : FsP Tryz.prog 2 0 _ (2 + (2 + 0)))
instance Tryz.eqg167 : EqG Tryz.prog 167 := ⟨Tryz.eqGuardType167⟩
instance Tryz.eq168 : EqP Tryz.prog 168 3 4 := EqP.struct (ht := Tryz.ty168) _ Tryz.underlying168 Tryz.stoodInHeld168 ((FsP.cons (by kernel_rfl) rfl Tryz.ty25 Tryz.eq25 rfl rfl (FsP.cons (by kernel_rfl) rfl Tryz.ty25 Tryz.eq25 rfl rfl FsP.nil)) : FsP Tryz.prog 2 0 _ (2 + (2 + 0)))
instance Tryz.eqg168 : EqG Tryz.prog 168 := ⟨Tryz.eqGuardType168⟩
instance Tryz.eq184 : EqP Tryz.prog 184 3 4 := EqP.struct (ht := Tryz.ty184) _ Tryz.underlying184 Tryz.stoodInHeld184 ((FsP.cons (by kernel_rfl) rfl Tryz.ty3 Tryz.eq3 rfl rfl (FsP.cons (by kernel_rfl) rfl Tryz.ty3 Tryz.eq3 rfl rfl (FsP.cons (by kernel_rfl) rfl Tryz.ty25 Tryz.eq25 rfl rfl FsP.nil))) : FsP Tryz.prog 2 0 _ (1 + (1 + (2 + 0))))
instance Tryz.eqg184 : EqG Tryz.prog 184 := ⟨Tryz.eqGuardType184⟩
instance Tryz.eq185 : EqP Tryz.prog 185 3 4 := EqP.struct (ht := Tryz.ty185) _ Tryz.underlying185 Tryz.stoodInHeld185 ((FsP.cons (by kernel_rfl) rfl Tryz.ty3 Tryz.eq3 rfl rfl (FsP.cons (by kernel_rfl) rfl Tryz.ty3 Tryz.eq3 rfl rfl (FsP.cons (by kernel_rfl) rfl Tryz.ty25 Tryz.eq25 rfl rfl FsP.nil))) : FsP Tryz.prog 2 0 _ (1 + (1 + (2 + 0))))
instance Tryz.eqg185 : EqG Tryz.prog 185 := ⟨Tryz.eqGuardType185⟩
instance Tryz.eq192 : EqP Tryz.prog 192 3 6 := EqP.struct (ht := Tryz.ty192) _ Tryz.underlying192 Tryz.stoodInHeld192 ((FsP.cons (by kernel_rfl) rfl Tryz.ty25 Tryz.eq25 rfl rfl (FsP.cons (by kernel_rfl) rfl Tryz.ty25 Tryz.eq25 rfl rfl (FsP.cons (by kernel_rfl) rfl Tryz.ty25 Tryz.eq25 rfl rfl FsP.nil))) : FsP Tryz.prog 2 0 _ (2 + (2 + (2 + 0))))
instance Tryz.eqg192 : EqG Tryz.prog 192 := ⟨Tryz.eqGuardType192⟩
instance Tryz.eq193 : EqP Tryz.prog 193 3 6 := EqP.struct (ht := Tryz.ty193) _ Tryz.underlying193 Tryz.stoodInHeld193 ((FsP.cons (by kernel_rfl) rfl Tryz.ty25 Tryz.eq25 rfl rfl (FsP.cons (by kernel_rfl) rfl Tryz.ty25 Tryz.eq25 rfl rfl (FsP.cons (by kernel_rfl) rfl Tryz.ty25 Tryz.eq25 rfl rfl FsP.nil))) : FsP Tryz.prog 2 0 _ (2 + (2 + (2 + 0))))
instance Tryz.eqg193 : EqG Tryz.prog 193 := ⟨Tryz.eqGuardType193⟩
instance Tryz.eq213 : EqP Tryz.prog 213 2 2 := EqP.struct (ht := Tryz.ty213) _ Tryz.underlying213 Tryz.stoodInHeld213 ((FsP.cons (by kernel_rfl) rfl Tryz.ty3 Tryz.eq3 rfl rfl (FsP.cons (by kernel_rfl) rfl Tryz.ty3 Tryz.eq3 rfl rfl FsP.nil)) : FsP Tryz.prog 1 0 _ (1 + (1 + 0)))
instance Tryz.eqg213 : EqG Tryz.prog 213 := ⟨Tryz.eqGuardType213⟩
instance Tryz.eq214 : EqP Tryz.prog 214 2 2 := EqP.struct (ht := Tryz.ty214) _ Tryz.underlying214 Tryz.stoodInHeld214 ((FsP.cons (by kernel_rfl) rfl Tryz.ty3 Tryz.eq3 rfl rfl (FsP.cons (by kernel_rfl) rfl Tryz.ty3 Tryz.eq3 rfl rfl FsP.nil)) : FsP Tryz.prog 1 0 _ (1 + (1 + 0)))
instance Tryz.eqg214 : EqG Tryz.prog 214 := ⟨Tryz.eqGuardType214⟩
instance Tryz.eq241 : EqP Tryz.prog 241 4 6 := EqP.struct (ht := Tryz.ty241) _ Tryz.underlying241 Tryz.stoodInHeld241 ((FsP.cons (by kernel_rfl) rfl Tryz.ty193 Tryz.eq193 rfl rfl FsP.nil) : FsP Tryz.prog 3 0 _ (6 + 0))
instance Tryz.eqg241 : EqG Tryz.prog 241 := ⟨Tryz.eqGuardType241⟩
instance Tryz.eq242 : EqP Tryz.prog 242 4 6 := EqP.struct (ht := Tryz.ty242) _ Tryz.underlying242 Tryz.stoodInHeld242 ((FsP.cons (by kernel_rfl) rfl Tryz.ty193 Tryz.eq193 rfl rfl FsP.nil) : FsP Tryz.prog 3 0 _ (6 + 0))
instance Tryz.eqg242 : EqG Tryz.prog 242 := ⟨Tryz.eqGuardType242⟩
instance Tryz.eq261 : EqP Tryz.prog 261 2 21 := EqP.array (ht := Tryz.ty261) (he := Tryz.ty3) Tryz.underlying261 rfl rfl
instance Tryz.eq264 : EqP Tryz.prog 264 3 3 := EqP.struct (ht := Tryz.ty264) _ Tryz.underlying264 Tryz.stoodInHeld264 ((FsP.cons (by kernel_rfl) rfl Tryz.ty3 Tryz.eq3 rfl rfl (FsP.cons (by kernel_rfl) rfl Tryz.ty25 Tryz.eq25 rfl rfl FsP.nil)) : FsP Tryz.prog 2 0 _ (1 + (2 + 0)))
instance Tryz.eqg264 : EqG Tryz.prog 264 := ⟨Tryz.eqGuardType264⟩
instance Tryz.eq265 : EqP Tryz.prog 265 3 3 := EqP.struct (ht := Tryz.ty265) _ Tryz.underlying265 Tryz.stoodInHeld265 ((FsP.cons (by kernel_rfl) rfl Tryz.ty3 Tryz.eq3 rfl rfl (FsP.cons (by kernel_rfl) rfl Tryz.ty25 Tryz.eq25 rfl rfl FsP.nil)) : FsP Tryz.prog 2 0 _ (1 + (2 + 0)))
instance Tryz.eqg265 : EqG Tryz.prog 265 := ⟨Tryz.eqGuardType265⟩
instance Tryz.eq270 : EqP Tryz.prog 270 2 1 := EqP.struct (ht := Tryz.ty270) _ Tryz.underlying270 Tryz.stoodInHeld270 ((FsP.cons (by kernel_rfl) rfl Tryz.ty3 Tryz.eq3 rfl rfl FsP.nil) : FsP Tryz.prog 1 0 _ (1 + 0))
instance Tryz.eqg270 : EqG Tryz.prog 270 := ⟨Tryz.eqGuardType270⟩
instance Tryz.eq271 : EqP Tryz.prog 271 2 1 := EqP.struct (ht := Tryz.ty271) _ Tryz.underlying271 Tryz.stoodInHeld271 ((FsP.cons (by kernel_rfl) rfl Tryz.ty3 Tryz.eq3 rfl rfl FsP.nil) : FsP Tryz.prog 1 0 _ (1 + 0))
instance Tryz.eqg271 : EqG Tryz.prog 271 := ⟨Tryz.eqGuardType271⟩
instance Tryz.eq296 : EqP Tryz.prog 296 3 3 := EqP.struct (ht := Tryz.ty296) _ Tryz.underlying296 Tryz.stoodInHeld296 ((FsP.cons (by kernel_rfl) rfl Tryz.ty3 Tryz.eq3 rfl rfl (FsP.cons (by kernel_rfl) rfl Tryz.ty25 Tryz.eq25 rfl rfl FsP.nil)) : FsP Tryz.prog 2 0 _ (1 + (2 + 0)))
instance Tryz.eqg296 : EqG Tryz.prog 296 := ⟨Tryz.eqGuardType296⟩
instance Tryz.eq297 : EqP Tryz.prog 297 3 3 := EqP.struct (ht := Tryz.ty297) _ Tryz.underlying297 Tryz.stoodInHeld297 ((FsP.cons (by kernel_rfl) rfl Tryz.ty3 Tryz.eq3 rfl rfl (FsP.cons (by kernel_rfl) rfl Tryz.ty25 Tryz.eq25 rfl rfl FsP.nil)) : FsP Tryz.prog 2 0 _ (1 + (2 + 0)))
instance Tryz.eqg297 : EqG Tryz.prog 297 := ⟨Tryz.eqGuardType297⟩
instance Tryz.eq298 : EqP Tryz.prog 298 3 4 := EqP.struct (ht := Tryz.ty298) _ Tryz.underlying298 Tryz.stoodInHeld298 ((FsP.cons (by kernel_rfl) rfl Tryz.ty3 Tryz.eq3 rfl rfl (FsP.cons (by kernel_rfl) rfl Tryz.ty3 Tryz.eq3 rfl rfl (FsP.cons (by kernel_rfl) rfl Tryz.ty25 Tryz.eq25 rfl rfl FsP.nil))) : FsP Tryz.prog 2 0 _ (1 + (1 + (2 + 0))))
instance Tryz.eqg298 : EqG Tryz.prog 298 := ⟨Tryz.eqGuardType298⟩
instance Tryz.eq299 : EqP Tryz.prog 299 3 4 := EqP.struct (ht := Tryz.ty299) _ Tryz.underlying299 Tryz.stoodInHeld299 ((FsP.cons (by kernel_rfl) rfl Tryz.ty3 Tryz.eq3 rfl rfl (FsP.cons (by kernel_rfl) rfl Tryz.ty3 Tryz.eq3 rfl rfl (FsP.cons (by kernel_rfl) rfl Tryz.ty25 Tryz.eq25 rfl rfl FsP.nil))) : FsP Tryz.prog 2 0 _ (1 + (1 + (2 + 0))))
instance Tryz.eqg299 : EqG Tryz.prog 299 := ⟨Tryz.eqGuardType299⟩
instance Tryz.eq302 : EqP Tryz.prog 302 2 3 := EqP.struct (ht := Tryz.ty302) _ Tryz.underlying302 Tryz.stoodInHeld302 ((FsP.cons (by kernel_rfl) rfl Tryz.ty3 Tryz.eq3 rfl rfl (FsP.cons (by kernel_rfl) rfl Tryz.ty3 Tryz.eq3 rfl rfl (FsP.cons (by kernel_rfl) rfl Tryz.ty3 Tryz.eq3 rfl rfl FsP.nil))) : FsP Tryz.prog 1 0 _ (1 + (1 + (1 + 0))))
instance Tryz.eqg302 : EqG Tryz.prog 302 := ⟨Tryz.eqGuardType302⟩
instance Tryz.eq303 : EqP Tryz.prog 303 2 3 := EqP.struct (ht := Tryz.ty303) _ Tryz.underlying303 Tryz.stoodInHeld303 ((FsP.cons (by kernel_rfl) rfl Tryz.ty3 Tryz.eq3 rfl rfl (FsP.cons (by kernel_rfl) rfl Tryz.ty3 Tryz.eq3 rfl rfl (FsP.cons (by kernel_rfl) rfl Tryz.ty3 Tryz.eq3 rfl rfl FsP.nil))) : FsP Tryz.prog 1 0 _ (1 + (1 + (1 + 0))))
instance Tryz.eqg303 : EqG Tryz.prog 303 := ⟨Tryz.eqGuardType303⟩
instance Tryz.ent3 : EntP Tryz.prog 3 := EntP.mk' Tryz.func3 (by kernel_rfl) rfl
instance Tryz.ent4 : EntP Tryz.prog 4 := EntP.mk' Tryz.func4 (by kernel_rfl) rfl
instance Tryz.ent5 : EntP Tryz.prog 5 := EntP.mk' Tryz.func5 (by kernel_rfl) rfl
instance Tryz.ent6 : EntP Tryz.prog 6 := EntP.mk' Tryz.func6 (by kernel_rfl) rfl
instance Tryz.ent7 : EntP Tryz.prog 7 := EntP.mk' Tryz.func7 (by kernel_rfl) rfl
instance Tryz.ent8 : EntP Tryz.prog 8 := EntP.mk' Tryz.func8 (by kernel_rfl) rfl
instance Tryz.ent9 : EntP Tryz.prog 9 := EntP.mk' Tryz.func9 (by kernel_rfl) rfl
instance Tryz.ent10 : EntP Tryz.prog 10 := EntP.mk' Tryz.func10 (by kernel_rfl) rfl
instance Tryz.ent11 : EntP Tryz.prog 11 := EntP.mk' Tryz.func11 (by kernel_rfl) rfl
instance Tryz.ent12 : EntP Tryz.prog 12 := EntP.mk' Tryz.func12 (by kernel_rfl) rfl
instance Tryz.ent13 : EntP Tryz.prog 13 := EntP.mk' Tryz.func13 (by kernel_rfl) rfl
instance Tryz.ent14 : EntP Tryz.prog 14 := EntP.mk' Tryz.func14 (by kernel_rfl) rfl
instance Tryz.ent15 : EntP Tryz.prog 15 := EntP.mk' Tryz.func15 (by kernel_rfl) rfl
instance Tryz.ent16 : EntP Tryz.prog 16 := EntP.mk' Tryz.func16 (by kernel_rfl) rfl
instance Tryz.ent17 : EntP Tryz.prog 17 := EntP.mk' Tryz.func17 (by kernel_rfl) rfl
instance Tryz.ent18 : EntP Tryz.prog 18 := EntP.mk' Tryz.func18 (by kernel_rfl) rfl
instance Tryz.ent19 : EntP Tryz.prog 19 := EntP.mk' Tryz.func19 (by kernel_rfl) rfl
instance Tryz.ent20 : EntP Tryz.prog 20 := EntP.mk' Tryz.func20 (by kernel_rfl) rfl
instance Tryz.ent21 : EntP Tryz.prog 21 := EntP.mk' Tryz.func21 (by kernel_rfl) rfl
instance Tryz.ent22 : EntP Tryz.prog 22 := EntP.mk' Tryz.func22 (by kernel_rfl) rfl
instance Tryz.ent23 : EntP Tryz.prog 23 := EntP.mk' Tryz.func23 (by kernel_rfl) rfl
instance Tryz.ent24 : EntP Tryz.prog 24 := EntP.mk' Tryz.func24 (by kernel_rfl) rfl
instance Tryz.ent25 : EntP Tryz.prog 25 := EntP.mk' Tryz.func25 (by kernel_rfl) rfl
instance Tryz.ent26 : EntP Tryz.prog 26 := EntP.mk' Tryz.func26 (by kernel_rfl) rfl
instance Tryz.ent27 : EntP Tryz.prog 27 := EntP.mk' Tryz.func27 (by kernel_rfl) rfl
instance Tryz.ent28 : EntP Tryz.prog 28 := EntP.mk' Tryz.func28 (by kernel_rfl) rfl
instance Tryz.ent29 : EntP Tryz.prog 29 := EntP.mk' Tryz.func29 (by kernel_rfl) rfl
instance Tryz.ent30 : EntP Tryz.prog 30 := EntP.mk' Tryz.func30 (by kernel_rfl) rfl
instance Tryz.ent31 : EntP Tryz.prog 31 := EntP.mk' Tryz.func31 (by kernel_rfl) rfl
instance Tryz.ent32 : EntP Tryz.prog 32 := EntP.mk' Tryz.func32 (by kernel_rfl) rfl
instance Tryz.ent33 : EntP Tryz.prog 33 := EntP.mk' Tryz.func33 (by kernel_rfl) rfl
instance Tryz.ent34 : EntP Tryz.prog 34 := EntP.mk' Tryz.func34 (by kernel_rfl) rfl
instance Tryz.ent35 : EntP Tryz.prog 35 := EntP.mk' Tryz.func35 (by kernel_rfl) rfl
instance Tryz.ent36 : EntP Tryz.prog 36 := EntP.mk' Tryz.func36 (by kernel_rfl) rfl
instance Tryz.ent37 : EntP Tryz.prog 37 := EntP.mk' Tryz.func37 (by kernel_rfl) rfl
instance Tryz.ent38 : EntP Tryz.prog 38 := EntP.mk' Tryz.func38 (by kernel_rfl) rfl
instance Tryz.ent39 : EntP Tryz.prog 39 := EntP.mk' Tryz.func39 (by kernel_rfl) rfl
instance Tryz.ent40 : EntP Tryz.prog 40 := EntP.mk' Tryz.func40 (by kernel_rfl) rfl
instance Tryz.ent41 : EntP Tryz.prog 41 := EntP.mk' Tryz.func41 (by kernel_rfl) rfl
instance Tryz.ent42 : EntP Tryz.prog 42 := EntP.mk' Tryz.func42 (by kernel_rfl) rfl
instance Tryz.ent43 : EntP Tryz.prog 43 := EntP.mk' Tryz.func43 (by kernel_rfl) rfl
instance Tryz.ent44 : EntP Tryz.prog 44 := EntP.mk' Tryz.func44 (by kernel_rfl) rfl
instance Tryz.ent45 : EntP Tryz.prog 45 := EntP.mk' Tryz.func45 (by kernel_rfl) rfl
instance Tryz.ent46 : EntP Tryz.prog 46 := EntP.mk' Tryz.func46 (by kernel_rfl) rfl
instance Tryz.ent47 : EntP Tryz.prog 47 := EntP.mk' Tryz.func47 (by kernel_rfl) rfl
instance Tryz.ent48 : EntP Tryz.prog 48 := EntP.mk' Tryz.func48 (by kernel_rfl) rfl
instance Tryz.ent49 : EntP Tryz.prog 49 := EntP.mk' Tryz.func49 (by kernel_rfl) rfl
instance Tryz.ent50 : EntP Tryz.prog 50 := EntP.mk' Tryz.func50 (by kernel_rfl) rfl
instance Tryz.ent51 : EntP Tryz.prog 51 := EntP.mk' Tryz.func51 (by kernel_rfl) rfl
instance Tryz.ent52 : EntP Tryz.prog 52 := EntP.mk' Tryz.func52 (by kernel_rfl) rfl
instance Tryz.ent53 : EntP Tryz.prog 53 := EntP.mk' Tryz.func53 (by kernel_rfl) rfl
instance Tryz.ent54 : EntP Tryz.prog 54 := EntP.mk' Tryz.func54 (by kernel_rfl) rfl
instance Tryz.ent55 : EntP Tryz.prog 55 := EntP.mk' Tryz.func55 (by kernel_rfl) rfl
instance Tryz.ent56 : EntP Tryz.prog 56 := EntP.mk' Tryz.func56 (by kernel_rfl) rfl
instance Tryz.ent57 : EntP Tryz.prog 57 := EntP.mk' Tryz.func57 (by kernel_rfl) rfl
instance Tryz.ent58 : EntP Tryz.prog 58 := EntP.mk' Tryz.func58 (by kernel_rfl) rfl
instance Tryz.ent59 : EntP Tryz.prog 59 := EntP.mk' Tryz.func59 (by kernel_rfl) rfl
instance Tryz.ent60 : EntP Tryz.prog 60 := EntP.mk' Tryz.func60 (by kernel_rfl) rfl
instance Tryz.ent61 : EntP Tryz.prog 61 := EntP.mk' Tryz.func61 (by kernel_rfl) rfl
instance Tryz.ent62 : EntP Tryz.prog 62 := EntP.mk' Tryz.func62 (by kernel_rfl) rfl
instance Tryz.ent63 : EntP Tryz.prog 63 := EntP.mk' Tryz.func63 (by kernel_rfl) rfl
instance Tryz.ent64 : EntP Tryz.prog 64 := EntP.mk' Tryz.func64 (by kernel_rfl) rfl
instance Tryz.ent65 : EntP Tryz.prog 65 := EntP.mk' Tryz.func65 (by kernel_rfl) rfl
instance Tryz.ent66 : EntP Tryz.prog 66 := EntP.mk' Tryz.func66 (by kernel_rfl) rfl
instance Tryz.ent67 : EntP Tryz.prog 67 := EntP.mk' Tryz.func67 (by kernel_rfl) rfl
instance Tryz.ent68 : EntP Tryz.prog 68 := EntP.mk' Tryz.func68 (by kernel_rfl) rfl
instance Tryz.ent69 : EntP Tryz.prog 69 := EntP.mk' Tryz.func69 (by kernel_rfl) rfl
instance Tryz.ent70 : EntP Tryz.prog 70 := EntP.mk' Tryz.func70 (by kernel_rfl) rfl
instance Tryz.ent71 : EntP Tryz.prog 71 := EntP.mk' Tryz.func71 (by kernel_rfl) rfl
instance Tryz.ent72 : EntP Tryz.prog 72 := EntP.mk' Tryz.func72 (by kernel_rfl) rfl
instance Tryz.ent73 : EntP Tryz.prog 73 := EntP.mk' Tryz.func73 (by kernel_rfl) rfl
instance Tryz.ent74 : EntP Tryz.prog 74 := EntP.mk' Tryz.func74 (by kernel_rfl) rfl
instance Tryz.ent75 : EntP Tryz.prog 75 := EntP.mk' Tryz.func75 (by kernel_rfl) rfl
instance Tryz.ent76 : EntP Tryz.prog 76 := EntP.mk' Tryz.func76 (by kernel_rfl) rfl
instance Tryz.ent77 : EntP Tryz.prog 77 := EntP.mk' Tryz.func77 (by kernel_rfl) rfl
instance Tryz.ent78 : EntP Tryz.prog 78 := EntP.mk' Tryz.func78 (by kernel_rfl) rfl
instance Tryz.ent79 : EntP Tryz.prog 79 := EntP.mk' Tryz.func79 (by kernel_rfl) rfl
instance Tryz.ent80 : EntP Tryz.prog 80 := EntP.mk' Tryz.func80 (by kernel_rfl) rfl
instance Tryz.ent81 : EntP Tryz.prog 81 := EntP.mk' Tryz.func81 (by kernel_rfl) rfl
instance Tryz.ent82 : EntP Tryz.prog 82 := EntP.mk' Tryz.func82 (by kernel_rfl) rfl
instance Tryz.ent83 : EntP Tryz.prog 83 := EntP.mk' Tryz.func83 (by kernel_rfl) rfl
instance Tryz.ent84 : EntP Tryz.prog 84 := EntP.mk' Tryz.func84 (by kernel_rfl) rfl
instance Tryz.ent85 : EntP Tryz.prog 85 := EntP.mk' Tryz.func85 (by kernel_rfl) rfl
instance Tryz.ent86 : EntP Tryz.prog 86 := EntP.mk' Tryz.func86 (by kernel_rfl) rfl
instance Tryz.ent87 : EntP Tryz.prog 87 := EntP.mk' Tryz.func87 (by kernel_rfl) rfl
instance Tryz.ent88 : EntP Tryz.prog 88 := EntP.mk' Tryz.func88 (by kernel_rfl) rfl
instance Tryz.ent89 : EntP Tryz.prog 89 := EntP.mk' Tryz.func89 (by kernel_rfl) rfl
instance Tryz.ent90 : EntP Tryz.prog 90 := EntP.mk' Tryz.func90 (by kernel_rfl) rfl
instance Tryz.ent91 : EntP Tryz.prog 91 := EntP.mk' Tryz.func91 (by kernel_rfl) rfl
instance Tryz.ent92 : EntP Tryz.prog 92 := EntP.mk' Tryz.func92 (by kernel_rfl) rfl
instance Tryz.ent93 : EntP Tryz.prog 93 := EntP.mk' Tryz.func93 (by kernel_rfl) rfl
instance Tryz.ent94 : EntP Tryz.prog 94 := EntP.mk' Tryz.func94 (by kernel_rfl) rfl
instance Tryz.ent95 : EntP Tryz.prog 95 := EntP.mk' Tryz.func95 (by kernel_rfl) rfl
instance Tryz.ent96 : EntP Tryz.prog 96 := EntP.mk' Tryz.func96 (by kernel_rfl) rfl
instance Tryz.ent97 : EntP Tryz.prog 97 := EntP.mk' Tryz.func97 (by kernel_rfl) rfl
instance Tryz.ent98 : EntP Tryz.prog 98 := EntP.mk' Tryz.func98 (by kernel_rfl) rfl
instance Tryz.ent99 : EntP Tryz.prog 99 := EntP.mk' Tryz.func99 (by kernel_rfl) rfl
instance Tryz.ent100 : EntP Tryz.prog 100 := EntP.mk' Tryz.func100 (by kernel_rfl) rfl
instance Tryz.ent101 : EntP Tryz.prog 101 := EntP.mk' Tryz.func101 (by kernel_rfl) rfl
instance Tryz.ent102 : EntP Tryz.prog 102 := EntP.mk' Tryz.func102 (by kernel_rfl) rfl
instance Tryz.ent103 : EntP Tryz.prog 103 := EntP.mk' Tryz.func103 (by kernel_rfl) rfl
instance Tryz.ent104 : EntP Tryz.prog 104 := EntP.mk' Tryz.func104 (by kernel_rfl) rfl
instance Tryz.ent105 : EntP Tryz.prog 105 := EntP.mk' Tryz.func105 (by kernel_rfl) rfl
instance Tryz.ent106 : EntP Tryz.prog 106 := EntP.mk' Tryz.func106 (by kernel_rfl) rfl
instance Tryz.ent107 : EntP Tryz.prog 107 := EntP.mk' Tryz.func107 (by kernel_rfl) rfl
instance Tryz.ent108 : EntP Tryz.prog 108 := EntP.mk' Tryz.func108 (by kernel_rfl) rfl
instance Tryz.ent109 : EntP Tryz.prog 109 := EntP.mk' Tryz.func109 (by kernel_rfl) rfl
instance Tryz.ent110 : EntP Tryz.prog 110 := EntP.mk' Tryz.func110 (by kernel_rfl) rfl
instance Tryz.ent111 : EntP Tryz.prog 111 := EntP.mk' Tryz.func111 (by kernel_rfl) rfl
instance Tryz.ent112 : EntP Tryz.prog 112 := EntP.mk' Tryz.func112 (by kernel_rfl) rfl
instance Tryz.ent113 : EntP Tryz.prog 113 := EntP.mk' Tryz.func113 (by kernel_rfl) rfl
instance Tryz.ent114 : EntP Tryz.prog 114 := EntP.mk' Tryz.func114 (by kernel_rfl) rfl
instance Tryz.ent115 : EntP Tryz.prog 115 := EntP.mk' Tryz.func115 (by kernel_rfl) rfl
instance Tryz.ent116 : EntP Tryz.prog 116 := EntP.mk' Tryz.func116 (by kernel_rfl) rfl
instance Tryz.ent117 : EntP Tryz.prog 117 := EntP.mk' Tryz.func117 (by kernel_rfl) rfl
instance Tryz.ent118 : EntP Tryz.prog 118 := EntP.mk' Tryz.func118 (by kernel_rfl) rfl
instance Tryz.ent119 : EntP Tryz.prog 119 := EntP.mk' Tryz.func119 (by kernel_rfl) rfl
instance Tryz.ent120 : EntP Tryz.prog 120 := EntP.mk' Tryz.func120 (by kernel_rfl) rfl
instance Tryz.ent121 : EntP Tryz.prog 121 := EntP.mk' Tryz.func121 (by kernel_rfl) rfl
instance Tryz.ent122 : EntP Tryz.prog 122 := EntP.mk' Tryz.func122 (by kernel_rfl) rfl
instance Tryz.ent123 : EntP Tryz.prog 123 := EntP.mk' Tryz.func123 (by kernel_rfl) rfl
instance Tryz.ent124 : EntP Tryz.prog 124 := EntP.mk' Tryz.func124 (by kernel_rfl) rfl
instance Tryz.ent125 : EntP Tryz.prog 125 := EntP.mk' Tryz.func125 (by kernel_rfl) rfl
instance Tryz.ent126 : EntP Tryz.prog 126 := EntP.mk' Tryz.func126 (by kernel_rfl) rfl
instance Tryz.ent127 : EntP Tryz.prog 127 := EntP.mk' Tryz.func127 (by kernel_rfl) rfl
instance Tryz.ent128 : EntP Tryz.prog 128 := EntP.mk' Tryz.func128 (by kernel_rfl) rfl
instance Tryz.ent129 : EntP Tryz.prog 129 := EntP.mk' Tryz.func129 (by kernel_rfl) rfl
instance Tryz.ent130 : EntP Tryz.prog 130 := EntP.mk' Tryz.func130 (by kernel_rfl) rfl
instance Tryz.ent131 : EntP Tryz.prog 131 := EntP.mk' Tryz.func131 (by kernel_rfl) rfl
instance Tryz.ent132 : EntP Tryz.prog 132 := EntP.mk' Tryz.func132 (by kernel_rfl) rfl
instance Tryz.ent133 : EntP Tryz.prog 133 := EntP.mk' Tryz.func133 (by kernel_rfl) rfl
instance Tryz.ent134 : EntP Tryz.prog 134 := EntP.mk' Tryz.func134 (by kernel_rfl) rfl
instance Tryz.ent135 : EntP Tryz.prog 135 := EntP.mk' Tryz.func135 (by kernel_rfl) rfl
instance Tryz.ent136 : EntP Tryz.prog 136 := EntP.mk' Tryz.func136 (by kernel_rfl) rfl
instance Tryz.ent137 : EntP Tryz.prog 137 := EntP.mk' Tryz.func137 (by kernel_rfl) rfl
instance Tryz.ent138 : EntP Tryz.prog 138 := EntP.mk' Tryz.func138 (by kernel_rfl) rfl
instance Tryz.ent139 : EntP Tryz.prog 139 := EntP.mk' Tryz.func139 (by kernel_rfl) rfl
instance Tryz.ent140 : EntP Tryz.prog 140 := EntP.mk' Tryz.func140 (by kernel_rfl) rfl
instance Tryz.ent141 : EntP Tryz.prog 141 := EntP.mk' Tryz.func141 (by kernel_rfl) rfl
instance Tryz.ent142 : EntP Tryz.prog 142 := EntP.mk' Tryz.func142 (by kernel_rfl) rfl
instance Tryz.ent143 : EntP Tryz.prog 143 := EntP.mk' Tryz.func143 (by kernel_rfl) rfl
instance Tryz.ent144 : EntP Tryz.prog 144 := EntP.mk' Tryz.func144 (by kernel_rfl) rfl
instance Tryz.ent145 : EntP Tryz.prog 145 := EntP.mk' Tryz.func145 (by kernel_rfl) rfl
instance Tryz.ent146 : EntP Tryz.prog 146 := EntP.mk' Tryz.func146 (by kernel_rfl) rfl
instance Tryz.ent147 : EntP Tryz.prog 147 := EntP.mk' Tryz.func147 (by kernel_rfl) rfl
instance Tryz.ent148 : EntP Tryz.prog 148 := EntP.mk' Tryz.func148 (by kernel_rfl) rfl
instance Tryz.ent149 : EntP Tryz.prog 149 := EntP.mk' Tryz.func149 (by kernel_rfl) rfl
instance Tryz.ent150 : EntP Tryz.prog 150 := EntP.mk' Tryz.func150 (by kernel_rfl) rfl
instance Tryz.ent151 : EntP Tryz.prog 151 := EntP.mk' Tryz.func151 (by kernel_rfl) rfl
instance Tryz.ent152 : EntP Tryz.prog 152 := EntP.mk' Tryz.func152 (by kernel_rfl) rfl
instance Tryz.ent153 : EntP Tryz.prog 153 := EntP.mk' Tryz.func153 (by kernel_rfl) rfl
instance Tryz.ent154 : EntP Tryz.prog 154 := EntP.mk' Tryz.func154 (by kernel_rfl) rfl
instance Tryz.ent155 : EntP Tryz.prog 155 := EntP.mk' Tryz.func155 (by kernel_rfl) rfl
instance Tryz.ent156 : EntP Tryz.prog 156 := EntP.mk' Tryz.func156 (by kernel_rfl) rfl
instance Tryz.ent157 : EntP Tryz.prog 157 := EntP.mk' Tryz.func157 (by kernel_rfl) rfl
instance Tryz.ent158 : EntP Tryz.prog 158 := EntP.mk' Tryz.func158 (by kernel_rfl) rfl
instance Tryz.ent159 : EntP Tryz.prog 159 := EntP.mk' Tryz.func159 (by kernel_rfl) rfl
instance Tryz.ent160 : EntP Tryz.prog 160 := EntP.mk' Tryz.func160 (by kernel_rfl) rfl
instance Tryz.ent161 : EntP Tryz.prog 161 := EntP.mk' Tryz.func161 (by kernel_rfl) rfl
instance Tryz.ent162 : EntP Tryz.prog 162 := EntP.mk' Tryz.func162 (by kernel_rfl) rfl
instance Tryz.ent163 : EntP Tryz.prog 163 := EntP.mk' Tryz.func163 (by kernel_rfl) rfl
instance Tryz.ent164 : EntP Tryz.prog 164 := EntP.mk' Tryz.func164 (by kernel_rfl) rfl
instance Tryz.ent165 : EntP Tryz.prog 165 := EntP.mk' Tryz.func165 (by kernel_rfl) rfl
instance Tryz.ent166 : EntP Tryz.prog 166 := EntP.mk' Tryz.func166 (by kernel_rfl) rfl
instance Tryz.ent167 : EntP Tryz.prog 167 := EntP.mk' Tryz.func167 (by kernel_rfl) rfl
instance Tryz.ent168 : EntP Tryz.prog 168 := EntP.mk' Tryz.func168 (by kernel_rfl) rfl
instance Tryz.ent169 : EntP Tryz.prog 169 := EntP.mk' Tryz.func169 (by kernel_rfl) rfl
instance Tryz.ent170 : EntP Tryz.prog 170 := EntP.mk' Tryz.func170 (by kernel_rfl) rfl
instance Tryz.ent171 : EntP Tryz.prog 171 := EntP.mk' Tryz.func171 (by kernel_rfl) rfl
instance Tryz.ent172 : EntP Tryz.prog 172 := EntP.mk' Tryz.func172 (by kernel_rfl) rfl
instance Tryz.ent173 : EntP Tryz.prog 173 := EntP.mk' Tryz.func173 (by kernel_rfl) rfl
instance Tryz.ent174 : EntP Tryz.prog 174 := EntP.mk' Tryz.func174 (by kernel_rfl) rfl
instance Tryz.ent175 : EntP Tryz.prog 175 := EntP.mk' Tryz.func175 (by kernel_rfl) rfl
instance Tryz.ent176 : EntP Tryz.prog 176 := EntP.mk' Tryz.func176 (by kernel_rfl) rfl
instance Tryz.ent177 : EntP Tryz.prog 177 := EntP.mk' Tryz.func177 (by kernel_rfl) rfl
instance Tryz.ent178 : EntP Tryz.prog 178 := EntP.mk' Tryz.func178 (by kernel_rfl) rfl
instance Tryz.ent179 : EntP Tryz.prog 179 := EntP.mk' Tryz.func179 (by kernel_rfl) rfl
instance Tryz.ent180 : EntP Tryz.prog 180 := EntP.mk' Tryz.func180 (by kernel_rfl) rfl
instance Tryz.ent181 : EntP Tryz.prog 181 := EntP.mk' Tryz.func181 (by kernel_rfl) rfl
instance Tryz.ent182 : EntP Tryz.prog 182 := EntP.mk' Tryz.func182 (by kernel_rfl) rfl
instance Tryz.ent183 : EntP Tryz.prog 183 := EntP.mk' Tryz.func183 (by kernel_rfl) rfl
instance Tryz.ent184 : EntP Tryz.prog 184 := EntP.mk' Tryz.func184 (by kernel_rfl) rfl
instance Tryz.ent185 : EntP Tryz.prog 185 := EntP.mk' Tryz.func185 (by kernel_rfl) rfl
instance Tryz.ent186 : EntP Tryz.prog 186 := EntP.mk' Tryz.func186 (by kernel_rfl) rfl
instance Tryz.ent187 : EntP Tryz.prog 187 := EntP.mk' Tryz.func187 (by kernel_rfl) rfl
instance Tryz.ent188 : EntP Tryz.prog 188 := EntP.mk' Tryz.func188 (by kernel_rfl) rfl
instance Tryz.ent189 : EntP Tryz.prog 189 := EntP.mk' Tryz.func189 (by kernel_rfl) rfl
instance Tryz.ent190 : EntP Tryz.prog 190 := EntP.mk' Tryz.func190 (by kernel_rfl) rfl
instance Tryz.ent191 : EntP Tryz.prog 191 := EntP.mk' Tryz.func191 (by kernel_rfl) rfl
instance Tryz.ent192 : EntP Tryz.prog 192 := EntP.mk' Tryz.func192 (by kernel_rfl) rfl
instance Tryz.ent193 : EntP Tryz.prog 193 := EntP.mk' Tryz.func193 (by kernel_rfl) rfl
instance Tryz.ent194 : EntP Tryz.prog 194 := EntP.mk' Tryz.func194 (by kernel_rfl) rfl
instance Tryz.ent195 : EntP Tryz.prog 195 := EntP.mk' Tryz.func195 (by kernel_rfl) rfl
instance Tryz.ent196 : EntP Tryz.prog 196 := EntP.mk' Tryz.func196 (by kernel_rfl) rfl
instance Tryz.ent197 : EntP Tryz.prog 197 := EntP.mk' Tryz.func197 (by kernel_rfl) rfl
instance Tryz.ent198 : EntP Tryz.prog 198 := EntP.mk' Tryz.func198 (by kernel_rfl) rfl
instance Tryz.ent199 : EntP Tryz.prog 199 := EntP.mk' Tryz.func199 (by kernel_rfl) rfl
instance Tryz.ent200 : EntP Tryz.prog 200 := EntP.mk' Tryz.func200 (by kernel_rfl) rfl
instance Tryz.ent201 : EntP Tryz.prog 201 := EntP.mk' Tryz.func201 (by kernel_rfl) rfl
instance Tryz.ent202 : EntP Tryz.prog 202 := EntP.mk' Tryz.func202 (by kernel_rfl) rfl
instance Tryz.ent203 : EntP Tryz.prog 203 := EntP.mk' Tryz.func203 (by kernel_rfl) rfl
instance Tryz.ent204 : EntP Tryz.prog 204 := EntP.mk' Tryz.func204 (by kernel_rfl) rfl
instance Tryz.ent205 : EntP Tryz.prog 205 := EntP.mk' Tryz.func205 (by kernel_rfl) rfl
instance Tryz.ent206 : EntP Tryz.prog 206 := EntP.mk' Tryz.func206 (by kernel_rfl) rfl
instance Tryz.ent207 : EntP Tryz.prog 207 := EntP.mk' Tryz.func207 (by kernel_rfl) rfl
instance Tryz.ent208 : EntP Tryz.prog 208 := EntP.mk' Tryz.func208 (by kernel_rfl) rfl
instance Tryz.ent209 : EntP Tryz.prog 209 := EntP.mk' Tryz.func209 (by kernel_rfl) rfl
instance Tryz.ent210 : EntP Tryz.prog 210 := EntP.mk' Tryz.func210 (by kernel_rfl) rfl
instance Tryz.ent211 : EntP Tryz.prog 211 := EntP.mk' Tryz.func211 (by kernel_rfl) rfl
instance Tryz.ent212 : EntP Tryz.prog 212 := EntP.mk' Tryz.func212 (by kernel_rfl) rfl
instance Tryz.ent213 : EntP Tryz.prog 213 := EntP.mk' Tryz.func213 (by kernel_rfl) rfl
instance Tryz.ent214 : EntP Tryz.prog 214 := EntP.mk' Tryz.func214 (by kernel_rfl) rfl
instance Tryz.ent215 : EntP Tryz.prog 215 := EntP.mk' Tryz.func215 (by kernel_rfl) rfl
instance Tryz.ent216 : EntP Tryz.prog 216 := EntP.mk' Tryz.func216 (by kernel_rfl) rfl
instance Tryz.ent217 : EntP Tryz.prog 217 := EntP.mk' Tryz.func217 (by kernel_rfl) rfl
instance Tryz.ent218 : EntP Tryz.prog 218 := EntP.mk' Tryz.func218 (by kernel_rfl) rfl
instance Tryz.ent219 : EntP Tryz.prog 219 := EntP.mk' Tryz.func219 (by kernel_rfl) rfl
instance Tryz.ent220 : EntP Tryz.prog 220 := EntP.mk' Tryz.func220 (by kernel_rfl) rfl
instance Tryz.ent221 : EntP Tryz.prog 221 := EntP.mk' Tryz.func221 (by kernel_rfl) rfl
instance Tryz.ent222 : EntP Tryz.prog 222 := EntP.mk' Tryz.func222 (by kernel_rfl) rfl
instance Tryz.ent223 : EntP Tryz.prog 223 := EntP.mk' Tryz.func223 (by kernel_rfl) rfl
instance Tryz.ent225 : EntP Tryz.prog 225 := EntP.mk' Tryz.func225 (by kernel_rfl) rfl
instance Tryz.ent226 : EntP Tryz.prog 226 := EntP.mk' Tryz.func226 (by kernel_rfl) rfl
instance Tryz.ent227 : EntP Tryz.prog 227 := EntP.mk' Tryz.func227 (by kernel_rfl) rfl
instance Tryz.ent228 : EntP Tryz.prog 228 := EntP.mk' Tryz.func228 (by kernel_rfl) rfl
instance Tryz.ent229 : EntP Tryz.prog 229 := EntP.mk' Tryz.func229 (by kernel_rfl) rfl
instance Tryz.ent230 : EntP Tryz.prog 230 := EntP.mk' Tryz.func230 (by kernel_rfl) rfl
instance Tryz.ent231 : EntP Tryz.prog 231 := EntP.mk' Tryz.func231 (by kernel_rfl) rfl
instance Tryz.ent232 : EntP Tryz.prog 232 := EntP.mk' Tryz.func232 (by kernel_rfl) rfl
instance Tryz.ent233 : EntP Tryz.prog 233 := EntP.mk' Tryz.func233 (by kernel_rfl) rfl
instance Tryz.ent234 : EntP Tryz.prog 234 := EntP.mk' Tryz.func234 (by kernel_rfl) rfl
instance Tryz.ent255 : EntP Tryz.prog 255 := EntP.mk' Tryz.func255 (by kernel_rfl) rfl
end Go.Proofs
