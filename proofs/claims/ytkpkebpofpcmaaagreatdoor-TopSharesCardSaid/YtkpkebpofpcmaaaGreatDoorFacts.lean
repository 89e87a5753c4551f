/- Facts of the program's tables, written by a program: types, fields, entries of functions. -/
import Derived.Test.YtkpkebpofpcmaaaGreatDoorEngC
import Derived.Test.YtkpkebpofpcmaaaGreatDoorProg
import Derived.KernelRfl
namespace Go.Proofs
open Go Go.Eng
theorem Tryz.mixed : Tryz.prog.follows .mixedOrders = true := by kernel_rfl
instance Tryz.int3 : IntP Tryz.prog 3 .i64 := ⟨Tryz.underlying3⟩
instance Tryz.ty3 : TyP Tryz.prog 3 1 false [.int .i64 0] := TyP.mk' (v := .int .i64 0) (by kernel_rfl) rfl Tryz.underlying3 rfl
instance Tryz.byt3 : BytP Tryz.prog 3 8 := ⟨by kernel_rfl⟩
instance Tryz.ty4 : TyP Tryz.prog 4 1 false [.bool false] := TyP.mk' (v := .bool false) (by kernel_rfl) rfl Tryz.underlying4 rfl
instance Tryz.int5 : IntP Tryz.prog 5 .u8 := ⟨Tryz.underlying5⟩
instance Tryz.ty5 : TyP Tryz.prog 5 1 false [.int .u8 0] := TyP.mk' (v := .int .u8 0) (by kernel_rfl) rfl Tryz.underlying5 rfl
instance Tryz.byt5 : BytP Tryz.prog 5 1 := ⟨by kernel_rfl⟩
instance Tryz.slc22 : SlcP Tryz.prog 22 25 := ⟨Tryz.underlying22⟩
instance Tryz.ty22 : TyP Tryz.prog 22 1 false [.slice none 0 0] := TyP.mk' (v := .slice none 0 0) (by kernel_rfl) rfl Tryz.underlying22 rfl
instance Tryz.slc23 : SlcP Tryz.prog 23 168 := ⟨Tryz.underlying23⟩
instance Tryz.ty23 : TyP Tryz.prog 23 1 false [.slice none 0 0] := TyP.mk' (v := .slice none 0 0) (by kernel_rfl) rfl Tryz.underlying23 rfl
instance Tryz.ty25 : TyP Tryz.prog 25 2 true [.int .i64 0, .int .i64 0] := TyP.mk' (v := .agg #[.int .i64 0, .int .i64 0]) (by kernel_rfl) rfl Tryz.underlying25 rfl
instance Tryz.byt25 : BytP Tryz.prog 25 16 := ⟨by kernel_rfl⟩
instance Tryz.ty27 : TyP Tryz.prog 27 6 true [.slice none 0 0, .slice none 0 0, .int .i64 0, .int .i64 0, .int .i64 0, .int .i64 0] := TyP.mk' (v := .agg #[.slice none 0 0, .slice none 0 0, .int .i64 0, .int .i64 0, .int .i64 0, .int .i64 0]) (by kernel_rfl) rfl Tryz.underlying27 rfl
instance Tryz.slc29 : SlcP Tryz.prog 29 46 := ⟨Tryz.underlying29⟩
instance Tryz.ty38 : TyP Tryz.prog 38 2 true [.int .i64 0, .int .i64 0] := TyP.mk' (v := .agg #[.int .i64 0, .int .i64 0]) (by kernel_rfl) rfl Tryz.underlying38 rfl
instance Tryz.ty40 : TyP Tryz.prog 40 3 true [.int .i64 0, .int .i64 0, .int .i64 0] := TyP.mk' (v := .agg #[.int .i64 0, .int .i64 0, .int .i64 0]) (by kernel_rfl) rfl Tryz.underlying40 rfl
instance Tryz.byt40 : BytP Tryz.prog 40 24 := ⟨by kernel_rfl⟩
instance Tryz.slc41 : SlcP Tryz.prog 41 40 := ⟨Tryz.underlying41⟩
instance Tryz.ty41 : TyP Tryz.prog 41 1 false [.slice none 0 0] := TyP.mk' (v := .slice none 0 0) (by kernel_rfl) rfl Tryz.underlying41 rfl
instance Tryz.ty43 : TyP Tryz.prog 43 2 true [.int .i64 0, .slice none 0 0] := TyP.mk' (v := .agg #[.int .i64 0, .slice none 0 0]) (by kernel_rfl) rfl Tryz.underlying43 rfl
instance Tryz.slc44 : SlcP Tryz.prog 44 50 := ⟨Tryz.underlying44⟩
instance Tryz.int46 : IntP Tryz.prog 46 .u32 := ⟨Tryz.underlying46⟩
instance Tryz.ty46 : TyP Tryz.prog 46 1 false [.int .u32 0] := TyP.mk' (v := .int .u32 0) (by kernel_rfl) rfl Tryz.underlying46 rfl
instance Tryz.slc48 : SlcP Tryz.prog 48 214 := ⟨Tryz.underlying48⟩
instance Tryz.ty48 : TyP Tryz.prog 48 1 false [.slice none 0 0] := TyP.mk' (v := .slice none 0 0) (by kernel_rfl) rfl Tryz.underlying48 rfl
instance Tryz.ty50 : TyP Tryz.prog 50 9 true [.int .i64 0, .int .i64 0, .int .u8 0, .int .i64 0, .int .i64 0, .int .i64 0, .int .i64 0, .int .i64 0, .slice none 0 0] := TyP.mk' (v := .agg #[.int .i64 0, .int .i64 0, .int .u8 0, .int .i64 0, .int .i64 0, .int .i64 0, .int .i64 0, .int .i64 0, .slice none 0 0]) (by kernel_rfl) rfl Tryz.underlying50 rfl
instance Tryz.byt50 : BytP Tryz.prog 50 88 := ⟨by kernel_rfl⟩
instance Tryz.slc54 : SlcP Tryz.prog 54 87 := ⟨Tryz.underlying54⟩
instance Tryz.ty54 : TyP Tryz.prog 54 1 false [.slice none 0 0] := TyP.mk' (v := .slice none 0 0) (by kernel_rfl) rfl Tryz.underlying54 rfl
instance Tryz.slc55 : SlcP Tryz.prog 55 3 := ⟨Tryz.underlying55⟩
instance Tryz.ty55 : TyP Tryz.prog 55 1 false [.slice none 0 0] := TyP.mk' (v := .slice none 0 0) (by kernel_rfl) rfl Tryz.underlying55 rfl
instance Tryz.ty57 : TyP Tryz.prog 57 4 true [.slice none 0 0, .slice none 0 0, .int .i64 0, .int .i64 0] := TyP.mk' (v := .agg #[.slice none 0 0, .slice none 0 0, .int .i64 0, .int .i64 0]) (by kernel_rfl) rfl Tryz.underlying57 rfl
instance Tryz.ty64 : TyP Tryz.prog 64 5 true [.int .u8 0, .int .i64 0, .int .i64 0, .int .i64 0, .int .i64 0] := TyP.mk' (v := .agg #[.int .u8 0, .int .i64 0, .int .i64 0, .int .i64 0, .int .i64 0]) (by kernel_rfl) rfl Tryz.underlying64 rfl
instance Tryz.slc65 : SlcP Tryz.prog 65 64 := ⟨Tryz.underlying65⟩
instance Tryz.ty73 : TyP Tryz.prog 73 3 true [.int .i64 0, .int .i64 0, .int .i64 0] := TyP.mk' (v := .agg #[.int .i64 0, .int .i64 0, .int .i64 0]) (by kernel_rfl) rfl Tryz.underlying73 rfl
instance Tryz.byt73 : BytP Tryz.prog 73 24 := ⟨by kernel_rfl⟩
instance Tryz.slc74 : SlcP Tryz.prog 74 73 := ⟨Tryz.underlying74⟩
instance Tryz.ty74 : TyP Tryz.prog 74 1 false [.slice none 0 0] := TyP.mk' (v := .slice none 0 0) (by kernel_rfl) rfl Tryz.underlying74 rfl
instance Tryz.slc81 : SlcP Tryz.prog 81 38 := ⟨Tryz.underlying81⟩
instance Tryz.ty87 : TyP Tryz.prog 87 5 true [.int .i64 0, .int .i64 0, .int .i64 0, .int .i64 0, .int .i64 0] := TyP.mk' (v := .agg #[.int .i64 0, .int .i64 0, .int .i64 0, .int .i64 0, .int .i64 0]) (by kernel_rfl) rfl Tryz.underlying87 rfl
instance Tryz.byt87 : BytP Tryz.prog 87 40 := ⟨by kernel_rfl⟩
instance Tryz.ty96 : TyP Tryz.prog 96 7 true [.slice none 0 0, .slice none 0 0, .int .i64 0, .int .i64 0, .int .i64 0, .int .i64 0, .int .i64 0] := TyP.mk' (v := .agg #[.slice none 0 0, .slice none 0 0, .int .i64 0, .int .i64 0, .int .i64 0, .int .i64 0, .int .i64 0]) (by kernel_rfl) rfl Tryz.underlying96 rfl
instance Tryz.slc99 : SlcP Tryz.prog 99 106 := ⟨Tryz.underlying99⟩
instance Tryz.ary106 : AryP Tryz.prog 106 2 3 := ⟨Tryz.underlying106⟩
instance Tryz.ty106 : TyP Tryz.prog 106 2 true [.int .i64 0, .int .i64 0] := TyP.mk' (v := .agg #[.int .i64 0, .int .i64 0]) (by kernel_rfl) rfl Tryz.underlying106 rfl
instance Tryz.byt106 : BytP Tryz.prog 106 16 := ⟨by kernel_rfl⟩
instance Tryz.ty110 : TyP Tryz.prog 110 1 false [.pointer none] := TyP.mk' (v := .pointer none) (by kernel_rfl) rfl Tryz.underlying110 rfl
instance Tryz.slc114 : SlcP Tryz.prog 114 116 := ⟨Tryz.underlying114⟩
instance Tryz.ty114 : TyP Tryz.prog 114 1 false [.slice none 0 0] := TyP.mk' (v := .slice none 0 0) (by kernel_rfl) rfl Tryz.underlying114 rfl
instance Tryz.ty116 : TyP Tryz.prog 116 5 true [.int .i64 0, .int .i64 0, .int .i64 0, .int .i64 0, .int .i64 0] := TyP.mk' (v := .agg #[.int .i64 0, .int .i64 0, .int .i64 0, .int .i64 0, .int .i64 0]) (by kernel_rfl) rfl Tryz.underlying116 rfl
instance Tryz.byt116 : BytP Tryz.prog 116 40 := ⟨by kernel_rfl⟩
instance Tryz.map117 : MapP Tryz.prog 117 3 4 := ⟨Tryz.underlying117⟩
instance Tryz.ty117 : TyP Tryz.prog 117 1 false [.map none] := TyP.mk' (v := .map none) (by kernel_rfl) rfl Tryz.underlying117 rfl
instance Tryz.ty119 : TyP Tryz.prog 119 4 true [.int .i64 0, .slice none 0 0, .slice none 0 0, .map none] := TyP.mk' (v := .agg #[.int .i64 0, .slice none 0 0, .slice none 0 0, .map none]) (by kernel_rfl) rfl Tryz.underlying119 rfl
instance Tryz.ty128 : TyP Tryz.prog 128 4 true [.slice none 0 0, .slice none 0 0, .int .i64 0, .int .i64 0] := TyP.mk' (v := .agg #[.slice none 0 0, .slice none 0 0, .int .i64 0, .int .i64 0]) (by kernel_rfl) rfl Tryz.underlying128 rfl
instance Tryz.ty135 : TyP Tryz.prog 135 4 true [.int .i64 0, .int .i64 0, .int .i64 0, .int .i64 0] := TyP.mk' (v := .agg #[.int .i64 0, .int .i64 0, .int .i64 0, .int .i64 0]) (by kernel_rfl) rfl Tryz.underlying135 rfl
instance Tryz.ty148 : TyP Tryz.prog 148 1 false [.nilFunc] := TyP.mk' (v := .nilFunc) (by kernel_rfl) rfl Tryz.underlying148 rfl
instance Tryz.ty149 : TyP Tryz.prog 149 1 false [.nilFunc] := TyP.mk' (v := .nilFunc) (by kernel_rfl) rfl Tryz.underlying149 rfl
instance Tryz.ty151 : TyP Tryz.prog 151 1 false [.nilFunc] := TyP.mk' (v := .nilFunc) (by kernel_rfl) rfl Tryz.underlying151 rfl
instance Tryz.ty168 : TyP Tryz.prog 168 4 true [.int .i64 0, .int .i64 0, .int .i64 0, .int .i64 0] := TyP.mk' (v := .agg #[.int .i64 0, .int .i64 0, .int .i64 0, .int .i64 0]) (by kernel_rfl) rfl Tryz.underlying168 rfl
instance Tryz.slc181 : SlcP Tryz.prog 181 5 := ⟨Tryz.underlying181⟩
instance Tryz.ty185 : TyP Tryz.prog 185 4 true [.int .i64 0, .int .i64 0, .int .i64 0, .int .i64 0] := TyP.mk' (v := .agg #[.int .i64 0, .int .i64 0, .int .i64 0, .int .i64 0]) (by kernel_rfl) rfl Tryz.underlying185 rfl
instance Tryz.slc186 : SlcP Tryz.prog 186 185 := ⟨Tryz.underlying186⟩
instance Tryz.ty186 : TyP Tryz.prog 186 1 false [.slice none 0 0] := TyP.mk' (v := .slice none 0 0) (by kernel_rfl) rfl Tryz.underlying186 rfl
instance Tryz.slc187 : SlcP Tryz.prog 187 297 := ⟨Tryz.underlying187⟩
instance Tryz.ty187 : TyP Tryz.prog 187 1 false [.slice none 0 0] := TyP.mk' (v := .slice none 0 0) (by kernel_rfl) rfl Tryz.underlying187 rfl
instance Tryz.slc188 : SlcP Tryz.prog 188 299 := ⟨Tryz.underlying188⟩
instance Tryz.ty188 : TyP Tryz.prog 188 1 false [.slice none 0 0] := TyP.mk' (v := .slice none 0 0) (by kernel_rfl) rfl Tryz.underlying188 rfl
instance Tryz.ty190 : TyP Tryz.prog 190 4 true [.int .i64 0, .slice none 0 0, .slice none 0 0, .slice none 0 0] := TyP.mk' (v := .agg #[.int .i64 0, .slice none 0 0, .slice none 0 0, .slice none 0 0]) (by kernel_rfl) rfl Tryz.underlying190 rfl
instance Tryz.ty193 : TyP Tryz.prog 193 6 true [.int .i64 0, .int .i64 0, .int .i64 0, .int .i64 0, .int .i64 0, .int .i64 0] := TyP.mk' (v := .agg #[.int .i64 0, .int .i64 0, .int .i64 0, .int .i64 0, .int .i64 0, .int .i64 0]) (by kernel_rfl) rfl Tryz.underlying193 rfl
instance Tryz.slc194 : SlcP Tryz.prog 194 193 := ⟨Tryz.underlying194⟩
instance Tryz.ty194 : TyP Tryz.prog 194 1 false [.slice none 0 0] := TyP.mk' (v := .slice none 0 0) (by kernel_rfl) rfl Tryz.underlying194 rfl
instance Tryz.ty200 : TyP Tryz.prog 200 1 false [.nilFunc] := TyP.mk' (v := .nilFunc) (by kernel_rfl) rfl Tryz.underlying200 rfl
instance Tryz.map209 : MapP Tryz.prog 209 3 50 := ⟨Tryz.underlying209⟩
instance Tryz.ty214 : TyP Tryz.prog 214 2 true [.int .i64 0, .int .i64 0] := TyP.mk' (v := .agg #[.int .i64 0, .int .i64 0]) (by kernel_rfl) rfl Tryz.underlying214 rfl
instance Tryz.byt214 : BytP Tryz.prog 214 16 := ⟨by kernel_rfl⟩
instance Tryz.ty216 : TyP Tryz.prog 216 1 false [.nilFunc] := TyP.mk' (v := .nilFunc) (by kernel_rfl) rfl Tryz.underlying216 rfl
instance Tryz.int217 : IntP Tryz.prog 217 .u8 := ⟨Tryz.underlying217⟩
instance Tryz.ty220 : TyP Tryz.prog 220 1 false [.nilFunc] := TyP.mk' (v := .nilFunc) (by kernel_rfl) rfl Tryz.underlying220 rfl
instance Tryz.ty222 : TyP Tryz.prog 222 5 true [.bool false, .bool false, .bool false, .bool false, .nilFunc] := TyP.mk' (v := .agg #[.bool false, .bool false, .bool false, .bool false, .nilFunc]) (by kernel_rfl) rfl Tryz.underlying222 rfl
instance Tryz.map223 : MapP Tryz.prog 223 5 222 := ⟨Tryz.underlying223⟩
instance Tryz.map228 : MapP Tryz.prog 228 3 3 := ⟨Tryz.underlying228⟩
instance Tryz.ty228 : TyP Tryz.prog 228 1 false [.map none] := TyP.mk' (v := .map none) (by kernel_rfl) rfl Tryz.underlying228 rfl
instance Tryz.ty230 : TyP Tryz.prog 230 1 false [.pointer none] := TyP.mk' (v := .pointer none) (by kernel_rfl) rfl Tryz.underlying230 rfl
instance Tryz.slc233 : SlcP Tryz.prog 233 265 := ⟨Tryz.underlying233⟩
instance Tryz.slc235 : SlcP Tryz.prog 235 242 := ⟨Tryz.underlying235⟩
instance Tryz.ty235 : TyP Tryz.prog 235 1 false [.slice none 0 0] := TyP.mk' (v := .slice none 0 0) (by kernel_rfl) rfl Tryz.underlying235 rfl
instance Tryz.ty237 : TyP Tryz.prog 237 2 true [.slice none 0 0, .slice none 0 0] := TyP.mk' (v := .agg #[.slice none 0 0, .slice none 0 0]) (by kernel_rfl) rfl Tryz.underlying237 rfl
instance Tryz.ty242 : TyP Tryz.prog 242 6 true [.int .i64 0, .int .i64 0, .int .i64 0, .int .i64 0, .int .i64 0, .int .i64 0] := TyP.mk' (v := .agg #[.int .i64 0, .int .i64 0, .int .i64 0, .int .i64 0, .int .i64 0, .int .i64 0]) (by kernel_rfl) rfl Tryz.underlying242 rfl
instance Tryz.byt242 : BytP Tryz.prog 242 48 := ⟨by kernel_rfl⟩
instance Tryz.map244 : MapP Tryz.prog 244 5 204 := ⟨Tryz.underlying244⟩
instance Tryz.slc251 : SlcP Tryz.prog 251 216 := ⟨Tryz.underlying251⟩
instance Tryz.ty251 : TyP Tryz.prog 251 1 false [.slice none 0 0] := TyP.mk' (v := .slice none 0 0) (by kernel_rfl) rfl Tryz.underlying251 rfl
instance Tryz.ty259 : TyP Tryz.prog 259 6 true [.int .i64 0, .slice none 0 0, .slice none 0 0, .slice none 0 0, .map none, .int .i64 0] := TyP.mk' (v := .agg #[.int .i64 0, .slice none 0 0, .slice none 0 0, .slice none 0 0, .map none, .int .i64 0]) (by kernel_rfl) rfl Tryz.underlying259 rfl
instance Tryz.ary261 : AryP Tryz.prog 261 21 3 := ⟨Tryz.underlying261⟩
instance Tryz.ty261 : TyP Tryz.prog 261 21 true [.int .i64 0, .int .i64 0, .int .i64 0, .int .i64 0, .int .i64 0, .int .i64 0, .int .i64 0, .int .i64 0, .int .i64 0, .int .i64 0, .int .i64 0, .int .i64 0, .int .i64 0, .int .i64 0, .int .i64 0, .int .i64 0, .int .i64 0, .int .i64 0, .int .i64 0, .int .i64 0, .int .i64 0] := TyP.mk' (v := .agg #[.int .i64 0, .int .i64 0, .int .i64 0, .int .i64 0, .int .i64 0, .int .i64 0, .int .i64 0, .int .i64 0, .int .i64 0, .int .i64 0, .int .i64 0, .int .i64 0, .int .i64 0, .int .i64 0, .int .i64 0, .int .i64 0, .int .i64 0, .int .i64 0, .int .i64 0, .int .i64 0, .int .i64 0]) (by kernel_rfl) rfl Tryz.underlying261 rfl
instance Tryz.ty284 : TyP Tryz.prog 284 1 false [.nilFunc] := TyP.mk' (v := .nilFunc) (by kernel_rfl) rfl Tryz.underlying284 rfl
instance Tryz.ty291 : TyP Tryz.prog 291 1 false [.nilFunc] := TyP.mk' (v := .nilFunc) (by kernel_rfl) rfl Tryz.underlying291 rfl
instance Tryz.ary301 : AryP Tryz.prog 301 21 261 := ⟨Tryz.underlying301⟩
instance Tryz.ty303 : TyP Tryz.prog 303 3 true [.int .i64 0, .int .i64 0, .int .i64 0] := TyP.mk' (v := .agg #[.int .i64 0, .int .i64 0, .int .i64 0]) (by kernel_rfl) rfl Tryz.underlying303 rfl
instance Tryz.ty307 : TyP Tryz.prog 307 1 false [.nilFunc] := TyP.mk' (v := .nilFunc) (by kernel_rfl) rfl Tryz.underlying307 rfl
instance Tryz.int310 : IntP Tryz.prog 310 .u64 := ⟨Tryz.underlying310⟩
instance Tryz.st25 : StP Tryz.prog 25 [.int .i64 0, .int .i64 0] [(0, 1), (1, 1)] := StP.mk' Tryz.ty25 Tryz.underlying25 (by kernel_rfl)
instance Tryz.fld25_0 : FldP Tryz.prog 25 0 0 := FldP.mk' (sz := 1) Tryz.underlying25 rfl rfl (by kernel_rfl) rfl
instance Tryz.fld25_1 : FldP Tryz.prog 25 1 1 := FldP.mk' (sz := 1) Tryz.underlying25 rfl rfl (by kernel_rfl) rfl
instance Tryz.st27 : StP Tryz.prog 27 [.slice none 0 0, .slice none 0 0, .int .i64 0, .int .i64 0, .int .i64 0, .int .i64 0] [(0, 1), (1, 1), (2, 2), (4, 2)] := StP.mk' Tryz.ty27 Tryz.underlying27 (by kernel_rfl)
instance Tryz.fld27_0 : FldP Tryz.prog 27 0 0 := FldP.mk' (sz := 1) Tryz.underlying27 rfl rfl (by kernel_rfl) rfl
instance Tryz.fld27_1 : FldP Tryz.prog 27 1 1 := FldP.mk' (sz := 1) Tryz.underlying27 rfl rfl (by kernel_rfl) rfl
instance Tryz.fld27_2 : FldP Tryz.prog 27 2 2 := FldP.mk' (sz := 2) Tryz.underlying27 rfl rfl (by kernel_rfl) rfl
instance Tryz.fld27_3 : FldP Tryz.prog 27 3 4 := FldP.mk' (sz := 2) Tryz.underlying27 rfl rfl (by kernel_rfl) rfl
instance Tryz.st38 : StP Tryz.prog 38 [.int .i64 0, .int .i64 0] [(0, 1), (1, 1)] := StP.mk' Tryz.ty38 Tryz.underlying38 (by kernel_rfl)
instance Tryz.fld38_0 : FldP Tryz.prog 38 0 0 := FldP.mk' (sz := 1) Tryz.underlying38 rfl rfl (by kernel_rfl) rfl
instance Tryz.fld38_1 : FldP Tryz.prog 38 1 1 := FldP.mk' (sz := 1) Tryz.underlying38 rfl rfl (by kernel_rfl) rfl
instance Tryz.st40 : StP Tryz.prog 40 [.int .i64 0, .int .i64 0, .int .i64 0] [(0, 1), (1, 2)] := StP.mk' Tryz.ty40 Tryz.underlying40 (by kernel_rfl)
instance Tryz.fld40_0 : FldP Tryz.prog 40 0 0 := FldP.mk' (sz := 1) Tryz.underlying40 rfl rfl (by kernel_rfl) rfl
instance Tryz.fld40_1 : FldP Tryz.prog 40 1 1 := FldP.mk' (sz := 2) Tryz.underlying40 rfl rfl (by kernel_rfl) rfl
instance Tryz.st43 : StP Tryz.prog 43 [.int .i64 0, .slice none 0 0] [(0, 1), (1, 1)] := StP.mk' Tryz.ty43 Tryz.underlying43 (by kernel_rfl)
instance Tryz.fld43_0 : FldP Tryz.prog 43 0 0 := FldP.mk' (sz := 1) Tryz.underlying43 rfl rfl (by kernel_rfl) rfl
instance Tryz.fld43_1 : FldP Tryz.prog 43 1 1 := FldP.mk' (sz := 1) Tryz.underlying43 rfl rfl (by kernel_rfl) rfl
instance Tryz.st50 : StP Tryz.prog 50 [.int .i64 0, .int .i64 0, .int .u8 0, .int .i64 0, .int .i64 0, .int .i64 0, .int .i64 0, .int .i64 0, .slice none 0 0] [(0, 1), (1, 1), (2, 1), (3, 1), (4, 1), (5, 2), (7, 1), (8, 1)] := StP.mk' Tryz.ty50 Tryz.underlying50 (by kernel_rfl)
instance Tryz.fld50_0 : FldP Tryz.prog 50 0 0 := FldP.mk' (sz := 1) Tryz.underlying50 rfl rfl (by kernel_rfl) rfl
instance Tryz.fld50_1 : FldP Tryz.prog 50 1 1 := FldP.mk' (sz := 1) Tryz.underlying50 rfl rfl (by kernel_rfl) rfl
instance Tryz.fld50_2 : FldP Tryz.prog 50 2 2 := FldP.mk' (sz := 1) Tryz.underlying50 rfl rfl (by kernel_rfl) rfl
instance Tryz.fld50_3 : FldP Tryz.prog 50 3 3 := FldP.mk' (sz := 1) Tryz.underlying50 rfl rfl (by kernel_rfl) rfl
instance Tryz.fld50_4 : FldP Tryz.prog 50 4 4 := FldP.mk' (sz := 1) Tryz.underlying50 rfl rfl (by kernel_rfl) rfl
instance Tryz.fld50_5 : FldP Tryz.prog 50 5 5 := FldP.mk' (sz := 2) Tryz.underlying50 rfl rfl (by kernel_rfl) rfl
instance Tryz.fld50_6 : FldP Tryz.prog 50 6 7 := FldP.mk' (sz := 1) Tryz.underlying50 rfl rfl (by kernel_rfl) rfl
instance Tryz.fld50_7 : FldP Tryz.prog 50 7 8 := FldP.mk' (sz := 1) Tryz.underlying50 rfl rfl (by kernel_rfl) rfl
instance Tryz.st57 : StP Tryz.prog 57 [.slice none 0 0, .slice none 0 0, .int .i64 0, .int .i64 0] [(0, 1), (1, 1), (2, 1), (3, 1)] := StP.mk' Tryz.ty57 Tryz.underlying57 (by kernel_rfl)
instance Tryz.fld57_0 : FldP Tryz.prog 57 0 0 := FldP.mk' (sz := 1) Tryz.underlying57 rfl rfl (by kernel_rfl) rfl
instance Tryz.fld57_1 : FldP Tryz.prog 57 1 1 := FldP.mk' (sz := 1) Tryz.underlying57 rfl rfl (by kernel_rfl) rfl
instance Tryz.fld57_2 : FldP Tryz.prog 57 2 2 := FldP.mk' (sz := 1) Tryz.underlying57 rfl rfl (by kernel_rfl) rfl
instance Tryz.fld57_3 : FldP Tryz.prog 57 3 3 := FldP.mk' (sz := 1) Tryz.underlying57 rfl rfl (by kernel_rfl) rfl
instance Tryz.st64 : StP Tryz.prog 64 [.int .u8 0, .int .i64 0, .int .i64 0, .int .i64 0, .int .i64 0] [(0, 1), (1, 1), (2, 1), (3, 2)] := StP.mk' Tryz.ty64 Tryz.underlying64 (by kernel_rfl)
instance Tryz.fld64_0 : FldP Tryz.prog 64 0 0 := FldP.mk' (sz := 1) Tryz.underlying64 rfl rfl (by kernel_rfl) rfl
instance Tryz.fld64_1 : FldP Tryz.prog 64 1 1 := FldP.mk' (sz := 1) Tryz.underlying64 rfl rfl (by kernel_rfl) rfl
instance Tryz.fld64_2 : FldP Tryz.prog 64 2 2 := FldP.mk' (sz := 1) Tryz.underlying64 rfl rfl (by kernel_rfl) rfl
instance Tryz.fld64_3 : FldP Tryz.prog 64 3 3 := FldP.mk' (sz := 2) Tryz.underlying64 rfl rfl (by kernel_rfl) rfl
instance Tryz.st73 : StP Tryz.prog 73 [.int .i64 0, .int .i64 0, .int .i64 0] [(0, 1), (1, 2)] := StP.mk' Tryz.ty73 Tryz.underlying73 (by kernel_rfl)
instance Tryz.fld73_0 : FldP Tryz.prog 73 0 0 := FldP.mk' (sz := 1) Tryz.underlying73 rfl rfl (by kernel_rfl) rfl
instance Tryz.fld73_1 : FldP Tryz.prog 73 1 1 := FldP.mk' (sz := 2) Tryz.underlying73 rfl rfl (by kernel_rfl) rfl
instance Tryz.fld87_0 : FldP Tryz.prog 87 0 0 := FldP.mk' (sz := 1) Tryz.underlying87 rfl rfl (by kernel_rfl) rfl
instance Tryz.fld87_1 : FldP Tryz.prog 87 1 1 := FldP.mk' (sz := 2) Tryz.underlying87 rfl rfl (by kernel_rfl) rfl
instance Tryz.fld87_2 : FldP Tryz.prog 87 2 3 := FldP.mk' (sz := 2) Tryz.underlying87 rfl rfl (by kernel_rfl) rfl
instance Tryz.st96 : StP Tryz.prog 96 [.slice none 0 0, .slice none 0 0, .int .i64 0, .int .i64 0, .int .i64 0, .int .i64 0, .int .i64 0] [(0, 6), (6, 1)] := StP.mk' Tryz.ty96 Tryz.underlying96 (by kernel_rfl)
instance Tryz.fld96_0 : FldP Tryz.prog 96 0 0 := FldP.mk' (sz := 6) Tryz.underlying96 rfl rfl (by kernel_rfl) rfl
instance Tryz.fld96_1 : FldP Tryz.prog 96 1 6 := FldP.mk' (sz := 1) Tryz.underlying96 rfl rfl (by kernel_rfl) rfl
instance Tryz.ar106 : ArP Tryz.prog 106 [.int .i64 0, .int .i64 0] 2 1 := ArP.mk' Tryz.ty106 Tryz.underlying106 Tryz.ty3
instance Tryz.st116 : StP Tryz.prog 116 [.int .i64 0, .int .i64 0, .int .i64 0, .int .i64 0, .int .i64 0] [(0, 2), (2, 1), (3, 1), (4, 1)] := StP.mk' Tryz.ty116 Tryz.underlying116 (by kernel_rfl)
instance Tryz.fld116_0 : FldP Tryz.prog 116 0 0 := FldP.mk' (sz := 2) Tryz.underlying116 rfl rfl (by kernel_rfl) rfl
instance Tryz.fld116_1 : FldP Tryz.prog 116 1 2 := FldP.mk' (sz := 1) Tryz.underlying116 rfl rfl (by kernel_rfl) rfl
instance Tryz.fld116_2 : FldP Tryz.prog 116 2 3 := FldP.mk' (sz := 1) Tryz.underlying116 rfl rfl (by kernel_rfl) rfl
instance Tryz.fld116_3 : FldP Tryz.prog 116 3 4 := FldP.mk' (sz := 1) Tryz.underlying116 rfl rfl (by kernel_rfl) rfl
instance Tryz.st119 : StP Tryz.prog 119 [.int .i64 0, .slice none 0 0, .slice none 0 0, .map none] [(0, 2), (2, 1), (3, 1)] := StP.mk' Tryz.ty119 Tryz.underlying119 (by kernel_rfl)
instance Tryz.fld119_1 : FldP Tryz.prog 119 1 2 := FldP.mk' (sz := 1) Tryz.underlying119 rfl rfl (by kernel_rfl) rfl
instance Tryz.fld119_2 : FldP Tryz.prog 119 2 3 := FldP.mk' (sz := 1) Tryz.underlying119 rfl rfl (by kernel_rfl) rfl
instance Tryz.st128 : StP Tryz.prog 128 [.slice none 0 0, .slice none 0 0, .int .i64 0, .int .i64 0] [(0, 4)] := StP.mk' Tryz.ty128 Tryz.underlying128 (by kernel_rfl)
instance Tryz.fld128_0 : FldP Tryz.prog 128 0 0 := FldP.mk' (sz := 4) Tryz.underlying128 rfl rfl (by kernel_rfl) rfl
instance Tryz.st135 : StP Tryz.prog 135 [.int .i64 0, .int .i64 0, .int .i64 0, .int .i64 0] [(0, 2), (2, 2)] := StP.mk' Tryz.ty135 Tryz.underlying135 (by kernel_rfl)
instance Tryz.fld135_0 : FldP Tryz.prog 135 0 0 := FldP.mk' (sz := 2) Tryz.underlying135 rfl rfl (by kernel_rfl) rfl
instance Tryz.fld135_1 : FldP Tryz.prog 135 1 2 := FldP.mk' (sz := 2) Tryz.underlying135 rfl rfl (by kernel_rfl) rfl
instance Tryz.fld168_0 : FldP Tryz.prog 168 0 0 := FldP.mk' (sz := 2) Tryz.underlying168 rfl rfl (by kernel_rfl) rfl
instance Tryz.fld168_1 : FldP Tryz.prog 168 1 2 := FldP.mk' (sz := 2) Tryz.underlying168 rfl rfl (by kernel_rfl) rfl
instance Tryz.st185 : StP Tryz.prog 185 [.int .i64 0, .int .i64 0, .int .i64 0, .int .i64 0] [(0, 1), (1, 1), (2, 2)] := StP.mk' Tryz.ty185 Tryz.underlying185 (by kernel_rfl)
instance Tryz.fld185_0 : FldP Tryz.prog 185 0 0 := FldP.mk' (sz := 1) Tryz.underlying185 rfl rfl (by kernel_rfl) rfl
instance Tryz.fld185_1 : FldP Tryz.prog 185 1 1 := FldP.mk' (sz := 1) Tryz.underlying185 rfl rfl (by kernel_rfl) rfl
instance Tryz.fld185_2 : FldP Tryz.prog 185 2 2 := FldP.mk' (sz := 2) Tryz.underlying185 rfl rfl (by kernel_rfl) rfl
instance Tryz.st190 : StP Tryz.prog 190 [.int .i64 0, .slice none 0 0, .slice none 0 0, .slice none 0 0] [(0, 1), (1, 1), (2, 1), (3, 1)] := StP.mk' Tryz.ty190 Tryz.underlying190 (by kernel_rfl)
instance Tryz.fld190_0 : FldP Tryz.prog 190 0 0 := FldP.mk' (sz := 1) Tryz.underlying190 rfl rfl (by kernel_rfl) rfl
instance Tryz.fld190_1 : FldP Tryz.prog 190 1 1 := FldP.mk' (sz := 1) Tryz.underlying190 rfl rfl (by kernel_rfl) rfl
instance Tryz.fld190_2 : FldP Tryz.prog 190 2 2 := FldP.mk' (sz := 1) Tryz.underlying190 rfl rfl (by kernel_rfl) rfl
instance Tryz.fld190_3 : FldP Tryz.prog 190 3 3 := FldP.mk' (sz := 1) Tryz.underlying190 rfl rfl (by kernel_rfl) rfl
instance Tryz.st193 : StP Tryz.prog 193 [.int .i64 0, .int .i64 0, .int .i64 0, .int .i64 0, .int .i64 0, .int .i64 0] [(0, 2), (2, 2), (4, 2)] := StP.mk' Tryz.ty193 Tryz.underlying193 (by kernel_rfl)
instance Tryz.fld193_0 : FldP Tryz.prog 193 0 0 := FldP.mk' (sz := 2) Tryz.underlying193 rfl rfl (by kernel_rfl) rfl
instance Tryz.fld193_1 : FldP Tryz.prog 193 1 2 := FldP.mk' (sz := 2) Tryz.underlying193 rfl rfl (by kernel_rfl) rfl
instance Tryz.fld193_2 : FldP Tryz.prog 193 2 4 := FldP.mk' (sz := 2) Tryz.underlying193 rfl rfl (by kernel_rfl) rfl
instance Tryz.st214 : StP Tryz.prog 214 [.int .i64 0, .int .i64 0] [(0, 1), (1, 1)] := StP.mk' Tryz.ty214 Tryz.underlying214 (by kernel_rfl)
instance Tryz.fld214_0 : FldP Tryz.prog 214 0 0 := FldP.mk' (sz := 1) Tryz.underlying214 rfl rfl (by kernel_rfl) rfl
instance Tryz.fld214_1 : FldP Tryz.prog 214 1 1 := FldP.mk' (sz := 1) Tryz.underlying214 rfl rfl (by kernel_rfl) rfl
instance Tryz.st222 : StP Tryz.prog 222 [.bool false, .bool false, .bool false, .bool false, .nilFunc] [(0, 1), (1, 1), (2, 1), (3, 1), (4, 1)] := StP.mk' Tryz.ty222 Tryz.underlying222 (by kernel_rfl)
instance Tryz.fld222_0 : FldP Tryz.prog 222 0 0 := FldP.mk' (sz := 1) Tryz.underlying222 rfl rfl (by kernel_rfl) rfl
instance Tryz.fld222_1 : FldP Tryz.prog 222 1 1 := FldP.mk' (sz := 1) Tryz.underlying222 rfl rfl (by kernel_rfl) rfl
instance Tryz.fld222_2 : FldP Tryz.prog 222 2 2 := FldP.mk' (sz := 1) Tryz.underlying222 rfl rfl (by kernel_rfl) rfl
instance Tryz.fld222_3 : FldP Tryz.prog 222 3 3 := FldP.mk' (sz := 1) Tryz.underlying222 rfl rfl (by kernel_rfl) rfl
instance Tryz.fv222_4 : FldV Tryz.prog 222 4 4 1 false := FldV.mk' Tryz.underlying222 rfl rfl Tryz.ty220
instance Tryz.fld237_0 : FldP Tryz.prog 237 0 0 := FldP.mk' (sz := 1) Tryz.underlying237 rfl rfl (by kernel_rfl) rfl
instance Tryz.fld237_1 : FldP Tryz.prog 237 1 1 := FldP.mk' (sz := 1) Tryz.underlying237 rfl rfl (by kernel_rfl) rfl
instance Tryz.st242 : StP Tryz.prog 242 [.int .i64 0, .int .i64 0, .int .i64 0, .int .i64 0, .int .i64 0, .int .i64 0] [(0, 6)] := StP.mk' Tryz.ty242 Tryz.underlying242 (by kernel_rfl)
instance Tryz.fld242_0 : FldP Tryz.prog 242 0 0 := FldP.mk' (sz := 6) Tryz.underlying242 rfl rfl (by kernel_rfl) rfl
instance Tryz.st259 : StP Tryz.prog 259 [.int .i64 0, .slice none 0 0, .slice none 0 0, .slice none 0 0, .map none, .int .i64 0] [(0, 4), (4, 1), (5, 1)] := StP.mk' Tryz.ty259 Tryz.underlying259 (by kernel_rfl)
instance Tryz.fld259_0 : FldP Tryz.prog 259 0 0 := FldP.mk' (sz := 4) Tryz.underlying259 rfl rfl (by kernel_rfl) rfl
instance Tryz.fld259_1 : FldP Tryz.prog 259 1 4 := FldP.mk' (sz := 1) Tryz.underlying259 rfl rfl (by kernel_rfl) rfl
instance Tryz.fld259_2 : FldP Tryz.prog 259 2 5 := FldP.mk' (sz := 1) Tryz.underlying259 rfl rfl (by kernel_rfl) rfl
instance Tryz.st303 : StP Tryz.prog 303 [.int .i64 0, .int .i64 0, .int .i64 0] [(0, 1), (1, 1), (2, 1)] := StP.mk' Tryz.ty303 Tryz.underlying303 (by kernel_rfl)
instance Tryz.fld303_0 : FldP Tryz.prog 303 0 0 := FldP.mk' (sz := 1) Tryz.underlying303 rfl rfl (by kernel_rfl) rfl
instance Tryz.fld303_1 : FldP Tryz.prog 303 1 1 := FldP.mk' (sz := 1) Tryz.underlying303 rfl rfl (by kernel_rfl) rfl
instance Tryz.fld303_2 : FldP Tryz.prog 303 2 2 := FldP.mk' (sz := 1) Tryz.underlying303 rfl rfl (by kernel_rfl) rfl
instance Tryz.eq3 : EqP Tryz.prog 3 1 1 := EqP.int
instance Tryz.eq25 : EqP Tryz.prog 25 2 2 := EqP.struct (ht := Tryz.ty25) _ Tryz.underlying25 Tryz.stoodInHeld25 ((FsP.cons (by kernel_rfl) rfl Tryz.ty3 Tryz.eq3 rfl rfl (FsP.cons (by kernel_rfl) rfl Tryz.ty3 Tryz.eq3 rfl rfl FsP.nil)) : FsP Tryz.prog 1 0 _ (1 + (1 + 0)))
instance Tryz.eqg25 : EqG Tryz.prog 25 := ⟨Tryz.eqGuardType25⟩
instance Tryz.eq38 : EqP Tryz.prog 38 2 2 := EqP.struct (ht := Tryz.ty38) _ Tryz.underlying38 Tryz.stoodInHeld38 ((FsP.cons (by kernel_rfl) rfl Tryz.ty3 Tryz.eq3 rfl rfl (FsP.cons (by kernel_rfl) rfl Tryz.ty3 Tryz.eq3 rfl rfl FsP.nil)) : FsP Tryz.prog 1 0 _ (1 + (1 + 0)))
instance Tryz.eqg38 : EqG Tryz.prog 38 := ⟨Tryz.eqGuardType38⟩
instance Tryz.eq106 : EqP Tryz.prog 106 2 2 := EqP.array (ht := Tryz.ty106) (he := Tryz.ty3) Tryz.underlying106 rfl rfl
instance Tryz.eq214 : EqP Tryz.prog 214 2 2 := EqP.struct (ht := Tryz.ty214) _ Tryz.underlying214 Tryz.stoodInHeld214 ((FsP.cons (by kernel_rfl) rfl Tryz.ty3 Tryz.eq3 rfl rfl (FsP.cons (by kernel_rfl) rfl Tryz.ty3 Tryz.eq3 rfl rfl FsP.nil)) : FsP Tryz.prog 1 0 _ (1 + (1 + 0)))
instance Tryz.eqg214 : EqG Tryz.prog 214 := ⟨Tryz.eqGuardType214⟩
instance Tryz.eq303 : EqP Tryz.prog 303 2 3 := EqP.struct (ht := Tryz.ty303) _ Tryz.underlying303 Tryz.stoodInHeld303 ((FsP.cons (by kernel_rfl) rfl Tryz.ty3 Tryz.eq3 rfl rfl (FsP.cons (by kernel_rfl) rfl Tryz.ty3 Tryz.eq3 rfl rfl (FsP.cons (by kernel_rfl) rfl Tryz.ty3 Tryz.eq3 rfl rfl FsP.nil))) : FsP Tryz.prog 1 0 _ (1 + (1 + (1 + 0))))
instance Tryz.eqg303 : EqG Tryz.prog 303 := ⟨Tryz.eqGuardType303⟩
instance Tryz.ent13 : EntP Tryz.prog 13 := EntP.mk' Tryz.func13 (by kernel_rfl) rfl
instance Tryz.ent15 : EntP Tryz.prog 15 := EntP.mk' Tryz.func15 (by kernel_rfl) rfl
instance Tryz.ent16 : EntP Tryz.prog 16 := EntP.mk' Tryz.func16 (by kernel_rfl) rfl
instance Tryz.ent20 : EntP Tryz.prog 20 := EntP.mk' Tryz.func20 (by kernel_rfl) rfl
instance Tryz.ent21 : EntP Tryz.prog 21 := EntP.mk' Tryz.func21 (by kernel_rfl) rfl
instance Tryz.ent22 : EntP Tryz.prog 22 := EntP.mk' Tryz.func22 (by kernel_rfl) rfl
instance Tryz.ent23 : EntP Tryz.prog 23 := EntP.mk' Tryz.func23 (by kernel_rfl) rfl
instance Tryz.ent24 : EntP Tryz.prog 24 := EntP.mk' Tryz.func24 (by kernel_rfl) rfl
instance Tryz.ent25 : EntP Tryz.prog 25 := EntP.mk' Tryz.func25 (by kernel_rfl) rfl
instance Tryz.ent27 : EntP Tryz.prog 27 := EntP.mk' Tryz.func27 (by kernel_rfl) rfl
instance Tryz.ent28 : EntP Tryz.prog 28 := EntP.mk' Tryz.func28 (by kernel_rfl) rfl
instance Tryz.ent29 : EntP Tryz.prog 29 := EntP.mk' Tryz.func29 (by kernel_rfl) rfl
instance Tryz.ent30 : EntP Tryz.prog 30 := EntP.mk' Tryz.func30 (by kernel_rfl) rfl
instance Tryz.ent34 : EntP Tryz.prog 34 := EntP.mk' Tryz.func34 (by kernel_rfl) rfl
instance Tryz.ent38 : EntP Tryz.prog 38 := EntP.mk' Tryz.func38 (by kernel_rfl) rfl
instance Tryz.ent39 : EntP Tryz.prog 39 := EntP.mk' Tryz.func39 (by kernel_rfl) rfl
instance Tryz.ent40 : EntP Tryz.prog 40 := EntP.mk' Tryz.func40 (by kernel_rfl) rfl
instance Tryz.ent41 : EntP Tryz.prog 41 := EntP.mk' Tryz.func41 (by kernel_rfl) rfl
instance Tryz.ent42 : EntP Tryz.prog 42 := EntP.mk' Tryz.func42 (by kernel_rfl) rfl
instance Tryz.ent43 : EntP Tryz.prog 43 := EntP.mk' Tryz.func43 (by kernel_rfl) rfl
instance Tryz.ent44 : EntP Tryz.prog 44 := EntP.mk' Tryz.func44 (by kernel_rfl) rfl
instance Tryz.ent46 : EntP Tryz.prog 46 := EntP.mk' Tryz.func46 (by kernel_rfl) rfl
instance Tryz.ent47 : EntP Tryz.prog 47 := EntP.mk' Tryz.func47 (by kernel_rfl) rfl
instance Tryz.ent49 : EntP Tryz.prog 49 := EntP.mk' Tryz.func49 (by kernel_rfl) rfl
instance Tryz.ent50 : EntP Tryz.prog 50 := EntP.mk' Tryz.func50 (by kernel_rfl) rfl
instance Tryz.ent51 : EntP Tryz.prog 51 := EntP.mk' Tryz.func51 (by kernel_rfl) rfl
instance Tryz.ent52 : EntP Tryz.prog 52 := EntP.mk' Tryz.func52 (by kernel_rfl) rfl
instance Tryz.ent54 : EntP Tryz.prog 54 := EntP.mk' Tryz.func54 (by kernel_rfl) rfl
instance Tryz.ent56 : EntP Tryz.prog 56 := EntP.mk' Tryz.func56 (by kernel_rfl) rfl
instance Tryz.ent57 : EntP Tryz.prog 57 := EntP.mk' Tryz.func57 (by kernel_rfl) rfl
instance Tryz.ent58 : EntP Tryz.prog 58 := EntP.mk' Tryz.func58 (by kernel_rfl) rfl
instance Tryz.ent59 : EntP Tryz.prog 59 := EntP.mk' Tryz.func59 (by kernel_rfl) rfl
instance Tryz.ent60 : EntP Tryz.prog 60 := EntP.mk' Tryz.func60 (by kernel_rfl) rfl
instance Tryz.ent61 : EntP Tryz.prog 61 := EntP.mk' Tryz.func61 (by kernel_rfl) rfl
instance Tryz.ent62 : EntP Tryz.prog 62 := EntP.mk' Tryz.func62 (by kernel_rfl) rfl
instance Tryz.ent63 : EntP Tryz.prog 63 := EntP.mk' Tryz.func63 (by kernel_rfl) rfl
instance Tryz.ent64 : EntP Tryz.prog 64 := EntP.mk' Tryz.func64 (by kernel_rfl) rfl
instance Tryz.ent65 : EntP Tryz.prog 65 := EntP.mk' Tryz.func65 (by kernel_rfl) rfl
instance Tryz.ent66 : EntP Tryz.prog 66 := EntP.mk' Tryz.func66 (by kernel_rfl) rfl
instance Tryz.ent67 : EntP Tryz.prog 67 := EntP.mk' Tryz.func67 (by kernel_rfl) rfl
instance Tryz.ent68 : EntP Tryz.prog 68 := EntP.mk' Tryz.func68 (by kernel_rfl) rfl
instance Tryz.ent69 : EntP Tryz.prog 69 := EntP.mk' Tryz.func69 (by kernel_rfl) rfl
instance Tryz.ent70 : EntP Tryz.prog 70 := EntP.mk' Tryz.func70 (by kernel_rfl) rfl
instance Tryz.ent71 : EntP Tryz.prog 71 := EntP.mk' Tryz.func71 (by kernel_rfl) rfl
instance Tryz.ent75 : EntP Tryz.prog 75 := EntP.mk' Tryz.func75 (by kernel_rfl) rfl
instance Tryz.ent79 : EntP Tryz.prog 79 := EntP.mk' Tryz.func79 (by kernel_rfl) rfl
instance Tryz.ent80 : EntP Tryz.prog 80 := EntP.mk' Tryz.func80 (by kernel_rfl) rfl
instance Tryz.ent81 : EntP Tryz.prog 81 := EntP.mk' Tryz.func81 (by kernel_rfl) rfl
instance Tryz.ent83 : EntP Tryz.prog 83 := EntP.mk' Tryz.func83 (by kernel_rfl) rfl
instance Tryz.ent84 : EntP Tryz.prog 84 := EntP.mk' Tryz.func84 (by kernel_rfl) rfl
instance Tryz.ent85 : EntP Tryz.prog 85 := EntP.mk' Tryz.func85 (by kernel_rfl) rfl
instance Tryz.ent86 : EntP Tryz.prog 86 := EntP.mk' Tryz.func86 (by kernel_rfl) rfl
instance Tryz.ent87 : EntP Tryz.prog 87 := EntP.mk' Tryz.func87 (by kernel_rfl) rfl
instance Tryz.ent88 : EntP Tryz.prog 88 := EntP.mk' Tryz.func88 (by kernel_rfl) rfl
instance Tryz.ent89 : EntP Tryz.prog 89 := EntP.mk' Tryz.func89 (by kernel_rfl) rfl
instance Tryz.ent90 : EntP Tryz.prog 90 := EntP.mk' Tryz.func90 (by kernel_rfl) rfl
instance Tryz.ent92 : EntP Tryz.prog 92 := EntP.mk' Tryz.func92 (by kernel_rfl) rfl
instance Tryz.ent93 : EntP Tryz.prog 93 := EntP.mk' Tryz.func93 (by kernel_rfl) rfl
instance Tryz.ent94 : EntP Tryz.prog 94 := EntP.mk' Tryz.func94 (by kernel_rfl) rfl
instance Tryz.ent95 : EntP Tryz.prog 95 := EntP.mk' Tryz.func95 (by kernel_rfl) rfl
instance Tryz.ent96 : EntP Tryz.prog 96 := EntP.mk' Tryz.func96 (by kernel_rfl) rfl
instance Tryz.ent97 : EntP Tryz.prog 97 := EntP.mk' Tryz.func97 (by kernel_rfl) rfl
instance Tryz.ent98 : EntP Tryz.prog 98 := EntP.mk' Tryz.func98 (by kernel_rfl) rfl
instance Tryz.ent99 : EntP Tryz.prog 99 := EntP.mk' Tryz.func99 (by kernel_rfl) rfl
instance Tryz.ent100 : EntP Tryz.prog 100 := EntP.mk' Tryz.func100 (by kernel_rfl) rfl
instance Tryz.ent101 : EntP Tryz.prog 101 := EntP.mk' Tryz.func101 (by kernel_rfl) rfl
instance Tryz.ent102 : EntP Tryz.prog 102 := EntP.mk' Tryz.func102 (by kernel_rfl) rfl
instance Tryz.ent103 : EntP Tryz.prog 103 := EntP.mk' Tryz.func103 (by kernel_rfl) rfl
instance Tryz.ent104 : EntP Tryz.prog 104 := EntP.mk' Tryz.func104 (by kernel_rfl) rfl
instance Tryz.ent105 : EntP Tryz.prog 105 := EntP.mk' Tryz.func105 (by kernel_rfl) rfl
instance Tryz.ent106 : EntP Tryz.prog 106 := EntP.mk' Tryz.func106 (by kernel_rfl) rfl
instance Tryz.ent107 : EntP Tryz.prog 107 := EntP.mk' Tryz.func107 (by kernel_rfl) rfl
instance Tryz.ent108 : EntP Tryz.prog 108 := EntP.mk' Tryz.func108 (by kernel_rfl) rfl
instance Tryz.ent109 : EntP Tryz.prog 109 := EntP.mk' Tryz.func109 (by kernel_rfl) rfl
instance Tryz.ent110 : EntP Tryz.prog 110 := EntP.mk' Tryz.func110 (by kernel_rfl) rfl
instance Tryz.ent111 : EntP Tryz.prog 111 := EntP.mk' Tryz.func111 (by kernel_rfl) rfl
instance Tryz.ent112 : EntP Tryz.prog 112 := EntP.mk' Tryz.func112 (by kernel_rfl) rfl
instance Tryz.ent113 : EntP Tryz.prog 113 := EntP.mk' Tryz.func113 (by kernel_rfl) rfl
instance Tryz.ent114 : EntP Tryz.prog 114 := EntP.mk' Tryz.func114 (by kernel_rfl) rfl
instance Tryz.ent115 : EntP Tryz.prog 115 := EntP.mk' Tryz.func115 (by kernel_rfl) rfl
instance Tryz.ent116 : EntP Tryz.prog 116 := EntP.mk' Tryz.func116 (by kernel_rfl) rfl
instance Tryz.ent117 : EntP Tryz.prog 117 := EntP.mk' Tryz.func117 (by kernel_rfl) rfl
instance Tryz.ent118 : EntP Tryz.prog 118 := EntP.mk' Tryz.func118 (by kernel_rfl) rfl
instance Tryz.ent119 : EntP Tryz.prog 119 := EntP.mk' Tryz.func119 (by kernel_rfl) rfl
instance Tryz.ent120 : EntP Tryz.prog 120 := EntP.mk' Tryz.func120 (by kernel_rfl) rfl
instance Tryz.ent121 : EntP Tryz.prog 121 := EntP.mk' Tryz.func121 (by kernel_rfl) rfl
instance Tryz.ent122 : EntP Tryz.prog 122 := EntP.mk' Tryz.func122 (by kernel_rfl) rfl
instance Tryz.ent123 : EntP Tryz.prog 123 := EntP.mk' Tryz.func123 (by kernel_rfl) rfl
instance Tryz.ent124 : EntP Tryz.prog 124 := EntP.mk' Tryz.func124 (by kernel_rfl) rfl
instance Tryz.ent125 : EntP Tryz.prog 125 := EntP.mk' Tryz.func125 (by kernel_rfl) rfl
instance Tryz.ent126 : EntP Tryz.prog 126 := EntP.mk' Tryz.func126 (by kernel_rfl) rfl
instance Tryz.ent127 : EntP Tryz.prog 127 := EntP.mk' Tryz.func127 (by kernel_rfl) rfl
instance Tryz.ent128 : EntP Tryz.prog 128 := EntP.mk' Tryz.func128 (by kernel_rfl) rfl
instance Tryz.ent129 : EntP Tryz.prog 129 := EntP.mk' Tryz.func129 (by kernel_rfl) rfl
instance Tryz.ent130 : EntP Tryz.prog 130 := EntP.mk' Tryz.func130 (by kernel_rfl) rfl
instance Tryz.ent131 : EntP Tryz.prog 131 := EntP.mk' Tryz.func131 (by kernel_rfl) rfl
instance Tryz.ent132 : EntP Tryz.prog 132 := EntP.mk' Tryz.func132 (by kernel_rfl) rfl
instance Tryz.ent133 : EntP Tryz.prog 133 := EntP.mk' Tryz.func133 (by kernel_rfl) rfl
instance Tryz.ent134 : EntP Tryz.prog 134 := EntP.mk' Tryz.func134 (by kernel_rfl) rfl
instance Tryz.ent135 : EntP Tryz.prog 135 := EntP.mk' Tryz.func135 (by kernel_rfl) rfl
instance Tryz.ent136 : EntP Tryz.prog 136 := EntP.mk' Tryz.func136 (by kernel_rfl) rfl
instance Tryz.ent137 : EntP Tryz.prog 137 := EntP.mk' Tryz.func137 (by kernel_rfl) rfl
instance Tryz.ent138 : EntP Tryz.prog 138 := EntP.mk' Tryz.func138 (by kernel_rfl) rfl
instance Tryz.ent139 : EntP Tryz.prog 139 := EntP.mk' Tryz.func139 (by kernel_rfl) rfl
instance Tryz.ent140 : EntP Tryz.prog 140 := EntP.mk' Tryz.func140 (by kernel_rfl) rfl
instance Tryz.ent141 : EntP Tryz.prog 141 := EntP.mk' Tryz.func141 (by kernel_rfl) rfl
instance Tryz.ent142 : EntP Tryz.prog 142 := EntP.mk' Tryz.func142 (by kernel_rfl) rfl
instance Tryz.ent143 : EntP Tryz.prog 143 := EntP.mk' Tryz.func143 (by kernel_rfl) rfl
instance Tryz.ent144 : EntP Tryz.prog 144 := EntP.mk' Tryz.func144 (by kernel_rfl) rfl
instance Tryz.ent145 : EntP Tryz.prog 145 := EntP.mk' Tryz.func145 (by kernel_rfl) rfl
instance Tryz.ent146 : EntP Tryz.prog 146 := EntP.mk' Tryz.func146 (by kernel_rfl) rfl
instance Tryz.ent147 : EntP Tryz.prog 147 := EntP.mk' Tryz.func147 (by kernel_rfl) rfl
instance Tryz.ent148 : EntP Tryz.prog 148 := EntP.mk' Tryz.func148 (by kernel_rfl) rfl
instance Tryz.ent149 : EntP Tryz.prog 149 := EntP.mk' Tryz.func149 (by kernel_rfl) rfl
instance Tryz.ent150 : EntP Tryz.prog 150 := EntP.mk' Tryz.func150 (by kernel_rfl) rfl
instance Tryz.ent151 : EntP Tryz.prog 151 := EntP.mk' Tryz.func151 (by kernel_rfl) rfl
instance Tryz.ent152 : EntP Tryz.prog 152 := EntP.mk' Tryz.func152 (by kernel_rfl) rfl
instance Tryz.ent153 : EntP Tryz.prog 153 := EntP.mk' Tryz.func153 (by kernel_rfl) rfl
instance Tryz.ent154 : EntP Tryz.prog 154 := EntP.mk' Tryz.func154 (by kernel_rfl) rfl
instance Tryz.ent155 : EntP Tryz.prog 155 := EntP.mk' Tryz.func155 (by kernel_rfl) rfl
instance Tryz.ent156 : EntP Tryz.prog 156 := EntP.mk' Tryz.func156 (by kernel_rfl) rfl
instance Tryz.ent157 : EntP Tryz.prog 157 := EntP.mk' Tryz.func157 (by kernel_rfl) rfl
instance Tryz.ent158 : EntP Tryz.prog 158 := EntP.mk' Tryz.func158 (by kernel_rfl) rfl
instance Tryz.ent159 : EntP Tryz.prog 159 := EntP.mk' Tryz.func159 (by kernel_rfl) rfl
instance Tryz.ent160 : EntP Tryz.prog 160 := EntP.mk' Tryz.func160 (by kernel_rfl) rfl
instance Tryz.ent161 : EntP Tryz.prog 161 := EntP.mk' Tryz.func161 (by kernel_rfl) rfl
instance Tryz.ent162 : EntP Tryz.prog 162 := EntP.mk' Tryz.func162 (by kernel_rfl) rfl
instance Tryz.ent163 : EntP Tryz.prog 163 := EntP.mk' Tryz.func163 (by kernel_rfl) rfl
instance Tryz.ent164 : EntP Tryz.prog 164 := EntP.mk' Tryz.func164 (by kernel_rfl) rfl
instance Tryz.ent166 : EntP Tryz.prog 166 := EntP.mk' Tryz.func166 (by kernel_rfl) rfl
instance Tryz.ent167 : EntP Tryz.prog 167 := EntP.mk' Tryz.func167 (by kernel_rfl) rfl
instance Tryz.ent168 : EntP Tryz.prog 168 := EntP.mk' Tryz.func168 (by kernel_rfl) rfl
instance Tryz.ent169 : EntP Tryz.prog 169 := EntP.mk' Tryz.func169 (by kernel_rfl) rfl
instance Tryz.ent170 : EntP Tryz.prog 170 := EntP.mk' Tryz.func170 (by kernel_rfl) rfl
instance Tryz.ent171 : EntP Tryz.prog 171 := EntP.mk' Tryz.func171 (by kernel_rfl) rfl
instance Tryz.ent172 : EntP Tryz.prog 172 := EntP.mk' Tryz.func172 (by kernel_rfl) rfl
instance Tryz.ent173 : EntP Tryz.prog 173 := EntP.mk' Tryz.func173 (by kernel_rfl) rfl
instance Tryz.ent174 : EntP Tryz.prog 174 := EntP.mk' Tryz.func174 (by kernel_rfl) rfl
instance Tryz.ent175 : EntP Tryz.prog 175 := EntP.mk' Tryz.func175 (by kernel_rfl) rfl
instance Tryz.ent176 : EntP Tryz.prog 176 := EntP.mk' Tryz.func176 (by kernel_rfl) rfl
instance Tryz.ent177 : EntP Tryz.prog 177 := EntP.mk' Tryz.func177 (by kernel_rfl) rfl
instance Tryz.ent178 : EntP Tryz.prog 178 := EntP.mk' Tryz.func178 (by kernel_rfl) rfl
instance Tryz.ent179 : EntP Tryz.prog 179 := EntP.mk' Tryz.func179 (by kernel_rfl) rfl
instance Tryz.ent180 : EntP Tryz.prog 180 := EntP.mk' Tryz.func180 (by kernel_rfl) rfl
instance Tryz.ent181 : EntP Tryz.prog 181 := EntP.mk' Tryz.func181 (by kernel_rfl) rfl
instance Tryz.ent182 : EntP Tryz.prog 182 := EntP.mk' Tryz.func182 (by kernel_rfl) rfl
instance Tryz.ent183 : EntP Tryz.prog 183 := EntP.mk' Tryz.func183 (by kernel_rfl) rfl
instance Tryz.ent184 : EntP Tryz.prog 184 := EntP.mk' Tryz.func184 (by kernel_rfl) rfl
instance Tryz.ent185 : EntP Tryz.prog 185 := EntP.mk' Tryz.func185 (by kernel_rfl) rfl
instance Tryz.ent186 : EntP Tryz.prog 186 := EntP.mk' Tryz.func186 (by kernel_rfl) rfl
instance Tryz.ent187 : EntP Tryz.prog 187 := EntP.mk' Tryz.func187 (by kernel_rfl) rfl
instance Tryz.ent188 : EntP Tryz.prog 188 := EntP.mk' Tryz.func188 (by kernel_rfl) rfl
instance Tryz.ent189 : EntP Tryz.prog 189 := EntP.mk' Tryz.func189 (by kernel_rfl) rfl
instance Tryz.ent190 : EntP Tryz.prog 190 := EntP.mk' Tryz.func190 (by kernel_rfl) rfl
instance Tryz.ent191 : EntP Tryz.prog 191 := EntP.mk' Tryz.func191 (by kernel_rfl) rfl
instance Tryz.ent192 : EntP Tryz.prog 192 := EntP.mk' Tryz.func192 (by kernel_rfl) rfl
instance Tryz.ent193 : EntP Tryz.prog 193 := EntP.mk' Tryz.func193 (by kernel_rfl) rfl
instance Tryz.ent194 : EntP Tryz.prog 194 := EntP.mk' Tryz.func194 (by kernel_rfl) rfl
instance Tryz.ent195 : EntP Tryz.prog 195 := EntP.mk' Tryz.func195 (by kernel_rfl) rfl
instance Tryz.ent196 : EntP Tryz.prog 196 := EntP.mk' Tryz.func196 (by kernel_rfl) rfl
instance Tryz.ent197 : EntP Tryz.prog 197 := EntP.mk' Tryz.func197 (by kernel_rfl) rfl
instance Tryz.ent198 : EntP Tryz.prog 198 := EntP.mk' Tryz.func198 (by kernel_rfl) rfl
instance Tryz.ent199 : EntP Tryz.prog 199 := EntP.mk' Tryz.func199 (by kernel_rfl) rfl
instance Tryz.ent200 : EntP Tryz.prog 200 := EntP.mk' Tryz.func200 (by kernel_rfl) rfl
instance Tryz.ent201 : EntP Tryz.prog 201 := EntP.mk' Tryz.func201 (by kernel_rfl) rfl
instance Tryz.ent202 : EntP Tryz.prog 202 := EntP.mk' Tryz.func202 (by kernel_rfl) rfl
instance Tryz.ent203 : EntP Tryz.prog 203 := EntP.mk' Tryz.func203 (by kernel_rfl) rfl
instance Tryz.ent204 : EntP Tryz.prog 204 := EntP.mk' Tryz.func204 (by kernel_rfl) rfl
instance Tryz.ent205 : EntP Tryz.prog 205 := EntP.mk' Tryz.func205 (by kernel_rfl) rfl
instance Tryz.ent206 : EntP Tryz.prog 206 := EntP.mk' Tryz.func206 (by kernel_rfl) rfl
instance Tryz.ent207 : EntP Tryz.prog 207 := EntP.mk' Tryz.func207 (by kernel_rfl) rfl
instance Tryz.ent208 : EntP Tryz.prog 208 := EntP.mk' Tryz.func208 (by kernel_rfl) rfl
instance Tryz.ent209 : EntP Tryz.prog 209 := EntP.mk' Tryz.func209 (by kernel_rfl) rfl
instance Tryz.ent210 : EntP Tryz.prog 210 := EntP.mk' Tryz.func210 (by kernel_rfl) rfl
instance Tryz.ent211 : EntP Tryz.prog 211 := EntP.mk' Tryz.func211 (by kernel_rfl) rfl
instance Tryz.ent212 : EntP Tryz.prog 212 := EntP.mk' Tryz.func212 (by kernel_rfl) rfl
instance Tryz.ent213 : EntP Tryz.prog 213 := EntP.mk' Tryz.func213 (by kernel_rfl) rfl
instance Tryz.ent214 : EntP Tryz.prog 214 := EntP.mk' Tryz.func214 (by kernel_rfl) rfl
instance Tryz.ent215 : EntP Tryz.prog 215 := EntP.mk' Tryz.func215 (by kernel_rfl) rfl
instance Tryz.ent216 : EntP Tryz.prog 216 := EntP.mk' Tryz.func216 (by kernel_rfl) rfl
instance Tryz.ent217 : EntP Tryz.prog 217 := EntP.mk' Tryz.func217 (by kernel_rfl) rfl
instance Tryz.ent218 : EntP Tryz.prog 218 := EntP.mk' Tryz.func218 (by kernel_rfl) rfl
instance Tryz.ent219 : EntP Tryz.prog 219 := EntP.mk' Tryz.func219 (by kernel_rfl) rfl
instance Tryz.ent221 : EntP Tryz.prog 221 := EntP.mk' Tryz.func221 (by kernel_rfl) rfl
instance Tryz.ent222 : EntP Tryz.prog 222 := EntP.mk' Tryz.func222 (by kernel_rfl) rfl
instance Tryz.ent223 : EntP Tryz.prog 223 := EntP.mk' Tryz.func223 (by kernel_rfl) rfl
instance Tryz.ent226 : EntP Tryz.prog 226 := EntP.mk' Tryz.func226 (by kernel_rfl) rfl
instance Tryz.ent227 : EntP Tryz.prog 227 := EntP.mk' Tryz.func227 (by kernel_rfl) rfl
instance Tryz.ent228 : EntP Tryz.prog 228 := EntP.mk' Tryz.func228 (by kernel_rfl) rfl
instance Tryz.ent229 : EntP Tryz.prog 229 := EntP.mk' Tryz.func229 (by kernel_rfl) rfl
end Go.Proofs
