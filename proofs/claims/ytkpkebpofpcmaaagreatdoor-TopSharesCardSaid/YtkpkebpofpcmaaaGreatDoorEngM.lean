/- The engine: slices that are made, of elements of several cells; drawn regions node by node; functions with first arguments. -/
import Derived.Test.YtkpkebpofpcmaaaGreatDoorEngR
import Derived.Test.YtkpkebpofpcmaaaGreatDoorEngX
namespace Go.Eng
open Go Go.RowKit
theorem made_two (u v : Value) (n : Nat) : madeCells #[u, v] (n * 2) = ((List.replicate n [u, v]).flatten).toArray := by
  apply Array.ext'
  unfold madeCells
  rw [Array.toList_map, Array.toList_range]
  induction n with
  | zero => rfl
  | succ n ih =>
    rw [List.replicate_succ', List.flatten_append, show (n + 1) * 2 = n * 2 + 1 + 1 by omega, List.range_succ, List.range_succ, List.map_append, List.map_append, ih]
    have e1 : n * 2 % 2 = 0 := by omega
    have e2 : (n * 2 + 1) % 2 = 1 := by omega
    simp [e1, e2]
theorem made_self (z : List Value) : madeCells z.toArray (1 * z.length) = z.toArray := by
  apply Array.ext'
  unfold madeCells
  rw [Array.toList_map, Array.toList_range, Nat.one_mul]
  apply List.ext_getElem
  · simp
  · intro i h1 h2
    simp at h1
    simp [Nat.mod_eq_of_lt h1, h1]
section
variable {r : Option Nat} {P : Program} {Q : Exit → Act → World → Prop} {N : Nat} {D : List Deferred} {B : Nat} {w0 : World} {L : Env} {H : Hp} {ops : Array Oper} {rest : List Oper}
/-- 'make([]T, n)', elements of two cells. -/
theorem TL_makeSlice2 {d : Nat} {ty : TypeId} {pos : String} {aft : Array Edge} {t e : TypeId} {x y : Operand} {by_ : Nat} {u0 v0 : Value} {k1 k2 : IntKind} {m1 m2 : Int} {ag : Bool} (n : Nat) (hd : Nat.blt d N = true) [hu : SlcP P t e] [he : TyP P e 2 ag [u0, v0]] [hby : BytP P e by_]
    (hx : ev L x = some (.int k1 m1)) (hy : ev L y = some (.int k2 m2)) (h1 : m1 = (n : Int)) (h2 : m2 = (n : Int)) (hb : by_ * n ≤ 281474976710656) (hm : n ≤ 9223372036854775807)
    (k : ∀ b, B ≤ b → TL r P Q N D B w0 ((d, .slice (some ⟨b, 0, none⟩) n n) :: L) ((b, .cells (List.replicate n [u0, v0]).flatten e) :: H) ops rest) : TL r P Q N D B w0 L H ops (⟨some d, .makeSlice t x y, ty, pos, aft, none⟩ :: rest) :=
  TL_valw (by simp) hd (fun b : Nat => .slice (some ⟨b, 0, none⟩) n n) (fun b => (b, .cells (List.replicate n [u0, v0]).flatten e) :: H) (fun b => B ≤ b) (fun a w hf hs => ⟨w.heap.size, w.alloc (Blk.cells (List.replicate n [u0, v0]).flatten e).toObj, hs.hB, by
    obtain ⟨i, v, hi, hsz, hzz, hcc⟩ := he.info
    have hbi : i.bytes = by_ := by rw [← hby.b]; simp [Program.bytesOf, hi]
    subst h1 h2
    have hbb : (i.bytes : Int) * (n : Int) ≤ 281474976710656 := by
      rw [hbi]
      have : ((by_ * n : Nat) : Int) ≤ 281474976710656 := by omega
      rwa [Int.natCast_mul] at this
    have h := run_make (P := P) w t e i v hu.u hi hzz k1 k2 (n : Int) (n : Int) (by omega) (Int.le_refl _) hbb (by omega)
    rw [hsz, hcc, Int.toNat_natCast, made_two] at h
    exact ⟨by simp [execOp, hf.ev hx, hf.ev hy, h, Blk.toObj], hs.alloc (Blk.cells (List.replicate n [u0, v0]).flatten e)⟩⟩) k
theorem TA_cut {fuel : Nat} {listed : Array Bool} {σ : Type} (fuel' : Nat) (listed' : Array Bool) (Lf : σ → Env) (Hf : σ → Hp) (hn : ∀ q, TA r P Q N D B w0 ops fuel' listed' (Lf q) (Hf q)) (k : (∀ q, TA r P Q N D B w0 ops fuel' listed' (Lf q) (Hf q)) → TA r P Q N D B w0 ops fuel listed L H) : TA r P Q N D B w0 ops fuel listed L H := k hn
theorem TA_via {fuel fuel' : Nat} {listed listed' : Array Bool} {L' : Env} {H' : Hp} (h : TA r P Q N D B w0 ops fuel' listed' L' H') (he : listed' = listed) (hf : fuel' = fuel) (hL : Sub L' L) (hH : ∀ w, SH B w0 w H → SH B w0 w H') : TA r P Q N D B w0 ops fuel listed L H := by
  subst he hf
  exact fun a w hf hs => h a w (hf.sub hL) (hH w hs)
/-- A call of a function that has its first arguments. -/
theorem TL_callVF {d : Option Nat} {ty : TypeId} {pos : String} {aft : Array Edge} {callee : Operand} {args : List Operand} {at_ : Array TypeId} {k : FuncId} {vs fl cl : List Value} {v : Value} (hx : ev L callee = some (.func (.func k) fl.toArray cl.toArray)) (ha : evL L args = some vs) [hent : EntP P k] (hd : okD N d = true)
    (hc : ∀ w, SH B w0 w H → Calls P k (fl ++ vs ++ cl).toArray w (RetV w v))
    (kk : TL r P Q N D B w0 (putE L d v) H ops rest) :
    TL r P Q N D B w0 L H ops (⟨d, .call { callee := .value callee, args := args.toArray, argTypes := at_ }, ty, pos, aft, none⟩ :: rest) :=
  TL_callR (av := (fl ++ vs ++ cl).toArray) (k := k) (fun a w hf _ => by
    have := hent.run ((fl ++ vs ++ cl).toArray) w
    simp only [resolve, hf.ev hx, Deferred.ofValue, List.map_toArray, evL_spec hf ha, Sem.run_bind, Sem.run_pure, Result.andThen, invoke]
    simpa using this) hd (fun _ : Unit => v) (fun _ => H) (fun _ => True) (fun w hs => (hc w hs).mono fun _ _ ⟨he, hb⟩ => ⟨(), trivial, he, hs.ext hb⟩) (fun _ _ => kk)
/-- 'make([]T, 1)'. -/
theorem TL_makeSliceOne {d : Nat} {ty : TypeId} {pos : String} {aft : Array Edge} {t e : TypeId} {x y : Operand} {by_ sz : Nat} {z : List Value} {k1 k2 : IntKind} {ag : Bool} (hd : Nat.blt d N = true) [hu : SlcP P t e] [he : TyP P e sz ag z] [hby : BytP P e by_]
    (hx : ev L x = some (.int k1 1)) (hy : ev L y = some (.int k2 1)) (hzl : z.length = sz) (hb : by_ ≤ 281474976710656)
    (k : ∀ b, B ≤ b → TL r P Q N D B w0 ((d, .slice (some ⟨b, 0, none⟩) 1 1) :: L) ((b, .cells z e) :: H) ops rest) : TL r P Q N D B w0 L H ops (⟨some d, .makeSlice t x y, ty, pos, aft, none⟩ :: rest) :=
  TL_valw (by simp) hd (fun b : Nat => .slice (some ⟨b, 0, none⟩) 1 1) (fun b => (b, .cells z e) :: H) (fun b => B ≤ b) (fun a w hf hs => ⟨w.heap.size, w.alloc (Blk.cells z e).toObj, hs.hB, by
    obtain ⟨i, v, hi, hsz, hzz, hcc⟩ := he.info
    have hbi : i.bytes = by_ := by rw [← hby.b]; simp [Program.bytesOf, hi]
    have hbb : (i.bytes : Int) * 1 ≤ 281474976710656 := by rw [hbi]; omega
    have h := run_make (P := P) w t e i v hu.u hi hzz k1 k2 1 1 (by omega) (Int.le_refl _) hbb (by omega)
    rw [hsz, hcc, ← hzl, show Int.toNat 1 = 1 from rfl, made_self] at h
    exact ⟨by simp [execOp, hf.ev hx, hf.ev hy, h, Blk.toObj], hs.alloc (Blk.cells z e)⟩⟩) k
end
end Go.Eng
