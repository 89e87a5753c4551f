/- The engine: bytes as a string; strings compared. -/
import Derived.Test.YtoolblbdmmiahaaDoorEngV
import Derived.Laws.BytesString
namespace Go.Eng
open Go Go.RowKit
set_option linter.unusedVariables false
set_option linter.unusedSimpArgs false

def bstr (l : List Int) : ByteArray := l.foldl (fun r n => r.push (UInt8.ofNat n.toNat)) ByteArray.empty
def encU8 (x : Int) : List Value := [.int .u8 x]
theorem run_bstr {P : Program} {w : World} {s e t : TypeId} (hs : P.underlying s = some (.slice e)) (he : P.underlying e = some (.int .u8)) (ht : P.underlying t = some .string) {ao : Option Addr} {l : List Int} {c : Nat} (h : Sl w 1 encU8 ao l) :
    (convert s t (.slice ao l.length c)).run P w = .ok (.string (bstr l)) w := by
  rw [run_convert_bytes_string w s t e ao l.length c hs he ht]
  cases ao with
  | none =>
    cases l with
    | nil => simp [Conv.bytesToString, Sem.run_pure, bstr]
    | cons x l => obtain ⟨b, o, hb⟩ := h.some_ (by simp); cases hb
  | some a =>
    have e1 : l.flatMap encU8 = l.map (Value.int .u8) := by
      clear h
      induction l with
      | nil => rfl
      | cons x l ih => rw [List.flatMap_cons, ih]; rfl
    refine run_bytesToString w a l.length c l ?_
    have := run_loadCells_list (P := P) (w := w) a (l.map (Value.int .u8)) (fun j v hj => by
      by_cases hl : l = []
      · subst hl; simp at hj
      · obtain ⟨b, o, hb⟩ := h.some_ hl
        cases hb
        exact h.flat j v (by rw [e1]; exact hj))
    simpa using this
section
variable {r : Option Nat} {P : Program} {Q : Exit → Act → World → Prop} {N : Nat} {D : List Deferred} {B : Nat} {w0 : World} {L : Env} {H : Hp} {ops : Array Oper} {rest : List Oper}
variable {d : Nat} {ty : TypeId} {pos : String} {aft : Array Edge}
theorem TL_convStr {s e t : TypeId} {x : Operand} {ao : Option Addr} {l : List Int} {n c : Nat} (hd : Nat.blt d N = true) [hs : SlcP P s e] [he : IntP P e .u8] (ht : P.underlying t = some .string) (hx : ev L x = some (.slice ao n c)) (hn : n = l.length)
    (hl : ∀ w, SH B w0 w H → Sl w 1 encU8 ao l) (k : TL r P Q N D B w0 ((d, .string (bstr l)) :: L) H ops rest) : TL r P Q N D B w0 L H ops (⟨some d, .convert s t x, ty, pos, aft, none⟩ :: rest) :=
  TL_val (by simp) hd _ (fun a w hf hs' => by
    subst hn
    simp [execOp, hf.ev hx, run_bstr hs.u he.u ht (hl w hs')]) k
theorem TL_eql_str {t t' : TypeId} {x y : Operand} {s : ByteArray} (hd : Nat.blt d N = true) (hx : ev L x = some (.string s)) (hy : ev L y = some (.string s))
    (k : TL r P Q N D B w0 ((d, .bool true) :: L) H ops rest) : TL r P Q N D B w0 L H ops (⟨some d, .binOp .eql t x y t', ty, pos, aft, none⟩ :: rest) :=
  TL_val (by simp) hd _ (fun a w hf _ => by
    have h1 : (eqGuard .eql t x y (.string s) (.string s)).run P w = .ok () w := rfl
    have h2 : (Go.binOp .eql t (.string s) (.string s)).run P w = .ok (.bool true) w := by simp [Go.binOp, Op.stringOp]
    simp only [execOp, hf.ev hx, hf.ev hy, Sem.run_bind, h1, Result.andThen, h2]; rfl) k
end
end Go.Eng
