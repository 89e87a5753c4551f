/- The engine: ranges over functions whose yielded values are known by a predicate; loops in which such ranges stand. -/
import Derived.Test.YtkpkebpofpcmaaaGreatDoorEngP
namespace Go.Eng
open Go Go.RowKit
def YldY {σ : Type} (P : Program) (B : Nat) (w0 : World) (l n : Nat) (Ψ : Nat → σ → List Value → Hp → Prop) (p : Nat → σ → Prop) (Y : Nat → σ → Hp) (bs : Nat → Bool) : Prop :=
  ∀ j x vs, j < n → p j x → ∀ (G : Hp) (w : World), Ψ j x vs G → SH B w0 w (Y j x ++ G) → ∃ fn tmps as_ bd, (Instr.yield l (vs : List Value).toArray).run P w = .ok (.round l fn tmps as_ bd) w ∧
    RoundIn (FW none) 0 P l fn tmps as_ bd w (fun e w' => e = .returned (.bool (bs j)) ∧ ∃ y, p (j + 1) y ∧ SH B w0 w' (Y (j + 1) y ++ G))
section
variable {r : Option Nat} {P : Program} {Q : Exit → Act → World → Prop} {N : Nat} {D : List Deferred} {B : Nat} {w0 : World} {L : Env} {H : Hp} {ops : Array Oper} {rest : List Oper}
variable {d : Option Nat} {ty : TypeId} {pos : String} {aft : Array Edge}
end
def marksH (ds : List Nat) : Hp := ds.map fun d => (d, Blk.obj (.deferred (some [])))
def marksD (ds : List Nat) : List Deferred := ds.map mark
section
variable {r : Option Nat} {P : Program} {Q : Exit → Act → World → Prop} {N : Nat} {D : List Deferred} {B : Nat} {w0 : World} {L : Env} {H : Hp}
/-- A function in which ranges stood leaves. -/
theorem TQ_leaveMn {fn : Func} {R : Ending → World → Prop} {ds : List Nat} {e : Exit} {rs : List ResultVar} {vs : List Value} {H' : Hp} (he : e = .ret ∨ e = .normal) (hp : ∀ w, SH B w0 w H → SH B w0 w (marksH ds ++ H'))
    (hr : fn.results = rs.toArray) (h1 : resVs P B w0 L H' rs vs) (hR : ∀ w, SH B w0 w H' → R (.returned (oneOr vs)) w) : TQ (bodyPostM (FW none) 0 P fn R) N (marksD ds) B w0 L H e := fun a w hf hs => by
  have key : ∀ (ds : List Nat) (w : World), SH B w0 w (marksH ds ++ H') → LeavesInM (FW none) 0 P fn a.tmps R (marksD ds) .returning w := by
    intro ds
    induction ds with
    | nil => intro w hs; exact ⟨_, run_resVs hr h1 hf hs, hR _ hs⟩
    | cons d ds ih =>
      intro w hs
      have hs0 : SH B w0 w ((d, Blk.obj (.deferred (some []))) :: (marksH ds ++ H')) := hs
      have hs' := hs0.putObj (o := .deferred (some [])) (.deferred none) Upd.head
      exact ⟨by simp, .inl ⟨d, _, rfl, run_takeDeferred (hs0.holds _ _ List.mem_cons_self).2, ih _ (hs'.sub (List.sublist_cons_self _ _))⟩⟩
  have h0 := key ds w (hp w hs)
  rcases he with rfl | rfl
  · show LeavesInM _ _ _ _ _ _ a.defers _ _
    rw [hf.defers]; exact h0
  · show LeavesInM _ _ _ _ _ _ a.defers _ _
    rw [hf.defers]; exact h0
end
end Go.Eng
