/- Walks: the examples that the statements over deeds and channels begin with. Walks of the package channel: Waters, Minutes. -/
import Derived.Test.YtkpkebpofpcmaaaGreatDoorEngR
import Derived.Test.YtkpkebpofpcmaaaGreatDoorS8
import Derived.Test.YtkpkebpofpcmaaaGreatDoorV4
import Derived.Test.YtkpkebpofpcmaaaGreatDoorR1
import Derived.Test.YtkpkebpofpcmaaaGreatDoorC6
namespace Go.Proofs.YtkpkebpofpcmaaaGreatDoor
open Go Go.Eng Go.RowKit Go.Proofs
set_option maxHeartbeats 4000000
set_option maxRecDepth 10000
attribute [local irreducible] TL TC TQ

def haL : List Ho := [⟨1, (0, 720)⟩, ⟨2, (720, 1440)⟩]
def haR (b : Nat) : Ro := ⟨1, haL, some ⟨b, 0, none⟩, 2⟩
theorem c60 (w : World) : Calls Tryz.prog 60 #[] w (RetP w.heap.size w (fun b : Nat => .agg (encRo (haR b)).toArray) (fun b => [(b, .cells (haL.flatMap encHo) 40)]) (fun _ => True)) := by
  refine enter (args := []) Tryz.func60 rfl Tryz.ntmps60 rfl (SH.refl _) ?_
  repeat' (first | refine rn ?_ | (refine zb ?_; intro _ _) | (refine za ?_; intro _ _) | (refine zs ?_; intro _ _))
  rename_i b0 _ b5 _
  exact TQ_ret1 Tryz.results60 (RV.celln rfl mm (by rfl)) (fun w' hs => ⟨b5, trivial, rfl, hs.sub sl⟩)
def ckH (b : Nat) : Ck := ⟨[(700, 710)], [], (0, 0), (1000, 1000), some ⟨b, 0, none⟩, 1, none, 0⟩
def tgH : Tg := ⟨1, 0, 0, (0, 0)⟩
def ddH : Dd := ⟨0, 1, 4, 1, 3, (700, 720), 9, [], none, 0⟩
theorem allH (b : Nat) : allR (ckH b) 3 [tgH] = ((700, 710), 0) := by kernel_rfl
theorem atH (b : Nat) : atM (uM (haR b) [ddH] 3) 3 705 = (1, 3, 0) := by kernel_rfl
def tuH : List Sp := [(0, 720), (720, 1440)]
theorem onH : firstO tuH (700, 710) = 0 := by kernel_rfl
theorem suH : sureO tuH (700, 710) 1 = 0 := by unfold sureO; rw [onH]; decide
theorem c21 (w : World) (hv : Nv w) : Calls Tryz.prog 21 #[] w (RetV w (.bool true)) := by
  refine enter (args := []) Tryz.func21 rfl Tryz.ntmps21 rfl (SH.refl _) ?_
  repeat' (first | refine rn ?_ | (refine zb ?_; intro _ _) | (refine za ?_; intro _ _) | (refine zs ?_; intro _ _))
  refine TL_callV rfl rfl rfl (fun w h => c30 700 710 w) ?_
  repeat' (first | refine rn ?_ | (refine zb ?_; intro _ _) | (refine za ?_; intro _ _) | (refine zs ?_; intro _ _))
  refine TL_callV rfl rfl rfl (fun w h => c30 1000 1000 w) ?_
  repeat' (first | refine rn ?_ | (refine zb ?_; intro _ _) | (refine za ?_; intro _ _) | (refine zs ?_; intro _ _))
  rename_i bm _ bk _ bt _
  refine TL_callV rfl rfl rfl (fun w h => c23 (ckH bm) 3 [tgH] (some ⟨bt, 0, none⟩) 1 (by decide) w (Sl.of_blk (enc := encTg) (k := 5) (l := [tgH]) h (List.Mem.head _) (fun _ _ => rfl) ⟨[], rfl⟩) ⟨Sl.of_blk (enc := encSp) (k := 2) (l := [(700, 710)]) h mm (fun _ _ => rfl) ⟨[], rfl⟩, Sl.nil _ _ _ _, (by decide : (1 : Nat) ≤ 4611686018427387904), (by decide : (0 : Nat) ≤ 4611686018427387904)⟩ (hv.mono h.below)) ?_
  rw [allH]
  repeat' (first | refine rn ?_ | (refine zb ?_; intro _ _) | (refine za ?_; intro _ _) | (refine zs ?_; intro _ _))
  rename_i b2 _ bu _
  refine TL_callN rfl rfl rfl (fun w h => c25 tuH (some ⟨bu, 0, none⟩) 2 (700, 710) (by decide) (by decide) ?_ (by decide) w (Sl.of_blk (enc := encSp) (k := 2) (l := tuH) h (List.Mem.head _) (fun _ _ => rfl) ⟨[], rfl⟩)) ?_
  · intro j x hx
    match j, hx with
    | 0, hx => simp [tuH] at hx; subst hx; decide
    | 1, hx => simp [tuH] at hx; subst hx; decide
  rintro ⟨n, mo, mc, mob⟩ ⟨hrow, hle, hnb, hbrk⟩
  dsimp only at hrow hle hnb hbrk ⊢
  rw [onH] at hle hnb hbrk
  obtain rfl : n = 1 := by
    have h2 : tuH.length = 2 := rfl
    rcases Nat.lt_trichotomy n 1 with h | h | h
    · have : n = 0 := by omega
      subst this
      exact absurd (hbrk (0, 720) rfl) (by unfold brkO; decide)
    · exact h
    · exact absurd (show brkO (700, 710) (720, 1440) by unfold brkO; decide) (hnb 1 (720, 1440) h rfl)
  rw [suH]
  repeat' (first | refine rn ?_ | (refine zb ?_; intro _ _) | (refine za ?_; intro _ _) | (refine zs ?_; intro _ _))
  refine TL_callN rfl rfl rfl (fun w h => c60 w) ?_
  rintro bh _
  repeat' (first | refine rn ?_ | (refine zb ?_; intro _ _) | (refine za ?_; intro _ _) | (refine zs ?_; intro _ _))
  rename_i bd _
  refine TL_callV rfl rfl rfl (fun w h => c13g (haR bh) [ddH] (some ⟨bd, 0, none⟩) 1 3 705 w (Sl.of_blk (enc := encHo) (k := 3) (l := haL) h mm (fun _ _ => rfl) ⟨[], by simp⟩) (by decide : (2 : Nat) ≤ 4611686018427387904) ⟨Sl.of_blk (enc := encDd) (k := 9) (l := [ddH]) h (List.Mem.head _) (fun _ _ => rfl) ⟨[], rfl⟩, fun x hx => by rw [List.mem_singleton.1 hx]; exact Sl.nil _ _ _ _, by unfold Small; decide, fun x hx => by rw [List.mem_singleton.1 hx]; unfold Small; decide⟩) ?_
  rw [atH]
  repeat' (first | refine rn ?_ | (refine zb ?_; intro _ _) | (refine za ?_; intro _ _) | (refine zs ?_; intro _ _))
  have hm0 : mayO tuH (700, 710) 1 = [0] := by unfold mayO; rw [onH]; rfl
  rw [hm0] at hrow
  apply TC_draw 41; kernel_rfl; exact Tryz.mixed
  · (refine' PG.val rfl rfl (by intro _X; refine TL_callV rfl rfl rfl (fun w h => c61 w) ?_; exact qe) ?_; rotate_left)
    (refine' pv ?_; rotate_left)
    iterate 2 (refine' pg ?_; rotate_left)
    iterate 2 (refine' pv ?_; rotate_left)
    (refine' pg ?_; rotate_left)
    (refine' PG.val rfl rfl (by intro _X; (refine TL_guard_yes rfl rfl rfl ?_); refine TL_callV rfl rfl rfl (fun w h => c30 700 710 w) ?_; exact qe) ?_; rotate_left)
    (refine' pg ?_; rotate_left)
    iterate 2 (refine' pv ?_; rotate_left)
    iterate 2 (refine' pg ?_; rotate_left)
    iterate 2 (refine' pv ?_; rotate_left)
    iterate 3 (refine' pg ?_; rotate_left)
    iterate 2 (refine' pv ?_; rotate_left)
    (refine' pg ?_; rotate_left)
    (refine' PG.val rfl rfl (by intro _X; (refine TL_guard_yes rfl rfl rfl ?_); refine TL_index 0 rfl rfl rfl (fun w h => hrow.sl h (fun p hp => by repeat (first | exact hp | exact List.mem_append_left _ hp | apply List.mem_cons_of_mem | apply List.mem_append_right))) rfl (by decide) (by decide) ?_; exact qe) ?_; rotate_left)
    (refine' PG.val rfl rfl (by intro _X; (refine TL_guard_yes rfl rfl rfl ?_); refine TL_load_el1 (u := (0 : Int)) rfl rfl (fun w h => hrow.sl h (fun p hp => by repeat (first | exact hp | exact List.mem_append_left _ hp | apply List.mem_cons_of_mem | apply List.mem_append_right))) rfl rfl ?_; exact qe) ?_; rotate_left)
    (refine' pg ?_; rotate_left)
    iterate 2 (refine' pv ?_; rotate_left)
    iterate 2 (refine' pg ?_; rotate_left)
    iterate 2 (refine' pv ?_; rotate_left)
    iterate 2 (refine' pg ?_; rotate_left)
    iterate 2 (refine' pv ?_; rotate_left)
    iterate 2 (refine' pg ?_; rotate_left)
    iterate 2 (refine' pv ?_; rotate_left)
    iterate 2 (refine' pg ?_; rotate_left)
    (refine' pv ?_; rotate_left)
    exact PG.nil
  change TL _ _ _ _ _ _ _ _ _ _ _
  repeat' (first | refine rn ?_ | (refine zb ?_; intro _ _) | (refine za ?_; intro _ _) | (refine zs ?_; intro _ _))
  exact TQ_ret1 Tryz.results21 (RV.tmp rfl) (fun w' hs => ⟨rfl, hs.below⟩)
end Go.Proofs.YtkpkebpofpcmaaaGreatDoor

namespace Go.Proofs.YtkpkebpofpcmaaaGreatDoor
open Go Go.Eng Go.RowKit Go.Proofs
set_option maxHeartbeats 4000000
set_option maxRecDepth 10000
attribute [local irreducible] TL TC TQ

theorem c20 (n : Nt) (hn : OkNt n) (f : Sp) (hf : Ord f 0 13000000) (l : List Us) (ao : Option Addr) (c : Nat) (h60 : l.length ≤ 60) (hr : rightP n 0 l) (w : World) (hnc : Sl w 5 encCn n.cao n.canals) (hnf : Sl w 1 encI n.fao n.fields) (hl : Sl w 3 encUs ao l) :
    Calls Tryz.prog 20 #[.agg (encNt n).toArray, .agg (encSp f).toArray, .slice ao l.length c] w (RetP w.heap.size w (fun q : Nat × Nat × List Value × List Value × List Sp × List Sp => .tuple #[.slice (some ⟨q.1, 0, none⟩) n.fields.length n.fields.length, .slice (some ⟨q.2.1, 0, none⟩) n.canals.length n.canals.length, .int .i64 0]) (fun q => [(q.2.1, .cells q.2.2.2.1 25), (q.1, .cells q.2.2.1 25)])
      (fun q => Row 25 2 encSp (some ⟨q.1, 0, none⟩) n.fields.length [(q.1, .cells q.2.2.1 25)] q.2.2.2.2.1 ∧ Row 25 2 encSp (some ⟨q.2.1, 0, none⟩) n.canals.length [(q.2.1, .cells q.2.2.2.1 25)] q.2.2.2.2.2 ∧ q.2.2.2.2.1.length = n.fields.length ∧ q.2.2.2.2.2.length = n.canals.length ∧ ∃ dls : List (List Int), dls.length = l.length ∧ (q.2.2.2.2.1, q.2.2.2.2.2) = watW n f l dls)) := by
  refine enter (args := [.agg (encNt n).toArray, .agg (encSp f).toArray, .slice ao l.length c]) Tryz.func20 rfl Tryz.ntmps20 rfl (SH.refl _) ?_
  repeat' (first | refine rn ?_ | (refine zb ?_; intro _ _) | (refine za ?_; intro _ _) | (refine zs ?_; intro _ _))
  refine TL_callV rfl rfl rfl (fun w h => c49 n hn f hf w (h.sl hnc) (h.sl hnf)) ?_
  repeat' (first | refine rn ?_ | (refine zb ?_; intro _ _) | (refine za ?_; intro _ _) | (refine zs ?_; intro _ _))
  refine TL_callV rfl rfl rfl (fun w h => c58 n hn l ao c h60 hr w (h.sl hl)) ?_
  repeat' (first | refine rn ?_ | (refine zb ?_; intro _ _) | (refine za ?_; intro _ _) | (refine zs ?_; intro _ _))
  refine TL_callN rfl rfl rfl (fun w h => c59 n hn f hf l ao c h60 hr w (h.sl hnc) (h.sl hnf) (h.sl hl)) ?_
  rintro ⟨bF, bL, cF, cL, F, L⟩ hq
  dsimp only at hq ⊢
  repeat' (first | refine rn ?_ | (refine zb ?_; intro _ _) | (refine za ?_; intro _ _) | (refine zs ?_; intro _ _))
  exact TQ_ret3 Tryz.results20 (RV.tmp rfl) (RV.tmp rfl) (RV.tmp rfl) (fun w' hs => ⟨(bF, bL, cF, cL, F, L), hq, rfl, hs.sub (List.Sublist.cons_cons _ (List.Sublist.cons_cons _ (List.nil_sublist _)))⟩)
/-- The least at which a function says yes. -/
structure FirstR (hi : Int) (so : Int → Bool) (r : Int) : Prop where
  r0 : 0 ≤ r
  r1 : r ≤ hi + 1
  yes : r ≤ hi → so r = true
  no : r ≠ 0 → so (r - 1) = false
/-- The least that comes of v where all canals are dry. -/
def loW (n : Nt) : List Int → Int → Int
  | [], v => v
  | c :: cs, v => loW n cs (goesM (workM (cnAt n c) true) (v, v)).1
structure MinR (w : World) (n : Nt) (f : Sp) (want : Int) (b5 b12 b4 b7 : Nat) (po : Option Addr) (pc : Nat) (path : List Int) : Prop where
  hf : Sl w 2 encSp (some ⟨b5, 0, none⟩) [f]
  hp : Sl w 1 slV (some ⟨b12, 0, none⟩) [.slice po path.length pc]
  hn : Sl w 4 encNt (some ⟨b4, 0, none⟩) [n]
  hw : Sl w 1 encI (some ⟨b7, 0, none⟩) [want]
  hl : Sl w 1 encI po path
  hc : Sl w 5 encCn n.cao n.canals
def soM (n : Nt) (f : Sp) (i : Nat) (want : Int) (m : Int) : Bool := decide (want ≤ loW n (pathM n i) (f.1 * m))
/-- What Minutes tells. -/
def MinP (n : Nt) (f : Sp) (i : Nat) (want : Int) (q : Int × Int) : Prop := q = (0, 6) ∨ (q.2 = 0 ∧ 0 ≤ q.1 ∧ q.1 ≤ n.days * 1440 ∧ soM n f i want q.1 = true ∧ (q.1 ≠ 0 → soM n f i want (q.1 - 1) = false))
def pipeN (b1 b2 : Nat) : Nt := ⟨[cn0], [1], 0, 1, some ⟨b1, 0, none⟩, 1, some ⟨b2, 0, none⟩, 1⟩
theorem pipe_ok (b1 b2 : Nat) : OkNt (pipeN b1 b2) := by
  refine ⟨by show 1 ≤ 16; omega, by show 1 ≤ 12; omega, ⟨show (0 : Int) ≤ 0 by decide, show (0 : Int) ≤ 23040 by decide⟩, ⟨show (1 : Int) ≤ 1 by decide, show (1 : Int) ≤ 16 by decide⟩, fun i c h => ?_, fun x hx => ?_, by show [(1 : Int)].Nodup; simp⟩
  · have h' : [cn0][i]? = some c := h
    cases i with
    | zero => simp at h'; subst h'; exact ⟨⟨by decide, by decide⟩, ⟨by decide, by decide, by decide⟩, ⟨by decide, by decide, by decide⟩⟩
    | succ i => simp at h'
  · have : x ∈ [(1 : Int)] := hx
    rw [List.mem_singleton.1 this]; exact ⟨by decide, show (1 : Int) ≤ 1 by decide⟩
theorem c44 (w : World) : Calls Tryz.prog 44 #[] w (RetP w.heap.size w (fun q : Nat × Nat => .agg (encNt (pipeN q.1 q.2)).toArray) (fun q => [(q.2, .cells [.int .i64 1] 3), (q.1, .cells (encCn cn0) 87)]) (fun _ => True)) := by
  refine enter (args := []) Tryz.func44 rfl Tryz.ntmps44 rfl (SH.refl _) ?_
  repeat' (first | refine rn ?_ | (refine zb ?_; intro _ _) | (refine za ?_; intro _ _) | (refine zs ?_; intro _ _))
  refine TL_makeSliceOne rfl rfl rfl (by rfl) (by decide) (fun b1 _ => ?_)
  repeat' (first | refine rn ?_ | (refine zb ?_; intro _ _) | (refine za ?_; intro _ _) | (refine zs ?_; intro _ _))
  rename_i b2 _
  exact TQ_ret1 Tryz.results44 (RV.celln rfl mm (by rfl)) (fun w' hs => ⟨(b1, b2), trivial, rfl, hs.sub su⟩)
end Go.Proofs.YtkpkebpofpcmaaaGreatDoor
