/- Walks: the reference's table, closed. -/
import Derived.Test.YtoolblbdmmiahaaL8
namespace Go.Proofs.Ytoolblbdmmiahaa
open Go Go.Eng Go.RowKit Go.Proofs
set_option maxHeartbeats 4000000
set_option maxRecDepth 10000
attribute [local irreducible] TL TC TQ

def enc1 (v : Value) : List Value := [v]
/-- The slices of the rows laid so far, and nil ones. -/
def ocells (W : Nat) (bs : List Nat) (m : Nat) : List Value := bs.map (fun b => Value.slice (some ⟨b, 0, none⟩) W W) ++ List.replicate m (.slice none 0 0)
theorem flat1 (l : List Value) : l = l.flatMap enc1 ++ [] := by
  rw [List.append_nil]
  induction l with
  | nil => rfl
  | cons a l ih => rw [List.flatMap_cons, ← ih]; rfl
theorem oc_get {W : Nat} {bs : List Nat} {m i b : Nat} (h : bs[i]? = some b) : (ocells W bs m)[i]? = some (.slice (some ⟨b, 0, none⟩) W W) := by
  unfold ocells
  rw [List.getElem?_append_left (by simpa using (List.getElem?_eq_some_iff.1 h).1), List.getElem?_map, h]; rfl
theorem oc_len (W : Nat) (bs : List Nat) (m : Nat) : (ocells W bs m).length = bs.length + m := by simp [ocells]
theorem oc_put {W : Nat} {bs : List Nat} {m i b : Nat} (h : bs.length = i) {q : Nat} (hq : q = i) : putN q [.slice (some ⟨b, 0, none⟩) W W] (ocells W bs (m + 1)) = some (ocells W (bs ++ [b]) m) := by
  subst hq h
  rw [putN1 _ (by rw [oc_len]; omega)]
  congr 1
  unfold ocells
  rw [List.set_append_right _ _ (by simp), List.length_map, Nat.sub_self, List.replicate_succ, List.set_cons_zero, List.map_append, List.append_assoc]
  rfl
theorem ocSl {B : Nat} {w0 w : World} {H : Hp} {bo W : Nat} {bs : List Nat} {m : Nat} (h : SH B w0 w H) (hm : (bo, Blk.cells (ocells W bs m) 46) ∈ H) : Sl w 1 enc1 (some ⟨bo, 0, none⟩) (ocells W bs m) :=
  Sl.of_blk h hm (fun _ _ => rfl) ⟨[], flat1 _⟩
theorem rds_span {S : Sv} (hS : OkSv S) : ∀ x ∈ rds S, -20000000 ≤ x.2.2.1 ∧ x.2.2.2 ≤ 20000000 ∧ x.2.2.1 ≤ x.2.2.2 := by
  obtain ⟨_, _, _, _, h5, h6, _⟩ := hS
  intro x hx
  rcases List.mem_append.1 hx with h | h
  · obtain ⟨y, hy, rfl⟩ := List.mem_map.1 h
    have := (h5 y hy).2
    simp only [Ord] at this
    dsimp only; omega
  · obtain ⟨y, hy, rfl⟩ := List.mem_map.1 h
    have := (h6 y hy).2
    simp only [Ord] at this
    dsimp only; omega
theorem c46 (S : Sv) (p : Pl) (hS : OkSv S) (o : Nat → Bool) (ao : Option Addr) (cc : Nat) (wd : Int) (hwd : 0 ≤ wd ∧ wd ≤ 40000000) (w : World) (ha : SvAt w S p) (hcn : Sl w 1 encB1 ao (cntL (S.shots.length + S.marks.length) (fun i => !o i))) :
    Calls Try.prog 46 #[.agg (encSv S p).toArray, .slice ao (S.shots.length + S.marks.length) cc, .int .i64 wd] w
      (RetP w.heap.size w (fun q : Option (Nat × List Nat) => .tuple #[(match q with | some q => .slice (some ⟨q.1, 0, none⟩) (S.pts.toNat + 1) (S.pts.toNat + 1) | none => .slice none 0 0), .bool (solveR S o wd).2])
        (fun q => match q with | some q => (q.1, .cells (ocells (S.pts.toNat + 1) q.2 0) 46) :: rowsH 3 (S.pts.toNat + 1) (solveR S o wd).1 q.2 0 | none => [])
        (fun q => (q.isSome = true ↔ (solveR S o wd).2 = true) ∧ ∀ x, q = some x → x.2.length = S.pts.toNat + 1)) := by
  have hp := hS.1
  simp only [In] at hp
  have hl1 := hS.2.1
  have hl2 := hS.2.2.1
  have hBT0 : BT (rdT S o wd (rds S).length) 20000000 := by rw [← fold_bds hS o wd]; exact fold_B (fun b hb => (bds_ok hS hwd b hb).2.2.1) init_B
  have hdiag := diag_rdT hS o wd (rds S).length
  have hsolve : solveR S o wd = fwAll (S.pts.toNat + 1) (S.pts.toNat + 1) (rdT S o wd (rds S).length) := rfl
  have hrl : (rds S).length = S.shots.length + S.marks.length := by simp [rds]
  obtain ⟨n, hn⟩ : ∃ n, n = S.pts.toNat := ⟨_, rfl⟩
  have hpn : S.pts = (n : Int) := by omega
  obtain ⟨W, hW⟩ : ∃ W, W = n + 1 := ⟨_, rfl⟩
  rw [← hn, ← hW] at hsolve ⊢
  refine enter (args := [.agg (encSv S p).toArray, .slice ao (S.shots.length + S.marks.length) cc, .int .i64 wd]) Try.func46 rfl Try.ntmps46 rfl (SH.refl _) ?_
  repeat' (first | refine rn ?_ | (apply TL_box; exact rfl; exact rfl; exact rfl; intro _ _) | (apply TL_alloc; exact rfl; intro _ _) | (apply TL_buildSlice; exact rfl; exact rfl; exact rfl; exact rfl; exact rfl; intro _ _))
  rename_i b3 _
  refine TL_makeSlice1 W (v0 := .slice none 0 0) rfl rfl rfl (by omega) (by omega) (by omega) (by omega) (by kernel_rfl) rfl (fun bo _ => ?_)
  repeat' (first | refine rn ?_ | (apply TL_box; exact rfl; exact rfl; exact rfl; intro _ _) | (apply TL_alloc; exact rfl; intro _ _) | (apply TL_buildSlice; exact rfl; exact rfl; exact rfl; exact rfl; exact rfl; intro _ _))
  refine TC_loop (σ := Nat × List Nat) (fun q => q.1 ≤ W ∧ q.2.length = q.1) (fun q => [(1, .slice ao (S.shots.length + S.marks.length) cc), (2, .int .i64 wd), (3, .pointer (some ⟨b3, 0, none⟩)), (8, .int .i64 S.pts), (9, .slice (some ⟨bo, 0, none⟩) W W), (10, .int .i64 q.1)]) (fun q => (b3, .cells (encSv S p) 26) :: (bo, .cells (ocells W (q.2) (W - q.1)) 46) :: rowsH 3 W (sK n q.1 0) (q.2) 0) (fun q => W - q.1) (0, []) ⟨Nat.zero_le _, rfl⟩ sb (fun w h => h.perm (List.Perm.swap _ _ _)) (fun q hq => ?_)
  obtain ⟨i, bs⟩ := q
  obtain ⟨hi, hbl⟩ := hq
  dsimp only at hi hbl ⊢
  repeat' (first | refine rn ?_ | (apply TL_box; exact rfl; exact rfl; exact rfl; intro _ _) | (apply TL_alloc; exact rfl; intro _ _) | (apply TL_buildSlice; exact rfl; exact rfl; exact rfl; exact rfl; exact rfl; intro _ _))
  refine TC_cond_dec rfl (fun g1 => ?_) (fun g1 => ?_)
  · have hlt : i < W := by omega
    obtain ⟨m, hm⟩ : ∃ m, W - i = m + 1 := ⟨W - i - 1, by omega⟩
    rw [hm]
    repeat' (first | refine rn ?_ | (apply TL_box; exact rfl; exact rfl; exact rfl; intro _ _) | (apply TL_alloc; exact rfl; intro _ _) | (apply TL_buildSlice; exact rfl; exact rfl; exact rfl; exact rfl; exact rfl; intro _ _))
    refine TL_makeSlice1 W (v0 := .int .i64 0) rfl rfl rfl (by omega) (by omega) (by omega) (by omega) (by kernel_rfl) rfl (fun b' _ => ?_)
    refine TL_index (i) rfl rfl rfl (fun w h => ocSl (m := m + 1) (bs := bs) h (by repeat (first | exact List.mem_cons_self | apply List.mem_cons_of_mem | apply List.mem_append_right))) rfl (by rw [oc_len]; omega) (by rw [oc_len]; omega) ?_
    refine TL_store rfl rfl rfl rfl rfl (by repeat (first | exact Upd.head | apply Upd.tail)) (oc_put (m := m) hbl (by simp)) ?_
    repeat' (first | refine rn ?_ | (apply TL_box; exact rfl; exact rfl; exact rfl; intro _ _) | (apply TL_alloc; exact rfl; intro _ _) | (apply TL_buildSlice; exact rfl; exact rfl; exact rfl; exact rfl; exact rfl; intro _ _))
    obtain ⟨bs', hbs'⟩ : ∃ bs', bs' = bs ++ [b'] := ⟨_, rfl⟩
    have hb : bs'[i]? = some b' := by rw [hbs', List.getElem?_append_right (by omega), hbl, Nat.sub_self]; rfl
    have hbl' : bs'.length = i + 1 := by rw [hbs']; simp [hbl]
    refine TC_loop (σ := Nat) (fun k => k ≤ W) (fun k => [(1, .slice ao (S.shots.length + S.marks.length) cc), (2, .int .i64 wd), (3, .pointer (some ⟨b3, 0, none⟩)), (8, .int .i64 S.pts), (9, .slice (some ⟨bo, 0, none⟩) W W), (10, .int .i64 i), (11, .int .i64 k)]) (fun k => (b3, .cells (encSv S p) 26) :: (bo, .cells (ocells W (bs') (m)) 46) :: rowsH 3 W (sK n i k) (bs') 0) (fun k => W - k) 0 (Nat.zero_le _) sb (fun w h => ?_) (fun k hk => ?_)
    · rw [hbs', rowsH_snoc, Nat.zero_add, hbl]
      have e : encRw W (sK n i 0) i = List.replicate W (Value.int .i64 0) := by
        unfold encRw
        have : (fun k => Value.int .i64 (sK n i 0 i k)) = fun _ => Value.int .i64 0 := by
          funext k; unfold sK; rw [if_neg (by omega)]
        rw [this, List.map_const', List.length_range]
      rw [e]
      refine h.perm ?_
      refine List.Perm.trans (List.Perm.cons _ (List.Perm.cons _ (List.perm_append_comm (l₂ := [_])))) ?_
      exact (List.Perm.cons _ (List.Perm.swap _ _ _)).trans (List.Perm.swap _ _ _)
    clear hbs'
    repeat' (first | refine rn ?_ | (apply TL_box; exact rfl; exact rfl; exact rfl; intro _ _) | (apply TL_alloc; exact rfl; intro _ _) | (apply TL_buildSlice; exact rfl; exact rfl; exact rfl; exact rfl; exact rfl; intro _ _))
    refine TC_cond_dec rfl (fun g2 => ?_) (fun g2 => ?_)
    · have hlk : k < W := by omega
      have e : ∀ v, v = base n i k → updT (sK n i k) i k v = sK n i (k + 1) := fun v hv => by rw [hv]; exact sK_upd n i k
      repeat' (first | refine rn ?_ | (apply TL_box; exact rfl; exact rfl; exact rfl; intro _ _) | (apply TL_alloc; exact rfl; intro _ _) | (apply TL_buildSlice; exact rfl; exact rfl; exact rfl; exact rfl; exact rfl; intro _ _))
      refine TL_index (i) rfl rfl rfl (fun w h => ocSl (m := m) (bs := bs') h (by repeat (first | exact List.mem_cons_self | apply List.mem_cons_of_mem | apply List.mem_append_right))) rfl (by rw [oc_len]; omega) (by rw [oc_len]; omega) ?_
      refine TL_load_el1 rfl rfl (fun w h => ocSl (m := m) (bs := bs') h (by repeat (first | exact List.mem_cons_self | apply List.mem_cons_of_mem | apply List.mem_append_right))) (oc_get hb) rfl ?_
      repeat' (first | refine rn ?_ | (apply TL_box; exact rfl; exact rfl; exact rfl; intro _ _) | (apply TL_alloc; exact rfl; intro _ _) | (apply TL_buildSlice; exact rfl; exact rfl; exact rfl; exact rfl; exact rfl; intro _ _))
      refine TL_index (k) rfl rfl rfl (fun w h => rowSl (i := i) (T := (sK n i k)) h (by repeat (first | exact rowsH_mem0 hb | apply List.mem_cons_of_mem | apply List.mem_append_right))) rfl (by rw [rowL_len]; omega) (by rw [rowL_len]; exact Nat.le_refl _) ?_
      refine TL_store rfl rfl rfl rfl rfl (by repeat (first | exact rowsH_upd0 hb | apply Upd.tail | apply Upd.right)) (encRw_put (m := W) (i := i) (k := k) ((sK n i k)) (by omega) 20000000 (by simp)) ?_
      repeat' (first | refine rn ?_ | (apply TL_box; exact rfl; exact rfl; exact rfl; intro _ _) | (apply TL_alloc; exact rfl; intro _ _) | (apply TL_buildSlice; exact rfl; exact rfl; exact rfl; exact rfl; exact rfl; intro _ _))
      refine TL_gsplit_dec rfl rfl (fun c1 => ?_) (fun c1 => ?_)
      · repeat' (first | refine rn ?_ | (apply TL_box; exact rfl; exact rfl; exact rfl; intro _ _) | (apply TL_alloc; exact rfl; intro _ _) | (apply TL_buildSlice; exact rfl; exact rfl; exact rfl; exact rfl; exact rfl; intro _ _))
        refine TL_index (i) rfl rfl rfl (fun w h => ocSl (m := m) (bs := bs') h (by repeat (first | exact List.mem_cons_self | apply List.mem_cons_of_mem | apply List.mem_append_right))) rfl (by rw [oc_len]; omega) (by rw [oc_len]; omega) ?_
        refine TL_load_el1 rfl rfl (fun w h => ocSl (m := m) (bs := bs') h (by repeat (first | exact List.mem_cons_self | apply List.mem_cons_of_mem | apply List.mem_append_right))) (oc_get hb) rfl ?_
        repeat' (first | refine rn ?_ | (apply TL_box; exact rfl; exact rfl; exact rfl; intro _ _) | (apply TL_alloc; exact rfl; intro _ _) | (apply TL_buildSlice; exact rfl; exact rfl; exact rfl; exact rfl; exact rfl; intro _ _))
        refine TL_index (k) rfl rfl rfl (fun w h => rowSl (i := i) (T := (updT (sK n i k) i k 20000000)) h (by repeat (first | exact rowsH_mem0 hb | apply List.mem_cons_of_mem | apply List.mem_append_right))) rfl (by rw [rowL_len]; omega) (by rw [rowL_len]; exact Nat.le_refl _) ?_
        refine TL_store rfl rfl rfl rfl rfl (by repeat (first | exact rowsH_upd0 hb | apply Upd.tail | apply Upd.right)) (encRw_put (m := W) (i := i) (k := k) ((updT (sK n i k) i k 20000000)) (by omega) 10000000 (by simp)) ?_
        rw [updT_twice]
        repeat' (first | refine rn ?_ | (apply TL_box; exact rfl; exact rfl; exact rfl; intro _ _) | (apply TL_alloc; exact rfl; intro _ _) | (apply TL_buildSlice; exact rfl; exact rfl; exact rfl; exact rfl; exact rfl; intro _ _))
        refine TC_cond_dec rfl (fun c3 => ?_) (fun c3 => ?_)
        · repeat' (first | refine rn ?_ | (apply TL_box; exact rfl; exact rfl; exact rfl; intro _ _) | (apply TL_alloc; exact rfl; intro _ _) | (apply TL_buildSlice; exact rfl; exact rfl; exact rfl; exact rfl; exact rfl; intro _ _))
          refine TL_index (i) rfl rfl rfl (fun w h => ocSl (m := m) (bs := bs') h (by repeat (first | exact List.mem_cons_self | apply List.mem_cons_of_mem | apply List.mem_append_right))) rfl (by rw [oc_len]; omega) (by rw [oc_len]; omega) ?_
          refine TL_load_el1 rfl rfl (fun w h => ocSl (m := m) (bs := bs') h (by repeat (first | exact List.mem_cons_self | apply List.mem_cons_of_mem | apply List.mem_append_right))) (oc_get hb) rfl ?_
          repeat' (first | refine rn ?_ | (apply TL_box; exact rfl; exact rfl; exact rfl; intro _ _) | (apply TL_alloc; exact rfl; intro _ _) | (apply TL_buildSlice; exact rfl; exact rfl; exact rfl; exact rfl; exact rfl; intro _ _))
          refine TL_index (k) rfl rfl rfl (fun w h => rowSl (i := i) (T := (updT (sK n i k) i k 10000000)) h (by repeat (first | exact rowsH_mem0 hb | apply List.mem_cons_of_mem | apply List.mem_append_right))) rfl (by rw [rowL_len]; omega) (by rw [rowL_len]; exact Nat.le_refl _) ?_
          refine TL_store rfl rfl rfl rfl rfl (by repeat (first | exact rowsH_upd0 hb | apply Upd.tail | apply Upd.right)) (encRw_put (m := W) (i := i) (k := k) ((updT (sK n i k) i k 10000000)) (by omega) 0 (by simp)) ?_
          rw [updT_twice, e 0 (by unfold base; rw [if_pos (by omega)])]
          repeat' (first | refine rn ?_ | (apply TL_box; exact rfl; exact rfl; exact rfl; intro _ _) | (apply TL_alloc; exact rfl; intro _ _) | (apply TL_buildSlice; exact rfl; exact rfl; exact rfl; exact rfl; exact rfl; intro _ _))
          refine TQ_round (k + 1) hlk (by omega) sb (fun w h => h)
        · rw [e 10000000 (by unfold base; rw [if_neg (by omega), if_pos (by omega)])]
          repeat' (first | refine rn ?_ | (apply TL_box; exact rfl; exact rfl; exact rfl; intro _ _) | (apply TL_alloc; exact rfl; intro _ _) | (apply TL_buildSlice; exact rfl; exact rfl; exact rfl; exact rfl; exact rfl; intro _ _))
          refine TQ_round (k + 1) hlk (by omega) sb (fun w h => h)
      · repeat' (first | refine rn ?_ | (apply TL_box; exact rfl; exact rfl; exact rfl; intro _ _) | (apply TL_alloc; exact rfl; intro _ _) | (apply TL_buildSlice; exact rfl; exact rfl; exact rfl; exact rfl; exact rfl; intro _ _))
        refine TC_cond_dec rfl (fun c2 => ?_) (fun c2 => ?_)
        · repeat' (first | refine rn ?_ | (apply TL_box; exact rfl; exact rfl; exact rfl; intro _ _) | (apply TL_alloc; exact rfl; intro _ _) | (apply TL_buildSlice; exact rfl; exact rfl; exact rfl; exact rfl; exact rfl; intro _ _))
          refine TL_index (i) rfl rfl rfl (fun w h => ocSl (m := m) (bs := bs') h (by repeat (first | exact List.mem_cons_self | apply List.mem_cons_of_mem | apply List.mem_append_right))) rfl (by rw [oc_len]; omega) (by rw [oc_len]; omega) ?_
          refine TL_load_el1 rfl rfl (fun w h => ocSl (m := m) (bs := bs') h (by repeat (first | exact List.mem_cons_self | apply List.mem_cons_of_mem | apply List.mem_append_right))) (oc_get hb) rfl ?_
          repeat' (first | refine rn ?_ | (apply TL_box; exact rfl; exact rfl; exact rfl; intro _ _) | (apply TL_alloc; exact rfl; intro _ _) | (apply TL_buildSlice; exact rfl; exact rfl; exact rfl; exact rfl; exact rfl; intro _ _))
          refine TL_index (k) rfl rfl rfl (fun w h => rowSl (i := i) (T := (updT (sK n i k) i k 20000000)) h (by repeat (first | exact rowsH_mem0 hb | apply List.mem_cons_of_mem | apply List.mem_append_right))) rfl (by rw [rowL_len]; omega) (by rw [rowL_len]; exact Nat.le_refl _) ?_
          refine TL_store rfl rfl rfl rfl rfl (by repeat (first | exact rowsH_upd0 hb | apply Upd.tail | apply Upd.right)) (encRw_put (m := W) (i := i) (k := k) ((updT (sK n i k) i k 20000000)) (by omega) 10000000 (by simp)) ?_
          rw [updT_twice]
          repeat' (first | refine rn ?_ | (apply TL_box; exact rfl; exact rfl; exact rfl; intro _ _) | (apply TL_alloc; exact rfl; intro _ _) | (apply TL_buildSlice; exact rfl; exact rfl; exact rfl; exact rfl; exact rfl; intro _ _))
          refine TC_cond_dec rfl (fun c3 => ?_) (fun c3 => ?_)
          · repeat' (first | refine rn ?_ | (apply TL_box; exact rfl; exact rfl; exact rfl; intro _ _) | (apply TL_alloc; exact rfl; intro _ _) | (apply TL_buildSlice; exact rfl; exact rfl; exact rfl; exact rfl; exact rfl; intro _ _))
            refine TL_index (i) rfl rfl rfl (fun w h => ocSl (m := m) (bs := bs') h (by repeat (first | exact List.mem_cons_self | apply List.mem_cons_of_mem | apply List.mem_append_right))) rfl (by rw [oc_len]; omega) (by rw [oc_len]; omega) ?_
            refine TL_load_el1 rfl rfl (fun w h => ocSl (m := m) (bs := bs') h (by repeat (first | exact List.mem_cons_self | apply List.mem_cons_of_mem | apply List.mem_append_right))) (oc_get hb) rfl ?_
            repeat' (first | refine rn ?_ | (apply TL_box; exact rfl; exact rfl; exact rfl; intro _ _) | (apply TL_alloc; exact rfl; intro _ _) | (apply TL_buildSlice; exact rfl; exact rfl; exact rfl; exact rfl; exact rfl; intro _ _))
            refine TL_index (k) rfl rfl rfl (fun w h => rowSl (i := i) (T := (updT (sK n i k) i k 10000000)) h (by repeat (first | exact rowsH_mem0 hb | apply List.mem_cons_of_mem | apply List.mem_append_right))) rfl (by rw [rowL_len]; omega) (by rw [rowL_len]; exact Nat.le_refl _) ?_
            refine TL_store rfl rfl rfl rfl rfl (by repeat (first | exact rowsH_upd0 hb | apply Upd.tail | apply Upd.right)) (encRw_put (m := W) (i := i) (k := k) ((updT (sK n i k) i k 10000000)) (by omega) 0 (by simp)) ?_
            rw [updT_twice, e 0 (by unfold base; rw [if_pos (by omega)])]
            repeat' (first | refine rn ?_ | (apply TL_box; exact rfl; exact rfl; exact rfl; intro _ _) | (apply TL_alloc; exact rfl; intro _ _) | (apply TL_buildSlice; exact rfl; exact rfl; exact rfl; exact rfl; exact rfl; intro _ _))
            refine TQ_round (k + 1) hlk (by omega) sb (fun w h => h)
          · rw [e 10000000 (by unfold base; rw [if_neg (by omega), if_pos (by omega)])]
            repeat' (first | refine rn ?_ | (apply TL_box; exact rfl; exact rfl; exact rfl; intro _ _) | (apply TL_alloc; exact rfl; intro _ _) | (apply TL_buildSlice; exact rfl; exact rfl; exact rfl; exact rfl; exact rfl; intro _ _))
            refine TQ_round (k + 1) hlk (by omega) sb (fun w h => h)
        · repeat' (first | refine rn ?_ | (apply TL_box; exact rfl; exact rfl; exact rfl; intro _ _) | (apply TL_alloc; exact rfl; intro _ _) | (apply TL_buildSlice; exact rfl; exact rfl; exact rfl; exact rfl; exact rfl; intro _ _))
          refine TC_cond_dec rfl (fun c3 => ?_) (fun c3 => ?_)
          · repeat' (first | refine rn ?_ | (apply TL_box; exact rfl; exact rfl; exact rfl; intro _ _) | (apply TL_alloc; exact rfl; intro _ _) | (apply TL_buildSlice; exact rfl; exact rfl; exact rfl; exact rfl; exact rfl; intro _ _))
            refine TL_index (i) rfl rfl rfl (fun w h => ocSl (m := m) (bs := bs') h (by repeat (first | exact List.mem_cons_self | apply List.mem_cons_of_mem | apply List.mem_append_right))) rfl (by rw [oc_len]; omega) (by rw [oc_len]; omega) ?_
            refine TL_load_el1 rfl rfl (fun w h => ocSl (m := m) (bs := bs') h (by repeat (first | exact List.mem_cons_self | apply List.mem_cons_of_mem | apply List.mem_append_right))) (oc_get hb) rfl ?_
            repeat' (first | refine rn ?_ | (apply TL_box; exact rfl; exact rfl; exact rfl; intro _ _) | (apply TL_alloc; exact rfl; intro _ _) | (apply TL_buildSlice; exact rfl; exact rfl; exact rfl; exact rfl; exact rfl; intro _ _))
            refine TL_index (k) rfl rfl rfl (fun w h => rowSl (i := i) (T := (updT (sK n i k) i k 20000000)) h (by repeat (first | exact rowsH_mem0 hb | apply List.mem_cons_of_mem | apply List.mem_append_right))) rfl (by rw [rowL_len]; omega) (by rw [rowL_len]; exact Nat.le_refl _) ?_
            refine TL_store rfl rfl rfl rfl rfl (by repeat (first | exact rowsH_upd0 hb | apply Upd.tail | apply Upd.right)) (encRw_put (m := W) (i := i) (k := k) ((updT (sK n i k) i k 20000000)) (by omega) 0 (by simp)) ?_
            rw [updT_twice, e 0 (by unfold base; rw [if_pos (by omega)])]
            repeat' (first | refine rn ?_ | (apply TL_box; exact rfl; exact rfl; exact rfl; intro _ _) | (apply TL_alloc; exact rfl; intro _ _) | (apply TL_buildSlice; exact rfl; exact rfl; exact rfl; exact rfl; exact rfl; intro _ _))
            refine TQ_round (k + 1) hlk (by omega) sb (fun w h => h)
          · rw [e 20000000 (by unfold base; rw [if_neg (by omega), if_neg (by omega)])]
            repeat' (first | refine rn ?_ | (apply TL_box; exact rfl; exact rfl; exact rfl; intro _ _) | (apply TL_alloc; exact rfl; intro _ _) | (apply TL_buildSlice; exact rfl; exact rfl; exact rfl; exact rfl; exact rfl; intro _ _))
            refine TQ_round (k + 1) hlk (by omega) sb (fun w h => h)
    · have hk2 : k = W := by omega
      have e : rowsH 3 W (sK n i k) bs' 0 = rowsH 3 W (sK n (i + 1) 0) bs' 0 := rowsH_congr _ _ (fun a b h1 h2 h3 => by
        unfold sK
        by_cases h : a < i ∨ a = i ∧ b < k
        · rw [if_pos h, if_pos (by omega)]
        · rw [if_neg h, if_neg (by omega)])
      rw [e]
      repeat' (first | refine rn ?_ | (apply TL_box; exact rfl; exact rfl; exact rfl; intro _ _) | (apply TL_alloc; exact rfl; intro _ _) | (apply TL_buildSlice; exact rfl; exact rfl; exact rfl; exact rfl; exact rfl; intro _ _))
      refine TQ_round (i + 1, bs') ⟨hlt, hbl'⟩ (by dsimp only; omega) sb (fun w h => by dsimp only; rw [show W - (i + 1) = m by omega]; exact h)
  have hi2 : W = i := by omega
  subst hi2
  clear g1 hi
  have e : rowsH 3 W (sK n W 0) bs 0 = rowsH 3 W (rdT S o wd 0) bs 0 := rowsH_congr _ _ (fun a b h1 h2 h3 => by
    unfold sK; rw [if_pos (by omega), rdT, ← hn])
  rw [e, Nat.sub_self]
  have hbs : ∀ a, a < W → ∃ b, bs[a]? = some b := fun a ha => ⟨_, List.getElem?_eq_getElem (by omega)⟩
  clear e
  repeat' (first | refine rn ?_ | (apply TL_box; exact rfl; exact rfl; exact rfl; intro _ _) | (apply TL_alloc; exact rfl; intro _ _) | (apply TL_buildSlice; exact rfl; exact rfl; exact rfl; exact rfl; exact rfl; intro _ _))
  refine TC_loop (σ := Nat) (fun i => i ≤ (S.shots.length + S.marks.length)) (fun i => [(1, .slice ao (S.shots.length + S.marks.length) cc), (2, .int .i64 wd), (3, .pointer (some ⟨b3, 0, none⟩)), (8, .int .i64 S.pts), (9, .slice (some ⟨bo, 0, none⟩) W W), (12, .int .i64 i)]) (fun i => (b3, .cells (encSv S p) 26) :: (bo, .cells (ocells W (bs) (0)) 46) :: rowsH 3 W (rdT S o wd i) (bs) 0) (fun i => (S.shots.length + S.marks.length) - i) 0 (Nat.zero_le _) sb (fun w h => h) (fun i hi => ?_)
  repeat' (first | refine rn ?_ | (apply TL_box; exact rfl; exact rfl; exact rfl; intro _ _) | (apply TL_alloc; exact rfl; intro _ _) | (apply TL_buildSlice; exact rfl; exact rfl; exact rfl; exact rfl; exact rfl; intro _ _))
  refine TC_cond_dec rfl (fun g1 => ?_) (fun g1 => ?_)
  · have hlt : i < (S.shots.length + S.marks.length) := by omega
    obtain ⟨x, hx⟩ : ∃ x, (rds S)[i]? = some x := ⟨_, List.getElem?_eq_getElem (by omega)⟩
    have hxo := rds_ok hS x (List.mem_of_getElem? hx)
    have hxs := rds_span hS x (List.mem_of_getElem? hx)
    rw [← hn, ← hW] at hxo
    repeat' (first | refine rn ?_ | (apply TL_box; exact rfl; exact rfl; exact rfl; intro _ _) | (apply TL_alloc; exact rfl; intro _ _) | (apply TL_buildSlice; exact rfl; exact rfl; exact rfl; exact rfl; exact rfl; intro _ _))
    refine TL_index i rfl rfl rfl (fun w h => h.sl hcn) rfl (by rw [cntL_len]; exact hlt) (by rw [cntL_len]; exact Nat.le_refl _) ?_
    refine TL_load_el1 (u := !o i) rfl rfl (fun w h => h.sl hcn) (cntL_get hlt) rfl ?_
    cases hoi : o i with
    | true =>
      have e : rdT S o wd (i + 1) = rdT S o wd i := by rw [rdT, hx]; simp [hoi]
      repeat' (first | refine rn ?_ | (apply TL_box; exact rfl; exact rfl; exact rfl; intro _ _) | (apply TL_alloc; exact rfl; intro _ _) | (apply TL_buildSlice; exact rfl; exact rfl; exact rfl; exact rfl; exact rfl; intro _ _))
      refine TQ_round (i + 1) hlt (by omega) sb (fun w h => by rw [e]; exact h)
    | false =>
      have e : rdT S o wd (i + 1) = addRd wd (rdT S o wd i) x := by rw [rdT, hx]; simp [hoi]
      repeat' (first | refine rn ?_ | (apply TL_box; exact rfl; exact rfl; exact rfl; intro _ _) | (apply TL_alloc; exact rfl; intro _ _) | (apply TL_buildSlice; exact rfl; exact rfl; exact rfl; exact rfl; exact rfl; intro _ _))
      rename_i b15 _
      refine TC_join (σ := Unit) (fun _ => True) (fun _ => [(1, .slice ao (S.shots.length + S.marks.length) cc), (2, .int .i64 wd), (3, .pointer (some ⟨b3, 0, none⟩)), (8, .int .i64 S.pts), (9, .slice (some ⟨bo, 0, none⟩) W W), (12, .int .i64 i), (13, .int .i64 (x.1 : Int)), (14, .int .i64 (x.2.1 : Int)), (15, .pointer (some ⟨b15, 0, none⟩))])
        (fun _ => (b15, .cells (encSp x.2.2) 36) :: (b3, .cells (encSv S p) 26) :: (bo, .cells (ocells W (bs) (0)) 46) :: rowsH 3 W (rdT S o wd i) (bs) 0) ?_ (fun _ _ => ?_)
      · refine TC_cond_dec rfl (fun g2 => ?_) (fun g2 => ?_)
        · have hls : i < S.shots.length := by omega
          obtain ⟨y, hy⟩ : ∃ y, S.shots[i]? = some y := ⟨_, List.getElem?_eq_getElem hls⟩
          have hne : S.shots ≠ [] := by intro h; rw [h] at hy; cases hy
          have hyo := (hS.2.2.2.2.1 y (List.mem_of_getElem? hy)).1
          simp only [In] at hyo
          unfold rds at hx
          rw [List.getElem?_append_left (by simpa using hls), List.getElem?_map, hy] at hx
          cases hx
          have e1 : ((y.fr.toNat : Nat) : Int) = y.fr := by omega
          have e2 : ((y.to.toNat : Nat) : Int) = y.to := by omega
          repeat' (first | refine rn ?_ | (apply TL_box; exact rfl; exact rfl; exact rfl; intro _ _) | (apply TL_alloc; exact rfl; intro _ _) | (apply TL_buildSlice; exact rfl; exact rfl; exact rfl; exact rfl; exact rfl; intro _ _))
          apply TC_draw 20; kernel_rfl; exact Try.mixed
          · iterate 3 (refine' pv ?_; rotate_left)
            (refine' PG.val rfl rfl (by intro _X; refine TL_index i rfl rfl rfl (fun w h => (ha.mono h).s1) rfl hls (Nat.le_refl _) ?_; exact qe) ?_; rotate_left)
            (refine' PG.val rfl rfl (by intro _X; refine TL_fieldAddr_el rfl rfl (fun w h => (ha.mono h).s1) hne ?_; exact qe) ?_; rotate_left)
            (refine' PG.val rfl rfl (by intro _X; refine TL_load_el1 (u := y) rfl rfl (fun w h => (ha.mono h).s1) hy rfl ?_; exact qe) ?_; rotate_left)
            iterate 3 (refine' pv ?_; rotate_left)
            (refine' PG.val rfl rfl (by intro _X; refine TL_index i rfl rfl rfl (fun w h => (ha.mono h).s1) rfl hls (Nat.le_refl _) ?_; exact qe) ?_; rotate_left)
            (refine' PG.val rfl rfl (by intro _X; refine TL_fieldAddr_el rfl rfl (fun w h => (ha.mono h).s1) hne ?_; exact qe) ?_; rotate_left)
            (refine' PG.val rfl rfl (by intro _X; refine TL_load_el1 (u := y) rfl rfl (fun w h => (ha.mono h).s1) hy rfl ?_; exact qe) ?_; rotate_left)
            iterate 3 (refine' pv ?_; rotate_left)
            (refine' PG.val rfl rfl (by intro _X; refine TL_index i rfl rfl rfl (fun w h => (ha.mono h).s1) rfl hls (Nat.le_refl _) ?_; exact qe) ?_; rotate_left)
            (refine' PG.val rfl rfl (by intro _X; refine TL_fieldAddr_el rfl rfl (fun w h => (ha.mono h).s1) hne ?_; exact qe) ?_; rotate_left)
            (refine' PG.val rfl rfl (by intro _X; refine TL_load_eln (u := y) rfl rfl (fun w h => (ha.mono h).s1) hy rfl ?_; exact qe) ?_; rotate_left)
            iterate 2 (refine' pv ?_; rotate_left)
            exact PG.nil
          change TL _ _ _ _ _ _ _ _ _ _ _
          repeat' (first | refine rn ?_ | (apply TL_box; exact rfl; exact rfl; exact rfl; intro _ _) | (apply TL_alloc; exact rfl; intro _ _) | (apply TL_buildSlice; exact rfl; exact rfl; exact rfl; exact rfl; exact rfl; intro _ _))
          exact TQ_mid () trivial (by dsimp only; rw [e1, e2]; exact sb) (fun w h => h)
        · obtain ⟨y, hy⟩ : ∃ y, S.marks[i - S.shots.length]? = some y := ⟨_, List.getElem?_eq_getElem (by omega)⟩
          have hyo := (hS.2.2.2.2.2.1 y (List.mem_of_getElem? hy)).1
          simp only [In] at hyo
          unfold rds at hx
          rw [List.getElem?_append_right (by simp; omega), List.length_map, List.getElem?_map, hy] at hx
          cases hx
          have e1 : ((S.pts.toNat : Nat) : Int) = S.pts := by omega
          have e2 : ((y.pt.toNat : Nat) : Int) = y.pt := by omega
          repeat' (first | refine rn ?_ | (apply TL_box; exact rfl; exact rfl; exact rfl; intro _ _) | (apply TL_alloc; exact rfl; intro _ _) | (apply TL_buildSlice; exact rfl; exact rfl; exact rfl; exact rfl; exact rfl; intro _ _))
          refine TL_index (i - S.shots.length) rfl rfl rfl (fun w h => (ha.mono h).s2) (by omega) (by omega) (Nat.le_refl _) ?_
          refine TL_load_eln (u := y) rfl rfl (fun w h => (ha.mono h).s2) hy rfl ?_
          repeat' (first | refine rn ?_ | (apply TL_box; exact rfl; exact rfl; exact rfl; intro _ _) | (apply TL_alloc; exact rfl; intro _ _) | (apply TL_buildSlice; exact rfl; exact rfl; exact rfl; exact rfl; exact rfl; intro _ _))
          apply TC_draw 5; kernel_rfl; exact Try.mixed
          · iterate 5 (refine' pv ?_; rotate_left)
            exact PG.nil
          change TL _ _ _ _ _ _ _ _ _ _ _
          repeat' (first | refine rn ?_ | (apply TL_box; exact rfl; exact rfl; exact rfl; intro _ _) | (apply TL_alloc; exact rfl; intro _ _) | (apply TL_buildSlice; exact rfl; exact rfl; exact rfl; exact rfl; exact rfl; intro _ _))
          exact TQ_mid () trivial (by dsimp only; rw [e1, e2]; exact sb) (fun w h => h.sub (List.Sublist.cons _ (List.Sublist.refl _)))
      obtain ⟨bf, hbf⟩ := hbs x.1 hxo.1
      obtain ⟨bt, hbt⟩ := hbs x.2.1 hxo.2.1
      have hx1 := hxo.1
      have hx2 := hxo.2.1
      generalize rdT S o wd i = T at e
      repeat' (first | refine rn ?_ | (apply TL_box; exact rfl; exact rfl; exact rfl; intro _ _) | (apply TL_alloc; exact rfl; intro _ _) | (apply TL_buildSlice; exact rfl; exact rfl; exact rfl; exact rfl; exact rfl; intro _ _))
      apply TC_draw 17; kernel_rfl; exact Try.mixed
      · iterate 2 (refine' pv ?_; rotate_left)
        (refine' PG.val rfl rfl (by intro _X; refine TL_index (x.1) rfl rfl rfl (fun w h => ocSl (m := 0) (bs := bs) h (by repeat (first | exact List.mem_cons_self | apply List.mem_cons_of_mem | apply List.mem_append_right))) rfl (by rw [oc_len]; omega) (by rw [oc_len]; omega) ?_; exact qe) ?_; rotate_left)
        (refine' PG.val rfl rfl (by intro _X; refine TL_load_el1 rfl rfl (fun w h => ocSl (m := 0) (bs := bs) h (by repeat (first | exact List.mem_cons_self | apply List.mem_cons_of_mem | apply List.mem_append_right))) (oc_get hbf) rfl ?_; exact qe) ?_; rotate_left)
        iterate 3 (refine' pv ?_; rotate_left)
        (refine' PG.val rfl rfl (by intro _X; refine TL_index (x.1) rfl rfl rfl (fun w h => ocSl (m := 0) (bs := bs) h (by repeat (first | exact List.mem_cons_self | apply List.mem_cons_of_mem | apply List.mem_append_right))) rfl (by rw [oc_len]; omega) (by rw [oc_len]; omega) ?_; exact qe) ?_; rotate_left)
        (refine' PG.val rfl rfl (by intro _X; refine TL_load_el1 rfl rfl (fun w h => ocSl (m := 0) (bs := bs) h (by repeat (first | exact List.mem_cons_self | apply List.mem_cons_of_mem | apply List.mem_append_right))) (oc_get hbf) rfl ?_; exact qe) ?_; rotate_left)
        (refine' pv ?_; rotate_left)
        (refine' PG.val rfl rfl (by intro _X; refine TL_index (x.2.1) rfl rfl rfl (fun w h => rowSl (i := x.1) (T := T) h (by repeat (first | exact rowsH_mem0 hbf | apply List.mem_cons_of_mem | apply List.mem_append_right))) rfl (by rw [rowL_len]; omega) (by rw [rowL_len]; exact Nat.le_refl _) ?_; exact qe) ?_; rotate_left)
        (refine' PG.val rfl rfl (by intro _X; refine TL_load_el1 (u := T (x.1) (x.2.1)) rfl rfl (fun w h => rowSl (i := x.1) (T := T) h (by repeat (first | exact rowsH_mem0 hbf | apply List.mem_cons_of_mem | apply List.mem_append_right))) (rowL_get (by omega)) rfl ?_; exact qe) ?_; rotate_left)
        iterate 5 (refine' pv ?_; rotate_left)
        exact PG.nil
      change TL _ _ _ _ _ _ _ _ _ _ _
      refine TL_index (x.2.1) rfl rfl rfl (fun w h => rowSl (i := x.1) (T := T) h (by repeat (first | exact rowsH_mem0 hbf | apply List.mem_cons_of_mem | apply List.mem_append_right))) rfl (by rw [rowL_len]; omega) (by rw [rowL_len]; exact Nat.le_refl _) ?_
      refine TL_store rfl rfl rfl rfl rfl (by repeat (first | exact rowsH_upd0 hbf | apply Upd.tail | apply Upd.right)) (encRw_put (m := W) (i := x.1) (k := x.2.1) (T) (by omega) (min (T x.1 x.2.1) (x.2.2.2 + wd)) (by simp)) ?_
      obtain ⟨T1, hT1⟩ : ∃ T1 : Tb, T1 = updT T x.1 x.2.1 (min (T x.1 x.2.1) (x.2.2.2 + wd)) := ⟨_, rfl⟩
      rw [← hT1]
      repeat' (first | refine rn ?_ | (apply TL_box; exact rfl; exact rfl; exact rfl; intro _ _) | (apply TL_alloc; exact rfl; intro _ _) | (apply TL_buildSlice; exact rfl; exact rfl; exact rfl; exact rfl; exact rfl; intro _ _))
      apply TC_draw 17; kernel_rfl; exact Try.mixed
      · iterate 2 (refine' pv ?_; rotate_left)
        (refine' PG.val rfl rfl (by intro _X; refine TL_index (x.2.1) rfl rfl rfl (fun w h => ocSl (m := 0) (bs := bs) h (by repeat (first | exact List.mem_cons_self | apply List.mem_cons_of_mem | apply List.mem_append_right))) rfl (by rw [oc_len]; omega) (by rw [oc_len]; omega) ?_; exact qe) ?_; rotate_left)
        (refine' PG.val rfl rfl (by intro _X; refine TL_load_el1 rfl rfl (fun w h => ocSl (m := 0) (bs := bs) h (by repeat (first | exact List.mem_cons_self | apply List.mem_cons_of_mem | apply List.mem_append_right))) (oc_get hbt) rfl ?_; exact qe) ?_; rotate_left)
        iterate 3 (refine' pv ?_; rotate_left)
        (refine' PG.val rfl rfl (by intro _X; refine TL_index (x.2.1) rfl rfl rfl (fun w h => ocSl (m := 0) (bs := bs) h (by repeat (first | exact List.mem_cons_self | apply List.mem_cons_of_mem | apply List.mem_append_right))) rfl (by rw [oc_len]; omega) (by rw [oc_len]; omega) ?_; exact qe) ?_; rotate_left)
        (refine' PG.val rfl rfl (by intro _X; refine TL_load_el1 rfl rfl (fun w h => ocSl (m := 0) (bs := bs) h (by repeat (first | exact List.mem_cons_self | apply List.mem_cons_of_mem | apply List.mem_append_right))) (oc_get hbt) rfl ?_; exact qe) ?_; rotate_left)
        (refine' pv ?_; rotate_left)
        (refine' PG.val rfl rfl (by intro _X; refine TL_index (x.1) rfl rfl rfl (fun w h => rowSl (i := x.2.1) (T := T1) h (by repeat (first | exact rowsH_mem0 hbt | apply List.mem_cons_of_mem | apply List.mem_append_right))) rfl (by rw [rowL_len]; omega) (by rw [rowL_len]; exact Nat.le_refl _) ?_; exact qe) ?_; rotate_left)
        (refine' PG.val rfl rfl (by intro _X; refine TL_load_el1 (u := T1 (x.2.1) (x.1)) rfl rfl (fun w h => rowSl (i := x.2.1) (T := T1) h (by repeat (first | exact rowsH_mem0 hbt | apply List.mem_cons_of_mem | apply List.mem_append_right))) (rowL_get (by omega)) rfl ?_; exact qe) ?_; rotate_left)
        iterate 5 (refine' pv ?_; rotate_left)
        exact PG.nil
      change TL _ _ _ _ _ _ _ _ _ _ _
      refine TL_index (x.1) rfl rfl rfl (fun w h => rowSl (i := x.2.1) (T := T1) h (by repeat (first | exact rowsH_mem0 hbt | apply List.mem_cons_of_mem | apply List.mem_append_right))) rfl (by rw [rowL_len]; omega) (by rw [rowL_len]; exact Nat.le_refl _) ?_
      refine TL_store rfl rfl rfl rfl rfl (by repeat (first | exact rowsH_upd0 hbt | apply Upd.tail | apply Upd.right)) (encRw_put (m := W) (i := x.2.1) (k := x.1) (T1) (by omega) (min (T1 x.2.1 x.1) (wd - x.2.2.1)) (by simp)) ?_
      rw [hT1]
      repeat' (first | refine rn ?_ | (apply TL_box; exact rfl; exact rfl; exact rfl; intro _ _) | (apply TL_alloc; exact rfl; intro _ _) | (apply TL_buildSlice; exact rfl; exact rfl; exact rfl; exact rfl; exact rfl; intro _ _))
      refine TQ_round (i + 1) hlt (by omega) sb (fun w h => by rw [e]; exact h.sub (List.Sublist.cons _ (List.Sublist.refl _)))
  have hi2 : i = (rds S).length := by omega
  subst hi2
  clear g1 hi
  generalize rdT S o wd (rds S).length = T0 at hBT0 hdiag hsolve
  repeat' (first | refine rn ?_ | (apply TL_box; exact rfl; exact rfl; exact rfl; intro _ _) | (apply TL_alloc; exact rfl; intro _ _) | (apply TL_buildSlice; exact rfl; exact rfl; exact rfl; exact rfl; exact rfl; intro _ _))
  refine TC_loop (σ := Nat) (fun j => j ≤ W ∧ (fwAll W j T0).2 = true) (fun j => [(1, .slice ao (S.shots.length + S.marks.length) cc), (2, .int .i64 wd), (3, .pointer (some ⟨b3, 0, none⟩)), (8, .int .i64 S.pts), (9, .slice (some ⟨bo, 0, none⟩) W W), (17, .int .i64 j)]) (fun j => (b3, .cells (encSv S p) 26) :: (bo, .cells (ocells W (bs) (0)) 46) :: rowsH 3 W ((fwAll W j T0).1) (bs) 0) (fun j => W - j) 0 ⟨Nat.zero_le _, rfl⟩ sb (fun w h => h) (fun j hj => ?_)
  obtain ⟨hj, hok⟩ := hj
  have hcl := ((fwAll_spec (fun a _ => hdiag a) j hj).1 hok).1
  have hB := fwAll_B (fun a _ => hdiag a) hBT0 j hj hok
  have hpw := pow_small (j := j) (by omega)
  have e1 : fwAll W (j + 1) T0 = (fwRow j W W (fwAll W j T0).1, diagOk (fwRow j W W (fwAll W j T0).1) W) := by rw [fwAll, if_pos hok]
  repeat' (first | refine rn ?_ | (apply TL_box; exact rfl; exact rfl; exact rfl; intro _ _) | (apply TL_alloc; exact rfl; intro _ _) | (apply TL_buildSlice; exact rfl; exact rfl; exact rfl; exact rfl; exact rfl; intro _ _))
  refine TC_cond_dec rfl (fun g1 => ?_) (fun g1 => ?_)
  rotate_left
  · have hj2 : W = j := by omega
    subst hj2
    rw [← hsolve] at hok
    rw [← hsolve]
    repeat' (first | refine rn ?_ | (apply TL_box; exact rfl; exact rfl; exact rfl; intro _ _) | (apply TL_alloc; exact rfl; intro _ _) | (apply TL_buildSlice; exact rfl; exact rfl; exact rfl; exact rfl; exact rfl; intro _ _))
    exact TQ_ret2 Try.results46 (RV.tmp rfl) (RV.tmp rfl) (fun w' hs => ⟨some (bo, bs), ⟨⟨fun _ => hok, fun _ => rfl⟩, fun x hx => by cases hx; exact hbl⟩, by rw [hok], hs.sub (List.Sublist.cons _ (List.Sublist.refl _))⟩)
  have hlt : j < W := by omega
  have hdj := hcl.diag j hlt
  have hpd := pass_diag (j := j) hlt hcl.diag
  generalize (fwAll W j T0).1 = T at hcl hB e1 hdj hpd
  obtain ⟨C, hC⟩ : ∃ C : Int, C = 20000000 * 2 ^ j := ⟨_, rfl⟩
  rw [← hC] at hB
  have hC2 : 0 ≤ C ∧ C ≤ 41943040000000 := by omega
  obtain ⟨bj, hbj⟩ := hbs j hlt
  repeat' (first | refine rn ?_ | (apply TL_box; exact rfl; exact rfl; exact rfl; intro _ _) | (apply TL_alloc; exact rfl; intro _ _) | (apply TL_buildSlice; exact rfl; exact rfl; exact rfl; exact rfl; exact rfl; intro _ _))
  refine TC_loop (σ := Nat) (fun i => i ≤ W) (fun i => [(1, .slice ao (S.shots.length + S.marks.length) cc), (2, .int .i64 wd), (3, .pointer (some ⟨b3, 0, none⟩)), (8, .int .i64 S.pts), (9, .slice (some ⟨bo, 0, none⟩) W W), (17, .int .i64 j), (18, .int .i64 i)]) (fun i => (b3, .cells (encSv S p) 26) :: (bo, .cells (ocells W (bs) (0)) 46) :: rowsH 3 W (fwRow j W i T) (bs) 0) (fun i => W - i) 0 (Nat.zero_le _) sb (fun w h => h) (fun i hi => ?_)
  repeat' (first | refine rn ?_ | (apply TL_box; exact rfl; exact rfl; exact rfl; intro _ _) | (apply TL_alloc; exact rfl; intro _ _) | (apply TL_buildSlice; exact rfl; exact rfl; exact rfl; exact rfl; exact rfl; intro _ _))
  refine TC_cond_dec rfl (fun g2 => ?_) (fun g2 => ?_)
  · have hli : i < W := by omega
    obtain ⟨bi, hbi⟩ := hbs i hli
    repeat' (first | refine rn ?_ | (apply TL_box; exact rfl; exact rfl; exact rfl; intro _ _) | (apply TL_alloc; exact rfl; intro _ _) | (apply TL_buildSlice; exact rfl; exact rfl; exact rfl; exact rfl; exact rfl; intro _ _))
    refine TC_loop (σ := Nat) (fun k => k ≤ W) (fun k => [(1, .slice ao (S.shots.length + S.marks.length) cc), (2, .int .i64 wd), (3, .pointer (some ⟨b3, 0, none⟩)), (8, .int .i64 S.pts), (9, .slice (some ⟨bo, 0, none⟩) W W), (17, .int .i64 j), (18, .int .i64 i), (19, .int .i64 k)]) (fun k => (b3, .cells (encSv S p) 26) :: (bo, .cells (ocells W (bs) (0)) 46) :: rowsH 3 W (fwCol j i k (fwRow j W i T)) (bs) 0) (fun k => W - k) 0 (Nat.zero_le _) sb (fun w h => h) (fun k hk => ?_)
    have hXB := fw_B (r := i) hdj hk hB hC2.1
    have hs1 : fwCol j i (k + 1) (fwRow j W i T) = lowT (fwCol j i k (fwRow j W i T)) i k (fwCol j i k (fwRow j W i T) i j + fwCol j i k (fwRow j W i T) j k) := rfl
    have hs2 : fwCol j i W (fwRow j W i T) = fwRow j W (i + 1) T := rfl
    repeat' (first | refine rn ?_ | (apply TL_box; exact rfl; exact rfl; exact rfl; intro _ _) | (apply TL_alloc; exact rfl; intro _ _) | (apply TL_buildSlice; exact rfl; exact rfl; exact rfl; exact rfl; exact rfl; intro _ _))
    refine TC_cond_dec rfl (fun g3 => ?_) (fun g3 => ?_)
    · have hlk : k < W := by omega
      generalize fwCol j i k (fwRow j W i T) = X at hXB hs1
      have x1 := hXB i k
      have x2 := hXB i j
      have x3 := hXB j k
      repeat' (first | refine rn ?_ | (apply TL_box; exact rfl; exact rfl; exact rfl; intro _ _) | (apply TL_alloc; exact rfl; intro _ _) | (apply TL_buildSlice; exact rfl; exact rfl; exact rfl; exact rfl; exact rfl; intro _ _))
      apply TC_draw 28; kernel_rfl; exact Try.mixed
      · iterate 2 (refine' pv ?_; rotate_left)
        (refine' PG.val rfl rfl (by intro _X; refine TL_index (i) rfl rfl rfl (fun w h => ocSl (m := 0) (bs := bs) h (by repeat (first | exact List.mem_cons_self | apply List.mem_cons_of_mem | apply List.mem_append_right))) rfl (by rw [oc_len]; omega) (by rw [oc_len]; omega) ?_; exact qe) ?_; rotate_left)
        (refine' PG.val rfl rfl (by intro _X; refine TL_load_el1 rfl rfl (fun w h => ocSl (m := 0) (bs := bs) h (by repeat (first | exact List.mem_cons_self | apply List.mem_cons_of_mem | apply List.mem_append_right))) (oc_get hbi) rfl ?_; exact qe) ?_; rotate_left)
        iterate 3 (refine' pv ?_; rotate_left)
        (refine' PG.val rfl rfl (by intro _X; refine TL_index (i) rfl rfl rfl (fun w h => ocSl (m := 0) (bs := bs) h (by repeat (first | exact List.mem_cons_self | apply List.mem_cons_of_mem | apply List.mem_append_right))) rfl (by rw [oc_len]; omega) (by rw [oc_len]; omega) ?_; exact qe) ?_; rotate_left)
        (refine' PG.val rfl rfl (by intro _X; refine TL_load_el1 rfl rfl (fun w h => ocSl (m := 0) (bs := bs) h (by repeat (first | exact List.mem_cons_self | apply List.mem_cons_of_mem | apply List.mem_append_right))) (oc_get hbi) rfl ?_; exact qe) ?_; rotate_left)
        (refine' pv ?_; rotate_left)
        (refine' PG.val rfl rfl (by intro _X; refine TL_index (k) rfl rfl rfl (fun w h => rowSl (i := i) (T := X) h (by repeat (first | exact rowsH_mem0 hbi | apply List.mem_cons_of_mem | apply List.mem_append_right))) rfl (by rw [rowL_len]; omega) (by rw [rowL_len]; exact Nat.le_refl _) ?_; exact qe) ?_; rotate_left)
        (refine' PG.val rfl rfl (by intro _X; refine TL_load_el1 (u := X (i) (k)) rfl rfl (fun w h => rowSl (i := i) (T := X) h (by repeat (first | exact rowsH_mem0 hbi | apply List.mem_cons_of_mem | apply List.mem_append_right))) (rowL_get (by omega)) rfl ?_; exact qe) ?_; rotate_left)
        iterate 2 (refine' pv ?_; rotate_left)
        (refine' PG.val rfl rfl (by intro _X; refine TL_index (i) rfl rfl rfl (fun w h => ocSl (m := 0) (bs := bs) h (by repeat (first | exact List.mem_cons_self | apply List.mem_cons_of_mem | apply List.mem_append_right))) rfl (by rw [oc_len]; omega) (by rw [oc_len]; omega) ?_; exact qe) ?_; rotate_left)
        (refine' PG.val rfl rfl (by intro _X; refine TL_load_el1 rfl rfl (fun w h => ocSl (m := 0) (bs := bs) h (by repeat (first | exact List.mem_cons_self | apply List.mem_cons_of_mem | apply List.mem_append_right))) (oc_get hbi) rfl ?_; exact qe) ?_; rotate_left)
        (refine' pv ?_; rotate_left)
        (refine' PG.val rfl rfl (by intro _X; refine TL_index (j) rfl rfl rfl (fun w h => rowSl (i := i) (T := X) h (by repeat (first | exact rowsH_mem0 hbi | apply List.mem_cons_of_mem | apply List.mem_append_right))) rfl (by rw [rowL_len]; omega) (by rw [rowL_len]; exact Nat.le_refl _) ?_; exact qe) ?_; rotate_left)
        (refine' PG.val rfl rfl (by intro _X; refine TL_load_el1 (u := X (i) (j)) rfl rfl (fun w h => rowSl (i := i) (T := X) h (by repeat (first | exact rowsH_mem0 hbi | apply List.mem_cons_of_mem | apply List.mem_append_right))) (rowL_get (by omega)) rfl ?_; exact qe) ?_; rotate_left)
        iterate 2 (refine' pv ?_; rotate_left)
        (refine' PG.val rfl rfl (by intro _X; refine TL_index (j) rfl rfl rfl (fun w h => ocSl (m := 0) (bs := bs) h (by repeat (first | exact List.mem_cons_self | apply List.mem_cons_of_mem | apply List.mem_append_right))) rfl (by rw [oc_len]; omega) (by rw [oc_len]; omega) ?_; exact qe) ?_; rotate_left)
        (refine' PG.val rfl rfl (by intro _X; refine TL_load_el1 rfl rfl (fun w h => ocSl (m := 0) (bs := bs) h (by repeat (first | exact List.mem_cons_self | apply List.mem_cons_of_mem | apply List.mem_append_right))) (oc_get hbj) rfl ?_; exact qe) ?_; rotate_left)
        (refine' pv ?_; rotate_left)
        (refine' PG.val rfl rfl (by intro _X; refine TL_index (k) rfl rfl rfl (fun w h => rowSl (i := j) (T := X) h (by repeat (first | exact rowsH_mem0 hbj | apply List.mem_cons_of_mem | apply List.mem_append_right))) rfl (by rw [rowL_len]; omega) (by rw [rowL_len]; exact Nat.le_refl _) ?_; exact qe) ?_; rotate_left)
        (refine' PG.val rfl rfl (by intro _X; refine TL_load_el1 (u := X (j) (k)) rfl rfl (fun w h => rowSl (i := j) (T := X) h (by repeat (first | exact rowsH_mem0 hbj | apply List.mem_cons_of_mem | apply List.mem_append_right))) (rowL_get (by omega)) rfl ?_; exact qe) ?_; rotate_left)
        iterate 2 (refine' pv ?_; rotate_left)
        exact PG.nil
      change TL _ _ _ _ _ _ _ _ _ _ _
      refine TL_index (k) rfl rfl rfl (fun w h => rowSl (i := i) (T := X) h (by repeat (first | exact rowsH_mem0 hbi | apply List.mem_cons_of_mem | apply List.mem_append_right))) rfl (by rw [rowL_len]; omega) (by rw [rowL_len]; exact Nat.le_refl _) ?_
      refine TL_store rfl rfl rfl rfl rfl (by repeat (first | exact rowsH_upd0 hbi | apply Upd.tail | apply Upd.right)) (encRw_put (m := W) (i := i) (k := k) (X) (by omega) (min (X i k) (X i j + X j k)) (by simp)) ?_
      repeat' (first | refine rn ?_ | (apply TL_box; exact rfl; exact rfl; exact rfl; intro _ _) | (apply TL_alloc; exact rfl; intro _ _) | (apply TL_buildSlice; exact rfl; exact rfl; exact rfl; exact rfl; exact rfl; intro _ _))
      refine TQ_round (k + 1) hlk (by omega) sb (fun w h => by rw [hs1]; exact h)
    · have hk2 : W = k := by omega
      subst hk2
      rw [hs2]
      repeat' (first | refine rn ?_ | (apply TL_box; exact rfl; exact rfl; exact rfl; intro _ _) | (apply TL_alloc; exact rfl; intro _ _) | (apply TL_buildSlice; exact rfl; exact rfl; exact rfl; exact rfl; exact rfl; intro _ _))
      refine TQ_round (i + 1) hli (by omega) sb (fun w h => h)
  have hi2 : W = i := by omega
  subst hi2
  clear g2 hi
  generalize fwRow j W W T = X at e1 hpd
  repeat' (first | refine rn ?_ | (apply TL_box; exact rfl; exact rfl; exact rfl; intro _ _) | (apply TL_alloc; exact rfl; intro _ _) | (apply TL_buildSlice; exact rfl; exact rfl; exact rfl; exact rfl; exact rfl; intro _ _))
  refine TC_loop (σ := Nat) (fun k => k ≤ W ∧ ∀ a, a < k → X a a = 0) (fun k => [(1, .slice ao (S.shots.length + S.marks.length) cc), (2, .int .i64 wd), (3, .pointer (some ⟨b3, 0, none⟩)), (8, .int .i64 S.pts), (9, .slice (some ⟨bo, 0, none⟩) W W), (17, .int .i64 j), (20, .int .i64 k)]) (fun k => (b3, .cells (encSv S p) 26) :: (bo, .cells (ocells W (bs) (0)) 46) :: rowsH 3 W (X) (bs) 0) (fun k => W - k) 0 ⟨Nat.zero_le _, fun a ha => by omega⟩ sb (fun w h => h) (fun k hk => ?_)
  obtain ⟨hk, hz⟩ := hk
  repeat' (first | refine rn ?_ | (apply TL_box; exact rfl; exact rfl; exact rfl; intro _ _) | (apply TL_alloc; exact rfl; intro _ _) | (apply TL_buildSlice; exact rfl; exact rfl; exact rfl; exact rfl; exact rfl; intro _ _))
  refine TC_cond_dec rfl (fun g3 => ?_) (fun g3 => ?_)
  · have hlk : k < W := by omega
    obtain ⟨bk, hbk⟩ := hbs k hlk
    repeat' (first | refine rn ?_ | (apply TL_box; exact rfl; exact rfl; exact rfl; intro _ _) | (apply TL_alloc; exact rfl; intro _ _) | (apply TL_buildSlice; exact rfl; exact rfl; exact rfl; exact rfl; exact rfl; intro _ _))
    refine TL_index (k) rfl rfl rfl (fun w h => ocSl (m := 0) (bs := bs) h (by repeat (first | exact List.mem_cons_self | apply List.mem_cons_of_mem | apply List.mem_append_right))) rfl (by rw [oc_len]; omega) (by rw [oc_len]; omega) ?_
    refine TL_load_el1 rfl rfl (fun w h => ocSl (m := 0) (bs := bs) h (by repeat (first | exact List.mem_cons_self | apply List.mem_cons_of_mem | apply List.mem_append_right))) (oc_get hbk) rfl ?_
    repeat' (first | refine rn ?_ | (apply TL_box; exact rfl; exact rfl; exact rfl; intro _ _) | (apply TL_alloc; exact rfl; intro _ _) | (apply TL_buildSlice; exact rfl; exact rfl; exact rfl; exact rfl; exact rfl; intro _ _))
    refine TL_index (k) rfl rfl rfl (fun w h => rowSl (i := k) (T := X) h (by repeat (first | exact rowsH_mem0 hbk | apply List.mem_cons_of_mem | apply List.mem_append_right))) rfl (by rw [rowL_len]; omega) (by rw [rowL_len]; exact Nat.le_refl _) ?_
    refine TL_load_el1 (u := X (k) (k)) rfl rfl (fun w h => rowSl (i := k) (T := X) h (by repeat (first | exact rowsH_mem0 hbk | apply List.mem_cons_of_mem | apply List.mem_append_right))) (rowL_get (by omega)) rfl ?_
    repeat' (first | refine rn ?_ | (apply TL_box; exact rfl; exact rfl; exact rfl; intro _ _) | (apply TL_alloc; exact rfl; intro _ _) | (apply TL_buildSlice; exact rfl; exact rfl; exact rfl; exact rfl; exact rfl; intro _ _))
    refine TC_cond_dec rfl (fun g4 => ?_) (fun g4 => ?_)
    · have hd : diagOk X W = false := by
        cases hc : diagOk X W with
        | false => rfl
        | true => have := diagOk_iff.1 hc k hlk; omega
      have hst := fwAll_stop (T := T0) (w := W) (r := j + 1) (by rw [e1]; exact hd) W (by omega)
      rw [e1, ← hsolve] at hst
      have r2 : (solveR S o wd).2 = false := by rw [hst]; exact hd
      repeat' (first | refine rn ?_ | (apply TL_box; exact rfl; exact rfl; exact rfl; intro _ _) | (apply TL_alloc; exact rfl; intro _ _) | (apply TL_buildSlice; exact rfl; exact rfl; exact rfl; exact rfl; exact rfl; intro _ _))
      exact TQ_ret2 Try.results46 (RV.tmp rfl) (RV.tmp rfl) (fun w' hs => ⟨none, ⟨⟨fun h => (by cases h), fun h => (by rw [r2] at h; cases h)⟩, fun x hx => by cases hx⟩, by rw [r2], hs.sub (List.nil_sublist _)⟩)
    · repeat' (first | refine rn ?_ | (apply TL_box; exact rfl; exact rfl; exact rfl; intro _ _) | (apply TL_alloc; exact rfl; intro _ _) | (apply TL_buildSlice; exact rfl; exact rfl; exact rfl; exact rfl; exact rfl; intro _ _))
      have h5 : X k k = 0 := by have := hpd k hlk; omega
      refine TQ_round (k + 1) ⟨hlk, fun a ha => ?_⟩ (by omega) sb (fun w h => h)
      by_cases ha2 : a = k
      · rw [ha2]; exact h5
      · exact hz a (by omega)
  · have hk2 : W = k := by omega
    subst hk2
    have hd : diagOk X W = true := diagOk_iff.2 hz
    rw [hd] at e1
    repeat' (first | refine rn ?_ | (apply TL_box; exact rfl; exact rfl; exact rfl; intro _ _) | (apply TL_alloc; exact rfl; intro _ _) | (apply TL_buildSlice; exact rfl; exact rfl; exact rfl; exact rfl; exact rfl; intro _ _))
    refine TQ_round (j + 1) ⟨hlt, by rw [e1]⟩ (by omega) sb (fun w h => by rw [e1]; exact h)
end Go.Proofs.Ytoolblbdmmiahaa
