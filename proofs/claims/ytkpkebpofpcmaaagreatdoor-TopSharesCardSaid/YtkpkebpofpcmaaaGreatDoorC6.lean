/- Walks of the package channel: waters. -/
import Derived.Test.YtkpkebpofpcmaaaGreatDoorC5
import Derived.Test.YtkpkebpofpcmaaaGreatDoorEngM
namespace Go.Proofs.YtkpkebpofpcmaaaGreatDoor
open Go Go.Eng Go.RowKit Go.Proofs
set_option maxHeartbeats 4000000
set_option maxRecDepth 10000
attribute [local irreducible] TL TC TQ

def cnAt (n : Nt) (c : Int) : Cn := n.canals.getD c.toNat cn0
def wkAt (n : Nt) (dl : List Int) (c : Int) : St := workM (cnAt n c) (dl.any fun x => decide (c = x))
/-- Water goes down the canals. -/
def goW (n : Nt) (dl : List Int) : List Int → Sp → List Sp → Sp × List Sp
  | [], v, L => (v, L)
  | c :: cs, v, L => goW n dl cs (goesM (wkAt n dl c) v) (L.set c.toNat (plusM (L.getD c.toNat (0, 0)) (seepsM (wkAt n dl c) v)))
def mulW (f : Sp) (m : Int) : Sp := (f.1 * m, f.2 * m)
/-- A use: the waters of fields and the losses of canals behind it. -/
def useW (n : Nt) (f : Sp) (dl : List Int) (u : Us) (s : List Sp × List Sp) : List Sp × List Sp :=
  (s.1.set u.field.toNat (plusM (s.1.getD u.field.toNat (0, 0)) (goW n dl (pathM n u.field.toNat) (mulW f (u.turn.2 - u.turn.1)) s.2).1), (goW n dl (pathM n u.field.toNat) (mulW f (u.turn.2 - u.turn.1)) s.2).2)
def watW (n : Nt) (f : Sp) (us : List Us) (dls : List (List Int)) : List Sp × List Sp :=
  (us.zip dls).foldl (fun s x => useW n f x.2 x.1 s) (List.replicate n.fields.length (0, 0), List.replicate n.canals.length (0, 0))
theorem watW_snoc {n : Nt} {f : Sp} {us : List Us} {dls : List (List Int)} {u : Us} {dl : List Int} (h : us.length = dls.length) : watW n f (us ++ [u]) (dls ++ [dl]) = useW n f dl u (watW n f us dls) := by
  unfold watW
  rw [List.zip_append h, List.foldl_append]; rfl
theorem rep_flat (k : Nat) : (List.replicate k [Value.int .i64 0, .int .i64 0]).flatten = (List.replicate k ((0 : Int), (0 : Int))).flatMap encSp := by
  rw [List.flatMap_def, List.map_replicate]; rfl
theorem rep_row (b k : Nat) (hk : k ≤ 1000) : Row 25 2 encSp (some ⟨b, 0, none⟩) k [(b, .cells (List.replicate k [Value.int .i64 0, .int .i64 0]).flatten 25)] (List.replicate k ((0 : Int), (0 : Int))) := by
  refine ⟨fun x _ => ⟨rfl, rfl⟩, .inr ⟨b, [], rfl, by rw [rep_flat, List.append_nil], by simp, by unfold maxLen; omega, ?_⟩⟩
  rw [List.append_nil, ← rep_flat, List.length_flatten, List.map_replicate, List.sum_replicate_nat]; rfl
theorem pathM_mem {n : Nt} (hn : OkNt n) {i : Nat} (hi : i < n.fields.length) : ∀ c ∈ pathM n i, 0 ≤ c ∧ c.toNat < n.canals.length := by
  intro c hc
  unfold pathM at hc
  obtain ⟨x, hx⟩ : ∃ x, n.fields[i]? = some x := ⟨_, List.getElem?_eq_getElem hi⟩
  have := upF_mem hn 17 (n.fields.getD i 0) (by rw [List.getD_eq_getElem?_getD, hx]; exact hn.fld x (List.mem_of_getElem? hx)) c (List.mem_reverse.1 hc)
  omega
theorem wkAt_ok {n : Nt} (hn : OkNt n) (dl : List Int) (c : Int) (h : c.toNat < n.canals.length) : WkOk (wkAt n dl c) := by
  unfold wkAt cnAt
  have := hn.can c.toNat _ (List.getElem?_eq_getElem h)
  rw [List.getD_eq_getElem?_getD, List.getElem?_eq_getElem h]
  exact workM_ok ⟨this.2.1, this.2.2⟩ _
theorem mulW_ok {f : Sp} {m : Int} (hf : Ord f 0 13000000) (h0 : 0 ≤ m) (h1 : m ≤ 23040) : VS (mulW f m) := by
  obtain ⟨f1, f2, f3⟩ := hf
  have a1 := Int.mul_nonneg f1 h0
  have a2 := Int.mul_nonneg (show 0 ≤ f.2 by omega) h0
  have b1 : f.1 * m ≤ 13000000 * 23040 := Int.le_trans (Int.mul_le_mul_of_nonneg_right (show f.1 ≤ 13000000 by omega) h0) (Int.mul_le_mul_of_nonneg_left h1 (by decide))
  have b2 : f.2 * m ≤ 13000000 * 23040 := Int.le_trans (Int.mul_le_mul_of_nonneg_right f3 h0) (Int.mul_le_mul_of_nonneg_left h1 (by decide))
  exact ⟨⟨a1, by dsimp only [mulW]; omega⟩, ⟨a2, by dsimp only [mulW]; omega⟩⟩
structure WatI (n : Nt) (f : Sp) (l : List Us) (bF bL j : Nat) (x : List Value × List Value × List Sp × List Sp × List (List Int)) : Prop where
  len : x.2.2.2.2.length = j
  eq : (x.2.2.1, x.2.2.2.1) = watW n f (l.take j) x.2.2.2.2
  lF : x.2.2.1.length = n.fields.length
  lL : x.2.2.2.1.length = n.canals.length
  rF : Row 25 2 encSp (some ⟨bF, 0, none⟩) n.fields.length [(bF, .cells x.1 25)] x.2.2.1
  rL : Row 25 2 encSp (some ⟨bL, 0, none⟩) n.canals.length [(bL, .cells x.2.1 25)] x.2.2.2.1
theorem c59 (n : Nt) (hn : OkNt n) (f : Sp) (hf : Ord f 0 13000000) (l : List Us) (ao : Option Addr) (c : Nat) (h60 : l.length ≤ 60) (hr : rightP n 0 l) (w : World) (hnc : Sl w 5 encCn n.cao n.canals) (hnf : Sl w 1 encI n.fao n.fields) (hl : Sl w 3 encUs ao l) :
    Calls Tryz.prog 59 #[.agg (encNt n).toArray, .agg (encSp f).toArray, .slice ao l.length c] w (RetP w.heap.size w (fun q : Nat × Nat × List Value × List Value × List Sp × List Sp => .tuple #[.slice (some ⟨q.1, 0, none⟩) n.fields.length n.fields.length, .slice (some ⟨q.2.1, 0, none⟩) n.canals.length n.canals.length]) (fun q => [(q.2.1, .cells q.2.2.2.1 25), (q.1, .cells q.2.2.1 25)])
      (fun q => Row 25 2 encSp (some ⟨q.1, 0, none⟩) n.fields.length [(q.1, .cells q.2.2.1 25)] q.2.2.2.2.1 ∧ Row 25 2 encSp (some ⟨q.2.1, 0, none⟩) n.canals.length [(q.2.1, .cells q.2.2.2.1 25)] q.2.2.2.2.2 ∧ q.2.2.2.2.1.length = n.fields.length ∧ q.2.2.2.2.2.length = n.canals.length ∧ ∃ dls : List (List Int), dls.length = l.length ∧ (q.2.2.2.2.1, q.2.2.2.2.2) = watW n f l dls)) := by
  have h16 := hn.c16; have h12 := hn.f12
  have hd := hn.days.1; have hd2 := hn.days.2
  refine enterM (args := [.agg (encNt n).toArray, .agg (encSp f).toArray, .slice ao l.length c]) Tryz.func59 rfl Tryz.ntmps59 rfl (SH.refl _) ?_
  repeat' (first | refine rn ?_ | (refine zb ?_; intro _ _) | (refine za ?_; intro _ _) | (refine zs ?_; intro _ _))
  rename_i b3 _ b4 _ b6 _ b7 _
  refine TC_join (σ := Nat × Nat) (fun _ => True) (fun q => [(2, .slice ao l.length c), (3, .pointer (some ⟨b3, 0, none⟩)), (4, .pointer (some ⟨b4, 0, none⟩)), (6, .pointer (some ⟨b6, 0, none⟩)), (7, .pointer (some ⟨b7, 0, none⟩))]) (fun q => [(q.2, .cells (List.replicate n.canals.length [Value.int .i64 0, .int .i64 0]).flatten 25), (q.1, .cells (List.replicate n.fields.length [Value.int .i64 0, .int .i64 0]).flatten 25), (b7, .cells [.slice (some ⟨q.2, 0, none⟩) n.canals.length n.canals.length] 22), (b6, .cells [.slice (some ⟨q.1, 0, none⟩) n.fields.length n.fields.length] 22), (b4, .cells (encSp f) 25), (b3, .cells (encNt n) 128)]) ?_ (fun q _ => ?_)
  · refine TC_any Tryz.mixed ?_
    refine TA_cut (σ := Nat × Nat) 1 #[true, true, true, true, true, true, true, true, true, true, true, false] (fun q => [(25, .slice (some ⟨q.2, 0, none⟩) n.canals.length n.canals.length), (24, .int .i64 n.canals.length), (23, .slice n.cao n.canals.length n.cc), (22, .pointer (some ⟨b3, 0 + 0 + 0, none⟩)), (21, .pointer (some ⟨b3, 0 + 0, none⟩)), (20, .slice (some ⟨q.1, 0, none⟩) n.fields.length n.fields.length), (19, .int .i64 n.fields.length), (18, .slice n.fao n.fields.length n.fc), (17, .pointer (some ⟨b3, 0 + 0 + 1, none⟩)), (16, .pointer (some ⟨b3, 0 + 0, none⟩)), (2, .slice ao l.length c), (3, .pointer (some ⟨b3, 0, none⟩)), (4, .pointer (some ⟨b4, 0, none⟩)), (6, .pointer (some ⟨b6, 0, none⟩)), (7, .pointer (some ⟨b7, 0, none⟩))]) (fun q => [(q.2, .cells (List.replicate n.canals.length [Value.int .i64 0, .int .i64 0]).flatten 25), (q.1, .cells (List.replicate n.fields.length [Value.int .i64 0, .int .i64 0]).flatten 25), (b7, .cells [.slice none 0 0] 22), (b6, .cells [.slice (some ⟨q.1, 0, none⟩) n.fields.length n.fields.length] 22), (b4, .cells (encSp f) 25), (b3, .cells (encNt n) 128)]) (fun q => ?_) (fun h6_5 => ?_)
    · skip
      refine TA_stepL [11] (by kernel_rfl) rfl ⟨?_, trivial⟩
      change TL _ _ _ _ _ _ _ _ _ _ _; refine r1 ?_; apply TL_nil; apply TQ_any; refine TA_done (by kernel_rfl) ?_; exact TQ_mid (p := fun _ => True) (q.1, q.2) trivial sb (fun w h => h)
    refine TA_cut (σ := Nat × Nat) 2 #[true, true, true, true, true, true, true, true, true, false, true, false] (fun q => [(24, .int .i64 n.canals.length), (23, .slice n.cao n.canals.length n.cc), (22, .pointer (some ⟨b3, 0 + 0 + 0, none⟩)), (21, .pointer (some ⟨b3, 0 + 0, none⟩)), (20, .slice (some ⟨q.1, 0, none⟩) n.fields.length n.fields.length), (19, .int .i64 n.fields.length), (18, .slice n.fao n.fields.length n.fc), (17, .pointer (some ⟨b3, 0 + 0 + 1, none⟩)), (16, .pointer (some ⟨b3, 0 + 0, none⟩)), (2, .slice ao l.length c), (3, .pointer (some ⟨b3, 0, none⟩)), (4, .pointer (some ⟨b4, 0, none⟩)), (6, .pointer (some ⟨b6, 0, none⟩)), (7, .pointer (some ⟨b7, 0, none⟩))]) (fun q => [(q.1, .cells (List.replicate n.fields.length [Value.int .i64 0, .int .i64 0]).flatten 25), (b7, .cells [.slice none 0 0] 22), (b6, .cells [.slice (some ⟨q.1, 0, none⟩) n.fields.length n.fields.length] 22), (b4, .cells (encSp f) 25), (b3, .cells (encNt n) 128)]) (fun q => ?_) (fun h6_4 => ?_)
    · skip
      refine TA_stepL [9] (by kernel_rfl) rfl ⟨?_, trivial⟩
      · change TL _ _ _ _ _ _ _ _ _ _ _; refine TL_makeSlice2 n.canals.length rfl rfl rfl rfl rfl (by omega) (by omega) (fun b _ => ?_); apply TL_nil; apply TQ_any; exact TA_via (h6_5 (q.1, b)) (by kernel_rfl) rfl sb (fun w h => h)
    refine TA_cut (σ := Nat × Nat) 3 #[true, true, true, true, true, true, true, true, false, false, true, false] (fun q => [(23, .slice n.cao n.canals.length n.cc), (22, .pointer (some ⟨b3, 0 + 0 + 0, none⟩)), (21, .pointer (some ⟨b3, 0 + 0, none⟩)), (20, .slice (some ⟨q.1, 0, none⟩) n.fields.length n.fields.length), (19, .int .i64 n.fields.length), (18, .slice n.fao n.fields.length n.fc), (17, .pointer (some ⟨b3, 0 + 0 + 1, none⟩)), (16, .pointer (some ⟨b3, 0 + 0, none⟩)), (2, .slice ao l.length c), (3, .pointer (some ⟨b3, 0, none⟩)), (4, .pointer (some ⟨b4, 0, none⟩)), (6, .pointer (some ⟨b6, 0, none⟩)), (7, .pointer (some ⟨b7, 0, none⟩))]) (fun q => [(q.1, .cells (List.replicate n.fields.length [Value.int .i64 0, .int .i64 0]).flatten 25), (b7, .cells [.slice none 0 0] 22), (b6, .cells [.slice (some ⟨q.1, 0, none⟩) n.fields.length n.fields.length] 22), (b4, .cells (encSp f) 25), (b3, .cells (encNt n) 128)]) (fun q => ?_) (fun h6_3 => ?_)
    · skip
      refine TA_stepL [8] (by kernel_rfl) rfl ⟨?_, trivial⟩
      · change TL _ _ _ _ _ _ _ _ _ _ _; refine r1 ?_; apply TL_nil; apply TQ_any; exact TA_via (h6_4 q) (by kernel_rfl) rfl sb (fun w h => h)
    refine TA_cut (σ := Nat × Nat) 4 #[true, true, true, true, true, true, true, false, false, false, true, false] (fun q => [(22, .pointer (some ⟨b3, 0 + 0 + 0, none⟩)), (21, .pointer (some ⟨b3, 0 + 0, none⟩)), (20, .slice (some ⟨q.1, 0, none⟩) n.fields.length n.fields.length), (19, .int .i64 n.fields.length), (18, .slice n.fao n.fields.length n.fc), (17, .pointer (some ⟨b3, 0 + 0 + 1, none⟩)), (16, .pointer (some ⟨b3, 0 + 0, none⟩)), (2, .slice ao l.length c), (3, .pointer (some ⟨b3, 0, none⟩)), (4, .pointer (some ⟨b4, 0, none⟩)), (6, .pointer (some ⟨b6, 0, none⟩)), (7, .pointer (some ⟨b7, 0, none⟩))]) (fun q => [(q.1, .cells (List.replicate n.fields.length [Value.int .i64 0, .int .i64 0]).flatten 25), (b7, .cells [.slice none 0 0] 22), (b6, .cells [.slice (some ⟨q.1, 0, none⟩) n.fields.length n.fields.length] 22), (b4, .cells (encSp f) 25), (b3, .cells (encNt n) 128)]) (fun q => ?_) (fun h6_2 => ?_)
    · skip
      refine TA_stepL [7] (by kernel_rfl) rfl ⟨?_, trivial⟩
      · change TL _ _ _ _ _ _ _ _ _ _ _; refine r1 ?_; apply TL_nil; apply TQ_any; exact TA_via (h6_3 q) (by kernel_rfl) rfl sb (fun w h => h)
    refine TA_cut (σ := Nat × Nat) 5 #[true, true, true, true, true, true, false, false, false, false, true, false] (fun q => [(21, .pointer (some ⟨b3, 0 + 0, none⟩)), (20, .slice (some ⟨q.1, 0, none⟩) n.fields.length n.fields.length), (19, .int .i64 n.fields.length), (18, .slice n.fao n.fields.length n.fc), (17, .pointer (some ⟨b3, 0 + 0 + 1, none⟩)), (16, .pointer (some ⟨b3, 0 + 0, none⟩)), (2, .slice ao l.length c), (3, .pointer (some ⟨b3, 0, none⟩)), (4, .pointer (some ⟨b4, 0, none⟩)), (6, .pointer (some ⟨b6, 0, none⟩)), (7, .pointer (some ⟨b7, 0, none⟩))]) (fun q => [(q.1, .cells (List.replicate n.fields.length [Value.int .i64 0, .int .i64 0]).flatten 25), (b7, .cells [.slice none 0 0] 22), (b6, .cells [.slice (some ⟨q.1, 0, none⟩) n.fields.length n.fields.length] 22), (b4, .cells (encSp f) 25), (b3, .cells (encNt n) 128)]) (fun q => ?_) (fun h6_1 => ?_)
    · skip
      refine TA_stepL [6] (by kernel_rfl) rfl ⟨?_, trivial⟩
      · change TL _ _ _ _ _ _ _ _ _ _ _; refine r1 ?_; apply TL_nil; apply TQ_any; exact TA_via (h6_2 q) (by kernel_rfl) rfl sb (fun w h => h)
    refine TA_cut (σ := Nat × Nat) 6 #[true, true, true, true, true, false, false, false, false, false, true, false] (fun q => [(20, .slice (some ⟨q.1, 0, none⟩) n.fields.length n.fields.length), (19, .int .i64 n.fields.length), (18, .slice n.fao n.fields.length n.fc), (17, .pointer (some ⟨b3, 0 + 0 + 1, none⟩)), (16, .pointer (some ⟨b3, 0 + 0, none⟩)), (2, .slice ao l.length c), (3, .pointer (some ⟨b3, 0, none⟩)), (4, .pointer (some ⟨b4, 0, none⟩)), (6, .pointer (some ⟨b6, 0, none⟩)), (7, .pointer (some ⟨b7, 0, none⟩))]) (fun q => [(q.1, .cells (List.replicate n.fields.length [Value.int .i64 0, .int .i64 0]).flatten 25), (b7, .cells [.slice none 0 0] 22), (b6, .cells [.slice (some ⟨q.1, 0, none⟩) n.fields.length n.fields.length] 22), (b4, .cells (encSp f) 25), (b3, .cells (encNt n) 128)]) (fun q => ?_) (fun h6_0 => ?_)
    · skip
      refine TA_stepL [5] (by kernel_rfl) rfl ⟨?_, trivial⟩
      · change TL _ _ _ _ _ _ _ _ _ _ _; refine r1 ?_; apply TL_nil; apply TQ_any; exact TA_via (h6_1 q) (by kernel_rfl) rfl sb (fun w h => h)
    refine TA_cut (σ := Nat × Nat) 2 #[true, true, true, true, true, true, true, true, true, true, false, false] (fun q => [(25, .slice (some ⟨q.2, 0, none⟩) n.canals.length n.canals.length), (24, .int .i64 n.canals.length), (23, .slice n.cao n.canals.length n.cc), (22, .pointer (some ⟨b3, 0 + 0 + 0, none⟩)), (21, .pointer (some ⟨b3, 0 + 0, none⟩)), (20, .slice (some ⟨q.1, 0, none⟩) n.fields.length n.fields.length), (19, .int .i64 n.fields.length), (18, .slice n.fao n.fields.length n.fc), (17, .pointer (some ⟨b3, 0 + 0 + 1, none⟩)), (16, .pointer (some ⟨b3, 0 + 0, none⟩)), (2, .slice ao l.length c), (3, .pointer (some ⟨b3, 0, none⟩)), (4, .pointer (some ⟨b4, 0, none⟩)), (6, .pointer (some ⟨b6, 0, none⟩)), (7, .pointer (some ⟨b7, 0, none⟩))]) (fun q => [(q.2, .cells (List.replicate n.canals.length [Value.int .i64 0, .int .i64 0]).flatten 25), (q.1, .cells (List.replicate n.fields.length [Value.int .i64 0, .int .i64 0]).flatten 25), (b7, .cells [.slice none 0 0] 22), (b6, .cells [.slice none 0 0] 22), (b4, .cells (encSp f) 25), (b3, .cells (encNt n) 128)]) (fun q => ?_) (fun h5_5 => ?_)
    · skip
      refine TA_stepL [10] (by kernel_rfl) rfl ⟨?_, trivial⟩
      · change TL _ _ _ _ _ _ _ _ _ _ _; refine r1 ?_; apply TL_nil; apply TQ_any; exact TA_via (h6_5 q) (by kernel_rfl) rfl sb (fun w h => h)
    refine TA_cut (σ := Nat × Nat) 3 #[true, true, true, true, true, true, true, true, true, false, false, false] (fun q => [(24, .int .i64 n.canals.length), (23, .slice n.cao n.canals.length n.cc), (22, .pointer (some ⟨b3, 0 + 0 + 0, none⟩)), (21, .pointer (some ⟨b3, 0 + 0, none⟩)), (20, .slice (some ⟨q.1, 0, none⟩) n.fields.length n.fields.length), (19, .int .i64 n.fields.length), (18, .slice n.fao n.fields.length n.fc), (17, .pointer (some ⟨b3, 0 + 0 + 1, none⟩)), (16, .pointer (some ⟨b3, 0 + 0, none⟩)), (2, .slice ao l.length c), (3, .pointer (some ⟨b3, 0, none⟩)), (4, .pointer (some ⟨b4, 0, none⟩)), (6, .pointer (some ⟨b6, 0, none⟩)), (7, .pointer (some ⟨b7, 0, none⟩))]) (fun q => [(q.1, .cells (List.replicate n.fields.length [Value.int .i64 0, .int .i64 0]).flatten 25), (b7, .cells [.slice none 0 0] 22), (b6, .cells [.slice none 0 0] 22), (b4, .cells (encSp f) 25), (b3, .cells (encNt n) 128)]) (fun q => ?_) (fun h5_4 => ?_)
    · skip
      refine TA_stepL [9, 10] (by kernel_rfl) rfl ⟨?_, ?_, trivial⟩
      · change TL _ _ _ _ _ _ _ _ _ _ _; refine TL_makeSlice2 n.canals.length rfl rfl rfl rfl rfl (by omega) (by omega) (fun b _ => ?_); apply TL_nil; apply TQ_any; exact TA_via (h5_5 (q.1, b)) (by kernel_rfl) rfl sb (fun w h => h)
      · change TL _ _ _ _ _ _ _ _ _ _ _; refine r1 ?_; apply TL_nil; apply TQ_any; exact TA_via (h6_4 q) (by kernel_rfl) rfl sb (fun w h => h)
    refine TA_cut (σ := Nat × Nat) 4 #[true, true, true, true, true, true, true, true, false, false, false, false] (fun q => [(23, .slice n.cao n.canals.length n.cc), (22, .pointer (some ⟨b3, 0 + 0 + 0, none⟩)), (21, .pointer (some ⟨b3, 0 + 0, none⟩)), (20, .slice (some ⟨q.1, 0, none⟩) n.fields.length n.fields.length), (19, .int .i64 n.fields.length), (18, .slice n.fao n.fields.length n.fc), (17, .pointer (some ⟨b3, 0 + 0 + 1, none⟩)), (16, .pointer (some ⟨b3, 0 + 0, none⟩)), (2, .slice ao l.length c), (3, .pointer (some ⟨b3, 0, none⟩)), (4, .pointer (some ⟨b4, 0, none⟩)), (6, .pointer (some ⟨b6, 0, none⟩)), (7, .pointer (some ⟨b7, 0, none⟩))]) (fun q => [(q.1, .cells (List.replicate n.fields.length [Value.int .i64 0, .int .i64 0]).flatten 25), (b7, .cells [.slice none 0 0] 22), (b6, .cells [.slice none 0 0] 22), (b4, .cells (encSp f) 25), (b3, .cells (encNt n) 128)]) (fun q => ?_) (fun h5_3 => ?_)
    · skip
      refine TA_stepL [8, 10] (by kernel_rfl) rfl ⟨?_, ?_, trivial⟩
      · change TL _ _ _ _ _ _ _ _ _ _ _; refine r1 ?_; apply TL_nil; apply TQ_any; exact TA_via (h5_4 q) (by kernel_rfl) rfl sb (fun w h => h)
      · change TL _ _ _ _ _ _ _ _ _ _ _; refine r1 ?_; apply TL_nil; apply TQ_any; exact TA_via (h6_3 q) (by kernel_rfl) rfl sb (fun w h => h)
    refine TA_cut (σ := Nat × Nat) 5 #[true, true, true, true, true, true, true, false, false, false, false, false] (fun q => [(22, .pointer (some ⟨b3, 0 + 0 + 0, none⟩)), (21, .pointer (some ⟨b3, 0 + 0, none⟩)), (20, .slice (some ⟨q.1, 0, none⟩) n.fields.length n.fields.length), (19, .int .i64 n.fields.length), (18, .slice n.fao n.fields.length n.fc), (17, .pointer (some ⟨b3, 0 + 0 + 1, none⟩)), (16, .pointer (some ⟨b3, 0 + 0, none⟩)), (2, .slice ao l.length c), (3, .pointer (some ⟨b3, 0, none⟩)), (4, .pointer (some ⟨b4, 0, none⟩)), (6, .pointer (some ⟨b6, 0, none⟩)), (7, .pointer (some ⟨b7, 0, none⟩))]) (fun q => [(q.1, .cells (List.replicate n.fields.length [Value.int .i64 0, .int .i64 0]).flatten 25), (b7, .cells [.slice none 0 0] 22), (b6, .cells [.slice none 0 0] 22), (b4, .cells (encSp f) 25), (b3, .cells (encNt n) 128)]) (fun q => ?_) (fun h5_2 => ?_)
    · skip
      refine TA_stepL [7, 10] (by kernel_rfl) rfl ⟨?_, ?_, trivial⟩
      · change TL _ _ _ _ _ _ _ _ _ _ _; refine r1 ?_; apply TL_nil; apply TQ_any; exact TA_via (h5_3 q) (by kernel_rfl) rfl sb (fun w h => h)
      · change TL _ _ _ _ _ _ _ _ _ _ _; refine r1 ?_; apply TL_nil; apply TQ_any; exact TA_via (h6_2 q) (by kernel_rfl) rfl sb (fun w h => h)
    refine TA_cut (σ := Nat × Nat) 6 #[true, true, true, true, true, true, false, false, false, false, false, false] (fun q => [(21, .pointer (some ⟨b3, 0 + 0, none⟩)), (20, .slice (some ⟨q.1, 0, none⟩) n.fields.length n.fields.length), (19, .int .i64 n.fields.length), (18, .slice n.fao n.fields.length n.fc), (17, .pointer (some ⟨b3, 0 + 0 + 1, none⟩)), (16, .pointer (some ⟨b3, 0 + 0, none⟩)), (2, .slice ao l.length c), (3, .pointer (some ⟨b3, 0, none⟩)), (4, .pointer (some ⟨b4, 0, none⟩)), (6, .pointer (some ⟨b6, 0, none⟩)), (7, .pointer (some ⟨b7, 0, none⟩))]) (fun q => [(q.1, .cells (List.replicate n.fields.length [Value.int .i64 0, .int .i64 0]).flatten 25), (b7, .cells [.slice none 0 0] 22), (b6, .cells [.slice none 0 0] 22), (b4, .cells (encSp f) 25), (b3, .cells (encNt n) 128)]) (fun q => ?_) (fun h5_1 => ?_)
    · skip
      refine TA_stepL [6, 10] (by kernel_rfl) rfl ⟨?_, ?_, trivial⟩
      · change TL _ _ _ _ _ _ _ _ _ _ _; refine r1 ?_; apply TL_nil; apply TQ_any; exact TA_via (h5_2 q) (by kernel_rfl) rfl sb (fun w h => h)
      · change TL _ _ _ _ _ _ _ _ _ _ _; refine r1 ?_; apply TL_nil; apply TQ_any; exact TA_via (h6_1 q) (by kernel_rfl) rfl sb (fun w h => h)
    refine TA_cut (σ := Nat × Nat) 7 #[true, true, true, true, true, false, false, false, false, false, false, false] (fun q => [(20, .slice (some ⟨q.1, 0, none⟩) n.fields.length n.fields.length), (19, .int .i64 n.fields.length), (18, .slice n.fao n.fields.length n.fc), (17, .pointer (some ⟨b3, 0 + 0 + 1, none⟩)), (16, .pointer (some ⟨b3, 0 + 0, none⟩)), (2, .slice ao l.length c), (3, .pointer (some ⟨b3, 0, none⟩)), (4, .pointer (some ⟨b4, 0, none⟩)), (6, .pointer (some ⟨b6, 0, none⟩)), (7, .pointer (some ⟨b7, 0, none⟩))]) (fun q => [(q.1, .cells (List.replicate n.fields.length [Value.int .i64 0, .int .i64 0]).flatten 25), (b7, .cells [.slice none 0 0] 22), (b6, .cells [.slice none 0 0] 22), (b4, .cells (encSp f) 25), (b3, .cells (encNt n) 128)]) (fun q => ?_) (fun h5_0 => ?_)
    · skip
      refine TA_stepL [5, 10] (by kernel_rfl) rfl ⟨?_, ?_, trivial⟩
      · change TL _ _ _ _ _ _ _ _ _ _ _; refine r1 ?_; apply TL_nil; apply TQ_any; exact TA_via (h5_1 q) (by kernel_rfl) rfl sb (fun w h => h)
      · change TL _ _ _ _ _ _ _ _ _ _ _; refine r1 ?_; apply TL_nil; apply TQ_any; exact TA_via (h6_0 q) (by kernel_rfl) rfl sb (fun w h => h)
    refine TA_cut (σ := Nat × Nat) 3 #[true, true, true, true, false, true, true, true, true, true, false, false] (fun q => [(25, .slice (some ⟨q.2, 0, none⟩) n.canals.length n.canals.length), (24, .int .i64 n.canals.length), (23, .slice n.cao n.canals.length n.cc), (22, .pointer (some ⟨b3, 0 + 0 + 0, none⟩)), (21, .pointer (some ⟨b3, 0 + 0, none⟩)), (19, .int .i64 n.fields.length), (18, .slice n.fao n.fields.length n.fc), (17, .pointer (some ⟨b3, 0 + 0 + 1, none⟩)), (16, .pointer (some ⟨b3, 0 + 0, none⟩)), (2, .slice ao l.length c), (3, .pointer (some ⟨b3, 0, none⟩)), (4, .pointer (some ⟨b4, 0, none⟩)), (6, .pointer (some ⟨b6, 0, none⟩)), (7, .pointer (some ⟨b7, 0, none⟩))]) (fun q => [(q.2, .cells (List.replicate n.canals.length [Value.int .i64 0, .int .i64 0]).flatten 25), (b7, .cells [.slice none 0 0] 22), (b6, .cells [.slice none 0 0] 22), (b4, .cells (encSp f) 25), (b3, .cells (encNt n) 128)]) (fun q => ?_) (fun h4_5 => ?_)
    · skip
      refine TA_stepL [4] (by kernel_rfl) rfl ⟨?_, trivial⟩
      · change TL _ _ _ _ _ _ _ _ _ _ _; refine TL_makeSlice2 n.fields.length rfl rfl rfl rfl rfl (by omega) (by omega) (fun b _ => ?_); apply TL_nil; apply TQ_any; exact TA_via (h5_5 (b, q.2)) (by kernel_rfl) rfl sb (fun w h => h.perm (List.Perm.swap _ _ _))
    refine TA_cut (σ := Nat × Nat) 4 #[true, true, true, true, false, true, true, true, true, false, false, false] (fun q => [(24, .int .i64 n.canals.length), (23, .slice n.cao n.canals.length n.cc), (22, .pointer (some ⟨b3, 0 + 0 + 0, none⟩)), (21, .pointer (some ⟨b3, 0 + 0, none⟩)), (19, .int .i64 n.fields.length), (18, .slice n.fao n.fields.length n.fc), (17, .pointer (some ⟨b3, 0 + 0 + 1, none⟩)), (16, .pointer (some ⟨b3, 0 + 0, none⟩)), (2, .slice ao l.length c), (3, .pointer (some ⟨b3, 0, none⟩)), (4, .pointer (some ⟨b4, 0, none⟩)), (6, .pointer (some ⟨b6, 0, none⟩)), (7, .pointer (some ⟨b7, 0, none⟩))]) (fun q => [(b7, .cells [.slice none 0 0] 22), (b6, .cells [.slice none 0 0] 22), (b4, .cells (encSp f) 25), (b3, .cells (encNt n) 128)]) (fun q => ?_) (fun h4_4 => ?_)
    · skip
      refine TA_stepL [4, 9] (by kernel_rfl) rfl ⟨?_, ?_, trivial⟩
      · change TL _ _ _ _ _ _ _ _ _ _ _; refine TL_makeSlice2 n.fields.length rfl rfl rfl rfl rfl (by omega) (by omega) (fun b _ => ?_); apply TL_nil; apply TQ_any; exact TA_via (h5_4 (b, q.2)) (by kernel_rfl) rfl sb (fun w h => h)
      · change TL _ _ _ _ _ _ _ _ _ _ _; refine TL_makeSlice2 n.canals.length rfl rfl rfl rfl rfl (by omega) (by omega) (fun b _ => ?_); apply TL_nil; apply TQ_any; exact TA_via (h4_5 (q.1, b)) (by kernel_rfl) rfl sb (fun w h => h)
    refine TA_cut (σ := Nat × Nat) 5 #[true, true, true, true, false, true, true, true, false, false, false, false] (fun q => [(23, .slice n.cao n.canals.length n.cc), (22, .pointer (some ⟨b3, 0 + 0 + 0, none⟩)), (21, .pointer (some ⟨b3, 0 + 0, none⟩)), (19, .int .i64 n.fields.length), (18, .slice n.fao n.fields.length n.fc), (17, .pointer (some ⟨b3, 0 + 0 + 1, none⟩)), (16, .pointer (some ⟨b3, 0 + 0, none⟩)), (2, .slice ao l.length c), (3, .pointer (some ⟨b3, 0, none⟩)), (4, .pointer (some ⟨b4, 0, none⟩)), (6, .pointer (some ⟨b6, 0, none⟩)), (7, .pointer (some ⟨b7, 0, none⟩))]) (fun q => [(b7, .cells [.slice none 0 0] 22), (b6, .cells [.slice none 0 0] 22), (b4, .cells (encSp f) 25), (b3, .cells (encNt n) 128)]) (fun q => ?_) (fun h4_3 => ?_)
    · skip
      refine TA_stepL [4, 8] (by kernel_rfl) rfl ⟨?_, ?_, trivial⟩
      · change TL _ _ _ _ _ _ _ _ _ _ _; refine TL_makeSlice2 n.fields.length rfl rfl rfl rfl rfl (by omega) (by omega) (fun b _ => ?_); apply TL_nil; apply TQ_any; exact TA_via (h5_3 (b, q.2)) (by kernel_rfl) rfl sb (fun w h => h)
      · change TL _ _ _ _ _ _ _ _ _ _ _; refine r1 ?_; apply TL_nil; apply TQ_any; exact TA_via (h4_4 q) (by kernel_rfl) rfl sb (fun w h => h)
    refine TA_cut (σ := Nat × Nat) 6 #[true, true, true, true, false, true, true, false, false, false, false, false] (fun q => [(22, .pointer (some ⟨b3, 0 + 0 + 0, none⟩)), (21, .pointer (some ⟨b3, 0 + 0, none⟩)), (19, .int .i64 n.fields.length), (18, .slice n.fao n.fields.length n.fc), (17, .pointer (some ⟨b3, 0 + 0 + 1, none⟩)), (16, .pointer (some ⟨b3, 0 + 0, none⟩)), (2, .slice ao l.length c), (3, .pointer (some ⟨b3, 0, none⟩)), (4, .pointer (some ⟨b4, 0, none⟩)), (6, .pointer (some ⟨b6, 0, none⟩)), (7, .pointer (some ⟨b7, 0, none⟩))]) (fun q => [(b7, .cells [.slice none 0 0] 22), (b6, .cells [.slice none 0 0] 22), (b4, .cells (encSp f) 25), (b3, .cells (encNt n) 128)]) (fun q => ?_) (fun h4_2 => ?_)
    · skip
      refine TA_stepL [4, 7] (by kernel_rfl) rfl ⟨?_, ?_, trivial⟩
      · change TL _ _ _ _ _ _ _ _ _ _ _; refine TL_makeSlice2 n.fields.length rfl rfl rfl rfl rfl (by omega) (by omega) (fun b _ => ?_); apply TL_nil; apply TQ_any; exact TA_via (h5_2 (b, q.2)) (by kernel_rfl) rfl sb (fun w h => h)
      · change TL _ _ _ _ _ _ _ _ _ _ _; refine r1 ?_; apply TL_nil; apply TQ_any; exact TA_via (h4_3 q) (by kernel_rfl) rfl sb (fun w h => h)
    refine TA_cut (σ := Nat × Nat) 7 #[true, true, true, true, false, true, false, false, false, false, false, false] (fun q => [(21, .pointer (some ⟨b3, 0 + 0, none⟩)), (19, .int .i64 n.fields.length), (18, .slice n.fao n.fields.length n.fc), (17, .pointer (some ⟨b3, 0 + 0 + 1, none⟩)), (16, .pointer (some ⟨b3, 0 + 0, none⟩)), (2, .slice ao l.length c), (3, .pointer (some ⟨b3, 0, none⟩)), (4, .pointer (some ⟨b4, 0, none⟩)), (6, .pointer (some ⟨b6, 0, none⟩)), (7, .pointer (some ⟨b7, 0, none⟩))]) (fun q => [(b7, .cells [.slice none 0 0] 22), (b6, .cells [.slice none 0 0] 22), (b4, .cells (encSp f) 25), (b3, .cells (encNt n) 128)]) (fun q => ?_) (fun h4_1 => ?_)
    · skip
      refine TA_stepL [4, 6] (by kernel_rfl) rfl ⟨?_, ?_, trivial⟩
      · change TL _ _ _ _ _ _ _ _ _ _ _; refine TL_makeSlice2 n.fields.length rfl rfl rfl rfl rfl (by omega) (by omega) (fun b _ => ?_); apply TL_nil; apply TQ_any; exact TA_via (h5_1 (b, q.2)) (by kernel_rfl) rfl sb (fun w h => h)
      · change TL _ _ _ _ _ _ _ _ _ _ _; refine r1 ?_; apply TL_nil; apply TQ_any; exact TA_via (h4_2 q) (by kernel_rfl) rfl sb (fun w h => h)
    refine TA_cut (σ := Nat × Nat) 8 #[true, true, true, true, false, false, false, false, false, false, false, false] (fun q => [(19, .int .i64 n.fields.length), (18, .slice n.fao n.fields.length n.fc), (17, .pointer (some ⟨b3, 0 + 0 + 1, none⟩)), (16, .pointer (some ⟨b3, 0 + 0, none⟩)), (2, .slice ao l.length c), (3, .pointer (some ⟨b3, 0, none⟩)), (4, .pointer (some ⟨b4, 0, none⟩)), (6, .pointer (some ⟨b6, 0, none⟩)), (7, .pointer (some ⟨b7, 0, none⟩))]) (fun q => [(b7, .cells [.slice none 0 0] 22), (b6, .cells [.slice none 0 0] 22), (b4, .cells (encSp f) 25), (b3, .cells (encNt n) 128)]) (fun q => ?_) (fun h4_0 => ?_)
    · skip
      refine TA_stepL [4, 5] (by kernel_rfl) rfl ⟨?_, ?_, trivial⟩
      · change TL _ _ _ _ _ _ _ _ _ _ _; refine TL_makeSlice2 n.fields.length rfl rfl rfl rfl rfl (by omega) (by omega) (fun b _ => ?_); apply TL_nil; apply TQ_any; exact TA_via (h5_0 (b, q.2)) (by kernel_rfl) rfl sb (fun w h => h)
      · change TL _ _ _ _ _ _ _ _ _ _ _; refine r1 ?_; apply TL_nil; apply TQ_any; exact TA_via (h4_1 q) (by kernel_rfl) rfl sb (fun w h => h)
    refine TA_cut (σ := Nat × Nat) 4 #[true, true, true, false, false, true, true, true, true, true, false, false] (fun q => [(25, .slice (some ⟨q.2, 0, none⟩) n.canals.length n.canals.length), (24, .int .i64 n.canals.length), (23, .slice n.cao n.canals.length n.cc), (22, .pointer (some ⟨b3, 0 + 0 + 0, none⟩)), (21, .pointer (some ⟨b3, 0 + 0, none⟩)), (18, .slice n.fao n.fields.length n.fc), (17, .pointer (some ⟨b3, 0 + 0 + 1, none⟩)), (16, .pointer (some ⟨b3, 0 + 0, none⟩)), (2, .slice ao l.length c), (3, .pointer (some ⟨b3, 0, none⟩)), (4, .pointer (some ⟨b4, 0, none⟩)), (6, .pointer (some ⟨b6, 0, none⟩)), (7, .pointer (some ⟨b7, 0, none⟩))]) (fun q => [(q.2, .cells (List.replicate n.canals.length [Value.int .i64 0, .int .i64 0]).flatten 25), (b7, .cells [.slice none 0 0] 22), (b6, .cells [.slice none 0 0] 22), (b4, .cells (encSp f) 25), (b3, .cells (encNt n) 128)]) (fun q => ?_) (fun h3_5 => ?_)
    · skip
      refine TA_stepL [3] (by kernel_rfl) rfl ⟨?_, trivial⟩
      · change TL _ _ _ _ _ _ _ _ _ _ _; refine r1 ?_; apply TL_nil; apply TQ_any; exact TA_via (h4_5 q) (by kernel_rfl) rfl sb (fun w h => h)
    refine TA_cut (σ := Nat × Nat) 5 #[true, true, true, false, false, true, true, true, true, false, false, false] (fun q => [(24, .int .i64 n.canals.length), (23, .slice n.cao n.canals.length n.cc), (22, .pointer (some ⟨b3, 0 + 0 + 0, none⟩)), (21, .pointer (some ⟨b3, 0 + 0, none⟩)), (18, .slice n.fao n.fields.length n.fc), (17, .pointer (some ⟨b3, 0 + 0 + 1, none⟩)), (16, .pointer (some ⟨b3, 0 + 0, none⟩)), (2, .slice ao l.length c), (3, .pointer (some ⟨b3, 0, none⟩)), (4, .pointer (some ⟨b4, 0, none⟩)), (6, .pointer (some ⟨b6, 0, none⟩)), (7, .pointer (some ⟨b7, 0, none⟩))]) (fun q => [(b7, .cells [.slice none 0 0] 22), (b6, .cells [.slice none 0 0] 22), (b4, .cells (encSp f) 25), (b3, .cells (encNt n) 128)]) (fun q => ?_) (fun h3_4 => ?_)
    · skip
      refine TA_stepL [3, 9] (by kernel_rfl) rfl ⟨?_, ?_, trivial⟩
      · change TL _ _ _ _ _ _ _ _ _ _ _; refine r1 ?_; apply TL_nil; apply TQ_any; exact TA_via (h4_4 q) (by kernel_rfl) rfl sb (fun w h => h)
      · change TL _ _ _ _ _ _ _ _ _ _ _; refine TL_makeSlice2 n.canals.length rfl rfl rfl rfl rfl (by omega) (by omega) (fun b _ => ?_); apply TL_nil; apply TQ_any; exact TA_via (h3_5 (q.1, b)) (by kernel_rfl) rfl sb (fun w h => h)
    refine TA_cut (σ := Nat × Nat) 6 #[true, true, true, false, false, true, true, true, false, false, false, false] (fun q => [(23, .slice n.cao n.canals.length n.cc), (22, .pointer (some ⟨b3, 0 + 0 + 0, none⟩)), (21, .pointer (some ⟨b3, 0 + 0, none⟩)), (18, .slice n.fao n.fields.length n.fc), (17, .pointer (some ⟨b3, 0 + 0 + 1, none⟩)), (16, .pointer (some ⟨b3, 0 + 0, none⟩)), (2, .slice ao l.length c), (3, .pointer (some ⟨b3, 0, none⟩)), (4, .pointer (some ⟨b4, 0, none⟩)), (6, .pointer (some ⟨b6, 0, none⟩)), (7, .pointer (some ⟨b7, 0, none⟩))]) (fun q => [(b7, .cells [.slice none 0 0] 22), (b6, .cells [.slice none 0 0] 22), (b4, .cells (encSp f) 25), (b3, .cells (encNt n) 128)]) (fun q => ?_) (fun h3_3 => ?_)
    · skip
      refine TA_stepL [3, 8] (by kernel_rfl) rfl ⟨?_, ?_, trivial⟩
      · change TL _ _ _ _ _ _ _ _ _ _ _; refine r1 ?_; apply TL_nil; apply TQ_any; exact TA_via (h4_3 q) (by kernel_rfl) rfl sb (fun w h => h)
      · change TL _ _ _ _ _ _ _ _ _ _ _; refine r1 ?_; apply TL_nil; apply TQ_any; exact TA_via (h3_4 q) (by kernel_rfl) rfl sb (fun w h => h)
    refine TA_cut (σ := Nat × Nat) 7 #[true, true, true, false, false, true, true, false, false, false, false, false] (fun q => [(22, .pointer (some ⟨b3, 0 + 0 + 0, none⟩)), (21, .pointer (some ⟨b3, 0 + 0, none⟩)), (18, .slice n.fao n.fields.length n.fc), (17, .pointer (some ⟨b3, 0 + 0 + 1, none⟩)), (16, .pointer (some ⟨b3, 0 + 0, none⟩)), (2, .slice ao l.length c), (3, .pointer (some ⟨b3, 0, none⟩)), (4, .pointer (some ⟨b4, 0, none⟩)), (6, .pointer (some ⟨b6, 0, none⟩)), (7, .pointer (some ⟨b7, 0, none⟩))]) (fun q => [(b7, .cells [.slice none 0 0] 22), (b6, .cells [.slice none 0 0] 22), (b4, .cells (encSp f) 25), (b3, .cells (encNt n) 128)]) (fun q => ?_) (fun h3_2 => ?_)
    · skip
      refine TA_stepL [3, 7] (by kernel_rfl) rfl ⟨?_, ?_, trivial⟩
      · change TL _ _ _ _ _ _ _ _ _ _ _; refine r1 ?_; apply TL_nil; apply TQ_any; exact TA_via (h4_2 q) (by kernel_rfl) rfl sb (fun w h => h)
      · change TL _ _ _ _ _ _ _ _ _ _ _; refine r1 ?_; apply TL_nil; apply TQ_any; exact TA_via (h3_3 q) (by kernel_rfl) rfl sb (fun w h => h)
    refine TA_cut (σ := Nat × Nat) 8 #[true, true, true, false, false, true, false, false, false, false, false, false] (fun q => [(21, .pointer (some ⟨b3, 0 + 0, none⟩)), (18, .slice n.fao n.fields.length n.fc), (17, .pointer (some ⟨b3, 0 + 0 + 1, none⟩)), (16, .pointer (some ⟨b3, 0 + 0, none⟩)), (2, .slice ao l.length c), (3, .pointer (some ⟨b3, 0, none⟩)), (4, .pointer (some ⟨b4, 0, none⟩)), (6, .pointer (some ⟨b6, 0, none⟩)), (7, .pointer (some ⟨b7, 0, none⟩))]) (fun q => [(b7, .cells [.slice none 0 0] 22), (b6, .cells [.slice none 0 0] 22), (b4, .cells (encSp f) 25), (b3, .cells (encNt n) 128)]) (fun q => ?_) (fun h3_1 => ?_)
    · skip
      refine TA_stepL [3, 6] (by kernel_rfl) rfl ⟨?_, ?_, trivial⟩
      · change TL _ _ _ _ _ _ _ _ _ _ _; refine r1 ?_; apply TL_nil; apply TQ_any; exact TA_via (h4_1 q) (by kernel_rfl) rfl sb (fun w h => h)
      · change TL _ _ _ _ _ _ _ _ _ _ _; refine r1 ?_; apply TL_nil; apply TQ_any; exact TA_via (h3_2 q) (by kernel_rfl) rfl sb (fun w h => h)
    refine TA_cut (σ := Nat × Nat) 9 #[true, true, true, false, false, false, false, false, false, false, false, false] (fun q => [(18, .slice n.fao n.fields.length n.fc), (17, .pointer (some ⟨b3, 0 + 0 + 1, none⟩)), (16, .pointer (some ⟨b3, 0 + 0, none⟩)), (2, .slice ao l.length c), (3, .pointer (some ⟨b3, 0, none⟩)), (4, .pointer (some ⟨b4, 0, none⟩)), (6, .pointer (some ⟨b6, 0, none⟩)), (7, .pointer (some ⟨b7, 0, none⟩))]) (fun q => [(b7, .cells [.slice none 0 0] 22), (b6, .cells [.slice none 0 0] 22), (b4, .cells (encSp f) 25), (b3, .cells (encNt n) 128)]) (fun q => ?_) (fun h3_0 => ?_)
    · skip
      refine TA_stepL [3, 5] (by kernel_rfl) rfl ⟨?_, ?_, trivial⟩
      · change TL _ _ _ _ _ _ _ _ _ _ _; refine r1 ?_; apply TL_nil; apply TQ_any; exact TA_via (h4_0 q) (by kernel_rfl) rfl sb (fun w h => h)
      · change TL _ _ _ _ _ _ _ _ _ _ _; refine r1 ?_; apply TL_nil; apply TQ_any; exact TA_via (h3_1 q) (by kernel_rfl) rfl sb (fun w h => h)
    refine TA_cut (σ := Nat × Nat) 5 #[true, true, false, false, false, true, true, true, true, true, false, false] (fun q => [(25, .slice (some ⟨q.2, 0, none⟩) n.canals.length n.canals.length), (24, .int .i64 n.canals.length), (23, .slice n.cao n.canals.length n.cc), (22, .pointer (some ⟨b3, 0 + 0 + 0, none⟩)), (21, .pointer (some ⟨b3, 0 + 0, none⟩)), (17, .pointer (some ⟨b3, 0 + 0 + 1, none⟩)), (16, .pointer (some ⟨b3, 0 + 0, none⟩)), (2, .slice ao l.length c), (3, .pointer (some ⟨b3, 0, none⟩)), (4, .pointer (some ⟨b4, 0, none⟩)), (6, .pointer (some ⟨b6, 0, none⟩)), (7, .pointer (some ⟨b7, 0, none⟩))]) (fun q => [(q.2, .cells (List.replicate n.canals.length [Value.int .i64 0, .int .i64 0]).flatten 25), (b7, .cells [.slice none 0 0] 22), (b6, .cells [.slice none 0 0] 22), (b4, .cells (encSp f) 25), (b3, .cells (encNt n) 128)]) (fun q => ?_) (fun h2_5 => ?_)
    · skip
      refine TA_stepL [2] (by kernel_rfl) rfl ⟨?_, trivial⟩
      · change TL _ _ _ _ _ _ _ _ _ _ _; refine r1 ?_; apply TL_nil; apply TQ_any; exact TA_via (h3_5 q) (by kernel_rfl) rfl sb (fun w h => h)
    refine TA_cut (σ := Nat × Nat) 6 #[true, true, false, false, false, true, true, true, true, false, false, false] (fun q => [(24, .int .i64 n.canals.length), (23, .slice n.cao n.canals.length n.cc), (22, .pointer (some ⟨b3, 0 + 0 + 0, none⟩)), (21, .pointer (some ⟨b3, 0 + 0, none⟩)), (17, .pointer (some ⟨b3, 0 + 0 + 1, none⟩)), (16, .pointer (some ⟨b3, 0 + 0, none⟩)), (2, .slice ao l.length c), (3, .pointer (some ⟨b3, 0, none⟩)), (4, .pointer (some ⟨b4, 0, none⟩)), (6, .pointer (some ⟨b6, 0, none⟩)), (7, .pointer (some ⟨b7, 0, none⟩))]) (fun q => [(b7, .cells [.slice none 0 0] 22), (b6, .cells [.slice none 0 0] 22), (b4, .cells (encSp f) 25), (b3, .cells (encNt n) 128)]) (fun q => ?_) (fun h2_4 => ?_)
    · skip
      refine TA_stepL [2, 9] (by kernel_rfl) rfl ⟨?_, ?_, trivial⟩
      · change TL _ _ _ _ _ _ _ _ _ _ _; refine r1 ?_; apply TL_nil; apply TQ_any; exact TA_via (h3_4 q) (by kernel_rfl) rfl sb (fun w h => h)
      · change TL _ _ _ _ _ _ _ _ _ _ _; refine TL_makeSlice2 n.canals.length rfl rfl rfl rfl rfl (by omega) (by omega) (fun b _ => ?_); apply TL_nil; apply TQ_any; exact TA_via (h2_5 (q.1, b)) (by kernel_rfl) rfl sb (fun w h => h)
    refine TA_cut (σ := Nat × Nat) 7 #[true, true, false, false, false, true, true, true, false, false, false, false] (fun q => [(23, .slice n.cao n.canals.length n.cc), (22, .pointer (some ⟨b3, 0 + 0 + 0, none⟩)), (21, .pointer (some ⟨b3, 0 + 0, none⟩)), (17, .pointer (some ⟨b3, 0 + 0 + 1, none⟩)), (16, .pointer (some ⟨b3, 0 + 0, none⟩)), (2, .slice ao l.length c), (3, .pointer (some ⟨b3, 0, none⟩)), (4, .pointer (some ⟨b4, 0, none⟩)), (6, .pointer (some ⟨b6, 0, none⟩)), (7, .pointer (some ⟨b7, 0, none⟩))]) (fun q => [(b7, .cells [.slice none 0 0] 22), (b6, .cells [.slice none 0 0] 22), (b4, .cells (encSp f) 25), (b3, .cells (encNt n) 128)]) (fun q => ?_) (fun h2_3 => ?_)
    · skip
      refine TA_stepL [2, 8] (by kernel_rfl) rfl ⟨?_, ?_, trivial⟩
      · change TL _ _ _ _ _ _ _ _ _ _ _; refine r1 ?_; apply TL_nil; apply TQ_any; exact TA_via (h3_3 q) (by kernel_rfl) rfl sb (fun w h => h)
      · change TL _ _ _ _ _ _ _ _ _ _ _; refine r1 ?_; apply TL_nil; apply TQ_any; exact TA_via (h2_4 q) (by kernel_rfl) rfl sb (fun w h => h)
    refine TA_cut (σ := Nat × Nat) 8 #[true, true, false, false, false, true, true, false, false, false, false, false] (fun q => [(22, .pointer (some ⟨b3, 0 + 0 + 0, none⟩)), (21, .pointer (some ⟨b3, 0 + 0, none⟩)), (17, .pointer (some ⟨b3, 0 + 0 + 1, none⟩)), (16, .pointer (some ⟨b3, 0 + 0, none⟩)), (2, .slice ao l.length c), (3, .pointer (some ⟨b3, 0, none⟩)), (4, .pointer (some ⟨b4, 0, none⟩)), (6, .pointer (some ⟨b6, 0, none⟩)), (7, .pointer (some ⟨b7, 0, none⟩))]) (fun q => [(b7, .cells [.slice none 0 0] 22), (b6, .cells [.slice none 0 0] 22), (b4, .cells (encSp f) 25), (b3, .cells (encNt n) 128)]) (fun q => ?_) (fun h2_2 => ?_)
    · skip
      refine TA_stepL [2, 7] (by kernel_rfl) rfl ⟨?_, ?_, trivial⟩
      · change TL _ _ _ _ _ _ _ _ _ _ _; refine r1 ?_; apply TL_nil; apply TQ_any; exact TA_via (h3_2 q) (by kernel_rfl) rfl sb (fun w h => h)
      · change TL _ _ _ _ _ _ _ _ _ _ _; refine r1 ?_; apply TL_nil; apply TQ_any; exact TA_via (h2_3 q) (by kernel_rfl) rfl sb (fun w h => h)
    refine TA_cut (σ := Nat × Nat) 9 #[true, true, false, false, false, true, false, false, false, false, false, false] (fun q => [(21, .pointer (some ⟨b3, 0 + 0, none⟩)), (17, .pointer (some ⟨b3, 0 + 0 + 1, none⟩)), (16, .pointer (some ⟨b3, 0 + 0, none⟩)), (2, .slice ao l.length c), (3, .pointer (some ⟨b3, 0, none⟩)), (4, .pointer (some ⟨b4, 0, none⟩)), (6, .pointer (some ⟨b6, 0, none⟩)), (7, .pointer (some ⟨b7, 0, none⟩))]) (fun q => [(b7, .cells [.slice none 0 0] 22), (b6, .cells [.slice none 0 0] 22), (b4, .cells (encSp f) 25), (b3, .cells (encNt n) 128)]) (fun q => ?_) (fun h2_1 => ?_)
    · skip
      refine TA_stepL [2, 6] (by kernel_rfl) rfl ⟨?_, ?_, trivial⟩
      · change TL _ _ _ _ _ _ _ _ _ _ _; refine r1 ?_; apply TL_nil; apply TQ_any; exact TA_via (h3_1 q) (by kernel_rfl) rfl sb (fun w h => h)
      · change TL _ _ _ _ _ _ _ _ _ _ _; refine r1 ?_; apply TL_nil; apply TQ_any; exact TA_via (h2_2 q) (by kernel_rfl) rfl sb (fun w h => h)
    refine TA_cut (σ := Nat × Nat) 10 #[true, true, false, false, false, false, false, false, false, false, false, false] (fun q => [(17, .pointer (some ⟨b3, 0 + 0 + 1, none⟩)), (16, .pointer (some ⟨b3, 0 + 0, none⟩)), (2, .slice ao l.length c), (3, .pointer (some ⟨b3, 0, none⟩)), (4, .pointer (some ⟨b4, 0, none⟩)), (6, .pointer (some ⟨b6, 0, none⟩)), (7, .pointer (some ⟨b7, 0, none⟩))]) (fun q => [(b7, .cells [.slice none 0 0] 22), (b6, .cells [.slice none 0 0] 22), (b4, .cells (encSp f) 25), (b3, .cells (encNt n) 128)]) (fun q => ?_) (fun h2_0 => ?_)
    · skip
      refine TA_stepL [2, 5] (by kernel_rfl) rfl ⟨?_, ?_, trivial⟩
      · change TL _ _ _ _ _ _ _ _ _ _ _; refine r1 ?_; apply TL_nil; apply TQ_any; exact TA_via (h3_0 q) (by kernel_rfl) rfl sb (fun w h => h)
      · change TL _ _ _ _ _ _ _ _ _ _ _; refine r1 ?_; apply TL_nil; apply TQ_any; exact TA_via (h2_1 q) (by kernel_rfl) rfl sb (fun w h => h)
    refine TA_cut (σ := Nat × Nat) 6 #[true, false, false, false, false, true, true, true, true, true, false, false] (fun q => [(25, .slice (some ⟨q.2, 0, none⟩) n.canals.length n.canals.length), (24, .int .i64 n.canals.length), (23, .slice n.cao n.canals.length n.cc), (22, .pointer (some ⟨b3, 0 + 0 + 0, none⟩)), (21, .pointer (some ⟨b3, 0 + 0, none⟩)), (16, .pointer (some ⟨b3, 0 + 0, none⟩)), (2, .slice ao l.length c), (3, .pointer (some ⟨b3, 0, none⟩)), (4, .pointer (some ⟨b4, 0, none⟩)), (6, .pointer (some ⟨b6, 0, none⟩)), (7, .pointer (some ⟨b7, 0, none⟩))]) (fun q => [(q.2, .cells (List.replicate n.canals.length [Value.int .i64 0, .int .i64 0]).flatten 25), (b7, .cells [.slice none 0 0] 22), (b6, .cells [.slice none 0 0] 22), (b4, .cells (encSp f) 25), (b3, .cells (encNt n) 128)]) (fun q => ?_) (fun h1_5 => ?_)
    · skip
      refine TA_stepL [1] (by kernel_rfl) rfl ⟨?_, trivial⟩
      · change TL _ _ _ _ _ _ _ _ _ _ _; refine r1 ?_; apply TL_nil; apply TQ_any; exact TA_via (h2_5 q) (by kernel_rfl) rfl sb (fun w h => h)
    refine TA_cut (σ := Nat × Nat) 7 #[true, false, false, false, false, true, true, true, true, false, false, false] (fun q => [(24, .int .i64 n.canals.length), (23, .slice n.cao n.canals.length n.cc), (22, .pointer (some ⟨b3, 0 + 0 + 0, none⟩)), (21, .pointer (some ⟨b3, 0 + 0, none⟩)), (16, .pointer (some ⟨b3, 0 + 0, none⟩)), (2, .slice ao l.length c), (3, .pointer (some ⟨b3, 0, none⟩)), (4, .pointer (some ⟨b4, 0, none⟩)), (6, .pointer (some ⟨b6, 0, none⟩)), (7, .pointer (some ⟨b7, 0, none⟩))]) (fun q => [(b7, .cells [.slice none 0 0] 22), (b6, .cells [.slice none 0 0] 22), (b4, .cells (encSp f) 25), (b3, .cells (encNt n) 128)]) (fun q => ?_) (fun h1_4 => ?_)
    · skip
      refine TA_stepL [1, 9] (by kernel_rfl) rfl ⟨?_, ?_, trivial⟩
      · change TL _ _ _ _ _ _ _ _ _ _ _; refine r1 ?_; apply TL_nil; apply TQ_any; exact TA_via (h2_4 q) (by kernel_rfl) rfl sb (fun w h => h)
      · change TL _ _ _ _ _ _ _ _ _ _ _; refine TL_makeSlice2 n.canals.length rfl rfl rfl rfl rfl (by omega) (by omega) (fun b _ => ?_); apply TL_nil; apply TQ_any; exact TA_via (h1_5 (q.1, b)) (by kernel_rfl) rfl sb (fun w h => h)
    refine TA_cut (σ := Nat × Nat) 8 #[true, false, false, false, false, true, true, true, false, false, false, false] (fun q => [(23, .slice n.cao n.canals.length n.cc), (22, .pointer (some ⟨b3, 0 + 0 + 0, none⟩)), (21, .pointer (some ⟨b3, 0 + 0, none⟩)), (16, .pointer (some ⟨b3, 0 + 0, none⟩)), (2, .slice ao l.length c), (3, .pointer (some ⟨b3, 0, none⟩)), (4, .pointer (some ⟨b4, 0, none⟩)), (6, .pointer (some ⟨b6, 0, none⟩)), (7, .pointer (some ⟨b7, 0, none⟩))]) (fun q => [(b7, .cells [.slice none 0 0] 22), (b6, .cells [.slice none 0 0] 22), (b4, .cells (encSp f) 25), (b3, .cells (encNt n) 128)]) (fun q => ?_) (fun h1_3 => ?_)
    · skip
      refine TA_stepL [1, 8] (by kernel_rfl) rfl ⟨?_, ?_, trivial⟩
      · change TL _ _ _ _ _ _ _ _ _ _ _; refine r1 ?_; apply TL_nil; apply TQ_any; exact TA_via (h2_3 q) (by kernel_rfl) rfl sb (fun w h => h)
      · change TL _ _ _ _ _ _ _ _ _ _ _; refine r1 ?_; apply TL_nil; apply TQ_any; exact TA_via (h1_4 q) (by kernel_rfl) rfl sb (fun w h => h)
    refine TA_cut (σ := Nat × Nat) 9 #[true, false, false, false, false, true, true, false, false, false, false, false] (fun q => [(22, .pointer (some ⟨b3, 0 + 0 + 0, none⟩)), (21, .pointer (some ⟨b3, 0 + 0, none⟩)), (16, .pointer (some ⟨b3, 0 + 0, none⟩)), (2, .slice ao l.length c), (3, .pointer (some ⟨b3, 0, none⟩)), (4, .pointer (some ⟨b4, 0, none⟩)), (6, .pointer (some ⟨b6, 0, none⟩)), (7, .pointer (some ⟨b7, 0, none⟩))]) (fun q => [(b7, .cells [.slice none 0 0] 22), (b6, .cells [.slice none 0 0] 22), (b4, .cells (encSp f) 25), (b3, .cells (encNt n) 128)]) (fun q => ?_) (fun h1_2 => ?_)
    · skip
      refine TA_stepL [1, 7] (by kernel_rfl) rfl ⟨?_, ?_, trivial⟩
      · change TL _ _ _ _ _ _ _ _ _ _ _; refine r1 ?_; apply TL_nil; apply TQ_any; exact TA_via (h2_2 q) (by kernel_rfl) rfl sb (fun w h => h)
      · change TL _ _ _ _ _ _ _ _ _ _ _; refine r1 ?_; apply TL_nil; apply TQ_any; exact TA_via (h1_3 q) (by kernel_rfl) rfl sb (fun w h => h)
    refine TA_cut (σ := Nat × Nat) 10 #[true, false, false, false, false, true, false, false, false, false, false, false] (fun q => [(21, .pointer (some ⟨b3, 0 + 0, none⟩)), (16, .pointer (some ⟨b3, 0 + 0, none⟩)), (2, .slice ao l.length c), (3, .pointer (some ⟨b3, 0, none⟩)), (4, .pointer (some ⟨b4, 0, none⟩)), (6, .pointer (some ⟨b6, 0, none⟩)), (7, .pointer (some ⟨b7, 0, none⟩))]) (fun q => [(b7, .cells [.slice none 0 0] 22), (b6, .cells [.slice none 0 0] 22), (b4, .cells (encSp f) 25), (b3, .cells (encNt n) 128)]) (fun q => ?_) (fun h1_1 => ?_)
    · skip
      refine TA_stepL [1, 6] (by kernel_rfl) rfl ⟨?_, ?_, trivial⟩
      · change TL _ _ _ _ _ _ _ _ _ _ _; refine r1 ?_; apply TL_nil; apply TQ_any; exact TA_via (h2_1 q) (by kernel_rfl) rfl sb (fun w h => h)
      · change TL _ _ _ _ _ _ _ _ _ _ _; refine r1 ?_; apply TL_nil; apply TQ_any; exact TA_via (h1_2 q) (by kernel_rfl) rfl sb (fun w h => h)
    refine TA_cut (σ := Nat × Nat) 11 #[true, false, false, false, false, false, false, false, false, false, false, false] (fun q => [(16, .pointer (some ⟨b3, 0 + 0, none⟩)), (2, .slice ao l.length c), (3, .pointer (some ⟨b3, 0, none⟩)), (4, .pointer (some ⟨b4, 0, none⟩)), (6, .pointer (some ⟨b6, 0, none⟩)), (7, .pointer (some ⟨b7, 0, none⟩))]) (fun q => [(b7, .cells [.slice none 0 0] 22), (b6, .cells [.slice none 0 0] 22), (b4, .cells (encSp f) 25), (b3, .cells (encNt n) 128)]) (fun q => ?_) (fun h1_0 => ?_)
    · skip
      refine TA_stepL [1, 5] (by kernel_rfl) rfl ⟨?_, ?_, trivial⟩
      · change TL _ _ _ _ _ _ _ _ _ _ _; refine r1 ?_; apply TL_nil; apply TQ_any; exact TA_via (h2_0 q) (by kernel_rfl) rfl sb (fun w h => h)
      · change TL _ _ _ _ _ _ _ _ _ _ _; refine r1 ?_; apply TL_nil; apply TQ_any; exact TA_via (h1_1 q) (by kernel_rfl) rfl sb (fun w h => h)
    refine TA_cut (σ := Nat × Nat) 7 #[false, false, false, false, false, true, true, true, true, true, false, false] (fun q => [(25, .slice (some ⟨q.2, 0, none⟩) n.canals.length n.canals.length), (24, .int .i64 n.canals.length), (23, .slice n.cao n.canals.length n.cc), (22, .pointer (some ⟨b3, 0 + 0 + 0, none⟩)), (21, .pointer (some ⟨b3, 0 + 0, none⟩)), (2, .slice ao l.length c), (3, .pointer (some ⟨b3, 0, none⟩)), (4, .pointer (some ⟨b4, 0, none⟩)), (6, .pointer (some ⟨b6, 0, none⟩)), (7, .pointer (some ⟨b7, 0, none⟩))]) (fun q => [(q.2, .cells (List.replicate n.canals.length [Value.int .i64 0, .int .i64 0]).flatten 25), (b7, .cells [.slice none 0 0] 22), (b6, .cells [.slice none 0 0] 22), (b4, .cells (encSp f) 25), (b3, .cells (encNt n) 128)]) (fun q => ?_) (fun h0_5 => ?_)
    · skip
      refine TA_stepL [0] (by kernel_rfl) rfl ⟨?_, trivial⟩
      · change TL _ _ _ _ _ _ _ _ _ _ _; refine r1 ?_; apply TL_nil; apply TQ_any; exact TA_via (h1_5 q) (by kernel_rfl) rfl sb (fun w h => h)
    refine TA_cut (σ := Nat × Nat) 8 #[false, false, false, false, false, true, true, true, true, false, false, false] (fun q => [(24, .int .i64 n.canals.length), (23, .slice n.cao n.canals.length n.cc), (22, .pointer (some ⟨b3, 0 + 0 + 0, none⟩)), (21, .pointer (some ⟨b3, 0 + 0, none⟩)), (2, .slice ao l.length c), (3, .pointer (some ⟨b3, 0, none⟩)), (4, .pointer (some ⟨b4, 0, none⟩)), (6, .pointer (some ⟨b6, 0, none⟩)), (7, .pointer (some ⟨b7, 0, none⟩))]) (fun q => [(b7, .cells [.slice none 0 0] 22), (b6, .cells [.slice none 0 0] 22), (b4, .cells (encSp f) 25), (b3, .cells (encNt n) 128)]) (fun q => ?_) (fun h0_4 => ?_)
    · skip
      refine TA_stepL [0, 9] (by kernel_rfl) rfl ⟨?_, ?_, trivial⟩
      · change TL _ _ _ _ _ _ _ _ _ _ _; refine r1 ?_; apply TL_nil; apply TQ_any; exact TA_via (h1_4 q) (by kernel_rfl) rfl sb (fun w h => h)
      · change TL _ _ _ _ _ _ _ _ _ _ _; refine TL_makeSlice2 n.canals.length rfl rfl rfl rfl rfl (by omega) (by omega) (fun b _ => ?_); apply TL_nil; apply TQ_any; exact TA_via (h0_5 (q.1, b)) (by kernel_rfl) rfl sb (fun w h => h)
    refine TA_cut (σ := Nat × Nat) 9 #[false, false, false, false, false, true, true, true, false, false, false, false] (fun q => [(23, .slice n.cao n.canals.length n.cc), (22, .pointer (some ⟨b3, 0 + 0 + 0, none⟩)), (21, .pointer (some ⟨b3, 0 + 0, none⟩)), (2, .slice ao l.length c), (3, .pointer (some ⟨b3, 0, none⟩)), (4, .pointer (some ⟨b4, 0, none⟩)), (6, .pointer (some ⟨b6, 0, none⟩)), (7, .pointer (some ⟨b7, 0, none⟩))]) (fun q => [(b7, .cells [.slice none 0 0] 22), (b6, .cells [.slice none 0 0] 22), (b4, .cells (encSp f) 25), (b3, .cells (encNt n) 128)]) (fun q => ?_) (fun h0_3 => ?_)
    · skip
      refine TA_stepL [0, 8] (by kernel_rfl) rfl ⟨?_, ?_, trivial⟩
      · change TL _ _ _ _ _ _ _ _ _ _ _; refine r1 ?_; apply TL_nil; apply TQ_any; exact TA_via (h1_3 q) (by kernel_rfl) rfl sb (fun w h => h)
      · change TL _ _ _ _ _ _ _ _ _ _ _; refine r1 ?_; apply TL_nil; apply TQ_any; exact TA_via (h0_4 q) (by kernel_rfl) rfl sb (fun w h => h)
    refine TA_cut (σ := Nat × Nat) 10 #[false, false, false, false, false, true, true, false, false, false, false, false] (fun q => [(22, .pointer (some ⟨b3, 0 + 0 + 0, none⟩)), (21, .pointer (some ⟨b3, 0 + 0, none⟩)), (2, .slice ao l.length c), (3, .pointer (some ⟨b3, 0, none⟩)), (4, .pointer (some ⟨b4, 0, none⟩)), (6, .pointer (some ⟨b6, 0, none⟩)), (7, .pointer (some ⟨b7, 0, none⟩))]) (fun q => [(b7, .cells [.slice none 0 0] 22), (b6, .cells [.slice none 0 0] 22), (b4, .cells (encSp f) 25), (b3, .cells (encNt n) 128)]) (fun q => ?_) (fun h0_2 => ?_)
    · skip
      refine TA_stepL [0, 7] (by kernel_rfl) rfl ⟨?_, ?_, trivial⟩
      · change TL _ _ _ _ _ _ _ _ _ _ _; refine r1 ?_; apply TL_nil; apply TQ_any; exact TA_via (h1_2 q) (by kernel_rfl) rfl sb (fun w h => h)
      · change TL _ _ _ _ _ _ _ _ _ _ _; refine r1 ?_; apply TL_nil; apply TQ_any; exact TA_via (h0_3 q) (by kernel_rfl) rfl sb (fun w h => h)
    refine TA_cut (σ := Nat × Nat) 11 #[false, false, false, false, false, true, false, false, false, false, false, false] (fun q => [(21, .pointer (some ⟨b3, 0 + 0, none⟩)), (2, .slice ao l.length c), (3, .pointer (some ⟨b3, 0, none⟩)), (4, .pointer (some ⟨b4, 0, none⟩)), (6, .pointer (some ⟨b6, 0, none⟩)), (7, .pointer (some ⟨b7, 0, none⟩))]) (fun q => [(b7, .cells [.slice none 0 0] 22), (b6, .cells [.slice none 0 0] 22), (b4, .cells (encSp f) 25), (b3, .cells (encNt n) 128)]) (fun q => ?_) (fun h0_1 => ?_)
    · skip
      refine TA_stepL [0, 6] (by kernel_rfl) rfl ⟨?_, ?_, trivial⟩
      · change TL _ _ _ _ _ _ _ _ _ _ _; refine r1 ?_; apply TL_nil; apply TQ_any; exact TA_via (h1_1 q) (by kernel_rfl) rfl sb (fun w h => h)
      · change TL _ _ _ _ _ _ _ _ _ _ _; refine r1 ?_; apply TL_nil; apply TQ_any; exact TA_via (h0_2 q) (by kernel_rfl) rfl sb (fun w h => h)
    refine TA_cut (σ := Nat × Nat) 12 #[false, false, false, false, false, false, false, false, false, false, false, false] (fun q => [(2, .slice ao l.length c), (3, .pointer (some ⟨b3, 0, none⟩)), (4, .pointer (some ⟨b4, 0, none⟩)), (6, .pointer (some ⟨b6, 0, none⟩)), (7, .pointer (some ⟨b7, 0, none⟩))]) (fun q => [(b7, .cells [.slice none 0 0] 22), (b6, .cells [.slice none 0 0] 22), (b4, .cells (encSp f) 25), (b3, .cells (encNt n) 128)]) (fun q => ?_) (fun h0_0 => ?_)
    · skip
      refine TA_stepL [0, 5] (by kernel_rfl) rfl ⟨?_, ?_, trivial⟩
      · change TL _ _ _ _ _ _ _ _ _ _ _; refine r1 ?_; apply TL_nil; apply TQ_any; exact TA_via (h1_0 q) (by kernel_rfl) rfl sb (fun w h => h)
      · change TL _ _ _ _ _ _ _ _ _ _ _; refine r1 ?_; apply TL_nil; apply TQ_any; exact TA_via (h0_1 q) (by kernel_rfl) rfl sb (fun w h => h)
    exact TA_via (h0_0 (0, 0)) (by kernel_rfl) (by kernel_rfl) sb (fun w h => h)
  obtain ⟨bF, bL⟩ := q
  dsimp only
  repeat' (first | refine rn ?_ | (refine zb ?_; intro _ _) | (refine za ?_; intro _ _) | (refine zs ?_; intro _ _))
  refine TL_callN rfl rfl rfl (fun w h => c100 n l ao c w) ?_
  rintro ⟨qn, qu⟩ _
  dsimp only
  repeat' (first | refine rn ?_ | (refine zb ?_; intro _ _) | (refine za ?_; intro _ _) | (refine zs ?_; intro _ _))
  refine TC_rangeY (σ := List Value × List Value × List Sp × List Sp × List (List Int)) (ps := [29, 30]) (k := 134) rfl rfl l.length false (fun h => by cases h) (DrY l) (WatI n f l bF bL)
    (fun x => [(qu, .cells [.slice ao l.length c] 74), (qn, .cells (encNt n) 128), (bL, .cells x.2.1 25), (bF, .cells x.1 25), (b7, .cells [.slice (some ⟨bL, 0, none⟩) n.canals.length n.canals.length] 22), (b6, .cells [.slice (some ⟨bF, 0, none⟩) n.fields.length n.fields.length] 22), (b4, .cells (encSp f) 25), (b3, .cells (encNt n) 128)])
    ((List.replicate n.fields.length [Value.int .i64 0, .int .i64 0]).flatten, (List.replicate n.canals.length [Value.int .i64 0, .int .i64 0]).flatten, List.replicate n.fields.length (0, 0), List.replicate n.canals.length (0, 0), []) ⟨rfl, rfl, by simp, by simp, rep_row bF _ (by omega), rep_row bL _ (by omega)⟩ (fun j x vs G h => by obtain ⟨u, dl, so, cap, ob, _, rfl, _⟩ := h; rfl) (fun w h => h) ?_ ?_ ?_
  · intro lp Dd rec j x vs G hj hpx hΨ
    obtain ⟨u, dl, so, sc, ob, hu, rfl, hdl, hrow, hob⟩ := hΨ
    obtain ⟨cF, cL, F, L, dls⟩ := x
    obtain ⟨e1, e2, hFl, hLl, hrF, hrL⟩ := hpx
    dsimp only at e1 e2 hFl hLl hrF hrL ⊢
    obtain ⟨q1, q2, q3, q4⟩ := rightP_get hr hu
    have q0 : 0 ≤ u.turn.1 := q2
    obtain ⟨uf, ut⟩ := u
    dsimp only at q0 q1 q2 q3 q4
    obtain ⟨fi, rfl⟩ : ∃ fi : Nat, uf = fi := ⟨uf.toNat, by have := q1.1; omega⟩
    have hfi : fi < n.fields.length := by have := q1.2; omega
    have hpl : (pathM n fi).length ≤ 17 := by unfold pathM; rw [List.length_reverse]; exact upF_len _ _
    have hv0 := mulW_ok (m := ut.2 - ut.1) hf (by omega) (by omega)
    obtain ⟨⟨v1, v2⟩, ⟨v3, v4⟩⟩ := hv0
    dsimp only [mulW] at v1 v2 v3 v4
    repeat' (first | refine rn ?_ | (refine zb ?_; intro _ _) | (refine za ?_; intro _ _) | (refine zs ?_; intro _ _))
    rename_i b8 _
    refine TQ_asgX up ?_
    repeat' (first | refine rn ?_ | (refine zb ?_; intro _ _) | (refine za ?_; intro _ _) | (refine zs ?_; intro _ _))
    rename_i b11 _
    refine TL_callN rfl rfl rfl (fun w h => c52 n hn fi hfi w (h.sl hnc) (h.sl hnf)) ?_
    rintro ⟨po, pc, pb⟩ hpr
    dsimp only at hpr ⊢
    repeat' (first | refine rn ?_ | (refine zb ?_; intro _ _) | (refine za ?_; intro _ _) | (refine zs ?_; intro _ _))
    refine TC_loop (σ := Nat × List Value × List Sp × Sp) (fun q => q.1 ≤ (pathM n fi).length ∧ VS q.2.2.2 ∧ q.2.2.1.length = n.canals.length ∧ Row 25 2 encSp (some ⟨bL, 0, none⟩) n.canals.length [(bL, .cells q.2.1 25)] q.2.2.1 ∧ goW n dl ((pathM n fi).drop q.1) q.2.2.2 q.2.2.1 = goW n dl (pathM n fi) (mulW f (ut.2 - ut.1)) L)
      (fun q => [(3, .pointer (some ⟨b3, 0, none⟩)), (6, .pointer (some ⟨b6, 0, none⟩)), (7, .pointer (some ⟨b7, 0, none⟩)), (8, .pointer (some ⟨b8, 0, none⟩)), (9, .slice so dl.length sc), (11, .pointer (some ⟨b11, 0, none⟩)), (50, .slice po (pathM n fi).length pc), (51, .int .i64 (pathM n fi).length), (52, .int .i64 q.1)])
      (fun q => pb ++ ((b11, .cells (encSp q.2.2.2) 25) :: (b8, .cells (encUs ⟨(fi : Int), ut⟩) 73) :: (lp, .obj (recO rec .busy)) :: (Dd, .obj (.deferred (some []))) :: ([(qu, .cells [.slice ao l.length c] 74), (qn, .cells (encNt n) 128), (bL, .cells q.2.1 25), (bF, .cells cF 25), (b7, .cells [.slice (some ⟨bL, 0, none⟩) n.canals.length n.canals.length] 22), (b6, .cells [.slice (some ⟨bF, 0, none⟩) n.fields.length n.fields.length] 22), (b4, .cells (encSp f) 25), (b3, .cells (encNt n) 128)] ++ G))) (fun q => (pathM n fi).length - q.1) (0, cL, L, mulW f (ut.2 - ut.1)) ⟨Nat.zero_le _, mulW_ok hf (by omega) (by omega), hLl, hrL, rfl⟩ sb (fun w h => h) (fun q hq => ?_)
    obtain ⟨k, cL1, L1, vv⟩ := q
    obtain ⟨hk, hv, hLl1, hrL1, hgo⟩ := hq
    dsimp only at hk hv hLl1 hrL1 hgo ⊢
    repeat' (first | refine rn ?_ | (refine zb ?_; intro _ _) | (refine za ?_; intro _ _) | (refine zs ?_; intro _ _))
    refine TC_cond_dec rfl (fun g1 => ?_) (fun g1 => ?_)
    · have hkl : k < (pathM n fi).length := by omega
      obtain ⟨cc, hcc⟩ : ∃ x, (pathM n fi)[k]? = some x := ⟨_, List.getElem?_eq_getElem hkl⟩
      obtain ⟨hc0, hcl⟩ := pathM_mem hn hfi cc (List.mem_of_getElem? hcc)
      obtain ⟨cn, hcn⟩ : ∃ x, n.canals[cc.toNat]? = some x := ⟨_, List.getElem?_eq_getElem hcl⟩
      obtain ⟨a, ha⟩ : ∃ x, L1[cc.toNat]? = some x := ⟨_, List.getElem?_eq_getElem (by omega)⟩
      have hcnok : CnOk cn := by have := hn.can _ _ hcn; exact ⟨this.2.1, this.2.2⟩
      have hwk : wkAt n dl cc = workM cn (dl.any fun x => decide (cc = x)) := by unfold wkAt cnAt; rw [List.getD_eq_getElem?_getD, hcn]; rfl
      have hwok := wkAt_ok hn dl cc hcl
      rw [hwk] at hwok
      have hsm : Small dl.length := by unfold Small; omega
      have hgo' : goW n dl ((pathM n fi).drop (k + 1)) (goesM (workM cn (dl.any fun x => decide (cc = x))) vv) (L1.set cc.toNat (plusM a (seepsM (workM cn (dl.any fun x => decide (cc = x))) vv))) = goW n dl (pathM n fi) (mulW f (ut.2 - ut.1)) L := by
        rw [← hgo, List.drop_eq_getElem_cons hkl]
        have : (pathM n fi)[k] = cc := by have := List.getElem?_eq_getElem hkl; rw [hcc] at this; exact (Option.some.inj this).symm
        rw [this, goW, hwk, show L1.getD cc.toNat (0, 0) = a by rw [List.getD_eq_getElem?_getD, ha]; rfl]
      generalize hx : workM cn (dl.any fun x => decide (cc = x)) = x at hwok hgo'
      obtain ⟨b, cs1, cL2, e1, e2, hput, hrL2⟩ := hrL1.put (off := 0) (vs := encSp (plusM a (seepsM x vv))) (u' := plusM a (seepsM x vv)) ha rfl rfl
      cases e1; cases e2
      have hput' : putN (0 + (cc.toNat * 2 + 0)) (encSp (plusM a (seepsM x vv))) cL1 = some cL2 := by rw [Nat.zero_add]; exact hput
      have sL : ∀ {w' H'}, SH w.heap.size w w' H' → (bL, Blk.cells cL1 25) ∈ H' → Sl w' 2 encSp (some ⟨bL, 0, none⟩) L1 := fun h hm => hrL1.sl h (fun p hp => by rw [List.mem_singleton.1 hp]; exact hm)
      have sD : ∀ {w' H'}, SH w.heap.size w w' H' → (∀ p ∈ ob, p ∈ H') → Sl w' 1 encI so dl := fun h hm => hrow.sl h hm
      repeat' (first | refine rn ?_ | (refine zb ?_; intro _ _) | (refine za ?_; intro _ _) | (refine zs ?_; intro _ _))
      refine TL_index k rfl rfl rfl (fun w h => hpr.sl h (fun p hp => List.mem_append_left _ hp)) rfl hkl (Nat.le_refl _) ?_
      refine TL_load_el1 (u := cc) rfl rfl (fun w h => hpr.sl h (fun p hp => List.mem_append_left _ hp)) hcc rfl ?_
      repeat' (first | refine rn ?_ | (refine zb ?_; intro _ _) | (refine za ?_; intro _ _) | (refine zs ?_; intro _ _))
      apply TC_draw 11; kernel_rfl; exact Tryz.mixed
      · iterate 4 (refine' pv ?_; rotate_left)
        (refine' PG.val rfl rfl (by intro _X; refine TL_index cc.toNat rfl rfl rfl (fun w h => h.sl hnc) (by omega) hcl (Nat.le_refl _) ?_; exact qe) ?_; rotate_left)
        (refine' PG.val rfl rfl (by intro _X; refine TL_load_eln (u := cn) rfl rfl (fun w h => h.sl hnc) hcn rfl ?_; exact qe) ?_; rotate_left)
        iterate 2 (refine' pv ?_; rotate_left)
        (refine' PG.val rfl rfl (by intro _X; refine TL_callV rfl rfl rfl (fun w h => c101 dl cc so sc hsm w (sD h (fun p hp => by simp only [List.mem_append, List.mem_cons, hob p hp, or_true, true_or]))) ?_; exact qe) ?_; rotate_left)
        (refine' PG.val rfl rfl (by intro _X; refine TL_callV rfl rfl rfl (fun w h => c56 cn hcnok (dl.any fun x => decide (cc = x)) w) ?_; exact qe) ?_; rotate_left)
        (refine' pn ?_; rotate_left)
        exact PG.nil
      rintro _ _ ⟨b14, _, rfl, rfl⟩
      change TL _ _ _ _ _ _ _ _ _ _ _
      rw [hx]
      repeat' (first | refine rn ?_ | (refine zb ?_; intro _ _) | (refine za ?_; intro _ _) | (refine zs ?_; intro _ _))
      apply TC_draw 12; kernel_rfl; exact Tryz.mixed
      · iterate 4 (refine' pv ?_; rotate_left)
        (refine' PG.val rfl rfl (by intro _X; refine TL_index cc.toNat rfl rfl rfl (fun w h => sL h (by repeat (first | exact List.Mem.head _ | apply List.mem_cons_of_mem | apply List.mem_append_right))) (by omega) (by omega) (by omega) ?_; exact qe) ?_; rotate_left)
        (refine' PG.val rfl rfl (by intro _X; refine TL_load_eln (u := a) rfl rfl (fun w h => sL h (by repeat (first | exact List.Mem.head _ | apply List.mem_cons_of_mem | apply List.mem_append_right))) ha rfl ?_; exact qe) ?_; rotate_left)
        iterate 2 (refine' pv ?_; rotate_left)
        (refine' PG.val rfl rfl (by intro _X; refine TL_callV rfl rfl rfl (fun w h => c103 x vv hwok hv w) ?_; exact qe) ?_; rotate_left)
        (refine' PG.rel ((fun v h => ∃ b, v = .slice (some ⟨b, 0, none⟩) 1 1 ∧ h = [(b, .cells (encSp (seepsM x vv)) 25)])) rfl rfl (by intro _X; apply TL_buildSlice; exact rfl; exact rfl; exact rfl; exact rfl; exact rfl; intro b _; exact TL_nil (TQ_QR (h := [(b, _)]) rfl ⟨b, rfl, rfl⟩ (fun _ h => h))) ?_; rotate_left)
        (refine' PG.val rfl rfl (by rintro _ _ ⟨vb, rfl, rfl⟩ _X; refine TL_callV rfl rfl rfl (fun w h => c102 a (seepsM x vv) vb w (Sl.of_blk h (List.Mem.head _) (fun _ _ => rfl) ⟨[], rfl⟩)) ?_; exact qe) ?_; rotate_left)
        (refine' PG.val rfl rfl (by intro _X; refine TL_index cc.toNat rfl rfl rfl (fun w h => sL h (by repeat (first | exact List.Mem.head _ | apply List.mem_cons_of_mem | apply List.mem_append_right))) (by omega) (by omega) (by omega) ?_; exact qe) ?_; rotate_left)
        exact PG.nil
      rintro _ _ ⟨vb, rfl, rfl⟩
      change TL _ _ _ _ _ _ _ _ _ _ _
      refine TL_store (b := bL) (cs := cL1) (cs' := cL2) (T := 25) rfl rfl rfl rfl rfl up hput' ?_
      repeat' (first | refine rn ?_ | (refine zb ?_; intro _ _) | (refine za ?_; intro _ _) | (refine zs ?_; intro _ _))
      refine TL_callVF rfl rfl rfl (fun w h => c57 x vv hwok hv w) ?_
      repeat' (first | refine rn ?_ | (refine zb ?_; intro _ _) | (refine za ?_; intro _ _) | (refine zs ?_; intro _ _))
      refine TQ_round (k + 1, cL2, L1.set cc.toNat (plusM a (seepsM x vv)), goesM x vv) ⟨by dsimp only; omega, goesM_ok hwok hv, by dsimp only; rw [List.length_set]; exact hLl1, hrL2, hgo'⟩ (by dsimp only; omega) sb (fun w h => ?_)
      exact h.sub (List.Sublist.cons _ (List.Sublist.cons _ (List.Sublist.refl _)))
    · have hkl : k = (pathM n fi).length := by omega
      subst hkl
      rw [List.drop_length, goW] at hgo
      obtain ⟨a, ha⟩ : ∃ x, F[fi]? = some x := ⟨_, List.getElem?_eq_getElem (by omega)⟩
      obtain ⟨b, cs1, cF2, e1', e2', hput, hrF2⟩ := hrF.put (off := 0) (vs := encSp (plusM a vv)) (u' := plusM a vv) ha rfl rfl
      cases e1'; cases e2'
      have hput' : putN (0 + (fi * 2 + 0)) (encSp (plusM a vv)) cF = some cF2 := by rw [Nat.zero_add]; exact hput
      have sF : ∀ {w' H'}, SH w.heap.size w w' H' → (bF, Blk.cells cF 25) ∈ H' → Sl w' 2 encSp (some ⟨bF, 0, none⟩) F := fun h hm => hrF.sl h (fun p hp => by rw [List.mem_singleton.1 hp]; exact hm)
      repeat' (first | refine rn ?_ | (refine zb ?_; intro _ _) | (refine za ?_; intro _ _) | (refine zs ?_; intro _ _))
      apply TC_draw 12; kernel_rfl; exact Tryz.mixed
      · iterate 6 (refine' pv ?_; rotate_left)
        (refine' PG.val rfl rfl (by intro _X; refine TL_index fi rfl rfl rfl (fun w h => sF h (by repeat (first | exact List.Mem.head _ | apply List.mem_cons_of_mem | apply List.mem_append_right))) rfl (by omega) (by omega) ?_; exact qe) ?_; rotate_left)
        (refine' PG.val rfl rfl (by intro _X; refine TL_load_eln (u := a) rfl rfl (fun w h => sF h (by repeat (first | exact List.Mem.head _ | apply List.mem_cons_of_mem | apply List.mem_append_right))) ha rfl ?_; exact qe) ?_; rotate_left)
        (refine' pv ?_; rotate_left)
        (refine' PG.rel ((fun v h => ∃ b, v = .slice (some ⟨b, 0, none⟩) 1 1 ∧ h = [(b, .cells (encSp vv) 25)])) rfl rfl (by intro _X; apply TL_buildSlice; exact rfl; exact rfl; exact rfl; exact rfl; exact rfl; intro b _; exact TL_nil (TQ_QR (h := [(b, _)]) rfl ⟨b, rfl, rfl⟩ (fun _ h => h))) ?_; rotate_left)
        (refine' PG.val rfl rfl (by rintro _ _ ⟨vb, rfl, rfl⟩ _X; refine TL_callV rfl rfl rfl (fun w h => c102 a vv vb w (Sl.of_blk h (List.Mem.head _) (fun _ _ => rfl) ⟨[], rfl⟩)) ?_; exact qe) ?_; rotate_left)
        (refine' PG.val rfl rfl (by intro _X; refine TL_index fi rfl rfl rfl (fun w h => sF h (by repeat (first | exact List.Mem.head _ | apply List.mem_cons_of_mem | apply List.mem_append_right))) rfl (by omega) (by omega) ?_; exact qe) ?_; rotate_left)
        exact PG.nil
      rintro _ _ ⟨vb, rfl, rfl⟩
      change TL _ _ _ _ _ _ _ _ _ _ _
      refine TL_store (b := bF) (cs := cF) (cs' := cF2) (T := 25) rfl rfl rfl rfl rfl up hput' ?_
      repeat' (first | refine rn ?_ | (refine zb ?_; intro _ _) | (refine za ?_; intro _ _) | (refine zs ?_; intro _ _))
      refine TQ_bodyX (cF2, cL1, F.set fi (plusM a vv), L1, dls ++ [dl]) ⟨by simp [e1], ?_, by dsimp only; rw [List.length_set]; exact hFl, hLl1, hrF2, hrL1⟩ (fun w h => ?_)
      · have h1 : l.take (j + 1) = l.take j ++ [⟨(fi : Int), ut⟩] := take_snocI hu
        dsimp only
        rw [h1, watW_snoc (by rw [List.length_take, e1]; omega), ← e2]
        unfold useW
        dsimp only
        rw [Int.toNat_natCast, ← hgo, show F.getD fi (0, 0) = a by rw [List.getD_eq_getElem?_getD, ha]; rfl]
      · exact h.sub (((List.Sublist.cons _ (List.Sublist.cons _ (List.Sublist.refl _))).trans (List.sublist_append_right pb _)).trans (List.Sublist.cons _ (List.Sublist.refl _)))
  · intro lp Y G hYG hy w' hs'
    refine c134 n hn l ao c h60 hr qn qu lp _ Y _ ⟨rfl, rfl, by simp, by simp, rep_row bF _ (by omega), rep_row bL _ (by omega)⟩ hy (fun j x => ?_) (fun j x => ?_) hnc hnf hl w' hs'
    · rw [hYG]; simp only [List.mem_append, List.mem_cons, eq_self, or_true, true_or]
    · rw [hYG]; simp only [List.mem_append, List.mem_cons, eq_self, or_true, true_or]
  · intro Dd x hpx
    obtain ⟨cF, cL, F, L, dls⟩ := x
    obtain ⟨e1, e2, hFl, hLl, hrF, hrL⟩ := hpx
    dsimp only at e1 e2 hFl hLl hrF hrL ⊢
    rw [List.take_length] at e2
    repeat' (first | refine rn ?_ | (refine zb ?_; intro _ _) | (refine za ?_; intro _ _) | (refine zs ?_; intro _ _))
    refine TC_any Tryz.mixed ?_
    refine TA_stepL [0, 1] (by kernel_rfl) rfl ⟨?_, ?_, trivial⟩
    · change TL _ _ _ _ _ _ _ _ _ _ _
      refine r1 ?_; apply TL_nil; apply TQ_any
      refine TA_stepL [1, 2] (by kernel_rfl) rfl ⟨?_, ?_, trivial⟩
      · change TL _ _ _ _ _ _ _ _ _ _ _
        refine r1 ?_; apply TL_nil; apply TQ_any
        refine TA_stepL [2] (by kernel_rfl) rfl ⟨?_, trivial⟩
        change TL _ _ _ _ _ _ _ _ _ _ _
        refine r1 ?_; apply TL_nil; apply TQ_any
        refine TA_stepL [3] (by kernel_rfl) rfl ⟨?_, trivial⟩
        change TL _ _ _ _ _ _ _ _ _ _ _
        refine r1 ?_; apply TL_nil; apply TQ_any
        refine TA_done (by kernel_rfl) ?_
        ((repeat refine r1 ?_); exact TQ_leaveM (rs := [.cell 6 22, .cell 7 22]) (vs := [.slice (some ⟨bF, 0, none⟩) n.fields.length n.fields.length, .slice (some ⟨bL, 0, none⟩) n.canals.length n.canals.length]) (.inl rfl) up Tryz.results59 ⟨RV.cell1 rfl mm (by rfl), RV.cell1 rfl mm (by rfl), trivial⟩ (fun w' hs => ⟨(bF, bL, cF, cL, F, L), ⟨hrF, hrL, hFl, hLl, dls, e1, e2⟩, rfl, hs.sub su⟩))
      · change TL _ _ _ _ _ _ _ _ _ _ _
        refine r1 ?_; apply TL_nil; apply TQ_any
        refine TA_stepL [1] (by kernel_rfl) rfl ⟨?_, trivial⟩
        change TL _ _ _ _ _ _ _ _ _ _ _
        refine r1 ?_; apply TL_nil; apply TQ_any
        refine TA_stepL [3] (by kernel_rfl) rfl ⟨?_, trivial⟩
        change TL _ _ _ _ _ _ _ _ _ _ _
        refine r1 ?_; apply TL_nil; apply TQ_any
        refine TA_done (by kernel_rfl) ?_
        ((repeat refine r1 ?_); exact TQ_leaveM (rs := [.cell 6 22, .cell 7 22]) (vs := [.slice (some ⟨bF, 0, none⟩) n.fields.length n.fields.length, .slice (some ⟨bL, 0, none⟩) n.canals.length n.canals.length]) (.inl rfl) up Tryz.results59 ⟨RV.cell1 rfl mm (by rfl), RV.cell1 rfl mm (by rfl), trivial⟩ (fun w' hs => ⟨(bF, bL, cF, cL, F, L), ⟨hrF, hrL, hFl, hLl, dls, e1, e2⟩, rfl, hs.sub su⟩))
    · change TL _ _ _ _ _ _ _ _ _ _ _
      refine r1 ?_; apply TL_nil; apply TQ_any
      refine TA_stepL [0] (by kernel_rfl) rfl ⟨?_, trivial⟩
      change TL _ _ _ _ _ _ _ _ _ _ _
      refine r1 ?_; apply TL_nil; apply TQ_any
      refine TA_stepL [2] (by kernel_rfl) rfl ⟨?_, trivial⟩
      change TL _ _ _ _ _ _ _ _ _ _ _
      refine r1 ?_; apply TL_nil; apply TQ_any
      refine TA_stepL [3] (by kernel_rfl) rfl ⟨?_, trivial⟩
      change TL _ _ _ _ _ _ _ _ _ _ _
      refine r1 ?_; apply TL_nil; apply TQ_any
      refine TA_done (by kernel_rfl) ?_
      ((repeat refine r1 ?_); exact TQ_leaveM (rs := [.cell 6 22, .cell 7 22]) (vs := [.slice (some ⟨bF, 0, none⟩) n.fields.length n.fields.length, .slice (some ⟨bL, 0, none⟩) n.canals.length n.canals.length]) (.inl rfl) up Tryz.results59 ⟨RV.cell1 rfl mm (by rfl), RV.cell1 rfl mm (by rfl), trivial⟩ (fun w' hs => ⟨(bF, bL, cF, cL, F, L), ⟨hrF, hrL, hFl, hLl, dls, e1, e2⟩, rfl, hs.sub su⟩))

end Go.Proofs.YtkpkebpofpcmaaaGreatDoor
