/- Walks of the package channel: paths. -/
import Derived.Test.YtkpkebpofpcmaaaGreatDoorC1
namespace Go.Proofs.YtkpkebpofpcmaaaGreatDoor
open Go Go.Eng Go.RowKit Go.Proofs
set_option maxHeartbeats 4000000
set_option maxRecDepth 10000
attribute [local irreducible] TL TC TQ

def cn0 : Cn := ⟨0, (0, 0), (0, 0)⟩
/-- The canals from a node up to the node 0. -/
def upF (cs : List Cn) : Nat → Int → List Int
  | 0, _ => []
  | f + 1, node => if node = 0 then [] else (node - 1) :: upF cs f ((cs.getD (node - 1).toNat cn0).fr)
def upM (n : Nt) (i : Nat) : List Int := upF n.canals 17 (n.fields.getD i 0)
theorem upF_mem {n : Nt} (hn : OkNt n) : ∀ (f : Nat) (node : Int), In node 0 n.canals.length → ∀ x ∈ upF n.canals f node, 0 ≤ x ∧ x < n.canals.length
  | 0, _, _, x, hx => by cases hx
  | f + 1, node, h, x, hx => by
    rw [upF] at hx
    split at hx
    · cases hx
    · rename_i h0
      have h1 := h.1; have h2 := h.2
      rcases List.mem_cons.1 hx with rfl | hx
      · omega
      · refine upF_mem hn f _ ?_ x hx
        have hlt : (node - 1).toNat < n.canals.length := by omega
        obtain ⟨c, hc⟩ : ∃ c, n.canals[(node - 1).toNat]? = some c := ⟨_, List.getElem?_eq_getElem hlt⟩
        have := (hn.can _ c hc).1
        rw [List.getD_eq_getElem?_getD, hc]
        unfold In at this ⊢
        simp only [Option.getD_some]; omega
theorem upF_len {n : Nt} : ∀ (f : Nat) (node : Int), (upF n.canals f node).length ≤ f
  | 0, _ => Nat.le_refl _
  | f + 1, node => by
    rw [upF]; split
    · simp
    · simp only [List.length_cons]; have := upF_len (n := n) f ((n.canals.getD (node - 1).toNat cn0).fr); omega
structure NtR (w : World) (n : Nt) (b2 b3 i : Nat) : Prop where
  b : Sl w 4 encNt (some ⟨b2, 0, none⟩) [n]
  f : Sl w 1 encI (some ⟨b3, 0, none⟩) [(i : Int)]
  nc : Sl w 5 encCn n.cao n.canals
  nf : Sl w 1 encI n.fao n.fields
def upV (b2 b3 : Nat) : Value := .func (.func 133) #[] #[.pointer (some ⟨b2, 0, none⟩), .pointer (some ⟨b3, 0, none⟩)]
theorem c133 {σ : Type} {B : Nat} {w0 : World} (n : Nt) (hn : OkNt n) (i : Nat) (hi : i < n.fields.length) (b2 b3 l : Nat) (p : Nat → σ → Prop) (Y : Nat → σ → Hp) (x0 : σ) (hp0 : p 0 x0)
    (hY : YldX Tryz.prog B w0 l (upM n i).length (fun j => [.int .i64 ((upM n i).getD j 0)]) p Y (fun j => !(false && Nat.beq (j + 1) (upM n i).length)))
    (hR : ∀ j x w', SH B w0 w' (Y j x) → NtR w' n b2 b3 i) (w : World) (hs : SH B w0 w (Y 0 x0)) :
    Calls Tryz.prog 133 #[.func (.yield l) #[] #[], .pointer (some ⟨b2, 0, none⟩), .pointer (some ⟨b3, 0, none⟩)] w (RetP B w0 (fun _ : σ => .tuple #[]) (Y (upM n i).length) (p (upM n i).length)) := by
  have h16 := hn.c16
  refine enter (args := [.func (.yield l) #[] #[], .pointer (some ⟨b2, 0, none⟩), .pointer (some ⟨b3, 0, none⟩)]) Tryz.func133 rfl Tryz.ntmps133 rfl hs ?_
  obtain ⟨nd, hnd⟩ : ∃ x, n.fields[i]? = some x := ⟨_, List.getElem?_eq_getElem hi⟩
  have hup : upM n i = upF n.canals 17 nd := by unfold upM; rw [List.getD_eq_getElem?_getD, hnd]; rfl
  have hnd0 := hn.fld nd (List.mem_of_getElem? hnd)
  repeat' (first | refine rn ?_ | (refine zb ?_; intro _ _) | (refine za ?_; intro _ _) | (refine zs ?_; intro _ _))
  refine TL_load_el1 (i := 0) (o := 1) rfl rfl (fun w h => (hR _ _ _ h).b) rfl rfl ?_
  refine TL_load_el1 (i := 0) (o := 0) rfl rfl (fun w h => (hR _ _ _ h).f) rfl rfl ?_
  refine TL_index i rfl rfl rfl (fun w h => (hR _ _ _ h).nf) rfl hi (Nat.le_refl _) ?_
  refine TL_load_el1 (u := nd) rfl rfl (fun w h => (hR _ _ _ h).nf) hnd rfl ?_
  repeat' (first | refine rn ?_ | (refine zb ?_; intro _ _) | (refine za ?_; intro _ _) | (refine zs ?_; intro _ _))
  refine TC_loop (σ := Nat × σ × Nat × Int) (fun q => q.1 ≤ (upM n i).length ∧ p q.1 q.2.1 ∧ In q.2.2.2 0 n.canals.length ∧ q.2.2.2.toNat ≤ q.2.2.1 ∧ upF n.canals q.2.2.1 q.2.2.2 = (upM n i).drop q.1) (fun q => [(0, .func (.yield l) #[] #[]), (1, .pointer (some ⟨b2, 0, none⟩)), (2, .pointer (some ⟨b3, 0, none⟩)), (4, .int .i64 q.2.2.2)]) (fun q => Y q.1 q.2.1) (fun q => (upM n i).length - q.1) (0, x0, 17, nd) ⟨Nat.zero_le _, hp0, hnd0, by have := hnd0.2; dsimp only; omega, by rw [List.drop_zero]; exact hup.symm⟩ sb (fun w h => h) (fun q hq => ?_)
  obtain ⟨j, x, f, node⟩ := q
  obtain ⟨hj, hpx, hno, hf, hdr⟩ := hq
  dsimp only at hj hpx hno hf hdr ⊢
  have hn1 := hno.1; have hn2 := hno.2
  repeat' (first | refine rn ?_ | (refine zb ?_; intro _ _) | (refine za ?_; intro _ _) | (refine zs ?_; intro _ _))
  refine TC_cond_dec rfl (fun g1 => ?_) (fun g1 => ?_)
  · obtain ⟨f', rfl⟩ : ∃ f', f = f' + 1 := ⟨f - 1, by omega⟩
    rw [upF, if_neg g1] at hdr
    have hjl : j < (upM n i).length := by
      have := congrArg List.length hdr
      simp at this; omega
    have hget : (upM n i)[j]? = some (node - 1) := by
      have := congrArg (fun l => l[0]?) hdr
      simpa using this.symm
    have hlt : (node - 1).toNat < n.canals.length := by omega
    obtain ⟨c, hc⟩ : ∃ c, n.canals[(node - 1).toNat]? = some c := ⟨_, List.getElem?_eq_getElem hlt⟩
    have hcf := (hn.can _ c hc).1
    repeat' (first | refine rn ?_ | (refine zb ?_; intro _ _) | (refine za ?_; intro _ _) | (refine zs ?_; intro _ _))
    refine TL_yieldX (G := []) rfl rfl rfl hY j x hjl hpx (by rw [List.getD_eq_getElem?_getD, hget]; rfl) (by rw [List.append_nil]) (fun y hy => ?_)
    repeat' (first | refine rn ?_ | (refine zb ?_; intro _ _) | (refine za ?_; intro _ _) | (refine zs ?_; intro _ _))
    refine TL_load_el1 (i := 0) (o := 0) rfl rfl (fun w h => (hR _ _ _ (by rw [List.append_nil] at h; exact h)).b) rfl rfl ?_
    repeat' (first | refine rn ?_ | (refine zb ?_; intro _ _) | (refine za ?_; intro _ _) | (refine zs ?_; intro _ _))
    refine TL_index (node - 1).toNat rfl rfl rfl (fun w h => (hR _ _ _ (by rw [List.append_nil] at h; exact h)).nc) (by omega) hlt (Nat.le_refl _) ?_
    refine TL_fieldAddr_el rfl rfl (fun w h => (hR _ _ _ (by rw [List.append_nil] at h; exact h)).nc) (fun e => by rw [e] at hlt; simp at hlt) ?_
    refine TL_load_el1 (u := c) rfl rfl (fun w h => (hR _ _ _ (by rw [List.append_nil] at h; exact h)).nc) hc rfl ?_
    repeat' (first | refine rn ?_ | (refine zb ?_; intro _ _) | (refine za ?_; intro _ _) | (refine zs ?_; intro _ _))
    refine TQ_round (j + 1, y, f', c.fr) ⟨by dsimp only; omega, hy, by unfold In at hcf ⊢; dsimp only; omega, by unfold In at hcf; dsimp only; omega, ?_⟩ (by dsimp only; omega) sb (fun w h => by rw [List.append_nil] at h; exact h)
    have := congrArg List.tail hdr
    rw [List.tail_cons, List.tail_drop] at this
    rw [← this, List.getD_eq_getElem?_getD, hc]; rfl
  · have h0 : node = 0 := Classical.not_not.1 g1
    have hjl : j = (upM n i).length := by
      have : (upM n i).drop j = [] := by
        rw [← hdr, h0]
        cases f <;> rfl
      have := congrArg List.length this
      simp at this; omega
    subst hjl
    repeat' (first | refine rn ?_ | (refine zb ?_; intro _ _) | (refine za ?_; intro _ _) | (refine zs ?_; intro _ _))
    exact TQ_end0 Tryz.results133 (fun w' hs => ⟨x, hpx, rfl, hs⟩)
theorem pmB2 {a b : Nat × Blk} {ob R : Hp} : (a :: b :: (ob ++ R)).Perm (ob ++ (a :: b :: R)) := (List.Perm.cons a List.perm_middle.symm).trans List.perm_middle.symm
theorem pmB3 {a b c : Nat × Blk} {ob R : Hp} : (a :: b :: c :: (ob ++ R)).Perm (ob ++ (a :: b :: c :: R)) := (List.Perm.cons a pmB2).trans List.perm_middle.symm
theorem take_snocI {α : Type} {l : List α} {k : Nat} {x : α} (h : l[k]? = some x) : l.take (k + 1) = l.take k ++ [x] := by
  rw [List.take_add_one, h]; rfl
theorem c132 (n : Nt) (hn : OkNt n) (i : Nat) (hi : i < n.fields.length) (b2 b3 : Nat) (w : World) (hR : NtR w n b2 b3 i) :
    Calls Tryz.prog 132 #[.slice none 0 0, upV b2 b3] w (RetP w.heap.size w (fun q : Option Addr × Nat × Hp => .slice q.1 (upM n i).length q.2.1) (fun q => q.2.2) (fun q => Row 3 1 encI q.1 q.2.1 q.2.2 (upM n i))) := by
  have hl17 : (upM n i).length ≤ 17 := upF_len _ _
  unfold upV
  refine enterM (args := [.slice none 0 0, .func (.func 133) #[] #[.pointer (some ⟨b2, 0, none⟩), .pointer (some ⟨b3, 0, none⟩)]]) Tryz.func132 rfl Tryz.ntmps132 rfl (SH.refl _) ?_
  repeat' (first | refine rn ?_ | (refine zb ?_; intro _ _) | (refine za ?_; intro _ _) | (refine zs ?_; intro _ _))
  rename_i bs _
  refine TC_rangeX (σ := Option Addr × Nat × Hp × Nat) (ps := [7]) (k := 133) rfl rfl (upM n i).length false (fun h => by cases h) (fun j => [.int .i64 ((upM n i).getD j 0)])
    (fun j x => x.2.2.2 = j ∧ Row 3 1 encI x.1 x.2.1 x.2.2.1 ((upM n i).take j)) (fun x => (bs, .cells [.slice x.1 x.2.2.2 x.2.1] 55) :: x.2.2.1) (none, 0, [], 0) ⟨rfl, Row.nil _ _ _⟩ (fun j => rfl) (fun w h => h) ?_ ?_ ?_
  · intro lp Dd rec j x G hj hpx
    obtain ⟨so, sc, ob, len⟩ := x
    obtain ⟨e1, hrow⟩ := hpx
    dsimp only at e1 hrow ⊢
    subst e1
    obtain ⟨v, hv⟩ : ∃ v, (upM n i)[len]? = some v := ⟨_, List.getElem?_eq_getElem hj⟩
    have hgd : (upM n i).getD len 0 = v := by rw [List.getD_eq_getElem?_getD, hv]; rfl
    have htl : ((upM n i).take len).length = len := by rw [List.length_take]; omega
    have hsn := take_snocI hv
    have hl1 : ((upM n i).take len ++ [v]).length = len + 1 := by simp [htl]
    rw [hgd]
    repeat' (first | refine rn ?_ | (refine zb ?_; intro _ _) | (refine za ?_; intro _ _) | (refine zs ?_; intro _ _))
    refine TQ_asgX up ?_
    repeat' (first | refine rn ?_ | (refine zb ?_; intro _ _) | (refine za ?_; intro _ _) | (refine zs ?_; intro _ _))
    refine TL_append (l := (upM n i).take len) (l2 := [v]) (enc := encI) (G := _) rfl (by rfl) rfl rfl htl.symm rfl rfl hrow (pm_cons (pm_cons (pm_cons (pm_cons pm_here)))) (fun w h => Sl.of_blk h (List.Mem.head _) (fun _ _ => rfl) ⟨[], by rfl⟩) (fun u _ => rfl) (by simp only [List.length_singleton]; omega) (by simp only [List.length_singleton, maxLen]; omega) (fun so' sc' ob' hrow' => ?_)
    rw [hl1]
    repeat' (first | refine rn ?_ | (refine zb ?_; intro _ _) | (refine za ?_; intro _ _) | (refine zs ?_; intro _ _))
    refine TQ_bodyX (so', sc', ob', len + 1) ⟨rfl, by rw [hsn]; exact hrow'⟩ (fun w h => ?_)
    refine SH.perm (h.sub (H' := ob' ++ ((lp, .obj (recO rec .busy)) :: (Dd, .obj (.deferred (some []))) :: (bs, .cells [.slice so' (len + 1) sc'] 55) :: G)) (List.Sublist.append (List.Sublist.refl _) (List.sublist_cons_self _ _))) ?_
    exact (List.Perm.cons _ (List.Perm.cons _ (List.Perm.refl _))).trans pmB3
  · intro lp Y G hYG hy w' hs'
    refine c133 n hn i hi b2 b3 lp _ Y _ ⟨rfl, Row.nil _ _ _⟩ hy (fun j x w'' h => ?_) w' hs'
    exact ⟨h.sl hR.b, h.sl hR.f, h.sl hR.nc, h.sl hR.nf⟩
  · intro Dd x hpx
    obtain ⟨so, sc, ob, len⟩ := x
    obtain ⟨e1, hrow⟩ := hpx
    dsimp only at e1 hrow ⊢
    subst e1
    rw [List.take_length] at hrow
    repeat' (first | refine rn ?_ | (refine zb ?_; intro _ _) | (refine za ?_; intro _ _) | (refine zs ?_; intro _ _))
    exact TQ_leaveM (rs := [.tmp 4]) (vs := [.slice so (upM n i).length sc]) (.inl rfl) up Tryz.results132 ⟨RV.tmp rfl, trivial⟩ (fun w' hs => ⟨(so, sc, ob), hrow, rfl, hs.sub (List.Sublist.cons _ (List.Sublist.cons _ (List.Sublist.refl _)))⟩)
theorem c95 (n : Nt) (hn : OkNt n) (i : Nat) (hi : i < n.fields.length) (b2 b3 : Nat) (w : World) (hR : NtR w n b2 b3 i) :
    Calls Tryz.prog 95 #[upV b2 b3] w (RetP w.heap.size w (fun q : Option Addr × Nat × Hp => .slice q.1 (upM n i).length q.2.1) (fun q => q.2.2) (fun q => Row 3 1 encI q.1 q.2.1 q.2.2 (upM n i))) := by
  refine enter (args := [upV b2 b3]) Tryz.func95 rfl Tryz.ntmps95 rfl (SH.refl _) ?_
  repeat' (first | refine rn ?_ | (refine zb ?_; intro _ _) | (refine za ?_; intro _ _) | (refine zs ?_; intro _ _))
  refine TL_callN rfl rfl rfl (fun w h => c132 n hn i hi b2 b3 w ⟨h.sl hR.b, h.sl hR.f, h.sl hR.nc, h.sl hR.nf⟩) ?_
  rintro ⟨so, sc, ob⟩ hr
  dsimp only at hr ⊢
  repeat' (first | refine rn ?_ | (refine zb ?_; intro _ _) | (refine za ?_; intro _ _) | (refine zs ?_; intro _ _))
  exact TQ_ret1 Tryz.results95 (RV.tmp rfl) (fun w' hs => ⟨(so, sc, ob), hr, rfl, hs.sub (List.sublist_append_left _ _)⟩)
theorem c96 (n : Nt) (i : Nat) (w : World) :
    Calls Tryz.prog 96 #[.agg (encNt n).toArray, .int .i64 i] w (RetP w.heap.size w (fun q : Nat × Nat => upV q.1 q.2) (fun q => [(q.2, .cells [.int .i64 i] 3), (q.1, .cells (encNt n) 128)]) (fun _ => True)) := by
  refine enter (args := [.agg (encNt n).toArray, .int .i64 i]) Tryz.func96 rfl Tryz.ntmps96 rfl (SH.refl _) ?_
  repeat' (first | refine rn ?_ | (refine zb ?_; intro _ _) | (refine za ?_; intro _ _) | (refine zs ?_; intro _ _))
  rename_i b2 _ b3 _
  exact TQ_ret1 Tryz.results96 (RV.tmp rfl) (fun w' hs => ⟨(b2, b3), trivial, rfl, hs⟩)
/-- A list whose ends have been swapped, k from each side. -/
def revP (l : List Int) (k : Nat) : List Int := (List.range l.length).map fun j => if j < k ∨ l.length - k ≤ j then l.getD (l.length - 1 - j) 0 else l.getD j 0
theorem revP_len (l : List Int) (k : Nat) : (revP l k).length = l.length := by simp [revP]
theorem revP_get (l : List Int) (k j : Nat) (hj : j < l.length) : (revP l k)[j]? = some (if j < k ∨ l.length - k ≤ j then l.getD (l.length - 1 - j) 0 else l.getD j 0) := by
  unfold revP; rw [List.getElem?_map, List.getElem?_range hj]; rfl
theorem revP_zero (l : List Int) : revP l 0 = l := by
  apply List.ext_getElem?
  intro j
  rcases Nat.lt_or_ge j l.length with h | h
  · rw [revP_get l 0 j h, if_neg (by omega), List.getD_eq_getElem?_getD, List.getElem?_eq_getElem h]; rfl
  · rw [List.getElem?_eq_none (by rw [revP_len]; exact h), List.getElem?_eq_none h]
theorem revP_all (l : List Int) (k : Nat) (hk : l.length - 1 ≤ 2 * k) (hk2 : k ≤ l.length) : revP l k = l.reverse := by
  apply List.ext_getElem?
  intro j
  rcases Nat.lt_or_ge j l.length with h | h
  · rw [revP_get l k j h, List.getElem?_reverse h]
    have h2 : l.length - 1 - j < l.length := by omega
    rw [List.getElem?_eq_getElem h2]
    split
    · rw [List.getD_eq_getElem?_getD, List.getElem?_eq_getElem h2]; rfl
    · have : l.length - 1 - j = j := by omega
      simp only [this]
      rw [List.getD_eq_getElem?_getD, List.getElem?_eq_getElem h]; rfl
  · rw [List.getElem?_eq_none (by rw [revP_len]; exact h), List.getElem?_eq_none (by simpa using h)]
theorem revP_succ (l : List Int) (k : Nat) (hk : k < l.length - 1 - k) : ((revP l k).set k (l.getD (l.length - 1 - k) 0)).set (l.length - 1 - k) (l.getD k 0) = revP l (k + 1) := by
  apply List.ext_getElem?
  intro j
  rcases Nat.lt_or_ge j l.length with h | h
  · rw [revP_get l (k + 1) j h]
    by_cases e1 : l.length - 1 - k = j
    · subst e1
      rw [List.getElem?_set_self (by rw [List.length_set, revP_len]; omega), if_pos (by omega), show l.length - 1 - (l.length - 1 - k) = k by omega]
    · rw [List.getElem?_set_ne e1]
      by_cases e2 : k = j
      · subst e2
        rw [List.getElem?_set_self (by rw [revP_len]; omega), if_pos (by omega)]
      · rw [List.getElem?_set_ne e2, revP_get l k j h]
        by_cases h3 : j < k ∨ l.length - k ≤ j
        · rw [if_pos h3, if_pos (by omega)]
        · rw [if_neg h3, if_neg (by omega)]
  · rw [List.getElem?_eq_none (by rw [List.length_set, List.length_set, revP_len]; exact h), List.getElem?_eq_none (by rw [revP_len]; exact h)]
theorem c97 {B : Nat} {w0 : World} {G : Hp} (l : List Int) (ao : Option Addr) (cap : Nat) (ob : Hp) (hsm : l.length ≤ 1000) (hrow : Row 3 1 encI ao cap ob l) (w : World) (hs : SH B w0 w (ob ++ G)) :
    Calls Tryz.prog 97 #[.slice ao l.length cap] w (RetP B w0 (fun _ : Hp => .tuple #[]) (fun o => o ++ G) (fun o => Row 3 1 encI ao cap o l.reverse)) := by
  refine enter (args := [.slice ao l.length cap]) Tryz.func97 rfl Tryz.ntmps97 rfl hs ?_
  repeat' (first | refine rn ?_ | (refine zb ?_; intro _ _) | (refine za ?_; intro _ _) | (refine zs ?_; intro _ _))
  refine TC_loop (σ := Nat × Hp) (fun q => q.1 ≤ l.length ∧ 2 * q.1 ≤ l.length + 1 ∧ Row 3 1 encI ao cap q.2 (revP l q.1)) (fun q => [(0, .slice ao l.length cap), (2, .int .i64 q.1), (3, .int .i64 ((l.length : Int) - 1 - q.1))]) (fun q => q.2 ++ G) (fun q => l.length - q.1) (0, ob) ⟨Nat.zero_le _, by omega, by rw [revP_zero]; exact hrow⟩ (by simp only [Int.natCast_zero, Int.sub_zero]; exact sb) (fun w h => h) (fun q hq => ?_)
  obtain ⟨k, o⟩ := q
  obtain ⟨hk, hk2, hr⟩ := hq
  dsimp only at hk hk2 hr ⊢
  repeat' (first | refine rn ?_ | (refine zb ?_; intro _ _) | (refine za ?_; intro _ _) | (refine zs ?_; intro _ _))
  refine TC_cond_dec rfl (fun g1 => ?_) (fun g1 => ?_)
  · have hkl : k < l.length - 1 - k := by omega
    have hg1 := revP_get l k k (by omega)
    rw [if_neg (by omega)] at hg1
    have hg2 := revP_get l k (l.length - 1 - k) (by omega)
    rw [if_neg (by omega)] at hg2
    obtain ⟨b, cs, cs', rfl, rfl, hput, hr1⟩ := hr.put (off := 0) (vs := [.int .i64 (l.getD (l.length - 1 - k) 0)]) (u' := l.getD (l.length - 1 - k) 0) hg1 rfl rfl
    obtain ⟨b', cs1, cs2, e1, e2, hput2, hr2⟩ := hr1.put (off := 0) (i := l.length - 1 - k) (vs := [.int .i64 (l.getD k 0)]) (u := l.getD (l.length - 1 - k) 0) (u' := l.getD k 0) (by rw [List.getElem?_set_ne (by omega)]; exact hg2) rfl rfl
    cases e1
    cases e2
    rw [revP_succ l k hkl] at hr2
    have hsl : ∀ (H : Hp) w', (b, .cells cs 3) ∈ H → SH B w0 w' H → Sl w' 1 encI (some ⟨b, 0, none⟩) (revP l k) := fun H w' hm h => hr.sl h (fun p hp => by rw [List.mem_singleton.1 hp]; exact hm)
    have hsl1 : ∀ (H : Hp) w', (b, .cells cs' 3) ∈ H → SH B w0 w' H → Sl w' 1 encI (some ⟨b, 0, none⟩) ((revP l k).set k (l.getD (l.length - 1 - k) 0)) := fun H w' hm h => hr1.sl h (fun p hp => by rw [List.mem_singleton.1 hp]; exact hm)
    have hrl := revP_len l k
    have hputa : putN (0 + (k * 1 + 0)) [.int .i64 (l.getD (l.length - 1 - k) 0)] cs = some cs' := by rw [Nat.zero_add]; exact hput
    have hputb : putN (0 + ((l.length - 1 - k) * 1 + 0)) [.int .i64 (l.getD k 0)] cs' = some cs2 := by rw [Nat.zero_add]; exact hput2
    have e3 : ((l.length : Int) - 1 - k) = ((l.length - 1 - k : Nat) : Int) := by omega
    repeat' (first | refine rn ?_ | (refine zb ?_; intro _ _) | (refine za ?_; intro _ _) | (refine zs ?_; intro _ _))
    rw [e3]
    apply TC_draw5 14 13 10 0 [6, 7, 10, 11, 12]; exact rfl; kernel_rfl; exact rfl; exact Tryz.mixed; exact rfl
    · iterate 6 (refine' pv5 ?_; rotate_left)
      (refine' PG5.vale rfl rfl rfl (by rintro  _X; refine TL_index (l.length - 1 - k) rfl rfl rfl (fun w h => hsl _ w mm h) rfl (by omega) (by omega) ?_; exact qe) ?_; rotate_left)
      (refine' PG5.vale rfl rfl rfl (by rintro  _X; refine TL_load_el1 (u := l.getD (l.length - 1 - k) 0) rfl rfl (fun w h => hsl _ w mm h) hg2 rfl ?_; exact qe) ?_; rotate_left)
      iterate 2 (refine' pv5 ?_; rotate_left)
      (refine' PG5.vale rfl rfl rfl (by rintro  _X; refine TL_index k rfl rfl rfl (fun w h => hsl _ w mm h) rfl (by omega) (by omega) ?_; exact qe) ?_; rotate_left)
      (refine' PG5.vale rfl rfl rfl (by rintro  _X; refine TL_load_el1 (u := l.getD k 0) rfl rfl (fun w h => hsl _ w mm h) hg1 rfl ?_; exact qe) ?_; rotate_left)
      (refine' PG5.vale rfl rfl rfl (by rintro  _X; refine TL_index k rfl rfl rfl (fun w h => hsl _ w mm h) rfl (by omega) (by omega) ?_; exact qe) ?_; rotate_left)
      (refine' PG5.sto ([(b, .cells cs' 3)]) rfl rfl (by intro _X; refine TL_store (b := b) (cs := cs) (cs' := cs') (T := 3) rfl rfl rfl rfl rfl up hputa ?_; exact TL_nil (TQ_QD (fun _ h => h))) ?_; rotate_left)
      exact PG5.nil
    rintro _ _ rfl
    change TL _ _ _ _ _ _ _ _ _ _ _
    refine TL_index (l.length - 1 - k) rfl rfl rfl (fun w h => hsl1 _ w (List.mem_append_left _ (List.Mem.head _)) h) rfl (by rw [List.length_set]; omega) (by rw [List.length_set]; omega) ?_
    refine TL_store (b := b) (cs := cs') (cs' := cs2) (T := 3) rfl rfl rfl rfl rfl (by exact Upd.head) hputb ?_
    repeat' (first | refine rn ?_ | (refine zb ?_; intro _ _) | (refine za ?_; intro _ _) | (refine zs ?_; intro _ _))
    refine TQ_round (k + 1, [(b, .cells cs2 3)]) ⟨by dsimp only; omega, by dsimp only; omega, hr2⟩ (by dsimp only; omega) ?_ (fun w h => h)
    dsimp only
    rw [show ((l.length : Int) - 1 - ((k + 1 : Nat) : Int)) = ((l.length - 1 - k : Nat) : Int) - 1 by omega]
    exact sb
  · rw [revP_all l k (by omega) (by omega)] at hr
    repeat' (first | refine rn ?_ | (refine zb ?_; intro _ _) | (refine za ?_; intro _ _) | (refine zs ?_; intro _ _))
    exact TQ_end0 Tryz.results97 (fun w' hs => ⟨o, hr, rfl, hs⟩)
/-- The canals down to a field. -/
def pathM (n : Nt) (i : Nat) : List Int := (upM n i).reverse
theorem c52 (n : Nt) (hn : OkNt n) (i : Nat) (hi : i < n.fields.length) (w : World) (hnc : Sl w 5 encCn n.cao n.canals) (hnf : Sl w 1 encI n.fao n.fields) :
    Calls Tryz.prog 52 #[.agg (encNt n).toArray, .int .i64 i] w (RetP w.heap.size w (fun q : Option Addr × Nat × Hp => .slice q.1 (pathM n i).length q.2.1) (fun q => q.2.2) (fun q => Row 3 1 encI q.1 q.2.1 q.2.2 (pathM n i))) := by
  have hl17 : (upM n i).length ≤ 17 := upF_len _ _
  refine enter (args := [.agg (encNt n).toArray, .int .i64 i]) Tryz.func52 rfl Tryz.ntmps52 rfl (SH.refl _) ?_
  repeat' (first | refine rn ?_ | (refine zb ?_; intro _ _) | (refine za ?_; intro _ _) | (refine zs ?_; intro _ _))
  rename_i b2 _
  refine TL_callN rfl rfl rfl (fun w h => c96 n i w) ?_
  rintro ⟨q1, q2⟩ _
  dsimp only
  refine TL_callN rfl rfl rfl (fun w h => c95 n hn i hi q1 q2 w ⟨Sl.of_blk (enc := encNt) (k := 4) (l := [n]) h (List.mem_append_left _ (List.Mem.tail _ (List.Mem.head _))) (fun _ _ => rfl) ⟨[], rfl⟩, Sl.of_blk (enc := encI) (k := 1) (l := [(i : Int)]) h (List.mem_append_left _ (List.Mem.head _)) (fun _ _ => rfl) ⟨[], rfl⟩, h.sl hnc, h.sl hnf⟩) ?_
  rintro ⟨so, sc, ob⟩ hr
  dsimp only at hr ⊢
  repeat' (first | refine rn ?_ | (refine zb ?_; intro _ _) | (refine za ?_; intro _ _) | (refine zs ?_; intro _ _))
  refine TL_call rfl rfl rfl _ _ _ (fun w h => c97 (upM n i) so sc ob (by omega) hr w h) (fun o ho => ?_)
  repeat' (first | refine rn ?_ | (refine zb ?_; intro _ _) | (refine za ?_; intro _ _) | (refine zs ?_; intro _ _))
  exact TQ_ret1 Tryz.results52 (RV.tmp rfl) (fun w' hs => ⟨(so, sc, o), ho, by unfold pathM; rw [List.length_reverse], hs.sub (List.sublist_append_left _ _)⟩)
end Go.Proofs.YtkpkebpofpcmaaaGreatDoor
