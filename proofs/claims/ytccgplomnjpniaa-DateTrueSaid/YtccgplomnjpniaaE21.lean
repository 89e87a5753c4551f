/- Walks: the search for the best cuts, of the program. -/
import Derived.Test.YtccgplomnjpniaaE20
import Derived.Test.YtccgplomnjpniaaE15
namespace Go.Proofs.Ytccgplomnjpniaa
open Go Go.Eng Go.RowKit Go.Proofs
set_option maxHeartbeats 1000000
set_option maxRecDepth 10000
attribute [local irreducible] TL TC TQ

theorem inc_cutsB (n : Nat) : ∀ (l : List Int) (lo : Int), Pick.Inc n lo l ↔ cutsB n lo l = true := by
  intro l
  induction l with
  | nil => intro lo; simp [Pick.Inc, cutsB]
  | cons x l ih =>
    intro lo
    simp only [Pick.Inc, cutsB, Bool.and_eq_true, ih]
    constructor
    · rintro ⟨h1, h2, h3⟩; exact ⟨decide_eq_true ⟨h1, h2⟩, h3⟩
    · rintro ⟨h1, h2⟩
      have h3 := of_decide_eq_true h1
      exact ⟨h3.1, h3.2, h2⟩
theorem inc_len {n : Nat} {l : List Int} (h : Pick.Inc n 0 l) : l.length ≤ n := by
  by_cases e : l = []
  · subst e; simp
  · have := Pick.Inc.room h e; omega
theorem inc_ok {n : Nat} {l : List Int} (hn : n ≤ 1000000) (h : Pick.Inc n 0 l) : CutsOk n l := cutsB_ok (by have := inc_len h; omega) ((inc_cutsB _ _ _).1 h)
theorem inc_snoc {n : Nat} {d : Int} (hd : d ≤ (n : Int) - 1) : ∀ (l : List Int) (lo : Int), Pick.Inc n lo l → (match l.getLast? with | none => lo | some x => x + 1) ≤ d → Pick.Inc n lo (l ++ [d]) := by
  intro l
  induction l with
  | nil => intro lo _ h; exact ⟨h, hd, trivial⟩
  | cons x l ih =>
    intro lo h hl
    refine ⟨h.1, h.2.1, ih (x + 1) h.2.2 ?_⟩
    cases l with
    | nil => simpa using hl
    | cons y l =>
      cases e : (y :: l).getLast? with
      | none => simp at e
      | some z => rw [List.getLast?_cons_cons, e] at hl; exact hl
theorem inc_snoc0 {n : Nat} {d : Int} {l : List Int} (hd : d ≤ (n : Int) - 1) (h : Pick.Inc n 0 l) (hl : Pick.fst l ≤ d) : Pick.Inc n 0 (l ++ [d]) := inc_snoc hd l 0 h (by
  unfold Pick.fst at hl
  cases e : l.getLast? with
  | none => rw [e] at hl; exact hl
  | some x => rw [e] at hl; exact hl)
theorem inc_mem {n : Nat} : ∀ {l : List Int} {lo : Int}, Pick.Inc n lo l → ∀ x ∈ l, lo ≤ x ∧ x ≤ (n : Int) - 1 := by
  intro l
  induction l with
  | nil => intro lo _ x hx; cases hx
  | cons y l ih =>
    intro lo h x hx
    rcases List.mem_cons.1 hx with rfl | hx
    · exact ⟨h.1, h.2.1⟩
    · have := ih h.2.2 x hx
      have := h.1
      omega
theorem fst_range {n : Nat} {l : List Int} (h : Pick.Inc n 0 l) : 0 ≤ Pick.fst l ∧ Pick.fst l ≤ n := by
  unfold Pick.fst
  cases e : l.getLast? with
  | none => exact ⟨by simp, by simp⟩
  | some x =>
    have := inc_mem h x (List.mem_of_getLast? e)
    dsimp only; omega

theorem fst_last {l : List Int} (h : 0 < l.length) : ∃ x, l[l.length - 1]? = some x ∧ Pick.fst l = x + 1 ∧ x ∈ l := by
  obtain ⟨x, hx⟩ : ∃ x, l[l.length - 1]? = some x := ⟨_, List.getElem?_eq_getElem (by omega)⟩
  refine ⟨x, hx, ?_, List.mem_of_getElem? hx⟩
  unfold Pick.fst
  rw [List.getLast?_eq_getElem?, hx]
theorem days_len (lo hi : Int) : (Pick.days lo hi).length = (hi + 1 - lo).toNat := by simp [Pick.days]
theorem days_get {lo hi : Int} {k : Nat} (hk : k < (Pick.days lo hi).length) : (Pick.days lo hi)[k]? = some (lo + k) := by
  rw [days_len] at hk
  unfold Pick.days
  rw [List.getElem?_map, List.getElem?_range hk]; rfl

theorem perm_shuffle (h5 ob G : Hp) (x4 x1 x2 : Nat × Blk) : (x1 :: x2 :: (ob ++ (h5 ++ x4 :: G))).Perm ((h5 ++ ([x4] ++ [])) ++ (x1 :: x2 :: (ob ++ G))) := by
  have e1 : ((h5 ++ [x4]) ++ x1 :: x2 :: (ob ++ G)).Perm (x1 :: x2 :: ((h5 ++ [x4]) ++ (ob ++ G))) := List.perm_middle.trans (List.perm_middle.cons _)
  have e2 : ((h5 ++ [x4]) ++ (ob ++ G)).Perm (ob ++ ((h5 ++ [x4]) ++ G)) := List.perm_append_comm_assoc _ _ _
  have := (e1.trans ((e2.cons _).cons _)).symm
  simpa using this
/-- What cuts are worth for sure. -/
def worthR (f : Ft) (b : Bn) (l : List Int) : Int := (cutR f b l).worth.1
theorem worthR_nonneg {f : Ft} {b : Bn} (hf : OkFt f) (hb : OkBn b) (l : List Int) : 0 ≤ worthR f b l := (cutK_B (l := l) hf hb b.ripe.length (Nat.le_refl _)).worth.1.1

theorem c64 {B : Nat} {w0 : World} (f : Ft) (b : Bn) (ao : Option Addr) (c : Nat) (hf : OkFt f) (hb : OkBn b) (hab : ∀ {w : World} {K : Hp}, SH B w0 w K → Sl w 2 encSp ao b.ripe) (bt bw bc bb br : Nat) :
    ∀ (m : Nat) (l : List Int) (so : Option Addr) (sc : Nat) (cs : List Int) (cso : Option Addr) (csc : Nat) (ob : Hp) (wo : Int) (G : Hp), Pick.Inc b.ripe.length 0 l → l.length ≤ sc → (so = none → sc = 0) → m ≤ 12 →
    (bt, .cells (encTr f b ao c) 110) ∈ G → (bb, .cells (encBn b ao c) 46) ∈ G → (br, .cells [.func (.func 64) #[] #[.pointer (some ⟨bt, 0, none⟩), .pointer (some ⟨bw, 0, none⟩), .pointer (some ⟨bc, 0, none⟩), .pointer (some ⟨bb, 0, none⟩), .pointer (some ⟨br, 0, none⟩)]] 115) ∈ G →
    (∀ {w : World} {K : Hp}, SH B w0 w K → (∀ p ∈ G, p ∈ K) → Sl w 1 encI so l) → Row 3 1 encI cso csc ob cs →
    ∀ w, SH B w0 w ((bw, .cells [.int .i64 wo] 3) :: (bc, .cells [.slice cso cs.length csc] 47) :: (ob ++ G)) →
    Calls Try.prog 64 #[.slice so l.length sc, .int .i64 m, .pointer (some ⟨bt, 0, none⟩), .pointer (some ⟨bw, 0, none⟩), .pointer (some ⟨bc, 0, none⟩), .pointer (some ⟨bb, 0, none⟩), .pointer (some ⟨br, 0, none⟩)] w
      (RetP B w0 (fun _ : Option Addr × Nat × Hp => .tuple #[]) (fun q => (bw, .cells [.int .i64 ((Pick.tryE b.ripe.length m l).foldl (Pick.up1 (worthR f b)) (cs, wo)).2] 3) :: (bc, .cells [.slice q.1 ((Pick.tryE b.ripe.length m l).foldl (Pick.up1 (worthR f b)) (cs, wo)).1.length q.2.1] 47) :: (q.2.2 ++ G))
        (fun q => Row 3 1 encI q.1 q.2.1 q.2.2 ((Pick.tryE b.ripe.length m l).foldl (Pick.up1 (worthR f b)) (cs, wo)).1)) := by
  have hn : b.ripe.length ≤ 12 := by have := hb.1; simp only [In] at this; omega
  intro m
  induction m with
  | zero =>
    intro l so sc cs cso csc ob wo G hinc hsc hso hm hmt hmb hmr hsl hrow w hs
    have hlen := inc_len hinc
    refine enter (args := [.slice so l.length sc, .int .i64 (0 : Nat), .pointer (some ⟨bt, 0, none⟩), .pointer (some ⟨bw, 0, none⟩), .pointer (some ⟨bc, 0, none⟩), .pointer (some ⟨bb, 0, none⟩), .pointer (some ⟨br, 0, none⟩)]) Try.func64 rfl Try.ntmps64 rfl hs ?_
    repeat' (first | (refine TL_eql_t rfl rfl rfl rfl ?_) | refine r1 ?_ | (apply TL_box; exact rfl; exact rfl; exact rfl; intro _ _) | (apply TL_alloc; exact rfl; intro _ _) | (apply TL_buildSlice; exact rfl; exact rfl; exact rfl; exact rfl; exact rfl; intro _ _))
    refine TL_loadn rfl rfl (List.mem_cons_of_mem _ (List.mem_cons_of_mem _ (List.mem_append_right _ hmt))) rfl ?_
    repeat' (first | refine rn ?_ | (apply TL_box; exact rfl; exact rfl; exact rfl; intro _ _) | (apply TL_alloc; exact rfl; intro _ _) | (apply TL_buildSlice; exact rfl; exact rfl; exact rfl; exact rfl; exact rfl; intro _ _))
    refine TL_callV rfl rfl rfl (fun w h => c60 f b ao c l so sc hf hb (inc_ok (by omega) hinc) w (hab h) (hsl h (fun p hp => List.mem_cons_of_mem _ (List.mem_cons_of_mem _ (List.mem_append_right _ hp))))) ?_
    refine TL_fieldn rfl rfl rfl ?_
    refine TL_field1 rfl rfl rfl ?_
    repeat' (first | refine rn ?_ | (apply TL_box; exact rfl; exact rfl; exact rfl; intro _ _) | (apply TL_alloc; exact rfl; intro _ _) | (apply TL_buildSlice; exact rfl; exact rfl; exact rfl; exact rfl; exact rfl; intro _ _))
    have hfold : ([l] : List (List Int)).foldl (Pick.up1 (worthR f b)) (cs, wo) = if wo < worthR f b l then (l, worthR f b l) else (cs, wo) := rfl
    refine TC_cond_dec rfl (fun h1 => ?_) (fun h1 => ?_)
    · rw [if_pos (show wo < worthR f b l from h1)] at hfold
      repeat' (first | refine rn ?_ | (apply TL_box; exact rfl; exact rfl; exact rfl; intro _ _) | (apply TL_alloc; exact rfl; intro _ _) | (apply TL_buildSlice; exact rfl; exact rfl; exact rfl; exact rfl; exact rfl; intro _ _))
      refine TL_callN rfl rfl rfl (fun w h => c65 l so sc (by omega) w (hsl h (fun p hp => List.mem_cons_of_mem _ (List.mem_cons_of_mem _ (List.mem_append_right _ hp))))) ?_
      rintro ⟨cso', csc', ob'⟩ hrow'
      replace hrow' : Row 3 1 encI cso' csc' ob' l := hrow'
      dsimp only
      repeat' (first | refine rn ?_ | (apply TL_box; exact rfl; exact rfl; exact rfl; intro _ _) | (apply TL_alloc; exact rfl; intro _ _) | (apply TL_buildSlice; exact rfl; exact rfl; exact rfl; exact rfl; exact rfl; intro _ _))
      refine TQ_ret0 Try.results64 (fun w' hs' => ⟨(cso', csc', ob'), ?_, rfl, ?_⟩)
      · simp only [Pick.tryE]; rw [hfold]; exact hrow'
      · simp only [Pick.tryE]; rw [hfold]
        refine (SH.perm (H' := (bw, .cells [.int .i64 (worthR f b l)] 3) :: (bc, .cells [.slice cso' l.length csc'] 47) :: (ob' ++ (ob ++ G))) hs' (List.perm_middle.trans (List.perm_middle.cons _)).symm).sub ?_
        exact List.Sublist.cons_cons _ (List.Sublist.cons_cons _ (List.Sublist.append_left (List.sublist_append_right _ _) _))
    · rw [if_neg (show ¬ wo < worthR f b l from h1)] at hfold
      repeat' (first | refine rn ?_ | (apply TL_box; exact rfl; exact rfl; exact rfl; intro _ _) | (apply TL_alloc; exact rfl; intro _ _) | (apply TL_buildSlice; exact rfl; exact rfl; exact rfl; exact rfl; exact rfl; intro _ _))
      refine TQ_ret0 Try.results64 (fun w' hs' => ⟨(cso, csc, ob), ?_, rfl, ?_⟩)
      · simp only [Pick.tryE]; rw [hfold]; exact hrow
      · simp only [Pick.tryE]; rw [hfold]; exact hs'
  | succ m ih =>
    intro l so sc cs cso csc ob wo G hinc hsc hso hm hmt hmb hmr hsl hrow w hs
    have hlen := inc_len hinc
    have hfst := fst_range hinc
    refine enter (args := [.slice so l.length sc, .int .i64 ((m + 1 : Nat) : Int), .pointer (some ⟨bt, 0, none⟩), .pointer (some ⟨bw, 0, none⟩), .pointer (some ⟨bc, 0, none⟩), .pointer (some ⟨bb, 0, none⟩), .pointer (some ⟨br, 0, none⟩)]) Try.func64 rfl Try.ntmps64 rfl hs ?_
    repeat' (first | (refine TL_eql_f rfl rfl rfl (by omega) ?_) | refine r1 ?_ | (apply TL_box; exact rfl; exact rfl; exact rfl; intro _ _) | (apply TL_alloc; exact rfl; intro _ _) | (apply TL_buildSlice; exact rfl; exact rfl; exact rfl; exact rfl; exact rfl; intro _ _))
    refine TC_join (σ := Unit) (fun _ => True) (fun _ => [(0, .slice so l.length sc), (1, .int .i64 ((m + 1 : Nat) : Int)), (2, .pointer (some ⟨bt, 0, none⟩)), (3, .pointer (some ⟨bw, 0, none⟩)), (4, .pointer (some ⟨bc, 0, none⟩)), (5, .pointer (some ⟨bb, 0, none⟩)), (6, .pointer (some ⟨br, 0, none⟩)), (10, .int .i64 (Pick.fst l))])
      (fun _ => (bw, .cells [.int .i64 wo] 3) :: (bc, .cells [.slice cso cs.length csc] 47) :: (ob ++ G)) ?_ (fun _ _ => ?_)
    · refine TC_cond_dec rfl (fun h1 => ?_) (fun h1 => ?_)
      · obtain ⟨x, hx, hfx, hxm⟩ := fst_last (l := l) (by omega)
        have hxr := inc_mem hinc x hxm
        repeat' (first | refine rn ?_ | (apply TL_box; exact rfl; exact rfl; exact rfl; intro _ _) | (apply TL_alloc; exact rfl; intro _ _) | (apply TL_buildSlice; exact rfl; exact rfl; exact rfl; exact rfl; exact rfl; intro _ _))
        refine TL_index (l.length - 1) rfl rfl rfl (fun w h => hsl h (fun p hp => List.mem_cons_of_mem _ (List.mem_cons_of_mem _ (List.mem_append_right _ hp)))) (by omega) (by omega) (Nat.le_refl _) ?_
        refine TL_load_el1 (u := x) rfl rfl (fun w h => hsl h (fun p hp => List.mem_cons_of_mem _ (List.mem_cons_of_mem _ (List.mem_append_right _ hp)))) hx rfl ?_
        repeat' (first | refine rn ?_ | (apply TL_box; exact rfl; exact rfl; exact rfl; intro _ _) | (apply TL_alloc; exact rfl; intro _ _) | (apply TL_buildSlice; exact rfl; exact rfl; exact rfl; exact rfl; exact rfl; intro _ _))
        exact TQ_mid () trivial (by rw [hfx]; exact sb) (fun w h => h)
      · have hl0 : l = [] := List.eq_nil_of_length_eq_zero (by omega)
        subst hl0
        repeat' (first | refine rn ?_ | (apply TL_box; exact rfl; exact rfl; exact rfl; intro _ _) | (apply TL_alloc; exact rfl; intro _ _) | (apply TL_buildSlice; exact rfl; exact rfl; exact rfl; exact rfl; exact rfl; intro _ _))
        exact TQ_mid () trivial sb (fun w h => h)
    · repeat' (first | refine rn ?_ | (apply TL_box; exact rfl; exact rfl; exact rfl; intro _ _) | (apply TL_alloc; exact rfl; intro _ _) | (apply TL_buildSlice; exact rfl; exact rfl; exact rfl; exact rfl; exact rfl; intro _ _))
      refine TC_loop (σ := Nat × (List Int × Int) × Option Addr × Nat × Hp) (fun q => q.1 ≤ (Pick.days (Pick.fst l) ((b.ripe.length : Int) - ((m : Int) + 1))).length ∧ q.2.1 = (((Pick.days (Pick.fst l) ((b.ripe.length : Int) - ((m : Int) + 1))).take q.1).flatMap (fun d => Pick.tryE b.ripe.length m (l ++ [d]))).foldl (Pick.up1 (worthR f b)) (cs, wo) ∧ Row 3 1 encI q.2.2.1 q.2.2.2.1 q.2.2.2.2 q.2.1.1)
        (fun q => [(0, .slice so l.length sc), (1, .int .i64 ((m + 1 : Nat) : Int)), (2, .pointer (some ⟨bt, 0, none⟩)), (3, .pointer (some ⟨bw, 0, none⟩)), (4, .pointer (some ⟨bc, 0, none⟩)), (5, .pointer (some ⟨bb, 0, none⟩)), (6, .pointer (some ⟨br, 0, none⟩)), (11, .int .i64 (Pick.fst l + q.1))])
        (fun q => (bw, .cells [.int .i64 q.2.1.2] 3) :: (bc, .cells [.slice q.2.2.1 q.2.1.1.length q.2.2.2.1] 47) :: (q.2.2.2.2 ++ G)) (fun q => (Pick.days (Pick.fst l) ((b.ripe.length : Int) - ((m : Int) + 1))).length - q.1) (0, (cs, wo), cso, csc, ob) ⟨Nat.zero_le _, rfl, hrow⟩ (Sub.cons rfl (Sub.cons rfl (Sub.cons rfl (Sub.cons rfl (Sub.cons rfl (Sub.cons rfl (Sub.cons rfl (Sub.cons (by show lk _ 11 = some (.int .i64 (Pick.fst l + ((0 : Nat) : Int))); rw [show Pick.fst l + ((0 : Nat) : Int) = Pick.fst l by omega]; rfl) (Sub.nil _))))))))) (fun w h => h) ?_
      rintro ⟨k, ⟨cs1, wo1⟩, cso1, csc1, ob1⟩ ⟨hk, hst, hrow1⟩
      dsimp only at hk hst hrow1 ⊢
      have hdl := days_len (Pick.fst l) ((b.ripe.length : Int) - ((m : Int) + 1))
      repeat' (first | refine rn ?_ | (apply TL_box; exact rfl; exact rfl; exact rfl; intro _ _) | (apply TL_alloc; exact rfl; intro _ _) | (apply TL_buildSlice; exact rfl; exact rfl; exact rfl; exact rfl; exact rfl; intro _ _))
      refine TL_load1 rfl rfl (List.mem_cons_of_mem _ (List.mem_cons_of_mem _ (List.mem_append_right _ hmb))) rfl ?_
      repeat' (first | refine rn ?_ | (apply TL_box; exact rfl; exact rfl; exact rfl; intro _ _) | (apply TL_alloc; exact rfl; intro _ _) | (apply TL_buildSlice; exact rfl; exact rfl; exact rfl; exact rfl; exact rfl; intro _ _))
      refine TC_cond_dec rfl (fun h1 => ?_) (fun h1 => ?_)
      · have hlt : k < (Pick.days (Pick.fst l) ((b.ripe.length : Int) - ((m : Int) + 1))).length := by omega
        have hday := days_get hlt
        have hinc' : Pick.Inc b.ripe.length 0 (l ++ [Pick.fst l + (k : Int)]) := inc_snoc0 (by omega) hinc (by omega)
        have htake : (((Pick.days (Pick.fst l) ((b.ripe.length : Int) - ((m : Int) + 1))).take (k + 1)).flatMap (fun d => Pick.tryE b.ripe.length m (l ++ [d]))).foldl (Pick.up1 (worthR f b)) (cs, wo) = (Pick.tryE b.ripe.length m (l ++ [Pick.fst l + (k : Int)])).foldl (Pick.up1 (worthR f b)) (cs1, wo1) := by
          rw [List.take_add_one, hday, List.flatMap_append, List.foldl_append, ← hst]; simp
        repeat' (first | refine rn ?_ | (apply TL_box; exact rfl; exact rfl; exact rfl; intro _ _) | (apply TL_alloc; exact rfl; intro _ _) | (apply TL_buildSlice; exact rfl; exact rfl; exact rfl; exact rfl; exact rfl; intro _ _))
        apply TC_draw 8; kernel_rfl; exact Try.mixed
        · (refine' PG.val rfl rfl (by intro _X; refine TL_load1 rfl rfl (by repeat (first | exact hmr | apply List.mem_cons_of_mem | apply List.mem_append_right)) rfl ?_; exact qe) ?_; rotate_left)
          (refine' pv ?_; rotate_left)
          (refine' PG.val rfl rfl (by intro _X; refine TL_callV rfl rfl rfl (fun w h => c66 l so sc (by omega) hsc w) ?_; exact qe) ?_; rotate_left)
          (refine' pv ?_; rotate_left)
          (refine' PG.rel ((fun v h => ∃ b4, v = .slice (some ⟨b4, 0, none⟩) 1 1 ∧ h = [(b4, .cells [.int .i64 (Pick.fst l + (k : Int))] 3)])) rfl rfl (by intro _X; apply TL_buildSlice; exact rfl; exact rfl; exact rfl; exact rfl; exact rfl; intro b4 _; exact TL_nil (TQ_QR (h := [(b4, _)]) rfl ⟨b4, rfl, rfl⟩ (fun _ h => h))) ?_; rotate_left)
          (refine' PG.rel (fun v h => ∃ b5 cp, v = .slice (some ⟨b5, 0, none⟩) (l ++ [Pick.fst l + (k : Int)]).length cp ∧ Row 3 1 encI (some ⟨b5, 0, none⟩) cp h (l ++ [Pick.fst l + (k : Int)])) rfl rfl (by rintro _ _ ⟨b4, rfl, rfl⟩ _X; refine TL_append_new (l := l) (l2 := [Pick.fst l + (k : Int)]) (enc := encI) rfl (by rfl) rfl rfl rfl rfl (fun w h => Sl.clip (hsl h (fun p hp => by repeat (first | exact hp | apply List.mem_cons_of_mem | apply List.mem_append_right)))) (fun w h => Sl.of_blk h mm (fun _ _ => rfl) ⟨[], rfl⟩) (fun h1 _ => by rw [h1]; rfl) (by simp) (Nat.le_refl _) (fun u _ => rfl) (by simp only [List.length_singleton]; omega) (by simp only [List.length_singleton, maxLen]; omega) (fun b5 cp ob5 hr5 => TL_nil (TQ_QR (h := ob5) rfl ⟨b5, cp, rfl, hr5⟩ (fun _ h => h)))) ?_; rotate_left)
          (refine' pv ?_; rotate_left)
          (refine' PG.val rfl rfl (by intro _X; (apply TL_sub; exact rfl; exact rfl; exact rfl; omega); rw [show ((m + 1 : Nat) : Int) - 1 = (m : Int) by omega]; exact qe) ?_; rotate_left)
          exact PG.nil
        rintro _ h5 ⟨b5, cp5, rfl, hrow5⟩ _ _ ⟨b4, rfl, rfl⟩
        change TL _ _ _ _ _ _ _ _ _ _ _
        refine TL_call rfl rfl rfl _ _ _ (fun w h => ih (l ++ [Pick.fst l + (k : Int)]) (some ⟨b5, 0, none⟩) cp5 cs1 cso1 csc1 ob1 wo1 (h5 ++ (b4, .cells [.int .i64 (Pick.fst l + (k : Int))] 3) :: G) hinc' hrow5.le (fun h => by cases h) (by omega) (List.mem_append_right _ (List.mem_cons_of_mem _ hmt)) (List.mem_append_right _ (List.mem_cons_of_mem _ hmb)) (List.mem_append_right _ (List.mem_cons_of_mem _ hmr)) (fun h hm => hrow5.sl h (fun p hp => hm p (List.mem_append_left _ hp))) hrow1 w (h.perm (perm_shuffle _ _ _ _ _ _))) ?_
        rintro ⟨cso2, csc2, ob2⟩ hrow2
        replace hrow2 : Row 3 1 encI cso2 csc2 ob2 ((Pick.tryE b.ripe.length m (l ++ [Pick.fst l + (k : Int)])).foldl (Pick.up1 (worthR f b)) (cs1, wo1)).1 := hrow2
        dsimp only
        repeat' (first | refine rn ?_ | (apply TL_box; exact rfl; exact rfl; exact rfl; intro _ _) | (apply TL_alloc; exact rfl; intro _ _) | (apply TL_buildSlice; exact rfl; exact rfl; exact rfl; exact rfl; exact rfl; intro _ _))
        refine TQ_round (k + 1, (Pick.tryE b.ripe.length m (l ++ [Pick.fst l + (k : Int)])).foldl (Pick.up1 (worthR f b)) (cs1, wo1), cso2, csc2, ob2) ⟨hlt, htake.symm, hrow2⟩ (by dsimp only; omega) (by rw [show Pick.fst l + (k : Int) + 1 = Pick.fst l + ((k + 1 : Nat) : Int) by omega]; exact sb) (fun w h => h.sub (List.Sublist.cons_cons _ (List.Sublist.cons_cons _ (List.Sublist.append_left ((List.sublist_cons_self _ _).trans (List.sublist_append_right _ _)) _))))
      · have hkl : k = (Pick.days (Pick.fst l) ((b.ripe.length : Int) - ((m : Int) + 1))).length := by omega
        subst hkl
        rw [List.take_length] at hst
        repeat' (first | refine rn ?_ | (apply TL_box; exact rfl; exact rfl; exact rfl; intro _ _) | (apply TL_alloc; exact rfl; intro _ _) | (apply TL_buildSlice; exact rfl; exact rfl; exact rfl; exact rfl; exact rfl; intro _ _))
        refine TQ_end0 Try.results64 (fun w' hs' => ⟨(cso1, csc1, ob1), ?_, rfl, ?_⟩)
        · simp only [Pick.tryE]; rw [← hst]; exact hrow1
        · simp only [Pick.tryE]; rw [← hst]; exact hs'
end Go.Proofs.Ytccgplomnjpniaa
