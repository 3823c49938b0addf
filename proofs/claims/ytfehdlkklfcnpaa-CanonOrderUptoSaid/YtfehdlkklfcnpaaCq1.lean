/- Walks of functions, and plain facts about what they compute. No conditions. -/
import Derived.Test.YtfehdlkklfcnpaaCq0
set_option linter.unusedVariables false
set_option linter.unusedSimpArgs false
namespace Go.Proofs.Ytfehdlkklfcnpaa.A
open Go.RowKit Go.Proofs.YtfehdlkklfcnpaaW.PrintWords Go.Proofs.YtfehdlkklfcnpaaW.PrintLast Go.Proofs.YtfehdlkklfcnpaaW.PrintMore
theorem ndL_put (n : S26) : ∀ l : List S26, ndL (putV n l) ≤ nd n + ndL l
  | [] => by rw [putV]; simp only [ndL]; omega
  | x :: l => by
    have := ndL_put n l
    rw [putV]
    split
    · rw [ndL, ndL]; omega
    · split
      · rw [ndL, ndL]; omega
      · rw [ndL]; omega
theorem ndL_fold : ∀ l acc : List S26, ndL (l.foldl (fun acc n => putV n acc) acc) ≤ ndL l + ndL acc
  | [], acc => by rw [List.foldl_nil]; omega
  | x :: l, acc => by
    have h1 := ndL_fold l (putV x acc)
    have h2 := ndL_put x acc
    rw [List.foldl_cons, ndL]; omega
theorem ndL_cl (l : List S26) : ndL (clV l) ≤ ndL l := by have := ndL_fold l []; rw [ndL] at this; exact this
theorem ndL_fl : ∀ (m : Nat) (n : S26), nd n ≤ m → ndL (flV n) ≤ nd n ∧ (n.f0 = 2 → ndL (flV n) + 1 ≤ nd n)
  | 0, n, h => by have := nd_pos n; omega
  | m + 1, n, h => by
    have hn := nd_eq n
    rw [flV_eq]
    by_cases c : n.f0 = 2
    · rw [if_pos c]
      have : ∀ l : List S26, ndL l ≤ m → ndL (flVL l) ≤ ndL l := fun l => by
        induction l with
        | nil => intro _; rw [flVL, ndL]; omega
        | cons y l ih =>
          intro hl
          rw [ndL] at hl
          have h1 := (ndL_fl m y (by omega)).1
          have h2 := ih (by omega)
          rw [flVL, ndL_app, ndL]; omega
      have := this n.f4 (by omega)
      exact ⟨by omega, fun _ => by omega⟩
    · rw [if_neg c, ndL, ndL]
      exact ⟨by omega, fun h => absurd h c⟩
theorem rtL_of : ∀ {l : List S26}, (∀ x, x ∈ l → rt x = true) → rtL l = true
  | [], _ => by rw [rtL]
  | x :: l, h => by rw [rtL, h x (by simp), rtL_of (fun y hy => h y (List.mem_cons_of_mem _ hy))]; rfl
theorem fl_ne : ∀ (m : Nat) (n : S26), nd n ≤ m → rt n = true → flV n ≠ []
  | 0, n, h, _ => by have := nd_pos n; omega
  | m + 1, n, h, hr => by
    have hn := nd_eq n
    rw [flV_eq]
    by_cases c : n.f0 = 2
    · rw [if_pos c]
      rw [rt_eq, if_neg (by omega), if_neg (by omega), if_pos c] at hr
      simp only [Bool.and_eq_true, decide_eq_true_eq] at hr
      cases e : n.f4 with
      | nil => exact absurd e hr.2.1
      | cons x l =>
        have h2 := hr.2.2
        rw [e, rtL, Bool.and_eq_true] at h2
        have h3 : ndL n.f4 = nd x + ndL l := by rw [e, ndL]
        have h4 := fl_ne m x (by omega) h2.1
        rw [flVL]
        intro h5
        exact h4 (List.append_eq_nil_iff.1 h5).1
    · rw [if_neg c]; simp
theorem clV_ne {l : List S26} (hl : ∀ x, x ∈ l → saneV x = true) (h : l ≠ []) : clV l ≠ [] := by
  obtain ⟨x, t, rfl⟩ := List.exists_cons_of_ne_nil h
  intro e
  have := ((clV_is hl).2.2 x).2 (by simp)
  rw [e] at this; simp at this
theorem cn_leaf {n : S26} (hs : saneV n = true) (c : n.f0 ≠ 2) : cnV n = n := by unfold cnV; rw [if_pos hs, if_neg c]
theorem cn_list {n : S26} (hs : saneV n = true) (c : n.f0 = 2) : cnV n = oneV (clV (flV n)) := by unfold cnV; rw [if_pos hs, if_pos c]
structure CnF (n : S26) (L : List S26) : Prop where
  sane : ∀ x, x ∈ L → saneV x = true
  leaf : ∀ x, x ∈ L → x.f0 ≠ 2
  ris : rise L
  ne : L ≠ []
  small : ndL L ≤ nd n
  one : oneV L = cnV n
theorem oneV_one {l : List S26} {x : S26} : oneV [x] = x := by unfold oneV; rw [if_pos (show [x].length = 1 from rfl)]; rfl
theorem cn_F {n : S26} (hs : saneV n = true) : CnF n (clV (flV n)) := by
  obtain ⟨s1, s2, s3⟩ := sane_rt hs
  have hf := flV_saneV hs
  obtain ⟨c1, c2, c3⟩ := clV_is hf
  have hm : ∀ x, x ∈ clV (flV n) → saneV x = true ∧ x.f0 ≠ 2 := fun x hx => flV_sane _ n (Nat.le_refl _) hs x ((c3 x).1 hx)
  refine ⟨fun x hx => (hm x hx).1, fun x hx => (hm x hx).2, c1, clV_ne hf (fl_ne _ n (Nat.le_refl _) s3), ?_, ?_⟩
  · have h1 := ndL_cl (flV n)
    have h2 := (ndL_fl _ n (Nat.le_refl _)).1
    omega
  · by_cases c : n.f0 = 2
    · exact (cn_list hs c).symm
    · rw [cn_leaf hs c, flV_eq, if_neg c]
      show oneV (putV n []) = n
      rw [putV]; exact oneV_one (l := [])
theorem cn_same {n m : S26} (hn : saneV n = true) (hm : saneV m = true) (h : ∀ x, x ∈ flV n ↔ x ∈ flV m) : cnV n = cnV m := by
  have h1 := cn_F hn
  have h2 := cn_F hm
  rw [← h1.one, ← h2.one, rise_only _ _ h1.ris h2.ris (fun x => by
    rw [(clV_is (flV_saneV hn)).2.2, (clV_is (flV_saneV hm)).2.2, h])]
theorem mem_flVL {x : S26} : ∀ {l : List S26}, x ∈ flVL l ↔ ∃ y, y ∈ l ∧ x ∈ flV y
  | [] => by rw [flVL]; simp
  | z :: l => by
    rw [flVL, List.mem_append, mem_flVL (l := l)]
    constructor
    · rintro (h | ⟨y, h1, h2⟩)
      · exact ⟨z, by simp, h⟩
      · exact ⟨y, List.mem_cons_of_mem _ h1, h2⟩
    · rintro ⟨y, h1, h2⟩
      rcases List.mem_cons.1 h1 with rfl | h1
      · exact .inl h2
      · exact .inr ⟨y, h1, h2⟩
theorem mem_fl_lN {x : S26} {l : List S26} : x ∈ flV (lN l) ↔ ∃ y, y ∈ l ∧ x ∈ flV y := by rw [flV_eq, if_pos (show (lN _).f0 = 2 from rfl)]; exact mem_flVL
theorem rd_at {l : List S26} {i : Nat} (h : i < l.length) : rd_T26 l (i : Int) = l[i] := by simp [rd_T26, List.getD, List.getElem?_eq_getElem h]
structure LstF (l : List S26) : Prop where
  all : ∀ x, x ∈ l → wfN x
  few : l.length ≤ 20
  small : ndL l + 1 ≤ 64
  sane : saneV (lN l) = true
theorem LstF.part {l : List S26} (h : LstF l) {x : S26} (hx : x ∈ l) : saneV x = true := sane_part h.sane rfl hx
theorem LstF.nd {l : List S26} (h : LstF l) {x : S26} (hx : x ∈ l) : nd x ≤ 64 := by have := ndL_mem hx; have := h.small; omega
theorem LstF.mem {l : List S26} (h : LstF l) {y : S26} : y ∈ clV (flV (lN l)) ↔ ∃ x, x ∈ l ∧ y ∈ clV (flV x) := by
  rw [(clV_is (flV_saneV h.sane)).2.2, mem_fl_lN]
  constructor
  · rintro ⟨x, h1, h2⟩; exact ⟨x, h1, ((clV_is (flV_saneV (h.part h1))).2.2 y).2 h2⟩
  · rintro ⟨x, h1, h2⟩; exact ⟨x, h1, ((clV_is (flV_saneV (h.part h1))).2.2 y).1 h2⟩
theorem LstF.wf {l : List S26} (h : LstF l) : wfN (lN l) := wf_lN (by have := h.few; omega) h.all
theorem LstF.of {l : List S26} (h1 : ∀ x, x ∈ l → wfN x) (h2 : l.length ≤ 20) (h3 : saneV (lN l) = true) : LstF l := by
  refine ⟨h1, h2, ?_, h3⟩
  have := (sane_rt h3).1
  rw [nd_eq] at this
  exact this
theorem OneOf_f (l : List S26) (h : l.length < 1466015503701) : tree_OneOf.f l = some (tup (lN l)) := by
  unfold tree_OneOf.f
  rw [Clone_e l h]; rfl
theorem ndL_rev : ∀ l : List S26, ndL l.reverse = ndL l
  | [] => rfl
  | x :: l => by rw [List.reverse_cons, ndL_app, ndL_rev l, ndL, ndL, ndL]; omega
theorem dpL_le {m : Nat} : ∀ {l : List S26}, (∀ x, x ∈ l → dp x ≤ m) → dpL l ≤ m
  | [], _ => by rw [dpL]; omega
  | x :: l, h => by
    have h1 := h x (by simp)
    have h2 := dpL_le (fun y hy => h y (List.mem_cons_of_mem _ hy))
    rw [dpL]; omega
theorem lN_sane2 {l : List S26} (hn : ndL l + 1 ≤ 64) (hd : ∀ x, x ∈ l → dp x ≤ 7) (hr : ∀ x, x ∈ l → rt x = true) (h0 : l ≠ []) : saneV (lN l) = true := by
  have h1 : nd (lN l) = ndL l + 1 := nd_eq _
  have h2 : dp (lN l) ≤ 8 := by
    have := dpL_le hd
    rw [dp_eq, if_pos (show (lN l).f0 = 2 from rfl)]
    show dpL l + 1 ≤ 8
    omega
  have h3 : rt (lN l) = true := by
    rw [rt_eq, if_neg (by show ¬ (2 : Int) = 0; decide), if_neg (by show ¬ (2 : Int) = 1; decide), if_pos (show (lN l).f0 = 2 from rfl), show (lN l).f4 = l from rfl, rtL_of hr, show bareV (lN l) = true from bare_e _ _, decide_eq_true h0]; rfl
  unfold saneV
  rw [h1, h3, decide_eq_true hn, decide_eq_true h2]; rfl
theorem lN_ne {l : List S26} (h : saneV (lN l) = true) : l ≠ [] := by
  rintro rfl
  have h3 := (sane_rt h).2.2
  rw [rt_eq, if_neg (by show ¬ (2 : Int) = 0; decide), if_neg (by show ¬ (2 : Int) = 1; decide), if_pos (show (lN []).f0 = 2 from rfl)] at h3
  rw [show (lN []).f4 = [] from rfl] at h3
  simp at h3
theorem lN_dp {l : List S26} (h : saneV (lN l) = true) {x : S26} (hx : x ∈ l) : dp x ≤ 7 := by
  have h2 := (sane_rt h).2.1
  rw [dp_eq, if_pos (show (lN l).f0 = 2 from rfl), show (lN l).f4 = l from rfl] at h2
  have := dpL_mem hx
  omega
theorem sane_back {l : List S26} (h : saneV (lN l) = true) (hn : ndL l + 1 ≤ 64) : saneV (lN l.reverse) = true :=
  lN_sane2 (by rw [ndL_rev]; exact hn) (fun x hx => lN_dp h (List.mem_reverse.1 hx)) (fun x hx => (sane_rt (sane_part h rfl (List.mem_reverse.1 hx))).2.2) (by simpa using lN_ne h)
theorem cn_back {l : List S26} (h : saneV (lN l) = true) (h2 : saneV (lN l.reverse) = true) : cnV (lN l.reverse) = cnV (lN l) :=
  cn_same h2 h fun x => by simp only [mem_fl_lN, List.mem_reverse]
abbrev onV (x : S26) : S26 := lN [x]
theorem fl_on {x y : S26} : x ∈ flV (onV y) ↔ x ∈ flV y := by rw [mem_fl_lN]; simp
theorem cn_ones {l : List S26} (h : saneV (lN l) = true) (h2 : saneV (lN (l.reverse.map onV)) = true) : cnV (lN (l.reverse.map onV)) = cnV (lN l) :=
  cn_same h2 h fun x => by
    rw [mem_fl_lN, mem_fl_lN]
    constructor
    · rintro ⟨y, h1, h2⟩
      obtain ⟨z, hz, rfl⟩ := List.mem_map.1 h1
      exact ⟨z, List.mem_reverse.1 hz, fl_on.1 h2⟩
    · rintro ⟨y, h1, h2⟩
      exact ⟨onV y, List.mem_map.2 ⟨y, List.mem_reverse.2 h1, rfl⟩, fl_on.2 h2⟩
theorem cn_twice {l : List S26} {z : S26} (hz : z ∈ l) (h : saneV (lN l) = true) (h2 : saneV (lN (l ++ [z])) = true) : cnV (lN (l ++ [z])) = cnV (lN l) :=
  cn_same h2 h fun x => by
    rw [mem_fl_lN, mem_fl_lN]
    constructor
    · rintro ⟨y, h1, h2⟩
      rcases List.mem_append.1 h1 with h1 | h1
      · exact ⟨y, h1, h2⟩
      · rw [List.mem_singleton.1 h1] at h2; exact ⟨z, hz, h2⟩
    · rintro ⟨y, h1, h2⟩
      exact ⟨y, List.mem_append_left _ h1, h2⟩
theorem ndL_ones : ∀ l : List S26, ndL (l.map onV) = ndL l + l.length
  | [] => rfl
  | x :: l => by
    have : nd (onV x) = ndL [x] + 1 := nd_eq _
    rw [List.map_cons, ndL, ndL_ones l, this, ndL, ndL, ndL, List.length_cons]; omega
theorem take_rev {l : List S26} {i : Nat} (h : i < l.length) : (l.take (i + 1)).reverse = l[i] :: (l.take i).reverse := by
  rw [List.take_add_one, List.getElem?_eq_getElem h]; simp
theorem wr_s {i : Nat} (h2 : i ≤ 1466015503711) : wrap64 ((i : Int) - 1) = (i : Int) - 1 := wrapIn _ ⟨by omega, by omega⟩
theorem order_loop (l : List S26) (n : S26) (hl : l.length ≤ 20) (R : Bool) : ∀ (i : Nat) (b o : List S26), i ≤ l.length → b.length + i ≤ 20 → o.length + i ≤ 20 →
    Ev (fun k => lustrumlaw12_CanonOrder.l0 k l true (b ++ (l.take i).reverse) (o ++ (l.take i).reverse.map onV) (((0 : Nat) : Int) - 1) n.f0 n.f1.f0 n.f1.f1 n.f1.f2 n.f1.f3 n.f2 n.f3 n.f4) R →
    Ev (fun k => lustrumlaw12_CanonOrder.l0 k l true b o ((i : Int) - 1) n.f0 n.f1.f0 n.f1.f1 n.f1.f2 n.f1.f3 n.f2 n.f3 n.f4) R
  | 0, b, o, _, _, _, h => by
    rw [List.take_zero, List.reverse_nil, List.map_nil, List.append_nil, List.append_nil] at h
    exact h
  | i + 1, b, o, hi, hb, ho, h => by
    have hlt : i < l.length := by omega
    have e : ((i + 1 : Nat) : Int) - 1 = (i : Int) := by omega
    rw [e]
    have h1 : Ev (fun k => lustrumlaw12_CanonOrder.l0 k l true (b ++ [l[i]]) (o ++ [onV l[i]]) ((i : Int) - 1) n.f0 n.f1.f0 n.f1.f1 n.f1.f2 n.f1.f3 n.f2 n.f3 n.f4) R := by
      refine order_loop l n hl R i (b ++ [l[i]]) (o ++ [onV l[i]]) (by omega) (by rw [List.length_append, List.length_singleton]; omega) (by rw [List.length_append, List.length_singleton]; omega) ?_
      rw [take_rev hlt] at h
      rw [List.append_assoc, List.append_assoc]
      exact h
    refine Ev.step (fun k => by rw [lustrumlaw12_CanonOrder.l0, if_pos (by omega), if_pos (by omega), if_pos (by omega), if_pos (by omega), rd_at hlt, S26.eta, wr_s (by omega)]) ?_
    exact Ev.bnow (OneOf_f [l[i]] (by simp)) (Ev.ift (by omega) h1)
theorem CanonOrder_t (l : List S26) (hw : ∀ x, x ∈ l → wfN x) (hb : ndL l ≤ 1048575) : Ev (fun k => lustrumlaw12_CanonOrder.f k l) true := by
  have hlen := len_nd l
  have hout : ∀ n : S26, Ev (fun k => lustrumlaw12_CanonOrder.j0 k l true true n.f0 n.f1.f0 n.f1.f1 n.f1.f2 n.f1.f3 n.f2 n.f3 n.f4) true := fun n =>
    Ev.step (f := fun _ => some true) (fun k => by rw [lustrumlaw12_CanonOrder.j0, if_pos rfl]) (Ev.now _)
  refine Ev.bind awake12 (Ev.bnow (OneOf_f l (by omega)) ?_)
  by_cases c : (l.length : Int) > 20
  · exact Ev.ift c (hout (lN l))
  · have hwl : wfN (lN l) := wf_lN (by omega) hw
    have hnl : nd (lN l) = ndL l + 1 := nd_eq _
    obtain ⟨b1, f1, _⟩ := rFew_f (lN l) hwl
    refine Ev.iff_ c (Ev.bind f1 ?_)
    cases b1 with
    | false => exact Ev.iff_ (by simp) (hout (lN l))
    | true =>
      refine Ev.ift rfl (Ev.bind (tSane_f (lN l) hwl (by omega)) ?_)
      cases hs : saneV (lN l) with
      | false => exact hout (lN l)
      | true =>
        have hF := LstF.of hw (by omega) hs
        have hsm := hF.small
        have hfew := hF.few
        have hne := lN_ne hs
        have h0 : 0 < l.length := List.length_pos_iff.2 hne
        have hm0 : l[0] ∈ l := List.getElem_mem _
        have hbk := sane_back hs hsm
        refine Ev.step (f := fun k => lustrumlaw12_CanonOrder.l0 k l true [] [] ((l.length : Int) - 1) (lN l).f0 (lN l).f1.f0 (lN l).f1.f1 (lN l).f1.f2 (lN l).f1.f3 (lN l).f2 (lN l).f3 (lN l).f4) (fun k => by rw [lustrumlaw12_CanonOrder.j0, if_neg (by simp), wr_s (by omega)]) ?_
        refine order_loop l (lN l) (by omega) true l.length [] [] (by omega) (by simp; omega) (by simp; omega) ?_
        rw [List.take_length, List.nil_append, List.nil_append]
        have hwb : wfN (lN l.reverse) := wf_lN (by rw [List.length_reverse]; omega) (fun x hx => hw x (List.mem_reverse.1 hx))
        have hwt : wfN (lN (l ++ [l[0]])) := wf_lN (by rw [List.length_append, List.length_singleton]; omega) (fun x hx => by
          rcases List.mem_append.1 hx with hx | hx
          · exact hw x hx
          · rw [List.mem_singleton.1 hx]; exact hw _ hm0)
        have hwo : wfN (lN (l.reverse.map onV)) := wf_lN (by rw [List.length_map, List.length_reverse]; omega) (fun x hx => by
          obtain ⟨y, hy, rfl⟩ := List.mem_map.1 hx
          exact wf_lN (by simp) (fun z hz => by rw [List.mem_singleton.1 hz]; exact hw _ (List.mem_reverse.1 hy)))
        have hnb : nd (lN l.reverse) ≤ 1048576 := by rw [nd_eq]; show ndL l.reverse + 1 ≤ _; rw [ndL_rev]; omega
        have hnt : nd (lN (l ++ [l[0]])) ≤ 1048576 := by
          have := ndL_mem hm0
          rw [nd_eq]; show ndL (l ++ [l[0]]) + 1 ≤ _; rw [ndL_app, ndL, ndL]; omega
        have hno : nd (lN (l.reverse.map onV)) ≤ 1048576 := by
          rw [nd_eq]; show ndL (l.reverse.map onV) + 1 ≤ _; rw [ndL_ones, ndL_rev, List.length_reverse]; omega
        have hcw := cn_wf hwl (by omega)
        have hO : Ev (fun k => (tSane k (lN (l.reverse.map onV))).bind fun t => if t = true then ((canon_Canon.f k (lN (l.reverse.map onV)).f0 (lN (l.reverse.map onV)).f1.f0 (lN (l.reverse.map onV)).f1.f1 (lN (l.reverse.map onV)).f1.f2 (lN (l.reverse.map onV)).f1.f3 (lN (l.reverse.map onV)).f2 (lN (l.reverse.map onV)).f3 (lN (l.reverse.map onV)).f4).bind fun bt => (tree_Same.f k bt.1 bt.2.1 bt.2.2.1 bt.2.2.2.1 bt.2.2.2.2.1 bt.2.2.2.2.2.1 bt.2.2.2.2.2.2.1 bt.2.2.2.2.2.2.2 (cnV (lN l)).f0 (cnV (lN l)).f1.f0 (cnV (lN l)).f1.f1 (cnV (lN l)).f1.f2 (cnV (lN l)).f1.f3 (cnV (lN l)).f2 (cnV (lN l)).f3 (cnV (lN l)).f4).bind fun t => some t) else some true) true := by
          refine Ev.bind (tSane_f _ hwo (by omega)) ?_
          cases hso : saneV (lN (l.reverse.map onV)) with
          | false => exact Ev.iff_ (by simp) (Ev.now _)
          | true =>
            refine Ev.ift rfl (Ev.bind (Canon_t _ hwo hno) ?_)
            rw [cn_ones hs hso]
            exact Ev.bind (tSame_f _ (cnV (lN l)) (cnV (lN l)) (Nat.le_refl _) hcw) (Ev.eq (Ev.now _) (sm_refl _ _ (Nat.le_refl _)))
        refine Ev.step (fun k => by rw [lustrumlaw12_CanonOrder.l0, if_neg (by simp), if_pos (by simp; omega)]) ?_
        refine Ev.bnow rfl (Ev.ift (by omega) (Ev.ift (by simp; omega) (Ev.bind (Canon_t (lN l) hwl (by omega)) ?_)))
        have e0 : rd_T26 l 0 = l[0] := rd_at h0
        refine Ev.bnow (x := tup (lN (l ++ [l[0]]))) (by rw [e0, S26.eta, List.nil_append]; exact OneOf_f _ (by rw [List.length_append, List.length_singleton]; omega)) ?_
        refine Ev.bnow (OneOf_f (l.reverse.map onV) (by rw [List.length_map, List.length_reverse]; omega)) (Ev.ift rfl ?_)
        refine Ev.bnow (OneOf_f l.reverse (by rw [List.length_reverse]; omega)) (Ev.bind (Canon_t _ hwb hnb) ?_)
        rw [cn_back hs hbk]
        refine Ev.bind (tSame_f _ (cnV (lN l)) (cnV (lN l)) (Nat.le_refl _) hcw) (Ev.ift (sm_refl _ _ (Nat.le_refl _)) (Ev.bind (tSane_f _ hwt (by omega)) ?_))
        cases hst : saneV (lN (l ++ [l[0]])) with
        | false => exact Ev.iff_ (by simp) hO
        | true =>
          refine Ev.ift rfl (Ev.bind (Canon_t _ hwt hnt) ?_)
          rw [cn_twice hm0 hs hst]
          exact Ev.bind (tSame_f _ (cnV (lN l)) (cnV (lN l)) (Nat.le_refl _) hcw) (Ev.ift (sm_refl _ _ (Nat.le_refl _)) hO)
end Go.Proofs.Ytfehdlkklfcnpaa.A