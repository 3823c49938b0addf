/- Walks of functions, and plain facts about what they compute. No conditions. -/
import Derived.Test.YtjgjhekpiijniaaGreatPi2
set_option linter.unusedVariables false
set_option linter.unusedSimpArgs false
namespace Go.Proofs.YtjgjhekpiijniaaGreat.A
open Go.RowKit Go.Proofs.YtjgjhekpiijniaaGreatW.PrintWords Go.Proofs.YtjgjhekpiijniaaGreatW.PrintLast Go.Proofs.YtjgjhekpiijniaaGreatW.PrintMore
def free (r : List S46) : Prop := ∃ y u, r = y :: u ∧ y.f0 ≠ 7 ∧ y.f0 ≠ 8
def freeE (r : List S46) : Prop := ∃ y u, r = y :: u ∧ y.f0 ≠ 7 ∧ y.f0 ≠ 8 ∧ y.f0 ≠ 1
theorem up1 {m : Nat} (h : m ≤ 1000) : wrap64 ((m : Int) + 1) = ((m + 1 : Nat) : Int) := by rw [w64 (by omega) (by omega)]; omega
theorem marked_back (a b : Bool) (p : S24) (q : Nat) (r : List S46) (hr : free r) : pMarked (toks q (markI a 7 63 ++ markI b 8 126) ++ r) p false false = some (⟨0, p, a, b, []⟩, r) := by
  obtain ⟨y, u, rfl, h7, h8⟩ := hr
  cases a <;> cases b <;> simp [markI, toks, It.tok, pMarked, h7, h8]
theorem bare_mk (k : Int) (l : List S27) : bareV ⟨k, ⟨0, e0, e0, e0⟩, false, false, l⟩ = true := by
  have e : emptyV e0 = true := by unfold emptyV; rw [ba_toList]; rfl
  simp [bareV, e]
theorem kz_of {n : S27} (h4 : n.f4 = []) (hb : bareV n = true) : n = kz n.f0 := bare_inj hb (bare_mk _ _) rfl h4
theorem end_back (n : S27) (he : endV n = true) (q m : Nat) (d : Int) (r : List S46) (hr : free r) (hm : m + 1 ≤ 64) :
    Ev (fun k => pEnd k (m : Int) d (toks q (it n) ++ r)) ⟨n, none, r, ((m + 1 : Nat) : Int), d⟩ := by
  obtain ⟨h4, hk⟩ := end_kinds he
  rw [it_eq]
  rcases hk with ⟨c, hp⟩ | ⟨c, hb⟩ | ⟨c, hb⟩
  · rw [if_neg (by omega), if_neg (by omega), if_neg (by omega), if_neg (by omega)]
    have e : toks q (It.w (ptTxt n.f1) :: (markI n.f2 7 63 ++ markI n.f3 8 126)) ++ r = (⟨0, (q : Int), bA (ptTxt n.f1)⟩ : S46) :: (toks (q + (It.w (ptTxt n.f1)).tx.length) (markI n.f2 7 63 ++ markI n.f3 8 126) ++ r) := rfl
    rw [e]
    unfold pEnd pWord
    refine Ev.ift rfl (Ev.iff_ (by omega) ?_)
    refine Ev.bind (read_txt n.f1 hp) (Ev.ift rfl (Ev.bnow (marked_back n.f2 n.f3 ⟨n.f1.f0, n.f1.f1, n.f1.f2, n.f1.f3⟩ _ r hr) (Ev.eq (Ev.now _) ?_)))
    rw [up1 (by omega)]
    have e2 : (⟨0, ⟨n.f1.f0, n.f1.f1, n.f1.f2, n.f1.f3⟩, n.f2, n.f3, []⟩ : S27) = n := S27.ext5 c.symm rfl rfl rfl h4.symm
    rw [e2]
  · rw [if_neg (by omega), if_neg (by omega), if_pos c]
    have e : toks q [It.d] ++ r = (⟨2, (q : Int), e0⟩ : S46) :: r := rfl
    rw [e]
    unfold pEnd
    refine Ev.iff_ (by simp) (Ev.ift rfl (Ev.iff_ (by omega) (Ev.eq (Ev.now _) ?_)))
    rw [up1 (by omega), kz_of h4 hb, c]
  · rw [if_neg (by omega), if_neg (by omega), if_neg (by omega), if_pos c]
    have e : toks q [It.s 3 42] ++ r = (⟨3, (q : Int), e0⟩ : S46) :: r := rfl
    rw [e]
    unfold pEnd
    refine Ev.iff_ (by simp) (Ev.iff_ (by simp) (Ev.ift rfl (Ev.iff_ (by omega) (Ev.eq (Ev.now _) ?_))))
    rw [up1 (by omega), kz_of h4 hb, c]
theorem point_back (n : S27) (he : endV n = true) (c0 : n.f0 = 0) (q m : Nat) (d : Int) (r : List S46) (hr : freeE r) (hm : m + 1 ≤ 64) :
    Ev (fun k => pSpan k (m : Int) d (toks q (it n) ++ r)) ⟨n, none, r, ((m + 1 : Nat) : Int), d⟩ := by
  obtain ⟨y, u, rfl, h7, h8, h1⟩ := hr
  unfold pSpan
  exact Ev.bind (end_back n he q m d _ ⟨y, u, rfl, h7, h8⟩ hm) (Ev.iff_ h1 (Ev.ift c0 (Ev.now _)))
theorem span_back (x y : S27) (hx : endV x = true) (hy : endV y = true) (q m : Nat) (d : Int) (r : List S46) (hr : free r) (hm : m + 3 ≤ 64) :
    Ev (fun k => pSpan k (m : Int) d (toks q (it x ++ .s 1 47 :: it y) ++ r)) ⟨⟨1, ⟨0, e0, e0, e0⟩, false, false, [x, y]⟩, none, r, ((m + 3 : Nat) : Int), d⟩ := by
  rw [toks_app, List.append_assoc]
  have e : ∀ p, toks p (.s 1 47 :: it y) ++ r = (⟨1, (p : Int), e0⟩ : S46) :: (toks (p + 1) (it y) ++ r) := fun p => rfl
  rw [e]
  unfold pSpan
  refine Ev.bind (end_back x hx q m d _ ⟨_, _, rfl, by simp, by simp⟩ (by omega)) (Ev.ift rfl (Ev.iff_ (by show ¬ ((m + 1 : Nat) : Int) = 64; omega) ?_))
  refine Ev.bind (f := fun k s => _) (a := ⟨y, none, r, ((m + 3 : Nat) : Int), d⟩) ?_ (Ev.now _)
  show Ev (fun k => pEnd k (wrap64 (((m + 1 : Nat) : Int) + 1)) d (toks (q + (flatT (it x)).length + 1) (it y) ++ r)) _
  rw [up1 (by omega)]
  exact end_back y hy _ (m + 2) d r hr (by omega)
theorem OneOf_e (l : List S27) (h : l.length < 1466015503701) : tree_OneOf.f l = some (2, 0, e0, e0, e0, false, false, l) := by
  unfold tree_OneOf.f
  rw [Clone_e l h]; rfl
theorem pItems_one (k : Nat) (m d : Int) (x : S46) (t : List S46) (l : List S27) : pItems (k + 1) m d (x :: t) l = (pExpr k m d t).bind fun r => match r.x with
    | some _ => some r
    | none => if l.length < 1466015503701 then (match r.t with
      | [] => none
      | y :: u =>
        if y.f0 = 6 then pItems k r.m r.d (y :: u) (l ++ [r.n])
        else if y.f0 = 5 then (tree_OneOf.f (l ++ [r.n])).bind fun o => some ⟨⟨o.1, ⟨o.2.1, o.2.2.1, o.2.2.2.1, o.2.2.2.2.1⟩, o.2.2.2.2.2.1, o.2.2.2.2.2.2.1, o.2.2.2.2.2.2.2⟩, none, u, r.m, wrap64 (r.d - 1)⟩
        else some ⟨r.n, some (y.f1, eNot y 3), y :: u, r.m, r.d⟩) else none := by rw [pItems] <;> rfl
theorem items_step {n : S27} {m m' : Int} {d : Int} {x y : S46} {t u : List S46} {l : List S27} {R : PR} (h1 : Ev (fun k => pExpr k m d t) ⟨n, none, y :: u, m', d⟩) (hl : l.length < 1466015503701)
    (h2 : y.f0 = 6 ∧ Ev (fun k => pItems k m' d (y :: u) (l ++ [n])) R ∨ y.f0 = 5 ∧ R = ⟨⟨2, ⟨0, e0, e0, e0⟩, false, false, l ++ [n]⟩, none, u, m', wrap64 (d - 1)⟩ ∧ l.length + 1 < 1466015503701) :
    Ev (fun k => pItems k m d (x :: t) l) R := by
  refine Ev.step (fun k => pItems_one k m d x t l) (Ev.bind h1 (Ev.ift hl ?_))
  rcases h2 with ⟨c, h⟩ | ⟨c, rfl, h⟩
  · exact Ev.ift c h
  · refine Ev.iff_ (by omega) (Ev.ift c ?_)
    exact Ev.bnow (OneOf_e _ (by rw [List.length_append]; simpa using h)) (Ev.now _)
theorem expr_back : ∀ (M : Nat) (n : S27), nd n ≤ M → rt n = true → ∀ (q m d : Nat) (r : List S46), freeE r → m + nd n ≤ 64 → d + dp n ≤ 8 →
    Ev (fun k => pExpr k (m : Int) (d : Int) (toks q (it n) ++ r)) ⟨n, none, r, ((m + nd n : Nat) : Int), (d : Int)⟩
  | 0, n, h, _ => by have := nd_pos n; omega
  | M + 1, n, hM, hn => by
    intro q m d r hr hm hd
    have span : ∀ (t : List S46) (R : PR), (∃ x u, t = x :: u ∧ x.f0 ≠ 4) → Ev (fun k => pSpan k (m : Int) (d : Int) t) R → Ev (fun k => pExpr k (m : Int) (d : Int) t) R := fun t R ht h => by
      obtain ⟨x, u, rfl, hx⟩ := ht
      exact Ev.step (fun k => by rw [pExpr, if_neg hx]) h
    have hr' : free r := by obtain ⟨y, u, e, h7, h8, _⟩ := hr; exact ⟨y, u, e, h7, h8⟩
    have head : ∀ (x : S27), endV x = true → ∀ (s : List It) (v : List S46), ∃ z u, toks q (it x ++ s) ++ v = z :: u ∧ z.f0 ≠ 4 := fun x hx s v => by
      obtain ⟨_, hk⟩ := end_kinds hx
      rw [it_eq]
      rcases hk with ⟨c, _⟩ | ⟨c, _⟩ | ⟨c, _⟩
      · rw [if_neg (by omega), if_neg (by omega), if_neg (by omega), if_neg (by omega)]; exact ⟨_, _, rfl, by simp [It.tok]⟩
      · rw [if_neg (by omega), if_neg (by omega), if_pos c]; exact ⟨_, _, rfl, by simp [It.tok]⟩
      · rw [if_neg (by omega), if_neg (by omega), if_neg (by omega), if_pos c]; exact ⟨_, _, rfl, by simp [It.tok]⟩
    rcases rt_kinds hn with ⟨he, c⟩ | ⟨c, hb, x, y, h4, hx, hy, _⟩ | ⟨c, hb, hne, hl, _⟩
    · have h1 : nd n = 1 := by rw [nd_eq, (end_kinds he).1]; rfl
      refine span _ _ (by have := head n he [] r; rwa [List.append_nil] at this) ?_
      rw [h1]
      exact point_back n he c q m d r hr (by omega)
    · have h3 : nd n = 3 := by
        have e1 : nd x = 1 := by rw [nd_eq, (end_kinds hx).1]; rfl
        have e2 : nd y = 1 := by rw [nd_eq, (end_kinds hy).1]; rfl
        rw [nd_eq, h4, ndL, ndL, ndL, e1, e2]
      have hi : it n = it x ++ .s 1 47 :: it y := by rw [it_eq, if_pos c, h4]; rfl
      rw [hi, h3]
      refine span _ _ (head x hx _ r) (Ev.eq (span_back x y hx hy q m d r hr' (by omega)) ?_)
      have e : (⟨1, ⟨0, e0, e0, e0⟩, false, false, [x, y]⟩ : S27) = n := bare_inj (bare_mk _ _) hb c.symm h4.symm
      rw [e]
    · have hi : it n = .s 4 91 :: (joinI (itL n.f4) ++ [.s 5 93]) := by rw [it_eq, if_neg (by omega), if_pos c]
      have hnd : nd n = ndL n.f4 + 1 := nd_eq n
      have hdp : dp n = dpL n.f4 + 1 := by rw [dp_eq, if_pos c]
      rw [hi]
      have e : toks q (.s 4 91 :: (joinI (itL n.f4) ++ [.s 5 93])) ++ r = (⟨4, (q : Int), e0⟩ : S46) :: (toks (q + 1) (joinI (itL n.f4) ++ [.s 5 93]) ++ r) := rfl
      rw [e]
      have items : ∀ (l : List S27), l ≠ [] → ndL l ≤ M → rtL l = true → ∀ (acc : List S27) (q m : Nat) (x : S46), m + ndL l ≤ 64 → d + 1 + dpL l ≤ 8 → acc.length + l.length ≤ 64 →
          Ev (fun k => pItems k (m : Int) ((d + 1 : Nat) : Int) (x :: (toks q (joinI (itL l) ++ [.s 5 93]) ++ r)) acc) ⟨⟨2, ⟨0, e0, e0, e0⟩, false, false, acc ++ l⟩, none, r, ((m + ndL l : Nat) : Int), (d : Int)⟩ := fun l => by
        induction l with
        | nil => intro h; exact absurd rfl h
        | cons n1 l ih =>
          intro _ hM1 hrt acc q m x hm1 hd1 hlen
          rw [ndL] at hM1 hm1
          rw [dpL] at hd1
          rw [rtL, Bool.and_eq_true] at hrt
          rw [List.length_cons] at hlen
          cases l with
          | nil =>
            have ei : joinI (itL [n1]) ++ [.s 5 93] = it n1 ++ [.s 5 93] := by rw [itL, itL, joinI]
            rw [ei, toks_app, List.append_assoc]
            have h1 := expr_back M n1 (by omega) hrt.1 q m (d + 1) (toks (q + (flatT (it n1)).length) [.s 5 93] ++ r) ⟨_, _, rfl, by simp [It.tok], by simp [It.tok], by simp [It.tok]⟩ (by omega) (by omega)
            refine items_step (y := ⟨5, ((q + (flatT (it n1)).length : Nat) : Int), e0⟩) (u := r) h1 (by omega) (.inr ⟨rfl, ?_, by omega⟩)
            have e2 : wrap64 (((d + 1 : Nat) : Int) - 1) = (d : Int) := by rw [w64 (by omega) (by omega)]; omega
            rw [e2]; rfl
          | cons n2 l =>
            have ei : joinI (itL (n1 :: n2 :: l)) ++ [.s 5 93] = it n1 ++ (.s 6 44 :: .b :: (joinI (itL (n2 :: l)) ++ [.s 5 93])) := by rw [itL, itL, joinI, List.append_assoc]; rfl
            rw [ei, toks_app, List.append_assoc]
            have h1 := expr_back M n1 (by omega) hrt.1 q m (d + 1) (toks (q + (flatT (it n1)).length) (.s 6 44 :: .b :: (joinI (itL (n2 :: l)) ++ [.s 5 93])) ++ r) ⟨_, _, rfl, by simp [It.tok], by simp [It.tok], by simp [It.tok]⟩ (by omega) (by omega)
            have h2 := ih (by simp) (by omega) hrt.2 (acc ++ [n1]) (q + (flatT (it n1)).length + 1 + 1) (m + nd n1) ⟨6, ((q + (flatT (it n1)).length : Nat) : Int), e0⟩ (by omega) (by omega) (by rw [List.length_append]; simp only [List.length_cons, List.length_nil]; simp only [List.length_cons] at hlen; omega)
            refine items_step (y := ⟨6, ((q + (flatT (it n1)).length : Nat) : Int), e0⟩) (u := toks (q + (flatT (it n1)).length + 1 + 1) (joinI (itL (n2 :: l)) ++ [.s 5 93]) ++ r) h1 (by omega) (.inl ⟨rfl, Ev.eq h2 ?_⟩)
            rw [List.append_assoc, ndL, Nat.add_assoc]; rfl
      have hi2 := items n.f4 hne (by omega) hl [] (q + 1) (m + 1) ⟨4, (q : Int), e0⟩ (by omega) (by omega) (by have := len_nd n.f4; simp only [List.length_nil]; omega)
      have en : (⟨2, ⟨0, e0, e0, e0⟩, false, false, [] ++ n.f4⟩ : S27) = n := bare_inj (bare_mk _ _) hb c.symm rfl
      rw [en] at hi2
      refine Ev.step (f := fun k => pList k (m : Int) (d : Int) ⟨4, (q : Int), e0⟩ (toks (q + 1) (joinI (itL n.f4) ++ [.s 5 93]) ++ r)) (fun k => by rw [pExpr, if_pos rfl]) ?_
      refine Ev.step (fun k => by rw [pList, if_neg (by omega), if_neg (by omega), up1 (by omega), up1 (by omega)]) (Ev.eq hi2 ?_)
      rw [hnd, Nat.add_assoc, Nat.add_comm 1]
def b13 : S27 := ⟨0, ⟨3, ⟨#[49, 57, 88, 52]⟩, ⟨#[]⟩, ⟨#[]⟩⟩, false, false, []⟩
def s13 : S27 := ⟨1, eP, false, false, [oN, b13]⟩
def l13 : S27 := lN [p11, s13]
theorem pv_b13 : ptV b13.f1 = true := by
  show (saneL [49, 57, 88, 52] && (true && (emptyV ⟨#[]⟩ && emptyV ⟨#[]⟩))) = true
  rw [emptyV_nil]; decide
theorem wf_b13 : wfN b13 := wf_leaf _ _ _ _ (by decide) (by decide) (by decide)
theorem wf_s13 : wfN s13 := .mk _ (by decide) (by decide) (by decide) (by simp [s13]) (fun x hx => by
  simp only [s13, List.mem_cons, List.not_mem_nil, or_false] at hx
  rcases hx with rfl | rfl
  · exact wf_oN
  · exact wf_b13)
theorem wf_l13 : wfN l13 := .mk _ (by decide) (by decide) (by decide) (by simp [l13, lN]) (fun x hx => by
  simp only [l13, lN, List.mem_cons, List.not_mem_nil, or_false] at hx
  rcases hx with rfl | rfl
  · exact wf_p11
  · exact wf_s13)
theorem endV_b13 : endV b13 = true := by show (true && ptV b13.f1) = true; rw [pv_b13]; rfl
theorem rt_s13 : rt s13 = true := by
  rw [rt_eq]
  show (bareV ⟨1, eP, false, false, [oN, b13]⟩ && two [oN, b13]) = true
  rw [bare_e, two, endV_b13, endV_o]; rfl
theorem sane_l13 : saneV l13 = true := by
  have h1 : nd l13 = 5 := by simp [l13, lN, s13, b13, p11, oN, nd, ndL]
  have h2 : dp l13 = 1 := by simp [l13, lN, s13, b13, p11, oN, dp, dpL]
  have h4 : rt p11 = true := by rw [rt_eq]; show endV p11 = true; exact endV_p11
  have h3 : rt l13 = true := by
    rw [rt_eq]
    show (bareV ⟨2, eP, false, false, [p11, s13]⟩ && (true && rtL [p11, s13])) = true
    rw [bare_e, rtL, rtL, rtL, rt_s13, h4]; rfl
  unfold saneV
  rw [h1, h2, h3]; rfl
theorem tx_l13 : tx l13 = [91, 49, 57, 56, 52, 63, 126, 44, 32, 46, 46, 47, 49, 57, 88, 52, 93] := by
  have e1 : tx p11 = [49, 57, 56, 52, 63, 126] := by
    rw [tx_eq]
    show ptTxt p11.f1 ++ [63, 126] = _
    unfold ptTxt
    rw [pv_p11]; rfl
  have e2 : tx b13 = [49, 57, 88, 52] := by
    rw [tx_eq]
    show ptTxt b13.f1 ++ [] = _
    unfold ptTxt
    rw [pv_b13]; rfl
  have e3 : tx oN = [46, 46] := by rw [tx_eq]; rfl
  have e4 : tx s13 = [46, 46, 47, 49, 57, 88, 52] := by
    rw [tx_eq]
    show span2 (txL [oN, b13]) = _
    rw [txL, txL, txL, e2, e3]; rfl
  rw [tx_eq]
  show 91 :: (Lib.join (txL [p11, s13]) [44, 32] ++ [93]) = _
  rw [txL, txL, txL, e1, e4]; rfl
theorem ptTxt_p11 : ptTxt p11.f1 = [49, 57, 56, 52] := by unfold ptTxt; rw [pv_p11]; rfl
theorem read_1984 : Ev (fun k => point_Read.f k (⟨#[49, 57, 56, 52]⟩ : ByteArray)) (3, ⟨#[49, 57, 56, 52]⟩, e0, e0, true) := by
  have := read_txt p11.f1 pv_p11
  rw [ptTxt_p11] at this
  exact this
theorem end_1984 (q : Int) (m : Nat) (d : Int) (t r : List S46) (a b : Bool) (hm : m + 1 ≤ 64) (h : pMarked t ⟨3, ⟨#[49, 57, 56, 52]⟩, e0, e0⟩ false false = some (⟨0, ⟨3, ⟨#[49, 57, 56, 52]⟩, e0, e0⟩, a, b, []⟩, r)) :
    Ev (fun k => pEnd k (m : Int) d ((⟨0, q, ⟨#[49, 57, 56, 52]⟩⟩ : S46) :: t)) ⟨⟨0, ⟨3, ⟨#[49, 57, 56, 52]⟩, e0, e0⟩, a, b, []⟩, none, r, ((m + 1 : Nat) : Int), d⟩ := by
  unfold pEnd pWord
  refine Ev.ift rfl (Ev.iff_ (by omega) ?_)
  refine Ev.bind read_1984 (Ev.ift rfl (Ev.bnow h (Ev.eq (Ev.now _) ?_)))
  rw [up1 (by omega)]
theorem list_go {x : S46} {t : List S46} {m d : Nat} {R : PR} (h4 : x.f0 = 4) (hm : m + 1 ≤ 64) (hd : d + 1 ≤ 8) (h : Ev (fun k => pItems k ((m + 1 : Nat) : Int) ((d + 1 : Nat) : Int) (x :: t) []) R) : Ev (fun k => pExpr k (m : Int) (d : Int) (x :: t)) R := by
  refine Ev.step (f := fun k => pList k (m : Int) (d : Int) x t) (fun k => by rw [pExpr, if_pos h4]) ?_
  exact Ev.step (fun k => by rw [pList, if_neg (by omega), if_neg (by omega), up1 (by omega), up1 (by omega)]) h
theorem span_go {x : S46} {t : List S46} {m d : Int} {R : PR} (h4 : x.f0 ≠ 4) (h : Ev (fun k => pSpan k m d (x :: t)) R) : Ev (fun k => pExpr k m d (x :: t)) R := Ev.step (fun k => by rw [pExpr, if_neg h4]) h
theorem parse_bad {s : List UInt8} {L : List S46} {z at_ e : Int} {R : PR} (hL : Ev (fun k => lex_All.f k (bA s)) (L, z, 0)) (hE : Ev (fun k => pExpr k 0 0 L) R) (hx : R.x = some (at_, e)) : Ev (fun k => parse_Parse.f k (bA s)) (0, 0, e0, e0, e0, false, false, [], at_, e) := by
  unfold parse_Parse.f
  refine Ev.bind hL (Ev.ift rfl (Ev.bind hE ?_))
  rw [hx]; exact Ev.now _
theorem parse_good {s : List UInt8} {L : List S46} {z : Int} {n : S27} {y : S46} {u : List S46} {m d : Int} (hL : Ev (fun k => lex_All.f k (bA s)) (L, z, 0)) (hE : Ev (fun k => pExpr k 0 0 L) ⟨n, none, y :: u, m, d⟩) (hy : y.f0 = 9) : Ev (fun k => parse_Parse.f k (bA s)) (n.f0, n.f1.f0, n.f1.f1, n.f1.f2, n.f1.f3, n.f2, n.f3, n.f4, z, 0) := by
  unfold parse_Parse.f
  exact Ev.bind hL (Ev.ift rfl (Ev.bind hE (Ev.ift hy (Ev.now _))))
theorem first13 : Ev (fun k => parse_Parse.f k (⟨#[91, 49, 57, 56, 52, 126, 63, 44, 32, 46, 46, 47, 49, 57, 88, 52, 93]⟩ : ByteArray)) (l13.f0, l13.f1.f0, l13.f1.f1, l13.f1.f2, l13.f1.f3, l13.f2, l13.f3, l13.f4, 17, 0) := by
  have hL := lex_f [.s 4 91, .w [49, 57, 56, 52], .s 8 126, .s 7 63, .s 6 44, .b, .d, .s 1 47, .w [49, 57, 88, 52], .s 5 93] (by simp [okI, stopI]; decide) (by decide)
  refine parse_good hL (n := l13) (y := endT 17) (u := []) (m := 5) (d := 0) ?_ rfl
  refine list_go (m := 0) (d := 0) rfl (by omega) (by omega) ?_
  have h1 : Ev (fun k => pExpr k 1 1 [⟨0, 1, ⟨#[49, 57, 56, 52]⟩⟩, ⟨8, 5, e0⟩, ⟨7, 6, e0⟩, ⟨6, 7, e0⟩, ⟨2, 9, e0⟩, ⟨1, 11, e0⟩, ⟨0, 12, ⟨#[49, 57, 88, 52]⟩⟩, ⟨5, 16, e0⟩, endT 17]) ⟨p11, none, [⟨6, 7, e0⟩, ⟨2, 9, e0⟩, ⟨1, 11, e0⟩, ⟨0, 12, ⟨#[49, 57, 88, 52]⟩⟩, ⟨5, 16, e0⟩, endT 17], 2, 1⟩ := by
    refine span_go (by simp) ?_
    unfold pSpan
    exact Ev.bind (end_1984 1 1 1 _ _ true true (by omega) rfl) (Ev.iff_ (by simp) (Ev.ift rfl (Ev.now _)))
  refine items_step h1 (by decide) (.inl ⟨rfl, ?_⟩)
  have h2 : Ev (fun k => pExpr k 2 1 [⟨2, 9, e0⟩, ⟨1, 11, e0⟩, ⟨0, 12, ⟨#[49, 57, 88, 52]⟩⟩, ⟨5, 16, e0⟩, endT 17]) ⟨s13, none, [⟨5, 16, e0⟩, endT 17], 5, 1⟩ := by
    have h := expr_back 3 s13 (by simp [s13, b13, oN, nd, ndL]) rt_s13 9 2 1 [⟨5, 16, e0⟩, endT 17] ⟨_, _, rfl, by simp, by simp, by simp⟩ (by simp [s13, b13, oN, nd, ndL]) (by simp [s13, b13, oN, dp, dpL])
    have e : nd s13 = 3 := by simp [s13, b13, oN, nd, ndL]
    have e2 : toks 9 (it s13) ++ [⟨5, 16, e0⟩, endT 17] = [⟨2, 9, e0⟩, ⟨1, 11, e0⟩, ⟨0, 12, ⟨#[49, 57, 88, 52]⟩⟩, ⟨5, 16, e0⟩, endT 17] := by
      have ei : it s13 = [.d, .s 1 47, .w [49, 57, 88, 52]] := by
        have eb : it b13 = [.w [49, 57, 88, 52]] := by
          rw [it_eq]
          show [It.w (ptTxt b13.f1)] = _
          unfold ptTxt
          rw [pv_b13]; rfl
        rw [it_eq]
        show spanI (itL [oN, b13]) = _
        rw [itL, itL, itL, eb, it_eq]; rfl
      rw [ei]; rfl
    rw [e, e2] at h
    exact h
  exact items_step h2 (by decide) (.inr ⟨rfl, by rw [w64 (by omega) (by omega)]; rfl, by decide⟩)
theorem second13 : Ev (fun k => parse_Parse.f k (⟨#[49, 57, 56, 52, 47, 91]⟩ : ByteArray)) (0, 0, e0, e0, e0, false, false, [], 5, 3) := by
  have hL := lex_f [.w [49, 57, 56, 52], .s 1 47, .s 4 91] (by simp [okI, stopI]; decide) (by decide)
  refine parse_bad hL (R := ⟨⟨1, ⟨0, e0, e0, e0⟩, false, false, [⟨0, ⟨3, ⟨#[49, 57, 56, 52]⟩, e0, e0⟩, false, false, []⟩, pz]⟩, some (5, 3), [⟨4, 5, e0⟩, endT 6], 2, 0⟩) ?_ rfl
  refine span_go (by simp) ?_
  unfold pSpan
  refine Ev.bind (end_1984 0 0 0 _ _ false false (by omega) rfl) (Ev.ift rfl (Ev.iff_ (by simp) ?_))
  refine Ev.bind (a := ⟨pz, some (5, 3), [⟨4, 5, e0⟩, endT 6], 2, 0⟩) ?_ ?_
  · show Ev (fun k => pEnd k (wrap64 (((0 + 1 : Nat) : Int) + 1)) 0 [⟨4, 5, e0⟩, endT 6]) _
    rw [up1 (by omega)]
    unfold pEnd
    exact Ev.iff_ (by simp) (Ev.iff_ (by simp) (Ev.iff_ (by simp) (Ev.eq (Ev.now _) rfl)))
  · exact Ev.now _
theorem third13 : Ev (fun k => parse_Parse.f k (⟨#[91, 49, 57, 56, 52]⟩ : ByteArray)) (0, 0, e0, e0, e0, false, false, [], 5, 4) := by
  have hL := lex_f [.s 4 91, .w [49, 57, 56, 52]] (by simp [okI, stopI]; decide) (by decide)
  refine parse_bad hL (R := ⟨⟨0, ⟨3, ⟨#[49, 57, 56, 52]⟩, e0, e0⟩, false, false, []⟩, some (5, 4), [endT 5], 2, 1⟩) ?_ rfl
  refine list_go (m := 0) (d := 0) rfl (by omega) (by omega) ?_
  refine Ev.step (fun k => pItems_one k _ _ _ _ []) ?_
  refine Ev.bind (a := ⟨⟨0, ⟨3, ⟨#[49, 57, 56, 52]⟩, e0, e0⟩, false, false, []⟩, none, [endT 5], 2, 1⟩) ?_ ?_
  · refine span_go (by simp) ?_
    unfold pSpan
    exact Ev.bind (end_1984 1 1 1 _ _ false false (by omega) rfl) (Ev.iff_ (by simp [endT]) (Ev.ift rfl (Ev.now _)))
  · exact Ev.ift (by decide) (Ev.iff_ (by simp [endT]) (Ev.iff_ (by simp [endT]) (Ev.now _)))
theorem awake13 : Ev (fun k => lustrumlaw13_awake.f k) true := by
  have hT := pTx_f l13 wf_l13 (by have := (sane_rt sane_l13).1; omega)
  have e : txV l13 = [91, 49, 57, 56, 52, 63, 126, 44, 32, 46, 46, 47, 49, 57, 88, 52, 93] := by unfold txV; rw [if_pos sane_l13, tx_l13]
  rw [e] at hT
  exact Ev.bind first13 (Ev.bind second13 (Ev.bind third13 (Ev.ift rfl (Ev.ift rfl (Ev.bind hT (Ev.ift (bA_toList _) (Ev.ift rfl (Ev.ift rfl (Ev.ift rfl (Ev.now _))))))))))
end Go.Proofs.YtjgjhekpiijniaaGreat.A
namespace Go.Proofs.YtjgjhekpiijniaaGreat.A
open Go.RowKit Go.Proofs.YtjgjhekpiijniaaGreatW.PrintWords Go.Proofs.YtjgjhekpiijniaaGreatW.PrintLast Go.Proofs.YtjgjhekpiijniaaGreatW.PrintMore
attribute [local go_sem] max2_int min2_int max_two min_two max_three min_three max_four min_four
attribute [local go_sem high] eqA23
attribute [local go_sem] isSome_setCell
set_option maxHeartbeats 8000000 in
set_option maxRecDepth 100000 in
theorem tree_bare.calls (a0_0 a0_1 : Int) (a0_2 a0_3 a0_4 : ByteArray) (a0_5 a0_6 : Bool) (A0_7 : Option Addr) (c0_7 : Nat) (l0_7 : List (S27)) (r : Bool) (w : World) (hr0_7 : Kd.C k27 w A0_7 l0_7.length l0_7) (hc0_7 : l0_7.length ≤ c0_7) (h : tree_bare.f a0_0 a0_1 a0_2 a0_3 a0_4 a0_5 a0_6 l0_7 = some r) :
  Calls Tryz.prog 46 #[.agg #[.int .i64 a0_0, .int .i64 a0_1, .string a0_2, .string a0_3, .string a0_4, .bool a0_5, .bool a0_6, .slice A0_7 l0_7.length c0_7]] w fun e w' => e = .returned (.bool r) ∧ Below w.heap.size w w' := by
 have hu27 := Tryz.underlying27; have hu24 := Tryz.underlying24; have HR0_7 := A_ hr0_7; have HC0_7 := A_ hc0_7; clear hr0_7 hc0_7; have HB := A_ (Below.refl w.heap.size w); have H : (if (a0_1 == 0 && (a0_2.toList == ([] : List UInt8) && (a0_3.toList == ([] : List UInt8) && (a0_4.toList == ([] : List UInt8))))) = true then (if a0_5 = true then (some false) else (some (!a0_6))) else (some false)) = some r := h; clear h
 by_cases c2 : (a0_1 == 0 && (a0_2.toList == ([] : List UInt8) && (a0_3.toList == ([] : List UInt8) && (a0_4.toList == ([] : List UInt8))))) = true
 ·rw [if_pos c2] at H
  have c2b0 : (a0_1 == 0 && (a0_2.toList == ([] : List UInt8) && (a0_3.toList == ([] : List UInt8) && (a0_4.toList == ([] : List UInt8))))) = true := c2; (try (have c2b9 : (a0_1 == 0 && (a0_2.toList.isEmpty && (a0_3.toList.isEmpty && (a0_4.toList.isEmpty)))) = true := by simpa using c2b0)); (try (have c2b1 : decide (a0_1 = 0 && (a0_2.toList == ([] : List UInt8) && (a0_3.toList == ([] : List UInt8) && (a0_4.toList == ([] : List UInt8))))) = true := by simpa using c2)); (try (have c2b2 : (a0_1 == 0 && (a0_2.toList == ([] : List UInt8) && (a0_3.toList == ([] : List UInt8) && (a0_4.toList == ([] : List UInt8))))) = true := by simpa using c2)); clear c2
  by_cases c3 : a0_5 = true
  ·subst c3
   replace H := iP_ H; obtain rfl := Option.some.inj H; go_enter Tryz.func46, Tryz.ntmps46; go_wp2_with (first | (refine gx_ w 1 (n8_ a0_0 a0_1 a0_2 a0_3 a0_4 true a0_6 (.slice A0_7 l0_7.length c0_7)) 27 ?_; clear HB; intro gb151 w4 BK151 GE151 HB; have GW151 := GE151; have Z5 := bz8_ BK151)); go_ret; exact ⟨re_, hs_⟩
  ·replace c3 := Bool.eq_false_iff.mpr c3
   subst c3; replace H := iN_ H; obtain rfl := Option.some.inj H; go_enter Tryz.func46, Tryz.ntmps46; go_wp2_with (first | (refine gx_ w 1 (n8_ a0_0 a0_1 a0_2 a0_3 a0_4 false a0_6 (.slice A0_7 l0_7.length c0_7)) 27 ?_; clear HB; intro gb151 w6 BK151 GE151 HB; have GW151 := GE151; have Z7 := bz8_ BK151)); go_ret; exact ⟨re_, hs_⟩
 ·rw [if_neg c2] at H
  (have c2b0 : (a0_1 == 0 && (a0_2.toList == ([] : List UInt8) && (a0_3.toList == ([] : List UInt8) && (a0_4.toList == ([] : List UInt8))))) = false := by simpa using c2); (try (have c2b9 : (a0_1 == 0 && (a0_2.toList.isEmpty && (a0_3.toList.isEmpty && (a0_4.toList.isEmpty)))) = false := by simpa using c2b0)); (try (have c2b1 : decide (a0_1 = 0 && (a0_2.toList == ([] : List UInt8) && (a0_3.toList == ([] : List UInt8) && (a0_4.toList == ([] : List UInt8))))) = false := by simpa using c2)); (try (have c2b2 : (a0_1 == 0 && (a0_2.toList == ([] : List UInt8) && (a0_3.toList == ([] : List UInt8) && (a0_4.toList == ([] : List UInt8))))) = false := by simpa using c2)); (try (have c2b3 : ¬ (a0_1 = 0 && (a0_2.toList == ([] : List UInt8) && (a0_3.toList == ([] : List UInt8) && (a0_4.toList == ([] : List UInt8))))) := by simpa using c2)); clear c2; obtain rfl := Option.some.inj H; go_enter Tryz.func46, Tryz.ntmps46; go_wp2_with (first | (refine gx_ w 1 (n8_ a0_0 a0_1 a0_2 a0_3 a0_4 a0_5 a0_6 (.slice A0_7 l0_7.length c0_7)) 27 ?_; clear HB; intro gb151 w8 BK151 GE151 HB; have GW151 := GE151; have Z9 := bz8_ BK151)); go_ret; exact ⟨re_, hs_⟩
set_option maxHeartbeats 8000000 in
set_option maxRecDepth 100000 in
theorem tree_End.calls (k : Nat) (a0_0 a0_1 : Int) (a0_2 a0_3 a0_4 : ByteArray) (a0_5 a0_6 : Bool) (A0_7 : Option Addr) (c0_7 : Nat) (l0_7 : List (S27)) (r : Bool) (w : World) (hr0_7 : Kd.C k27 w A0_7 l0_7.length l0_7) (hc0_7 : l0_7.length ≤ c0_7) (h : tree_End.f k a0_0 a0_1 a0_2 a0_3 a0_4 a0_5 a0_6 l0_7 = some r) :
  Calls Tryz.prog 45 #[.agg #[.int .i64 a0_0, .int .i64 a0_1, .string a0_2, .string a0_3, .string a0_4, .bool a0_5, .bool a0_6, .slice A0_7 l0_7.length c0_7]] w fun e w' => e = .returned (.bool r) ∧ Below w.heap.size w w' := by
 have hu27 := Tryz.underlying27; have hu24 := Tryz.underlying24; have HR0_7 := A_ hr0_7; have HC0_7 := A_ hc0_7; clear hr0_7 hc0_7; have HB := A_ (Below.refl w.heap.size w); have H : (if a0_0 = 0 then (if (l0_7.length : Int) = 0 then ((point_Sane.f k a0_1 a0_2 a0_3 a0_4).bind fun t153 => (some t153)) else (some false)) else (if a0_0 = 3 then (if (l0_7.length : Int) = 0 then ((tree_bare.f a0_0 a0_1 a0_2 a0_3 a0_4 a0_5 a0_6 l0_7).bind fun t154 => (some t154)) else (some false)) else (if a0_0 = 4 then (if (l0_7.length : Int) = 0 then ((tree_bare.f a0_0 a0_1 a0_2 a0_3 a0_4 a0_5 a0_6 l0_7).bind fun t155 => (some t155)) else (some false)) else (some false)))) = some r := h; clear h
 by_cases c2 : a0_0 = 0
 ·rw [if_pos c2] at H
  have c2b0 : (a0_0 == 0) = true := beq_iff_eq.mpr c2; have c2b1 : (a0_0 != 0) = false := bne_eq_false_iff_eq.mpr c2; clear c2
  by_cases c3 : (l0_7.length : Int) = 0
  ·rw [if_pos c3] at H
   have c3b0 : ((l0_7.length : Int) == 0) = true := beq_iff_eq.mpr c3; have c3b1 : ((l0_7.length : Int) != 0) = false := bne_eq_false_iff_eq.mpr c3; clear c3; obtain ⟨t153, A4, H⟩ := bi_ H; obtain rfl := Option.some.inj H; go_enter Tryz.func45, Tryz.ntmps45; go_wp2_with (first | (refine gx_ w 1 (n8_ a0_0 a0_1 a0_2 a0_3 a0_4 a0_5 a0_6 (.slice A0_7 l0_7.length c0_7)) 27 ?_; clear HB; intro gb152 w5 BK152 GE152 HB; have GW152 := GE152; have Z6 := bz8_ BK152) | (go_at_call 64; (with_reducible refine (point_Sane.calls k a0_1 a0_2 a0_3 a0_4 t153 _ A4.out).mono ?_); rintro e w7 ⟨rfl, hb⟩; replace BK152 := bb_ BK152 hb; replace HB := bs_ hb; (try clear hb))); go_ret; exact ⟨re_, hs_⟩
  ·rw [if_neg c3] at H
   have c3b0 : ((l0_7.length : Int) == 0) = false := beq_eq_false_iff_ne.mpr c3; have c3b1 : ((l0_7.length : Int) != 0) = true := bne_iff_ne.mpr c3; (have c3b2 : ¬ (l0_7 = []) := fun h_ => c3 (by rw [h_]; rfl)); obtain rfl := Option.some.inj H; go_enter Tryz.func45, Tryz.ntmps45; go_wp2_with (first | (refine gx_ w 1 (n8_ a0_0 a0_1 a0_2 a0_3 a0_4 a0_5 a0_6 (.slice A0_7 l0_7.length c0_7)) 27 ?_; clear HB; intro gb152 w8 BK152 GE152 HB; have GW152 := GE152; have Z9 := bz8_ BK152)); go_ret; exact ⟨re_, hs_⟩
 ·rw [if_neg c2] at H
  have c2b0 : (a0_0 == 0) = false := beq_eq_false_iff_ne.mpr c2; have c2b1 : (a0_0 != 0) = true := bne_iff_ne.mpr c2
  by_cases c10 : a0_0 = 3
  ·rw [if_pos c10] at H
   have c10b0 : (a0_0 == 3) = true := beq_iff_eq.mpr c10; have c10b1 : (a0_0 != 3) = false := bne_eq_false_iff_eq.mpr c10; clear c10
   by_cases c11 : (l0_7.length : Int) = 0
   ·rw [if_pos c11] at H
    have c11b0 : ((l0_7.length : Int) == 0) = true := beq_iff_eq.mpr c11; have c11b1 : ((l0_7.length : Int) != 0) = false := bne_eq_false_iff_eq.mpr c11; clear c11; obtain ⟨t154, A12, H⟩ := bi_ H; obtain rfl := Option.some.inj H; go_enter Tryz.func45, Tryz.ntmps45; go_wp2_with (first | (refine gx_ w 1 (n8_ a0_0 a0_1 a0_2 a0_3 a0_4 a0_5 a0_6 (.slice A0_7 l0_7.length c0_7)) 27 ?_; clear HB; intro gb152 w13 BK152 GE152 HB; have GW152 := GE152; have Z14 := bz8_ BK152) | (go_at_call 46; (with_reducible refine (tree_bare.calls a0_0 a0_1 a0_2 a0_3 a0_4 a0_5 a0_6 _ _ l0_7 t154 _ ?side1 ?side2 A12.out).mono ?_); (case side1 => exact cb_ HR0_7); (case side2 => exact HC0_7.out); rintro e w15 ⟨rfl, hb⟩; replace BK152 := bb_ BK152 hb; replace HB := bs_ hb; (try clear hb))); go_ret; exact ⟨re_, hs_⟩
   ·rw [if_neg c11] at H
    have c11b0 : ((l0_7.length : Int) == 0) = false := beq_eq_false_iff_ne.mpr c11; have c11b1 : ((l0_7.length : Int) != 0) = true := bne_iff_ne.mpr c11; (have c11b2 : ¬ (l0_7 = []) := fun h_ => c11 (by rw [h_]; rfl)); obtain rfl := Option.some.inj H; go_enter Tryz.func45, Tryz.ntmps45; go_wp2_with (first | (refine gx_ w 1 (n8_ a0_0 a0_1 a0_2 a0_3 a0_4 a0_5 a0_6 (.slice A0_7 l0_7.length c0_7)) 27 ?_; clear HB; intro gb152 w16 BK152 GE152 HB; have GW152 := GE152; have Z17 := bz8_ BK152)); go_ret; exact ⟨re_, hs_⟩
  ·rw [if_neg c10] at H
   have c10b0 : (a0_0 == 3) = false := beq_eq_false_iff_ne.mpr c10; have c10b1 : (a0_0 != 3) = true := bne_iff_ne.mpr c10
   by_cases c18 : a0_0 = 4
   ·rw [if_pos c18] at H
    have c18b0 : (a0_0 == 4) = true := beq_iff_eq.mpr c18; have c18b1 : (a0_0 != 4) = false := bne_eq_false_iff_eq.mpr c18; clear c18
    by_cases c19 : (l0_7.length : Int) = 0
    ·rw [if_pos c19] at H
     have c19b0 : ((l0_7.length : Int) == 0) = true := beq_iff_eq.mpr c19; have c19b1 : ((l0_7.length : Int) != 0) = false := bne_eq_false_iff_eq.mpr c19; clear c19; obtain ⟨t155, A20, H⟩ := bi_ H; obtain rfl := Option.some.inj H; go_enter Tryz.func45, Tryz.ntmps45; go_wp2_with (first | (refine gx_ w 1 (n8_ a0_0 a0_1 a0_2 a0_3 a0_4 a0_5 a0_6 (.slice A0_7 l0_7.length c0_7)) 27 ?_; clear HB; intro gb152 w21 BK152 GE152 HB; have GW152 := GE152; have Z22 := bz8_ BK152) | (go_at_call 46; (with_reducible refine (tree_bare.calls a0_0 a0_1 a0_2 a0_3 a0_4 a0_5 a0_6 _ _ l0_7 t155 _ ?side1 ?side2 A20.out).mono ?_); (case side1 => exact cb_ HR0_7); (case side2 => exact HC0_7.out); rintro e w23 ⟨rfl, hb⟩; replace BK152 := bb_ BK152 hb; replace HB := bs_ hb; (try clear hb))); go_ret; exact ⟨re_, hs_⟩
    ·rw [if_neg c19] at H
     have c19b0 : ((l0_7.length : Int) == 0) = false := beq_eq_false_iff_ne.mpr c19; have c19b1 : ((l0_7.length : Int) != 0) = true := bne_iff_ne.mpr c19; (have c19b2 : ¬ (l0_7 = []) := fun h_ => c19 (by rw [h_]; rfl)); obtain rfl := Option.some.inj H; go_enter Tryz.func45, Tryz.ntmps45; go_wp2_with (first | (refine gx_ w 1 (n8_ a0_0 a0_1 a0_2 a0_3 a0_4 a0_5 a0_6 (.slice A0_7 l0_7.length c0_7)) 27 ?_; clear HB; intro gb152 w24 BK152 GE152 HB; have GW152 := GE152; have Z25 := bz8_ BK152)); go_ret; exact ⟨re_, hs_⟩
   ·rw [if_neg c18] at H
    have c18b0 : (a0_0 == 4) = false := beq_eq_false_iff_ne.mpr c18; have c18b1 : (a0_0 != 4) = true := bne_iff_ne.mpr c18; obtain rfl := Option.some.inj H; go_enter Tryz.func45, Tryz.ntmps45; go_wp2_with (first | (refine gx_ w 1 (n8_ a0_0 a0_1 a0_2 a0_3 a0_4 a0_5 a0_6 (.slice A0_7 l0_7.length c0_7)) 27 ?_; clear HB; intro gb152 w26 BK152 GE152 HB; have GW152 := GE152; have Z27 := bz8_ BK152)); go_ret; exact ⟨re_, hs_⟩
end Go.Proofs.YtjgjhekpiijniaaGreat.A
namespace Go.Proofs.YtjgjhekpiijniaaGreat.A
open Go.RowKit Go.Proofs.YtjgjhekpiijniaaGreatW.PrintWords Go.Proofs.YtjgjhekpiijniaaGreatW.PrintLast Go.Proofs.YtjgjhekpiijniaaGreatW.PrintMore
attribute [local go_sem] max2_int min2_int max_two min_two max_three min_three max_four min_four isSome_setCell
abbrev RightAt (k : Nat) : Prop := ∀ (a0_0 a0_1 : Int) (a0_2 a0_3 a0_4 : ByteArray) (a0_5 a0_6 : Bool) (A0_7 : Option Addr) (c0_7 : Nat) (l0_7 : List (S27)) (r : Bool) (w : World) (hr0_7 : Kd.C k27 w A0_7 l0_7.length l0_7) (hc0_7 : l0_7.length ≤ c0_7) (h : tree_right.f k a0_0 a0_1 a0_2 a0_3 a0_4 a0_5 a0_6 l0_7 = some r),
    Calls Tryz.prog 29 #[.agg #[.int .i64 a0_0, .int .i64 a0_1, .string a0_2, .string a0_3, .string a0_4, .bool a0_5, .bool a0_6, .slice A0_7 l0_7.length c0_7]] w fun e w' => e = .returned (.bool r) ∧ Below w.heap.size w w'
set_option maxHeartbeats 8000000 in
set_option maxRecDepth 100000 in
theorem tree_right_1.calls (k : Nat) (ihk : RightAt k) (a0_0 a0_1 : Int) (a0_2 a0_3 a0_4 : ByteArray) (a0_5 a0_6 : Bool) (A0_7 : Option Addr) (c0_7 : Nat) (l0_7 : List (S27)) (r : Bool) (w : World) (hr0_7 : Kd.C k27 w A0_7 l0_7.length l0_7) (hc0_7 : l0_7.length ≤ c0_7) (h : tree_right_1.f k a0_0 a0_1 a0_2 a0_3 a0_4 a0_5 a0_6 l0_7 = some r) :
  Calls Tryz.prog 48 #[.agg #[.int .i64 a0_0, .int .i64 a0_1, .string a0_2, .string a0_3, .string a0_4, .bool a0_5, .bool a0_6, .slice A0_7 l0_7.length c0_7]] w fun e w' => e = .returned (.bool r) ∧ Below w.heap.size w w' := by
 have hu27 := Tryz.underlying27; have HR0_7 := A_ hr0_7; have HC0_7 := A_ hc0_7; clear hr0_7 hc0_7; have HB := A_ (Below.refl w.heap.size w); have H : ((tree_right.f k a0_0 a0_1 a0_2 a0_3 a0_4 a0_5 a0_6 l0_7).bind fun t102 => (some (!t102))) = some r := h; clear h; obtain ⟨t102, A2, H⟩ := bi_ H; obtain rfl := Option.some.inj H; go_enter Tryz.func48, Tryz.ntmps48; go_wp2_with (first | (refine gx_ w 1 (n8_ a0_0 a0_1 a0_2 a0_3 a0_4 a0_5 a0_6 (.slice A0_7 l0_7.length c0_7)) 27 ?_; clear HB; intro gb101 w3 BK101 GE101 HB; have GW101 := GE101; have Z4 := bz8_ BK101) | (refine gC 29 ?_; refine gL 4 Tryz.func29 #[.agg (n8_ a0_0 a0_1 a0_2 a0_3 a0_4 a0_5 a0_6 (.slice A0_7 l0_7.length c0_7))] ?_; (with_reducible refine (ihk a0_0 a0_1 a0_2 a0_3 a0_4 a0_5 a0_6 _ _ l0_7 t102 _ ?side1 ?side2 A2.out).mono ?_); (case side1 => exact cb_ HR0_7); (case side2 => exact HC0_7.out); rintro e w5 ⟨rfl, hb⟩; refine ⟨_, rfl, ?_⟩; replace BK101 := bb_ BK101 hb; replace HB := bs_ hb; (try clear hb))); go_ret; exact ⟨re_, hs_⟩
set_option maxHeartbeats 8000000 in
set_option maxRecDepth 100000 in
theorem slices_IndexFunc.calls (k : Nat) (ihS : ∀ j, j < k → RightAt j) (A0 : Option Addr) (c0 : Nat) (l0 : List (S27))  (r : Int) (w : World) (hr0 : Kd.C k27 w A0 l0.length l0) (hc0 : l0.length ≤ c0) (h : slices_IndexFunc.f k l0 = some r) :
  Calls Tryz.prog 65 #[.slice A0 l0.length c0, .func (.func 48) #[] #[]] w fun e w' => e = .returned (.int .i64 r) ∧ Below w.heap.size w w' := by
 have hu27 := Tryz.underlying27; have HR0 := A_ hr0; have HC0 := A_ hc0; clear hr0 hc0; have HB := A_ (Below.refl w.heap.size w); have H : (slices_IndexFunc.l0 k l0 (l0.length : Int) 0) = some r := h; clear h; have H' := A_ H; clear H; go_enter Tryz.func65, Tryz.ntmps65; go_wp2; go_loopg [8] k (fun kq v8 w' => ∃ (x8_1 : Int), v8 = .int .i64 x8_1 ∧ Aside0 (slices_IndexFunc.l0 kq l0 (l0.length : Int) x8_1 = some r) ∧ Aside0 (kq ≤ k) ∧ Aside0 (Below w.heap.size w w'))
 case atStart => exact ⟨(0), rf_, H', ⟨Nat.le_refl _⟩, ⟨hs_⟩⟩
 case round =>
  clear H'; (try clear p2); obtain ⟨x8_1, rfl, HA, HK1, HB⟩ := hrel
  cases gk with
  | zero => exact absurd HA.out (by simp [slices_IndexFunc.l0])
  | succ k1 =>
   have H := HA.out; clear HA; rw [slices_IndexFunc.l0_succ] at H
   by_cases c3 : x8_1 < (l0.length : Int)
   ·rw [if_pos c3] at H
    have c3b0 := decide_eq_true c3; clear c3
    by_cases c4 : 0 ≤ x8_1
    ·rw [if_pos c4] at H
     have c4b0 := decide_eq_true c4; clear c4
     by_cases c5 : x8_1 < (l0.length : Int)
     ·rw [if_pos c5] at H
      have c5b0 := decide_eq_true c5; clear c5; obtain ⟨t102, A6, H⟩ := bi_ H
      by_cases c7 : t102 = true
      ·subst c7
       replace H := iP_ H; obtain rfl := Option.some.inj H; have p101 : 0 ≤ (x8_1 : Int) := od_; have q101 : x8_1 < (l0.length : Int) := od_; obtain ⟨ad101, A101_7, c101_7, e101, hx101_0, hx101_1, hx101_2, hx101_3, hx101_4, hx101_5, hx101_6, hx101_7, hl101_7, hi101_7⟩ := at_T27 HR0.out x8_1 p101 q101
       cases e101
       replace hx101_0 := cl_ HB hx101_0; replace hx101_1 := cl_ HB hx101_1; replace hx101_2 := cl_ HB hx101_2; replace hx101_3 := cl_ HB hx101_3; replace hx101_4 := cl_ HB hx101_4; replace hx101_5 := cl_ HB hx101_5; replace hx101_6 := cl_ HB hx101_6; replace hx101_7 := cl_ HB hx101_7; have HR101_7 := A_ hi101_7; have HC101_7 := A_ hl101_7; clear hi101_7 hl101_7; replace p101 := eq_true p101; replace q101 := eq_true q101; go_wp2_with (first | (go_at_call 48; (refine (tree_right_1.calls k1 (ihS k1 (by have := HK1.out; omega)) ((rd_T27 l0 x8_1).f0) ((rd_T27 l0 x8_1).f1.f0) ((rd_T27 l0 x8_1).f1.f1) ((rd_T27 l0 x8_1).f1.f2) ((rd_T27 l0 x8_1).f1.f3) ((rd_T27 l0 x8_1).f2) ((rd_T27 l0 x8_1).f3) _ _ ((rd_T27 l0 x8_1).f4) true _ ?side1 ?side2 A6.out).mono ?_); (case side1 => exact cb_ HR101_7); (case side2 => exact HC101_7.out); rintro e w8 ⟨rfl, hb⟩; replace HB := bs_ hb; (try clear hb))); go_ret; exact ⟨re_, hs_⟩
      ·replace c7 := Bool.eq_false_iff.mpr c7
       subst c7; replace H := iN_ H; have H' := A_ H; clear H; have p101 : 0 ≤ (x8_1 : Int) := od_; have q101 : x8_1 < (l0.length : Int) := od_; obtain ⟨ad101, A101_7, c101_7, e101, hx101_0, hx101_1, hx101_2, hx101_3, hx101_4, hx101_5, hx101_6, hx101_7, hl101_7, hi101_7⟩ := at_T27 HR0.out x8_1 p101 q101
       cases e101
       replace hx101_0 := cl_ HB hx101_0; replace hx101_1 := cl_ HB hx101_1; replace hx101_2 := cl_ HB hx101_2; replace hx101_3 := cl_ HB hx101_3; replace hx101_4 := cl_ HB hx101_4; replace hx101_5 := cl_ HB hx101_5; replace hx101_6 := cl_ HB hx101_6; replace hx101_7 := cl_ HB hx101_7; have HR101_7 := A_ hi101_7; have HC101_7 := A_ hl101_7; clear hi101_7 hl101_7; replace p101 := eq_true p101; replace q101 := eq_true q101; go_wp2_with (first | (go_at_call 48; (refine (tree_right_1.calls k1 (ihS k1 (by have := HK1.out; omega)) ((rd_T27 l0 x8_1).f0) ((rd_T27 l0 x8_1).f1.f0) ((rd_T27 l0 x8_1).f1.f1) ((rd_T27 l0 x8_1).f1.f2) ((rd_T27 l0 x8_1).f1.f3) ((rd_T27 l0 x8_1).f2) ((rd_T27 l0 x8_1).f3) _ _ ((rd_T27 l0 x8_1).f4) false _ ?side1 ?side2 A6.out).mono ?_); (case side1 => exact cb_ HR101_7); (case side2 => exact HC101_7.out); rintro e w9 ⟨rfl, hb⟩; replace HB := bs_ hb; (try clear hb))); go_roundg k1
       case measure => have := HK1.out; omega
       case rel => exact ⟨(wrap64 (x8_1 + 1)), rf_, H', ⟨by have := HK1.out; omega⟩, ⟨hs_⟩⟩
     ·rw [if_neg c5] at H
      exact absurd H (by simp)
    ·rw [if_neg c4] at H
     exact absurd H (by simp)
   ·rw [if_neg c3] at H
    have c3b0 := decide_eq_false c3; clear c3; obtain rfl := Option.some.inj H; go_wp2; go_ret; exact ⟨re_, hs_⟩
set_option maxHeartbeats 8000000 in
set_option maxRecDepth 100000 in
theorem slices_ContainsFunc.calls (k : Nat) (ihS : ∀ j, j < k → RightAt j) (A0 : Option Addr) (c0 : Nat) (l0 : List (S27))  (r : Bool) (w : World) (hr0 : Kd.C k27 w A0 l0.length l0) (hc0 : l0.length ≤ c0) (h : slices_ContainsFunc.f k l0 = some r) :
  Calls Tryz.prog 47 #[.slice A0 l0.length c0, .func (.func 48) #[] #[]] w fun e w' => e = .returned (.bool r) ∧ Below w.heap.size w w' := by
 have HR0 := A_ hr0; have HC0 := A_ hc0; clear hr0 hc0; have HB := A_ (Below.refl w.heap.size w); have H : ((slices_IndexFunc.f k l0).bind fun t103 => (some (decide (t103 ≥ 0)))) = some r := h; clear h; obtain ⟨t103, A3, H⟩ := bi_ H; obtain rfl := Option.some.inj H; go_enter Tryz.func47, Tryz.ntmps47; go_wp2_with (first | (refine gC 65 ?_; refine gL 7 Tryz.func65 #[.slice A0 l0.length c0, .func (.func 48) #[] #[]] ?_; (with_reducible refine (slices_IndexFunc.calls k ihS _ _ l0  t103 _ ?side1 ?side2 A3.out).mono ?_); (case side1 => exact cr_ HR0.out); (case side2 => exact HC0.out); rintro e w4 ⟨rfl, hb⟩; refine ⟨_, rfl, ?_⟩; replace HB := bs_ hb; (try clear hb))); go_ret; exact ⟨re_, hs_⟩
set_option maxHeartbeats 8000000 in
set_option maxRecDepth 100000 in
theorem tree_rightR.calls (k : Nat) (ihS : ∀ j, j < k → RightAt j) (a0_0 a0_1 : Int) (a0_2 a0_3 a0_4 : ByteArray) (a0_5 a0_6 : Bool) (A0_7 : Option Addr) (c0_7 : Nat) (l0_7 : List (S27)) (r : Bool) (w : World) (hr0_7 : Kd.C k27 w A0_7 l0_7.length l0_7) (hc0_7 : l0_7.length ≤ c0_7) (h : tree_rightR.f k a0_0 a0_1 a0_2 a0_3 a0_4 a0_5 a0_6 l0_7 = some r) :
  Calls Tryz.prog 29 #[.agg #[.int .i64 a0_0, .int .i64 a0_1, .string a0_2, .string a0_3, .string a0_4, .bool a0_5, .bool a0_6, .slice A0_7 l0_7.length c0_7]] w fun e w' => e = .returned (.bool r) ∧ Below w.heap.size w w' := by
 have hu27 := Tryz.underlying27; have HR0_7 := A_ hr0_7; have HC0_7 := A_ hc0_7; clear hr0_7 hc0_7; have HB := A_ (Below.refl w.heap.size w); have H : (if a0_0 = 0 then ((tree_End.f k a0_0 a0_1 a0_2 a0_3 a0_4 a0_5 a0_6 l0_7).bind fun t105 => (some t105)) else (if a0_0 = 1 then ((tree_bare.f a0_0 a0_1 a0_2 a0_3 a0_4 a0_5 a0_6 l0_7).bind fun t106 => (if t106 = true then (if (l0_7.length : Int) = 2 then (if 0 < (l0_7.length : Int) then ((tree_End.f k ((rd_T27 l0_7 0).f0) ((rd_T27 l0_7 0).f1.f0) ((rd_T27 l0_7 0).f1.f1) ((rd_T27 l0_7 0).f1.f2) ((rd_T27 l0_7 0).f1.f3) ((rd_T27 l0_7 0).f2) ((rd_T27 l0_7 0).f3) ((rd_T27 l0_7 0).f4)).bind fun t108 => (if t108 = true then (if 1 < (l0_7.length : Int) then ((tree_End.f k ((rd_T27 l0_7 1).f0) ((rd_T27 l0_7 1).f1.f0) ((rd_T27 l0_7 1).f1.f1) ((rd_T27 l0_7 1).f1.f2) ((rd_T27 l0_7 1).f1.f3) ((rd_T27 l0_7 1).f2) ((rd_T27 l0_7 1).f3) ((rd_T27 l0_7 1).f4)).bind fun t110 => (some t110)) else (none)) else (some false))) else (none)) else (some false)) else (some false))) else (if a0_0 = 2 then ((tree_bare.f a0_0 a0_1 a0_2 a0_3 a0_4 a0_5 a0_6 l0_7).bind fun t111 => (if t111 = true then (if (l0_7.length : Int) > 0 then ((slices_ContainsFunc.f k l0_7).bind fun t112 => (some (!t112))) else (some false)) else (some false))) else (some false)))) = some r := h; clear h
 by_cases c2 : a0_0 = 0
 ·rw [if_pos c2] at H
  have c2b0 : (a0_0 == 0) = true := beq_iff_eq.mpr c2; have c2b1 : (a0_0 != 0) = false := bne_eq_false_iff_eq.mpr c2; clear c2; obtain ⟨t105, A3, H⟩ := bi_ H; obtain rfl := Option.some.inj H; go_enter Tryz.func29, Tryz.ntmps29; go_wp2_with (first | (refine gD 1 ?_; (try (refine gate_guard (by rfl) ?_; dsimp only)); refine bxe_ 1 (n8_ a0_0 a0_1 a0_2 a0_3 a0_4 a0_5 a0_6 (.slice A0_7 l0_7.length c0_7)) 27 ?_; intro gb104 hg w4 hbox hb; have BK104 := A_ (hbox); have GW104 := gs_ w hg; have GE104 := gs_ w hg; replace HB := bs_ hb; clear hb hbox hg; have Z5 := bz8_ BK104) | (refine gC 45 ?_; refine gL 8 Tryz.func45 #[.agg (n8_ a0_0 a0_1 a0_2 a0_3 a0_4 a0_5 a0_6 (.slice A0_7 l0_7.length c0_7))] ?_; (with_reducible refine (tree_End.calls k a0_0 a0_1 a0_2 a0_3 a0_4 a0_5 a0_6 _ _ l0_7 t105 _ ?side1 ?side2 A3.out).mono ?_); (case side1 => exact cb_ HR0_7); (case side2 => exact HC0_7.out); rintro e w6 ⟨rfl, hb⟩; refine ⟨_, rfl, ?_⟩; replace BK104 := bb_ BK104 hb; replace HB := bs_ hb; (try clear hb))); go_ret; exact ⟨re_, hs_⟩
 ·rw [if_neg c2] at H
  have c2b0 : (a0_0 == 0) = false := beq_eq_false_iff_ne.mpr c2; have c2b1 : (a0_0 != 0) = true := bne_iff_ne.mpr c2
  by_cases c7 : a0_0 = 1
  ·rw [if_pos c7] at H
   have c7b0 : (a0_0 == 1) = true := beq_iff_eq.mpr c7; have c7b1 : (a0_0 != 1) = false := bne_eq_false_iff_eq.mpr c7; clear c7; obtain ⟨t106, A8, H⟩ := bi_ H
   by_cases c9 : t106 = true
   ·subst c9
    replace H := iP_ H
    by_cases c10 : (l0_7.length : Int) = 2
    ·rw [if_pos c10] at H
     have c10b0 : ((l0_7.length : Int) == 2) = true := beq_iff_eq.mpr c10; have c10b1 : ((l0_7.length : Int) != 2) = false := bne_eq_false_iff_eq.mpr c10; clear c10
     by_cases c11 : 0 < (l0_7.length : Int)
     ·rw [if_pos c11] at H
      have c11b0 := decide_eq_true c11; have c11b1 : decide (0 < l0_7.length) = true := decide_eq_true (by omega); clear c11; obtain ⟨t108, A12, H⟩ := bi_ H
      by_cases c13 : t108 = true
      ·subst c13
       replace H := iP_ H
       by_cases c14 : 1 < (l0_7.length : Int)
       ·rw [if_pos c14] at H
        have c14b0 := decide_eq_true c14; have c14b1 : decide (1 < l0_7.length) = true := decide_eq_true (by omega); clear c14; obtain ⟨t110, A15, H⟩ := bi_ H; obtain rfl := Option.some.inj H; go_enter Tryz.func29, Tryz.ntmps29; go_wp2_with (first | (refine gD 1 ?_; (try (refine gate_guard (by rfl) ?_; dsimp only)); refine bxe_ 1 (n8_ a0_0 a0_1 a0_2 a0_3 a0_4 a0_5 a0_6 (.slice A0_7 l0_7.length c0_7)) 27 ?_; intro gb104 hg w16 hbox hb; have BK104 := A_ (hbox); have GW104 := gs_ w hg; have GE104 := gs_ w hg; replace HB := bs_ hb; clear hb hbox hg; have Z17 := bz8_ BK104) | (refine gC 46 ?_; refine gL 12 Tryz.func46 #[.agg (n8_ a0_0 a0_1 a0_2 a0_3 a0_4 a0_5 a0_6 (.slice A0_7 l0_7.length c0_7))] ?_; (with_reducible refine (tree_bare.calls a0_0 a0_1 a0_2 a0_3 a0_4 a0_5 a0_6 _ _ l0_7 true _ ?side1 ?side2 A8.out).mono ?_); (case side1 => exact cb_ HR0_7); (case side2 => exact HC0_7.out); rintro e w18 ⟨rfl, hb⟩; refine ⟨_, rfl, ?_⟩; replace BK104 := bb_ BK104 hb; replace HB := bs_ hb; (try clear hb); have Z19 := bz8_ BK104; have p107 : 0 ≤ (0 : Int) := (by omega); have q107 : 0 < (l0_7.length : Int) := od_; obtain ⟨ad107, A107_7, c107_7, e107, hx107_0, hx107_1, hx107_2, hx107_3, hx107_4, hx107_5, hx107_6, hx107_7, hl107_7, hi107_7⟩ := at_T27 HR0_7.out 0 p107 q107; cases e107; have qi107 : (0 < l0_7.length) = True := eq_true (by omega); replace hx107_0 := ai_ hx107_0; replace hx107_1 := ai_ hx107_1; replace hx107_2 := ai_ hx107_2; replace hx107_3 := ai_ hx107_3; replace hx107_4 := ai_ hx107_4; replace hx107_5 := ai_ hx107_5; replace hx107_6 := ai_ hx107_6; replace hx107_7 := ai_ hx107_7; replace hx107_0 := cl_ HB hx107_0; replace hx107_1 := cl_ HB hx107_1; replace hx107_2 := cl_ HB hx107_2; replace hx107_3 := cl_ HB hx107_3; replace hx107_4 := cl_ HB hx107_4; replace hx107_5 := cl_ HB hx107_5; replace hx107_6 := cl_ HB hx107_6; replace hx107_7 := cl_ HB hx107_7; have HR107_7 := A_ hi107_7; have HC107_7 := A_ hl107_7; clear hi107_7 hl107_7; replace p107 := eq_true p107; replace q107 := eq_true q107) | (go_at_call 45; (with_reducible refine (tree_End.calls k ((rd_T27 l0_7 0).f0) ((rd_T27 l0_7 0).f1.f0) ((rd_T27 l0_7 0).f1.f1) ((rd_T27 l0_7 0).f1.f2) ((rd_T27 l0_7 0).f1.f3) ((rd_T27 l0_7 0).f2) ((rd_T27 l0_7 0).f3) _ _ ((rd_T27 l0_7 0).f4) true _ ?side1 ?side2 A12.out).mono ?_); (case side1 => exact cb_ HR107_7); (case side2 => exact HC107_7.out); rintro e w20 ⟨rfl, hb⟩; replace BK104 := bb_ BK104 hb; replace HB := bs_ hb; (try clear hb); have Z21 := bz8_ BK104; have p109 : 0 ≤ (1 : Int) := (by omega); have q109 : 1 < (l0_7.length : Int) := od_; obtain ⟨ad109, A109_7, c109_7, e109, hx109_0, hx109_1, hx109_2, hx109_3, hx109_4, hx109_5, hx109_6, hx109_7, hl109_7, hi109_7⟩ := at_T27 HR0_7.out 1 p109 q109; obtain rfl : ad107 = ad109 := (by injection e109); replace hx109_0 := aj_ hx109_0; replace hx109_1 := aj_ hx109_1; replace hx109_2 := aj_ hx109_2; replace hx109_3 := aj_ hx109_3; replace hx109_4 := aj_ hx109_4; replace hx109_5 := aj_ hx109_5; replace hx109_6 := aj_ hx109_6; replace hx109_7 := aj_ hx109_7; have qi109 : (1 < l0_7.length) = True := eq_true (by omega); (try rw [show ((1 : Int)).toNat = 1 from rfl] at hx109_0); (try rw [show 1 * 8 = 8 from rfl] at hx109_0); (try rw [show ((1 : Int)).toNat = 1 from rfl] at hx109_1); (try rw [show 1 * 8 = 8 from rfl] at hx109_1); (try rw [show ((1 : Int)).toNat = 1 from rfl] at hx109_2); (try rw [show 1 * 8 = 8 from rfl] at hx109_2); (try rw [show ((1 : Int)).toNat = 1 from rfl] at hx109_3); (try rw [show 1 * 8 = 8 from rfl] at hx109_3); (try rw [show ((1 : Int)).toNat = 1 from rfl] at hx109_4); (try rw [show 1 * 8 = 8 from rfl] at hx109_4); (try rw [show ((1 : Int)).toNat = 1 from rfl] at hx109_5); (try rw [show 1 * 8 = 8 from rfl] at hx109_5); (try rw [show ((1 : Int)).toNat = 1 from rfl] at hx109_6); (try rw [show 1 * 8 = 8 from rfl] at hx109_6); (try rw [show ((1 : Int)).toNat = 1 from rfl] at hx109_7); (try rw [show 1 * 8 = 8 from rfl] at hx109_7); replace hx109_0 := cl_ HB hx109_0; replace hx109_1 := cl_ HB hx109_1; replace hx109_2 := cl_ HB hx109_2; replace hx109_3 := cl_ HB hx109_3; replace hx109_4 := cl_ HB hx109_4; replace hx109_5 := cl_ HB hx109_5; replace hx109_6 := cl_ HB hx109_6; replace hx109_7 := cl_ HB hx109_7; have HR109_7 := A_ hi109_7; have HC109_7 := A_ hl109_7; clear hi109_7 hl109_7; replace p109 := eq_true p109; replace q109 := eq_true q109) | (go_at_call 45; (with_reducible refine (tree_End.calls k ((rd_T27 l0_7 1).f0) ((rd_T27 l0_7 1).f1.f0) ((rd_T27 l0_7 1).f1.f1) ((rd_T27 l0_7 1).f1.f2) ((rd_T27 l0_7 1).f1.f3) ((rd_T27 l0_7 1).f2) ((rd_T27 l0_7 1).f3) _ _ ((rd_T27 l0_7 1).f4) t110 _ ?side1 ?side2 A15.out).mono ?_); (case side1 => exact cb_ HR109_7); (case side2 => exact HC109_7.out); rintro e w22 ⟨rfl, hb⟩; replace BK104 := bb_ BK104 hb; replace HB := bs_ hb; (try clear hb)))
        go_ret; exact ⟨re_, hs_⟩
       ·rw [if_neg c14] at H
        exact absurd H (by simp)
      ·replace c13 := Bool.eq_false_iff.mpr c13
       subst c13; replace H := iN_ H; obtain rfl := Option.some.inj H; go_enter Tryz.func29, Tryz.ntmps29; go_wp2_with (first | (refine gD 1 ?_; (try (refine gate_guard (by rfl) ?_; dsimp only)); refine bxe_ 1 (n8_ a0_0 a0_1 a0_2 a0_3 a0_4 a0_5 a0_6 (.slice A0_7 l0_7.length c0_7)) 27 ?_; intro gb104 hg w23 hbox hb; have BK104 := A_ (hbox); have GW104 := gs_ w hg; have GE104 := gs_ w hg; replace HB := bs_ hb; clear hb hbox hg; have Z24 := bz8_ BK104) | (refine gC 46 ?_; refine gL 12 Tryz.func46 #[.agg (n8_ a0_0 a0_1 a0_2 a0_3 a0_4 a0_5 a0_6 (.slice A0_7 l0_7.length c0_7))] ?_; (with_reducible refine (tree_bare.calls a0_0 a0_1 a0_2 a0_3 a0_4 a0_5 a0_6 _ _ l0_7 true _ ?side1 ?side2 A8.out).mono ?_); (case side1 => exact cb_ HR0_7); (case side2 => exact HC0_7.out); rintro e w25 ⟨rfl, hb⟩; refine ⟨_, rfl, ?_⟩; replace BK104 := bb_ BK104 hb; replace HB := bs_ hb; (try clear hb); have Z26 := bz8_ BK104; have p107 : 0 ≤ (0 : Int) := (by omega); have q107 : 0 < (l0_7.length : Int) := od_; obtain ⟨ad107, A107_7, c107_7, e107, hx107_0, hx107_1, hx107_2, hx107_3, hx107_4, hx107_5, hx107_6, hx107_7, hl107_7, hi107_7⟩ := at_T27 HR0_7.out 0 p107 q107; cases e107; have qi107 : (0 < l0_7.length) = True := eq_true (by omega); replace hx107_0 := ai_ hx107_0; replace hx107_1 := ai_ hx107_1; replace hx107_2 := ai_ hx107_2; replace hx107_3 := ai_ hx107_3; replace hx107_4 := ai_ hx107_4; replace hx107_5 := ai_ hx107_5; replace hx107_6 := ai_ hx107_6; replace hx107_7 := ai_ hx107_7; replace hx107_0 := cl_ HB hx107_0; replace hx107_1 := cl_ HB hx107_1; replace hx107_2 := cl_ HB hx107_2; replace hx107_3 := cl_ HB hx107_3; replace hx107_4 := cl_ HB hx107_4; replace hx107_5 := cl_ HB hx107_5; replace hx107_6 := cl_ HB hx107_6; replace hx107_7 := cl_ HB hx107_7; have HR107_7 := A_ hi107_7; have HC107_7 := A_ hl107_7; clear hi107_7 hl107_7; replace p107 := eq_true p107; replace q107 := eq_true q107) | (go_at_call 45; (with_reducible refine (tree_End.calls k ((rd_T27 l0_7 0).f0) ((rd_T27 l0_7 0).f1.f0) ((rd_T27 l0_7 0).f1.f1) ((rd_T27 l0_7 0).f1.f2) ((rd_T27 l0_7 0).f1.f3) ((rd_T27 l0_7 0).f2) ((rd_T27 l0_7 0).f3) _ _ ((rd_T27 l0_7 0).f4) false _ ?side1 ?side2 A12.out).mono ?_); (case side1 => exact cb_ HR107_7); (case side2 => exact HC107_7.out); rintro e w27 ⟨rfl, hb⟩; replace BK104 := bb_ BK104 hb; replace HB := bs_ hb; (try clear hb)))
       go_ret; exact ⟨re_, hs_⟩
     ·rw [if_neg c11] at H
      exact absurd H (by simp)
    ·rw [if_neg c10] at H
     have c10b0 : ((l0_7.length : Int) == 2) = false := beq_eq_false_iff_ne.mpr c10; have c10b1 : ((l0_7.length : Int) != 2) = true := bne_iff_ne.mpr c10; obtain rfl := Option.some.inj H; go_enter Tryz.func29, Tryz.ntmps29; go_wp2_with (first | (refine gD 1 ?_; (try (refine gate_guard (by rfl) ?_; dsimp only)); refine bxe_ 1 (n8_ a0_0 a0_1 a0_2 a0_3 a0_4 a0_5 a0_6 (.slice A0_7 l0_7.length c0_7)) 27 ?_; intro gb104 hg w28 hbox hb; have BK104 := A_ (hbox); have GW104 := gs_ w hg; have GE104 := gs_ w hg; replace HB := bs_ hb; clear hb hbox hg; have Z29 := bz8_ BK104) | (refine gC 46 ?_; refine gL 12 Tryz.func46 #[.agg (n8_ a0_0 a0_1 a0_2 a0_3 a0_4 a0_5 a0_6 (.slice A0_7 l0_7.length c0_7))] ?_; (with_reducible refine (tree_bare.calls a0_0 a0_1 a0_2 a0_3 a0_4 a0_5 a0_6 _ _ l0_7 true _ ?side1 ?side2 A8.out).mono ?_); (case side1 => exact cb_ HR0_7); (case side2 => exact HC0_7.out); rintro e w30 ⟨rfl, hb⟩; refine ⟨_, rfl, ?_⟩; replace BK104 := bb_ BK104 hb; replace HB := bs_ hb; (try clear hb); have Z31 := bz8_ BK104))
     go_ret; exact ⟨re_, hs_⟩
   ·replace c9 := Bool.eq_false_iff.mpr c9
    subst c9; replace H := iN_ H; obtain rfl := Option.some.inj H; go_enter Tryz.func29, Tryz.ntmps29; go_wp2_with (first | (refine gD 1 ?_; (try (refine gate_guard (by rfl) ?_; dsimp only)); refine bxe_ 1 (n8_ a0_0 a0_1 a0_2 a0_3 a0_4 a0_5 a0_6 (.slice A0_7 l0_7.length c0_7)) 27 ?_; intro gb104 hg w32 hbox hb; have BK104 := A_ (hbox); have GW104 := gs_ w hg; have GE104 := gs_ w hg; replace HB := bs_ hb; clear hb hbox hg; have Z33 := bz8_ BK104) | (refine gC 46 ?_; refine gL 12 Tryz.func46 #[.agg (n8_ a0_0 a0_1 a0_2 a0_3 a0_4 a0_5 a0_6 (.slice A0_7 l0_7.length c0_7))] ?_; (with_reducible refine (tree_bare.calls a0_0 a0_1 a0_2 a0_3 a0_4 a0_5 a0_6 _ _ l0_7 false _ ?side1 ?side2 A8.out).mono ?_); (case side1 => exact cb_ HR0_7); (case side2 => exact HC0_7.out); rintro e w34 ⟨rfl, hb⟩; refine ⟨_, rfl, ?_⟩; replace BK104 := bb_ BK104 hb; replace HB := bs_ hb; (try clear hb))); go_ret; exact ⟨re_, hs_⟩
  ·rw [if_neg c7] at H
   have c7b0 : (a0_0 == 1) = false := beq_eq_false_iff_ne.mpr c7; have c7b1 : (a0_0 != 1) = true := bne_iff_ne.mpr c7
   by_cases c35 : a0_0 = 2
   ·rw [if_pos c35] at H
    have c35b0 : (a0_0 == 2) = true := beq_iff_eq.mpr c35; have c35b1 : (a0_0 != 2) = false := bne_eq_false_iff_eq.mpr c35; clear c35; obtain ⟨t111, A36, H⟩ := bi_ H
    by_cases c37 : t111 = true
    ·subst c37
     replace H := iP_ H
     by_cases c38 : (l0_7.length : Int) > 0
     ·rw [if_pos c38] at H
      have c38b0 := decide_eq_true c38; have c38b1 : decide (0 < l0_7.length) = true := decide_eq_true (by omega); clear c38; obtain ⟨t112, A39, H⟩ := bi_ H; obtain rfl := Option.some.inj H; go_enter Tryz.func29, Tryz.ntmps29; go_wp2_with (first | (refine gD 1 ?_; (try (refine gate_guard (by rfl) ?_; dsimp only)); refine bxe_ 1 (n8_ a0_0 a0_1 a0_2 a0_3 a0_4 a0_5 a0_6 (.slice A0_7 l0_7.length c0_7)) 27 ?_; intro gb104 hg w40 hbox hb; have BK104 := A_ (hbox); have GW104 := gs_ w hg; have GE104 := gs_ w hg; replace HB := bs_ hb; clear hb hbox hg; have Z41 := bz8_ BK104) | (refine gC 46 ?_; refine gL 36 Tryz.func46 #[.agg (n8_ a0_0 a0_1 a0_2 a0_3 a0_4 a0_5 a0_6 (.slice A0_7 l0_7.length c0_7))] ?_; (with_reducible refine (tree_bare.calls a0_0 a0_1 a0_2 a0_3 a0_4 a0_5 a0_6 _ _ l0_7 true _ ?side1 ?side2 A36.out).mono ?_); (case side1 => exact cb_ HR0_7); (case side2 => exact HC0_7.out); rintro e w42 ⟨rfl, hb⟩; refine ⟨_, rfl, ?_⟩; replace BK104 := bb_ BK104 hb; replace HB := bs_ hb; (try clear hb); have Z43 := bz8_ BK104) | (go_at_call 47; (with_reducible refine (slices_ContainsFunc.calls k ihS _ _ l0_7  t112 _ ?side1 ?side2 A39.out).mono ?_); (case side1 => exact cb_ HR0_7); (case side2 => exact HC0_7.out); rintro e w44 ⟨rfl, hb⟩; replace BK104 := bb_ BK104 hb; replace HB := bs_ hb; (try clear hb)))
      go_ret; exact ⟨re_, hs_⟩
     ·rw [if_neg c38] at H
      have c38b0 := decide_eq_false c38; have c38b1 : decide (0 < l0_7.length) = false := decide_eq_false (by omega); clear c38; obtain rfl := Option.some.inj H; go_enter Tryz.func29, Tryz.ntmps29; go_wp2_with (first | (refine gD 1 ?_; (try (refine gate_guard (by rfl) ?_; dsimp only)); refine bxe_ 1 (n8_ a0_0 a0_1 a0_2 a0_3 a0_4 a0_5 a0_6 (.slice A0_7 l0_7.length c0_7)) 27 ?_; intro gb104 hg w45 hbox hb; have BK104 := A_ (hbox); have GW104 := gs_ w hg; have GE104 := gs_ w hg; replace HB := bs_ hb; clear hb hbox hg; have Z46 := bz8_ BK104) | (refine gC 46 ?_; refine gL 36 Tryz.func46 #[.agg (n8_ a0_0 a0_1 a0_2 a0_3 a0_4 a0_5 a0_6 (.slice A0_7 l0_7.length c0_7))] ?_; (with_reducible refine (tree_bare.calls a0_0 a0_1 a0_2 a0_3 a0_4 a0_5 a0_6 _ _ l0_7 true _ ?side1 ?side2 A36.out).mono ?_); (case side1 => exact cb_ HR0_7); (case side2 => exact HC0_7.out); rintro e w47 ⟨rfl, hb⟩; refine ⟨_, rfl, ?_⟩; replace BK104 := bb_ BK104 hb; replace HB := bs_ hb; (try clear hb); have Z48 := bz8_ BK104))
      go_ret; exact ⟨re_, hs_⟩
    ·replace c37 := Bool.eq_false_iff.mpr c37
     subst c37; replace H := iN_ H; obtain rfl := Option.some.inj H; go_enter Tryz.func29, Tryz.ntmps29; go_wp2_with (first | (refine gD 1 ?_; (try (refine gate_guard (by rfl) ?_; dsimp only)); refine bxe_ 1 (n8_ a0_0 a0_1 a0_2 a0_3 a0_4 a0_5 a0_6 (.slice A0_7 l0_7.length c0_7)) 27 ?_; intro gb104 hg w49 hbox hb; have BK104 := A_ (hbox); have GW104 := gs_ w hg; have GE104 := gs_ w hg; replace HB := bs_ hb; clear hb hbox hg; have Z50 := bz8_ BK104) | (refine gC 46 ?_; refine gL 36 Tryz.func46 #[.agg (n8_ a0_0 a0_1 a0_2 a0_3 a0_4 a0_5 a0_6 (.slice A0_7 l0_7.length c0_7))] ?_; (with_reducible refine (tree_bare.calls a0_0 a0_1 a0_2 a0_3 a0_4 a0_5 a0_6 _ _ l0_7 false _ ?side1 ?side2 A36.out).mono ?_); (case side1 => exact cb_ HR0_7); (case side2 => exact HC0_7.out); rintro e w51 ⟨rfl, hb⟩; refine ⟨_, rfl, ?_⟩; replace BK104 := bb_ BK104 hb; replace HB := bs_ hb; (try clear hb))); go_ret; exact ⟨re_, hs_⟩
   ·rw [if_neg c35] at H
    have c35b0 : (a0_0 == 2) = false := beq_eq_false_iff_ne.mpr c35; have c35b1 : (a0_0 != 2) = true := bne_iff_ne.mpr c35; obtain rfl := Option.some.inj H; go_enter Tryz.func29, Tryz.ntmps29; go_wp2_with (first | (refine gD 1 ?_; (try (refine gate_guard (by rfl) ?_; dsimp only)); refine bxe_ 1 (n8_ a0_0 a0_1 a0_2 a0_3 a0_4 a0_5 a0_6 (.slice A0_7 l0_7.length c0_7)) 27 ?_; intro gb104 hg w52 hbox hb; have BK104 := A_ (hbox); have GW104 := gs_ w hg; have GE104 := gs_ w hg; replace HB := bs_ hb; clear hb hbox hg; have Z53 := bz8_ BK104)); go_ret; exact ⟨re_, hs_⟩
theorem tree_right.calls (k : Nat) : ∀ (a0_0 a0_1 : Int) (a0_2 a0_3 a0_4 : ByteArray) (a0_5 a0_6 : Bool) (A0_7 : Option Addr) (c0_7 : Nat) (l0_7 : List (S27)) (r : Bool) (w : World) (hr0_7 : Kd.C k27 w A0_7 l0_7.length l0_7) (hc0_7 : l0_7.length ≤ c0_7) (h : tree_right.f k a0_0 a0_1 a0_2 a0_3 a0_4 a0_5 a0_6 l0_7 = some r),
  Calls Tryz.prog 29 #[.agg #[.int .i64 a0_0, .int .i64 a0_1, .string a0_2, .string a0_3, .string a0_4, .bool a0_5, .bool a0_6, .slice A0_7 l0_7.length c0_7]] w fun e w' => e = .returned (.bool r) ∧ Below w.heap.size w w' := by
 induction k using Nat.strongRecOn with
 | _ k ih =>
 intro a0_0 a0_1 a0_2 a0_3 a0_4 a0_5 a0_6 A0_7 c0_7 l0_7 r w hr0_7 hc0_7 h
 cases k with
 | zero => exact absurd h (by simp [tree_right.f])
 | succ k =>
 rw [tree_right.f_succ] at h; exact tree_rightR.calls k (fun j hj => ih j (Nat.lt_succ_of_lt hj)) _ _ _ _ _ _ _ _ _ _ _ _ hr0_7 hc0_7 h
end Go.Proofs.YtjgjhekpiijniaaGreat.A
namespace Go.Proofs.YtjgjhekpiijniaaGreat.A
open Go.RowKit Go.Proofs.YtjgjhekpiijniaaGreatW.PrintWords Go.Proofs.YtjgjhekpiijniaaGreatW.PrintLast Go.Proofs.YtjgjhekpiijniaaGreatW.PrintMore
attribute [local go_sem] max2_int min2_int max_two min_two max_three min_three max_four min_four isSome_setCell run_store_func_
set_option maxHeartbeats 8000000 in
set_option maxRecDepth 100000 in
theorem tree_Count_1.calls (w0 : World) (gq gf : Nat) (hgk : w0.heap.size ≤ gq) (hgc : w0.heap.size ≤ gf) (hne : gq ≠ gf) (k : Nat) : ∀ (a0_0 a0_1 : Int) (a0_2 a0_3 a0_4 : ByteArray) (a0_5 a0_6 : Bool) (A0_7 : Option Addr) (c0_7 : Nat) (l0_7 : List (S27)) (a1 r : Int) (w : World) (hr0_7 : Kd.C k27 w0 A0_7 l0_7.length l0_7) (hc0_7 : l0_7.length ≤ c0_7)
    (hB : Below w0.heap.size w0 w) (hK : w.heap[gq]? = some (.cells #[.int .i64 a1] 3 (0, 0))) (hC : w.heap[gf]? = some (.cells #[.func (.func 43) #[] #[.pointer (some ⟨gq, 0, none⟩), .pointer (some ⟨gf, 0, none⟩)]] 73 (0, 0)))
    (h : tree_Count_1.f k a0_0 a0_1 a0_2 a0_3 a0_4 a0_5 a0_6 l0_7 a1 = some r),
    Calls Tryz.prog 43 #[.agg #[.int .i64 a0_0, .int .i64 a0_1, .string a0_2, .string a0_3, .string a0_4, .bool a0_5, .bool a0_6, .slice A0_7 l0_7.length c0_7], .pointer (some ⟨gq, 0, none⟩), .pointer (some ⟨gf, 0, none⟩)] w fun e w' => (∃ v, e = .returned v) ∧ Below w0.heap.size w0 w' ∧ w'.heap[gq]? = some (.cells #[.int .i64 r] 3 (0, 0)) ∧ w'.heap[gf]? = some (.cells #[.func (.func 43) #[] #[.pointer (some ⟨gq, 0, none⟩), .pointer (some ⟨gf, 0, none⟩)]] 73 (0, 0)) := by
  induction k using Nat.strongRecOn with
  | _ k ih =>
  intro a0_0 a0_1 a0_2 a0_3 a0_4 a0_5 a0_6 A0_7 c0_7 l0_7 a1 r w hr0_7 hc0_7 hB hK hC h
  cases k with
  | zero => exact absurd h (by simp [tree_Count_1.f])
  | succ k =>
  simp only [tree_Count_1.f] at h
  have hu27 := Tryz.underlying27
  have HR0_7 := A_ hr0_7
  have HC0_7 := A_ hc0_7
  clear hr0_7 hc0_7
  have HB := A_ hB
  have HK := A_ hK
  have HC := A_ hC
  have HGK := A_ hgk
  have HGC := A_ hgc
  have hne2 := Ne.symm hne
  clear hB hK hC hgk hgc
  have H : (tree_Count_1.l0 k (wrap64 (a1 + 1)) l0_7 (l0_7.length : Int) 0) = some r := h
  clear h
  have H' := A_ H
  clear H
  go_enter Tryz.func43, Tryz.ntmps43
  go_wp2_with (first | (refine gD 3 ?_; refine bxe_ 3 (n8_ a0_0 a0_1 a0_2 a0_3 a0_4 a0_5 a0_6 (.slice A0_7 l0_7.length c0_7)) 27 ?_; intro gb101 hg w3 hbox hb; have n0_ := A_ (below_step HB.out hb); have n1_ := A_ (blk_below HK.out hb); have n2_ := A_ (blk_below HC.out hb); have NB1 : gq ≠ gb101 := Nat.ne_of_lt (Nat.lt_of_lt_of_le (blk_lt HK.out) (Nat.le_of_eq hg.symm)); have NB2 : gb101 ≠ gq := Ne.symm NB1; clear HB HK HC; have HB := n0_; have HK := n1_; have HC := n2_; clear n0_ n1_ n2_; have hcz4_7 : w3.cell? ⟨gb101, 7, none⟩ = some (.slice A0_7 l0_7.length c0_7) := (blk_cell hbox 7).trans rfl; have hfz4_7 := blk_frozen hbox 7; have hkz : w3.cell? ⟨gq, 0, none⟩ = some (.int .i64 a1) := bq_ HK 0; have hkf := blk_frozen HK.out 0; clear hb hbox hg))
  go_loopg [11] k (fun kq v11 w' => ∃ (x1_1 : Int) (x11_1 : Int), v11 = .int .i64 x11_1 ∧ Aside0 (tree_Count_1.l0 kq x1_1 l0_7 (l0_7.length : Int) x11_1 = some r) ∧ Aside0 (kq ≤ k) ∧ Aside0 (w'.heap[gq]? = some (.cells #[.int .i64 x1_1] 3 (0, 0))) ∧ Aside0 (w'.heap[gf]? = some (.cells #[.func (.func 43) #[] #[.pointer (some ⟨gq, 0, none⟩), .pointer (some ⟨gf, 0, none⟩)]] 73 (0, 0))) ∧ Aside0 (Below w0.heap.size w0 w'))
  case atStart => exact ⟨(wrap64 (a1 + 1)), (0), (by first | rfl | (simp; done) | (simp [*]; done)), H', ⟨Nat.le_refl _⟩, ⟨blk_put HK.out 0 _ rfl⟩, ⟨blk_far HC.out hne2 _⟩, ⟨below_set HB.out HGK.out⟩⟩
  case round =>
    clear H' HB HK HC hkz hkf hcz4_7 hfz4_7 NB1 NB2
    obtain ⟨x1_1, x11_1, rfl, HA, HK1, HK, HC, HB⟩ := hrel
    cases gk with
    | zero => exact absurd HA.out (by simp [tree_Count_1.l0])
    | succ k1 =>
      have H := HA.out
      clear HA
      simp only [tree_Count_1.l0] at H
      by_cases c5 : x11_1 < (l0_7.length : Int)
      · rw [if_pos c5] at H
        have c5b0 := decide_eq_true c5
        clear c5
        by_cases c6 : 0 ≤ x11_1
        · rw [if_pos c6] at H
          have c6b0 := decide_eq_true c6
          clear c6
          by_cases c7 : x11_1 < (l0_7.length : Int)
          · rw [if_pos c7] at H
            have c7b0 := decide_eq_true c7
            clear c7
            replace H := Option.bind_eq_some_iff.mp H
            obtain ⟨t104, A80, H⟩ := H
            replace H : (tree_Count_1.l0 k1 t104 l0_7 (l0_7.length : Int) (wrap64 (x11_1 + 1))) = some r := H
            have A8 := A_ A80
            clear A80
            have H' := A_ H
            clear H
            have p102 : 0 ≤ (x11_1 : Int) := of_decide_eq_true (by first | (with_reducible assumption) | assumption)
            have q102 : x11_1 < (l0_7.length : Int) := of_decide_eq_true (by first | (with_reducible assumption) | assumption)
            obtain ⟨ad102, A102_7, c102_7, e102, hx102_0, hx102_1, hx102_2, hx102_3, hx102_4, hx102_5, hx102_6, hx102_7, hl102_7, hi102_7⟩ := at_T27 HR0_7.out x11_1 p102 q102
            cases e102
            replace hx102_0 := cl_ HB hx102_0
            replace hx102_1 := cl_ HB hx102_1
            replace hx102_2 := cl_ HB hx102_2
            replace hx102_3 := cl_ HB hx102_3
            replace hx102_4 := cl_ HB hx102_4
            replace hx102_5 := cl_ HB hx102_5
            replace hx102_6 := cl_ HB hx102_6
            replace hx102_7 := cl_ HB hx102_7
            have HR102_7 := A_ hi102_7
            have HC102_7 := A_ hl102_7
            clear hi102_7 hl102_7
            replace p102 := eq_true p102
            replace q102 := eq_true q102
            go_wp2_with (first | (refine gD 5 ?_; refine bxe_ 5 z8_ 27 ?_; intro gb103 hg w9 hbox hb; have n0_ := A_ (below_step HB.out hb); have n1_ := A_ (blk_below HK.out hb); have n2_ := A_ (blk_below HC.out hb); have NB1 := A_ (Nat.ne_of_lt (Nat.lt_of_lt_of_le (blk_lt HK.out) (Nat.le_of_eq hg.symm)) : gq ≠ gb103); have NB3 := A_ (Nat.ne_of_lt (Nat.lt_of_lt_of_le (blk_lt HC.out) (Nat.le_of_eq hg.symm)) : gf ≠ gb103); have GE103 := A_ (Nat.le_trans HB.out.size (Nat.le_of_eq hg.symm) : w0.heap.size ≤ gb103); clear HB HK HC; have HB := n0_; have HK := n1_; have HC := n2_; clear n0_ n1_ n2_; have nb1 := NB1.out; have nb2 := Ne.symm nb1; have nb3 := NB3.out; have nb4 := Ne.symm nb3; have hcz11_0 : w9.cell? ⟨gb103, 0, none⟩ = some (.int .i64 0) := (blk_cell hbox 0).trans rfl; have hfz11_0 := blk_frozen hbox 0; have hcz11_1 : w9.cell? ⟨gb103, 1, none⟩ = some (.int .i64 0) := (blk_cell hbox 1).trans rfl; have hfz11_1 := blk_frozen hbox 1; have hcz11_2 : w9.cell? ⟨gb103, 2, none⟩ = some (.string ⟨#[]⟩) := (blk_cell hbox 2).trans rfl; have hfz11_2 := blk_frozen hbox 2; have hcz11_3 : w9.cell? ⟨gb103, 3, none⟩ = some (.string ⟨#[]⟩) := (blk_cell hbox 3).trans rfl; have hfz11_3 := blk_frozen hbox 3; have hcz11_4 : w9.cell? ⟨gb103, 4, none⟩ = some (.string ⟨#[]⟩) := (blk_cell hbox 4).trans rfl; have hfz11_4 := blk_frozen hbox 4; have hcz11_5 : w9.cell? ⟨gb103, 5, none⟩ = some (.bool false) := (blk_cell hbox 5).trans rfl; have hfz11_5 := blk_frozen hbox 5; have hcz11_6 : w9.cell? ⟨gb103, 6, none⟩ = some (.bool false) := (blk_cell hbox 6).trans rfl; have hfz11_6 := blk_frozen hbox 6; have hcz11_7 : w9.cell? ⟨gb103, 7, none⟩ = some (.slice none 0 0) := (blk_cell hbox 7).trans rfl; have hfz11_7 := blk_frozen hbox 7; have hcf : w9.cell? ⟨gf, 0, none⟩ = some (.func (.func 43) #[] #[.pointer (some ⟨gq, 0, none⟩), .pointer (some ⟨gf, 0, none⟩)]) := bq_ HC 0; have hff := blk_frozen HC.out 0; clear hb hbox hg) | ((with_reducible refine gate_held rfl ?_); refine goesF_ (some 17) rfl rfl #[.pointer (some ⟨gq, 0, none⟩), .pointer (some ⟨gf, 0, none⟩)] Tryz.func43 (by kernel_rfl) rfl #[.agg #[.int .i64 ((rd_T27 l0_7 x11_1).f0), .int .i64 ((rd_T27 l0_7 x11_1).f1.f0), .string ((rd_T27 l0_7 x11_1).f1.f1), .string ((rd_T27 l0_7 x11_1).f1.f2), .string ((rd_T27 l0_7 x11_1).f1.f3), .bool ((rd_T27 l0_7 x11_1).f2), .bool ((rd_T27 l0_7 x11_1).f3), .slice A102_7 ((rd_T27 l0_7 x11_1).f4).length c102_7], .pointer (some ⟨gq, 0, none⟩), .pointer (some ⟨gf, 0, none⟩)] rfl rfl (by (simp only [List.map_toArray, List.map_cons, List.map_nil, List.append_toArray, List.cons_append, List.nil_append]); rfl) ?_; (refine (ih k1 (Nat.lt_succ_of_lt HK1.out) ((rd_T27 l0_7 x11_1).f0) ((rd_T27 l0_7 x11_1).f1.f0) ((rd_T27 l0_7 x11_1).f1.f1) ((rd_T27 l0_7 x11_1).f1.f2) ((rd_T27 l0_7 x11_1).f1.f3) ((rd_T27 l0_7 x11_1).f2) ((rd_T27 l0_7 x11_1).f3) _ _ ((rd_T27 l0_7 x11_1).f4) x1_1 t104 _ HR102_7.out HC102_7.out ?sb ?sk ?sc A8.out).mono ?_); (case sb => exact (below_set (below_set (below_set (below_set (below_set (below_set (below_set (below_set HB.out GE103.out) GE103.out) GE103.out) GE103.out) GE103.out) GE103.out) GE103.out) GE103.out)); (case sk => exact (blk_far (blk_far (blk_far (blk_far (blk_far (blk_far (blk_far (blk_far HK.out NB1.out _) NB1.out _) NB1.out _) NB1.out _) NB1.out _) NB1.out _) NB1.out _) NB1.out _)); (case sc => exact (blk_far (blk_far (blk_far (blk_far (blk_far (blk_far (blk_far (blk_far HC.out NB3.out _) NB3.out _) NB3.out _) NB3.out _) NB3.out _) NB3.out _) NB3.out _) NB3.out _)); rintro e w12 ⟨⟨v_, rfl⟩, hb, hk, hc⟩; refine ⟨_, rfl, ?_⟩; clear HB HK HC; have HB := A_ hb; have HK := A_ hk; have HC := A_ hc; clear hb hk hc))
            go_roundg k1
            case measure => have := HK1.out; omega
            case rel => exact ⟨(t104), (wrap64 (x11_1 + 1)), (by first | rfl | (simp; done) | (simp [*]; done)), H', ⟨by have := HK1.out; omega⟩, HK, HC, HB⟩
          · rw [if_neg c7] at H
            exact absurd H (by simp)
        · rw [if_neg c6] at H
          exact absurd H (by simp)
      · rw [if_neg c5] at H
        have c5b0 := decide_eq_false c5
        clear c5
        obtain rfl := Option.some.inj H
        go_wp2
        refine bodyPost_end (results_none rfl _ _ _) rfl ⟨⟨_, rfl⟩, HB.out, HK.out, HC.out⟩
set_option maxHeartbeats 8000000 in
set_option maxRecDepth 100000 in
theorem tree_Count.calls (k : Nat) (a0_0 a0_1 : Int) (a0_2 a0_3 a0_4 : ByteArray) (a0_5 a0_6 : Bool) (A0_7 : Option Addr) (c0_7 : Nat) (l0_7 : List (S27)) (r : Int) (w : World) (hr0_7 : Kd.C k27 w A0_7 l0_7.length l0_7) (hc0_7 : l0_7.length ≤ c0_7) (h : tree_Count.f k a0_0 a0_1 a0_2 a0_3 a0_4 a0_5 a0_6 l0_7 = some r) :
    Calls Tryz.prog 27 #[.agg #[.int .i64 a0_0, .int .i64 a0_1, .string a0_2, .string a0_3, .string a0_4, .bool a0_5, .bool a0_6, .slice A0_7 l0_7.length c0_7]] w fun e w' => e = .returned (.int .i64 r) ∧ Below w.heap.size w w' := by
  have hu27 := Tryz.underlying27
  have HR0_7 := A_ hr0_7
  have HC0_7 := A_ hc0_7
  have H' := A_ (show tree_Count_1.f k a0_0 a0_1 a0_2 a0_3 a0_4 a0_5 a0_6 l0_7 0 = some r from h)
  have HB := A_ (Below.refl w.heap.size w)
  clear hr0_7 hc0_7 h
  go_enter Tryz.func27, Tryz.ntmps27
  go_wp2_with (first | (refine gD 1 ?_; refine bxe_ 1 (n8_ a0_0 a0_1 a0_2 a0_3 a0_4 a0_5 a0_6 (.slice A0_7 l0_7.length c0_7)) 27 ?_; intro gn hg w1 hbox hb; replace HB := A_ (below_step HB.out hb); have HN := A_ hbox; clear hbox; clear hb hg) | (refine gD 3 ?_; refine bxe_ 3 #[.int .i64 0] 3 ?_; intro gq hg w2 hbox hb; have NE1 := A_ (Nat.ne_of_lt (Nat.lt_of_lt_of_le (blk_lt HN.out) (Nat.le_of_eq hg.symm)) : gn ≠ gq); have n0_ := A_ (below_step HB.out hb); have n1_ := A_ (blk_below HN.out hb); have GQ := A_ (Nat.le_trans HB.out.size (Nat.le_of_eq hg.symm) : w.heap.size ≤ gq); clear HB HN; have HB := n0_; have HN := n1_; clear n0_ n1_; have hq0 : w2.cell? ⟨gq, 0, none⟩ = some (.int .i64 0) := (blk_cell hbox 0).trans rfl; have hq1 := blk_frozen hbox 0; have HQ := A_ hbox; clear hbox; clear hb hg) | (refine gD 4 ?_; refine bxe_ 4 #[.nilFunc] 73 ?_; intro gf hg w3 hbox hb; have HQ2 := A_ (blk_put (cs' := #[.int .i64 0]) HQ.out 0 (.int .i64 0) rfl); have HN2 := A_ (blk_far HN.out NE1.out (p := ⟨gq, 0, none⟩) (.int .i64 0)); have HB2 := A_ (below_set (j := 0) (v := .int .i64 0) HB.out GQ.out); clear HQ HN HB hq0 hq1; have NE2 := A_ (Nat.ne_of_lt (Nat.lt_of_lt_of_le (blk_lt HN2.out) (Nat.le_of_eq hg.symm)) : gn ≠ gf); have NE3 := A_ (Nat.ne_of_lt (Nat.lt_of_lt_of_le (blk_lt HQ2.out) (Nat.le_of_eq hg.symm)) : gq ≠ gf); have HB := A_ (below_step HB2.out hb); have HN := A_ (blk_below HN2.out hb); have HQ := A_ (blk_below HQ2.out hb); have GF := A_ (Nat.le_trans HB2.out.size (Nat.le_of_eq hg.symm) : w.heap.size ≤ gf); clear HB2 HN2 HQ2; have hf0 : w3.cell? ⟨gf, 0, none⟩ = some .nilFunc := (blk_cell hbox 0).trans rfl; have hf1 := blk_frozen hbox 0; have hn0 : w3.cell? ⟨gn, 0, none⟩ = some (.int .i64 a0_0) := bq_ HN 0; have hm0 := blk_frozen HN.out 0; have hn1 : w3.cell? ⟨gn, 1, none⟩ = some (.int .i64 a0_1) := bq_ HN 1; have hm1 := blk_frozen HN.out 1; have hn2 : w3.cell? ⟨gn, 2, none⟩ = some (.string a0_2) := bq_ HN 2; have hm2 := blk_frozen HN.out 2; have hn3 : w3.cell? ⟨gn, 3, none⟩ = some (.string a0_3) := bq_ HN 3; have hm3 := blk_frozen HN.out 3; have hn4 : w3.cell? ⟨gn, 4, none⟩ = some (.string a0_4) := bq_ HN 4; have hm4 := blk_frozen HN.out 4; have hn5 : w3.cell? ⟨gn, 5, none⟩ = some (.bool a0_5) := bq_ HN 5; have hm5 := blk_frozen HN.out 5; have hn6 : w3.cell? ⟨gn, 6, none⟩ = some (.bool a0_6) := bq_ HN 6; have hm6 := blk_frozen HN.out 6; have hn7 : w3.cell? ⟨gn, 7, none⟩ = some (.slice A0_7 l0_7.length c0_7) := bq_ HN 7; have hm7 := blk_frozen HN.out 7; have e1 := NE2.out; have e2 := Ne.symm e1; have HF := A_ hbox; clear hbox; clear hb hg) | ((with_reducible refine gate_held rfl ?_); refine goesF_ (some 8) rfl rfl #[.pointer (some ⟨gq, 0, none⟩), .pointer (some ⟨gf, 0, none⟩)] Tryz.func43 (by kernel_rfl) rfl #[.agg #[.int .i64 a0_0, .int .i64 a0_1, .string a0_2, .string a0_3, .string a0_4, .bool a0_5, .bool a0_6, .slice A0_7 l0_7.length c0_7], .pointer (some ⟨gq, 0, none⟩), .pointer (some ⟨gf, 0, none⟩)] rfl rfl (by (simp only [List.map_toArray, List.map_cons, List.map_nil, List.append_toArray, List.cons_append, List.nil_append]); rfl) ?_; (refine (tree_Count_1.calls w gq gf GQ.out GF.out NE3.out k a0_0 a0_1 a0_2 a0_3 a0_4 a0_5 a0_6 _ _ l0_7 0 r _ HR0_7.out HC0_7.out (below_set HB.out GF.out) (blk_far HQ.out NE3.out _) (blk_put HF.out 0 _ rfl) H'.out).mono ?_); rintro e w5 ⟨⟨v_, rfl⟩, hb, hk, hc⟩; refine ⟨_, rfl, ?_⟩; have hk0 : w5.cell? ⟨gq, 0, none⟩ = some (.int .i64 r) := (blk_cell hk 0).trans rfl; have hk1 := blk_frozen hk 0; have HB5 := A_ hb; clear hb hk hc))
  go_ret
  exact ⟨rfl, HB5.out⟩
set_option maxHeartbeats 8000000 in
set_option maxRecDepth 100000 in
theorem tree_Deep_1.calls (w0 : World) (gq gf : Nat) (hgq : w0.heap.size ≤ gq) (hgf : w0.heap.size ≤ gf) (hne : gq ≠ gf) (k : Nat) : ∀ (a0_0 a0_1 : Int) (a0_2 a0_3 a0_4 : ByteArray) (a0_5 a0_6 : Bool) (A0_7 : Option Addr) (c0_7 : Nat) (l0_7 : List (S27)) (a1 a2 r : Int) (w : World) (hr0_7 : Kd.C k27 w0 A0_7 l0_7.length l0_7) (hc0_7 : l0_7.length ≤ c0_7)
    (hB : Below w0.heap.size w0 w) (hK : w.heap[gq]? = some (.cells #[.int .i64 a2] 3 (0, 0))) (hC : w.heap[gf]? = some (.cells #[.func (.func 44) #[] #[.pointer (some ⟨gq, 0, none⟩), .pointer (some ⟨gf, 0, none⟩)]] 74 (0, 0)))
    (h : tree_Deep_1.f k a0_0 a0_1 a0_2 a0_3 a0_4 a0_5 a0_6 l0_7 a1 a2 = some r),
    Calls Tryz.prog 44 #[.agg #[.int .i64 a0_0, .int .i64 a0_1, .string a0_2, .string a0_3, .string a0_4, .bool a0_5, .bool a0_6, .slice A0_7 l0_7.length c0_7], .int .i64 a1, .pointer (some ⟨gq, 0, none⟩), .pointer (some ⟨gf, 0, none⟩)] w fun e w' => (∃ v, e = .returned v) ∧ Below w0.heap.size w0 w' ∧ w'.heap[gq]? = some (.cells #[.int .i64 r] 3 (0, 0)) ∧ w'.heap[gf]? = some (.cells #[.func (.func 44) #[] #[.pointer (some ⟨gq, 0, none⟩), .pointer (some ⟨gf, 0, none⟩)]] 74 (0, 0)) := by
  induction k using Nat.strongRecOn with
  | _ k ih =>
  intro a0_0 a0_1 a0_2 a0_3 a0_4 a0_5 a0_6 A0_7 c0_7 l0_7 a1 a2 r w hr0_7 hc0_7 hB hK hC h
  cases k with
  | zero => exact absurd h (by simp [tree_Deep_1.f])
  | succ k =>
  simp only [tree_Deep_1.f] at h
  have hu27 := Tryz.underlying27
  have HR0_7 := A_ hr0_7
  have HC0_7 := A_ hc0_7
  clear hr0_7 hc0_7
  have HB := A_ hB
  have HK := A_ hK
  have HC := A_ hC
  have HGK := A_ hgq
  have HGC := A_ hgf
  have hne2 := Ne.symm hne
  clear hB hK hC hgq hgf
  have HC4 := A_ h
  clear h
  go_enter Tryz.func44, Tryz.ntmps44
  go_upto_if 10 with (first | (refine gD 4 ?_; refine bxe_ 4 (n8_ a0_0 a0_1 a0_2 a0_3 a0_4 a0_5 a0_6 (.slice A0_7 l0_7.length c0_7)) 27 ?_; intro gb105 hg w3 hbox hb; have n0_ := A_ (below_step HB.out hb); have n1_ := A_ (blk_below HK.out hb); have n2_ := A_ (blk_below HC.out hb); have NB1 := A_ (Nat.ne_of_lt (Nat.lt_of_lt_of_le (blk_lt HK.out) (Nat.le_of_eq hg.symm)) : gq ≠ gb105); clear HB HK HC; have HB := n0_; have HK := n1_; have HC := n2_; clear n0_ n1_ n2_; have BK105 := A_ hbox; have hcz4_0 : w3.cell? ⟨gb105, 0, none⟩ = some (.int .i64 a0_0) := (blk_cell hbox 0).trans rfl; have hfz4_0 := blk_frozen hbox 0; clear hb hbox hg))
  (try simp only [Act.put, List.setIfInBounds_toArray, List.set_cons_zero, List.set_cons_succ])
  go_cut [1] (fun v1 wc => ∃ (kq : Nat) (x1_3 : Int), v1 = .int .i64 x1_3 ∧ Aside0 (tree_Deep_1.j0 kq x1_3 a2 a0_0 a0_1 a0_2 a0_3 a0_4 a0_5 a0_6 l0_7 = some r) ∧ Aside0 (kq ≤ k) ∧ Aside0 (wc.heap[gb105]? = some (.cells (n8_ a0_0 a0_1 a0_2 a0_3 a0_4 a0_5 a0_6 (.slice A0_7 l0_7.length c0_7)) 27 (0, 0))) ∧ Aside0 (wc.heap[gq]? = some (.cells #[.int .i64 a2] 3 (0, 0))) ∧ Aside0 (wc.heap[gf]? = some (.cells #[.func (.func 44) #[] #[.pointer (some ⟨gq, 0, none⟩), .pointer (some ⟨gf, 0, none⟩)]] 74 (0, 0))) ∧ Aside0 (Below w0.heap.size w0 wc))
  case first =>
    have H := HC4.out
    clear HC4
    by_cases c7 : a0_0 = 2
    · rw [if_pos c7] at H
      have c7b0 : (a0_0 == 2) = true := beq_iff_eq.mpr c7
      have c7b1 : (a0_0 != 2) = false := bne_eq_false_iff_eq.mpr c7
      clear c7
      (first | rw [c7b0] | (simp only [i64_w, i32_w]; rw [c7b0]) | skip)
      have H' := A_ H
      clear H
      go_wp2
      go_meet
      case rel => exact ⟨_, (wrap64 (a1 + 1)), (by first | rfl | (simp; done) | (simp [*]; done)), H', ⟨by first | omega | exact Nat.le_refl _⟩, BK105, HK, HC, HB⟩
    · rw [if_neg c7] at H
      have c7b0 : (a0_0 == 2) = false := beq_eq_false_iff_ne.mpr c7
      have c7b1 : (a0_0 != 2) = true := bne_iff_ne.mpr c7
      (first | rw [c7b0] | (simp only [i64_w, i32_w]; rw [c7b0]) | skip)
      have H' := A_ H
      clear H
      go_wp2
      go_meet
      case rel => exact ⟨_, (a1), (by first | rfl | (simp; done) | (simp [*]; done)), H', ⟨by first | omega | exact Nat.le_refl _⟩, BK105, HK, HC, HB⟩
  case rest =>
    clear HC4 HB HK HC BK105
    obtain ⟨kq, x1_3, rfl, HA, HJ3, BK105, HK, HC, HB⟩ := hcut
    cases kq with
    | zero => exact absurd HA.out (by simp [tree_Deep_1.j0])
    | succ kj3 =>
      have H' := A_ (show (tree_Deep_1.l0 kj3 x1_3 (mx a2 x1_3) l0_7 (l0_7.length : Int) 0) = some r by have H := HA.out; simp only [tree_Deep_1.j0] at H; exact H)
      clear HA
      obtain ⟨ji8, hji8⟩ : ∃ j_ : Int, (mx a2 x1_3) = j_ := ⟨_, rfl⟩
      rw [hji8] at H'
      have hji8_ : (if a2 < x1_3 then x1_3 else a2) = ji8 := hji8
      have nb1 := NB1.out
      have nb2 := Ne.symm nb1
      have hkz : wc.cell? ⟨gq, 0, none⟩ = some (.int .i64 a2) := bq_ HK 0
      have hkf := blk_frozen HK.out 0
      have hbz : wc.cell? ⟨gb105, 7, none⟩ = some (.slice A0_7 l0_7.length c0_7) := bq_ BK105 7
      have hbf := blk_frozen BK105.out 7
      go_wp2
      go_loopg [19] kj3 (fun kq v19 w' => ∃ (x1_1 : Int) (x11_1 : Int), v19 = .int .i64 x11_1 ∧ Aside0 (tree_Deep_1.l0 kq x1_3 x1_1 l0_7 (l0_7.length : Int) x11_1 = some r) ∧ Aside0 (kq ≤ kj3) ∧ Aside0 (w'.heap[gq]? = some (.cells #[.int .i64 x1_1] 3 (0, 0))) ∧ Aside0 (w'.heap[gf]? = some (.cells #[.func (.func 44) #[] #[.pointer (some ⟨gq, 0, none⟩), .pointer (some ⟨gf, 0, none⟩)]] 74 (0, 0))) ∧ Aside0 (Below w0.heap.size w0 w'))
      case atStart => exact ⟨ji8, 0, (by first | rfl | (simp; done) | (simp [*]; done)), H', ⟨Nat.le_refl _⟩, ⟨blk_put HK.out 0 _ rfl⟩, ⟨blk_far HC.out hne2 _⟩, ⟨below_set HB.out HGK.out⟩⟩
      case round =>
        clear H' HB HK HC hkz hkf hbz hbf nb1 nb2 NB1 BK105
        obtain ⟨x1_1, x11_1, rfl, HA, HK1, HK, HC, HB⟩ := hrel
        cases gk with
        | zero => exact absurd HA.out (by simp [tree_Deep_1.l0])
        | succ k1 =>
          have H := HA.out
          clear HA
          simp only [tree_Deep_1.l0] at H
          by_cases c5 : x11_1 < (l0_7.length : Int)
          · rw [if_pos c5] at H
            have c5b0 := decide_eq_true c5
            clear c5
            by_cases c6 : 0 ≤ x11_1
            · rw [if_pos c6] at H
              have c6b0 := decide_eq_true c6
              clear c6
              by_cases c7 : x11_1 < (l0_7.length : Int)
              · rw [if_pos c7] at H
                have c7b0 := decide_eq_true c7
                clear c7
                replace H := Option.bind_eq_some_iff.mp H
                obtain ⟨t104, A80, H⟩ := H
                have A8 := A_ A80
                clear A80
                have H' := A_ (show (tree_Deep_1.l0 k1 x1_3 t104 l0_7 (l0_7.length : Int) (wrap64 (x11_1 + 1))) = some r from H)
                clear H
                have p102 : 0 ≤ (x11_1 : Int) := of_decide_eq_true (by first | (with_reducible assumption) | assumption)
                have q102 : x11_1 < (l0_7.length : Int) := of_decide_eq_true (by first | (with_reducible assumption) | assumption)
                obtain ⟨ad102, A102_7, c102_7, e102, hx102_0, hx102_1, hx102_2, hx102_3, hx102_4, hx102_5, hx102_6, hx102_7, hl102_7, hi102_7⟩ := at_T27 HR0_7.out x11_1 p102 q102
                cases e102
                replace hx102_0 := cl_ HB hx102_0
                replace hx102_1 := cl_ HB hx102_1
                replace hx102_2 := cl_ HB hx102_2
                replace hx102_3 := cl_ HB hx102_3
                replace hx102_4 := cl_ HB hx102_4
                replace hx102_5 := cl_ HB hx102_5
                replace hx102_6 := cl_ HB hx102_6
                replace hx102_7 := cl_ HB hx102_7
                have HR102_7 := A_ hi102_7
                have HC102_7 := A_ hl102_7
                clear hi102_7 hl102_7
                replace p102 := eq_true p102
                replace q102 := eq_true q102
                have HLT := A_ (show k1 < k + 1 from Nat.lt_succ_of_lt (Nat.lt_of_lt_of_le (Nat.lt_of_lt_of_le (Nat.lt_succ_self k1) HK1.out) (Nat.le_trans (Nat.le_succ _) HJ3.out)))
                go_wp2_with (first | (refine gD 7 ?_; refine bxe_ 7 z8_ 27 ?_; intro gb103 hg w9 hbox hb; have n0_ := A_ (below_step HB.out hb); have n1_ := A_ (blk_below HK.out hb); have n2_ := A_ (blk_below HC.out hb); have NB1 := A_ (Nat.ne_of_lt (Nat.lt_of_lt_of_le (blk_lt HK.out) (Nat.le_of_eq hg.symm)) : gq ≠ gb103); have NB3 := A_ (Nat.ne_of_lt (Nat.lt_of_lt_of_le (blk_lt HC.out) (Nat.le_of_eq hg.symm)) : gf ≠ gb103); have GE103 := A_ (Nat.le_trans HB.out.size (Nat.le_of_eq hg.symm) : w0.heap.size ≤ gb103); clear HB HK HC; have HB := n0_; have HK := n1_; have HC := n2_; clear n0_ n1_ n2_; have nb1 := NB1.out; have nb2 := Ne.symm nb1; have nb3 := NB3.out; have nb4 := Ne.symm nb3; have hcz11_0 : w9.cell? ⟨gb103, 0, none⟩ = some (.int .i64 0) := (blk_cell hbox 0).trans rfl; have hfz11_0 := blk_frozen hbox 0; have hcz11_1 : w9.cell? ⟨gb103, 1, none⟩ = some (.int .i64 0) := (blk_cell hbox 1).trans rfl; have hfz11_1 := blk_frozen hbox 1; have hcz11_2 : w9.cell? ⟨gb103, 2, none⟩ = some (.string ⟨#[]⟩) := (blk_cell hbox 2).trans rfl; have hfz11_2 := blk_frozen hbox 2; have hcz11_3 : w9.cell? ⟨gb103, 3, none⟩ = some (.string ⟨#[]⟩) := (blk_cell hbox 3).trans rfl; have hfz11_3 := blk_frozen hbox 3; have hcz11_4 : w9.cell? ⟨gb103, 4, none⟩ = some (.string ⟨#[]⟩) := (blk_cell hbox 4).trans rfl; have hfz11_4 := blk_frozen hbox 4; have hcz11_5 : w9.cell? ⟨gb103, 5, none⟩ = some (.bool false) := (blk_cell hbox 5).trans rfl; have hfz11_5 := blk_frozen hbox 5; have hcz11_6 : w9.cell? ⟨gb103, 6, none⟩ = some (.bool false) := (blk_cell hbox 6).trans rfl; have hfz11_6 := blk_frozen hbox 6; have hcz11_7 : w9.cell? ⟨gb103, 7, none⟩ = some (.slice none 0 0) := (blk_cell hbox 7).trans rfl; have hfz11_7 := blk_frozen hbox 7; have hcf : w9.cell? ⟨gf, 0, none⟩ = some (.func (.func 44) #[] #[.pointer (some ⟨gq, 0, none⟩), .pointer (some ⟨gf, 0, none⟩)]) := bq_ HC 0; have hff := blk_frozen HC.out 0; clear hb hbox hg) | ((with_reducible refine gate_held rfl ?_); refine goesF_ (some 26) rfl rfl #[.pointer (some ⟨gq, 0, none⟩), .pointer (some ⟨gf, 0, none⟩)] Tryz.func44 (by kernel_rfl) rfl #[.agg #[.int .i64 ((rd_T27 l0_7 x11_1).f0), .int .i64 ((rd_T27 l0_7 x11_1).f1.f0), .string ((rd_T27 l0_7 x11_1).f1.f1), .string ((rd_T27 l0_7 x11_1).f1.f2), .string ((rd_T27 l0_7 x11_1).f1.f3), .bool ((rd_T27 l0_7 x11_1).f2), .bool ((rd_T27 l0_7 x11_1).f3), .slice A102_7 ((rd_T27 l0_7 x11_1).f4).length c102_7], .int .i64 x1_3, .pointer (some ⟨gq, 0, none⟩), .pointer (some ⟨gf, 0, none⟩)] rfl rfl (by (simp only [List.map_toArray, List.map_cons, List.map_nil, List.append_toArray, List.cons_append, List.nil_append]); rfl) ?_; (refine (ih k1 HLT.out ((rd_T27 l0_7 x11_1).f0) ((rd_T27 l0_7 x11_1).f1.f0) ((rd_T27 l0_7 x11_1).f1.f1) ((rd_T27 l0_7 x11_1).f1.f2) ((rd_T27 l0_7 x11_1).f1.f3) ((rd_T27 l0_7 x11_1).f2) ((rd_T27 l0_7 x11_1).f3) _ _ ((rd_T27 l0_7 x11_1).f4) x1_3 x1_1 t104 _ HR102_7.out HC102_7.out (below_set (below_set (below_set (below_set (below_set (below_set (below_set (below_set HB.out GE103.out) GE103.out) GE103.out) GE103.out) GE103.out) GE103.out) GE103.out) GE103.out) (blk_far (blk_far (blk_far (blk_far (blk_far (blk_far (blk_far (blk_far HK.out NB1.out _) NB1.out _) NB1.out _) NB1.out _) NB1.out _) NB1.out _) NB1.out _) NB1.out _) (blk_far (blk_far (blk_far (blk_far (blk_far (blk_far (blk_far (blk_far HC.out NB3.out _) NB3.out _) NB3.out _) NB3.out _) NB3.out _) NB3.out _) NB3.out _) NB3.out _) A8.out).mono ?_); rintro e w12 ⟨⟨v_, rfl⟩, hb, hk, hc⟩; refine ⟨_, rfl, ?_⟩; clear HB HK HC; have HB := A_ hb; have HK := A_ hk; have HC := A_ hc; clear hb hk hc))
                go_roundg k1
                case measure => have := HK1.out; omega
                case rel => exact ⟨(t104), (wrap64 (x11_1 + 1)), (by first | rfl | (simp; done) | (simp [*]; done)), H', ⟨by have := HK1.out; omega⟩, HK, HC, HB⟩
              · rw [if_neg c7] at H
                exact absurd H (by simp)
            · rw [if_neg c6] at H
              exact absurd H (by simp)
          · rw [if_neg c5] at H
            have c5b0 := decide_eq_false c5
            clear c5
            obtain rfl := Option.some.inj H
            go_wp2
            refine bodyPost_end (results_none rfl _ _ _) rfl ⟨⟨_, rfl⟩, HB.out, HK.out, HC.out⟩
set_option maxHeartbeats 8000000 in
set_option maxRecDepth 100000 in
theorem tree_Deep.calls (k : Nat) (a0_0 a0_1 : Int) (a0_2 a0_3 a0_4 : ByteArray) (a0_5 a0_6 : Bool) (A0_7 : Option Addr) (c0_7 : Nat) (l0_7 : List (S27)) (r : Int) (w : World) (hr0_7 : Kd.C k27 w A0_7 l0_7.length l0_7) (hc0_7 : l0_7.length ≤ c0_7) (h : tree_Deep.f k a0_0 a0_1 a0_2 a0_3 a0_4 a0_5 a0_6 l0_7 = some r) :
    Calls Tryz.prog 28 #[.agg #[.int .i64 a0_0, .int .i64 a0_1, .string a0_2, .string a0_3, .string a0_4, .bool a0_5, .bool a0_6, .slice A0_7 l0_7.length c0_7]] w fun e w' => e = .returned (.int .i64 r) ∧ Below w.heap.size w w' := by
  have hu27 := Tryz.underlying27
  have HR0_7 := A_ hr0_7
  have HC0_7 := A_ hc0_7
  have H' := A_ (show tree_Deep_1.f k a0_0 a0_1 a0_2 a0_3 a0_4 a0_5 a0_6 l0_7 0 0 = some r from h)
  have HB := A_ (Below.refl w.heap.size w)
  clear hr0_7 hc0_7 h
  go_enter Tryz.func28, Tryz.ntmps28
  go_wp2_with (first | (refine gD 1 ?_; refine bxe_ 1 (n8_ a0_0 a0_1 a0_2 a0_3 a0_4 a0_5 a0_6 (.slice A0_7 l0_7.length c0_7)) 27 ?_; intro gn hg w1 hbox hb; replace HB := A_ (below_step HB.out hb); have HN := A_ hbox; clear hbox; clear hb hg) | (refine gD 3 ?_; refine bxe_ 3 #[.int .i64 0] 3 ?_; intro gq hg w2 hbox hb; have NE1 := A_ (Nat.ne_of_lt (Nat.lt_of_lt_of_le (blk_lt HN.out) (Nat.le_of_eq hg.symm)) : gn ≠ gq); have n0_ := A_ (below_step HB.out hb); have n1_ := A_ (blk_below HN.out hb); have GQ := A_ (Nat.le_trans HB.out.size (Nat.le_of_eq hg.symm) : w.heap.size ≤ gq); clear HB HN; have HB := n0_; have HN := n1_; clear n0_ n1_; have hq0 : w2.cell? ⟨gq, 0, none⟩ = some (.int .i64 0) := (blk_cell hbox 0).trans rfl; have hq1 := blk_frozen hbox 0; have HQ := A_ hbox; clear hbox; clear hb hg) | (refine gD 4 ?_; refine bxe_ 4 #[.nilFunc] 74 ?_; intro gf hg w3 hbox hb; have HQ2 := A_ (blk_put (cs' := #[.int .i64 0]) HQ.out 0 (.int .i64 0) rfl); have HN2 := A_ (blk_far HN.out NE1.out (p := ⟨gq, 0, none⟩) (.int .i64 0)); have HB2 := A_ (below_set (j := 0) (v := .int .i64 0) HB.out GQ.out); clear HQ HN HB hq0 hq1; have NE2 := A_ (Nat.ne_of_lt (Nat.lt_of_lt_of_le (blk_lt HN2.out) (Nat.le_of_eq hg.symm)) : gn ≠ gf); have NE3 := A_ (Nat.ne_of_lt (Nat.lt_of_lt_of_le (blk_lt HQ2.out) (Nat.le_of_eq hg.symm)) : gq ≠ gf); have HB := A_ (below_step HB2.out hb); have HN := A_ (blk_below HN2.out hb); have HQ := A_ (blk_below HQ2.out hb); have GF := A_ (Nat.le_trans HB2.out.size (Nat.le_of_eq hg.symm) : w.heap.size ≤ gf); clear HB2 HN2 HQ2; have hf0 : w3.cell? ⟨gf, 0, none⟩ = some .nilFunc := (blk_cell hbox 0).trans rfl; have hf1 := blk_frozen hbox 0; have hn0 : w3.cell? ⟨gn, 0, none⟩ = some (.int .i64 a0_0) := bq_ HN 0; have hm0 := blk_frozen HN.out 0; have hn1 : w3.cell? ⟨gn, 1, none⟩ = some (.int .i64 a0_1) := bq_ HN 1; have hm1 := blk_frozen HN.out 1; have hn2 : w3.cell? ⟨gn, 2, none⟩ = some (.string a0_2) := bq_ HN 2; have hm2 := blk_frozen HN.out 2; have hn3 : w3.cell? ⟨gn, 3, none⟩ = some (.string a0_3) := bq_ HN 3; have hm3 := blk_frozen HN.out 3; have hn4 : w3.cell? ⟨gn, 4, none⟩ = some (.string a0_4) := bq_ HN 4; have hm4 := blk_frozen HN.out 4; have hn5 : w3.cell? ⟨gn, 5, none⟩ = some (.bool a0_5) := bq_ HN 5; have hm5 := blk_frozen HN.out 5; have hn6 : w3.cell? ⟨gn, 6, none⟩ = some (.bool a0_6) := bq_ HN 6; have hm6 := blk_frozen HN.out 6; have hn7 : w3.cell? ⟨gn, 7, none⟩ = some (.slice A0_7 l0_7.length c0_7) := bq_ HN 7; have hm7 := blk_frozen HN.out 7; have e1 := NE2.out; have e2 := Ne.symm e1; have HF := A_ hbox; clear hbox; clear hb hg) | ((with_reducible refine gate_held rfl ?_); refine goesF_ (some 8) rfl rfl #[.pointer (some ⟨gq, 0, none⟩), .pointer (some ⟨gf, 0, none⟩)] Tryz.func44 (by kernel_rfl) rfl #[.agg #[.int .i64 a0_0, .int .i64 a0_1, .string a0_2, .string a0_3, .string a0_4, .bool a0_5, .bool a0_6, .slice A0_7 l0_7.length c0_7], .int .i64 0, .pointer (some ⟨gq, 0, none⟩), .pointer (some ⟨gf, 0, none⟩)] rfl rfl (by (simp only [List.map_toArray, List.map_cons, List.map_nil, List.append_toArray, List.cons_append, List.nil_append]); rfl) ?_; (refine (tree_Deep_1.calls w gq gf GQ.out GF.out NE3.out k a0_0 a0_1 a0_2 a0_3 a0_4 a0_5 a0_6 _ _ l0_7 0 0 r _ HR0_7.out HC0_7.out (below_set HB.out GF.out) (blk_far HQ.out NE3.out _) (blk_put HF.out 0 _ rfl) H'.out).mono ?_); rintro e w5 ⟨⟨v_, rfl⟩, hb, hk, hc⟩; refine ⟨_, rfl, ?_⟩; have hk0 : w5.cell? ⟨gq, 0, none⟩ = some (.int .i64 r) := (blk_cell hk 0).trans rfl; have hk1 := blk_frozen hk 0; have HB5 := A_ hb; clear hb hk hc))
  go_ret
  exact ⟨rfl, HB5.out⟩
end Go.Proofs.YtjgjhekpiijniaaGreat.A
namespace Go.Proofs.YtjgjhekpiijniaaGreat.A
open Go.RowKit Go.Proofs.YtjgjhekpiijniaaGreatW.PrintWords Go.Proofs.YtjgjhekpiijniaaGreatW.PrintLast Go.Proofs.YtjgjhekpiijniaaGreatW.PrintMore
attribute [local go_sem] max2_int min2_int max_two min_two max_three min_three max_four min_four
attribute [local go_sem] isSome_setCell
set_option maxHeartbeats 8000000 in
set_option maxRecDepth 100000 in
theorem tree_Sane.calls (k : Nat) (a0_0 a0_1 : Int) (a0_2 a0_3 a0_4 : ByteArray) (a0_5 a0_6 : Bool) (A0_7 : Option Addr) (c0_7 : Nat) (l0_7 : List (S27)) (r : Bool) (w : World) (hr0_7 : Kd.C k27 w A0_7 l0_7.length l0_7) (hc0_7 : l0_7.length ≤ c0_7) (h : tree_Sane.f k a0_0 a0_1 a0_2 a0_3 a0_4 a0_5 a0_6 l0_7 = some r) :
  Calls Tryz.prog 12 #[.agg #[.int .i64 a0_0, .int .i64 a0_1, .string a0_2, .string a0_3, .string a0_4, .bool a0_5, .bool a0_6, .slice A0_7 l0_7.length c0_7]] w fun e w' => e = .returned (.bool r) ∧ Below w.heap.size w w' := by
 have hu27 := Tryz.underlying27; have HR0_7 := A_ hr0_7; have HC0_7 := A_ hc0_7; clear hr0_7 hc0_7; have HB := A_ (Below.refl w.heap.size w); have H : ((tree_Count.f k a0_0 a0_1 a0_2 a0_3 a0_4 a0_5 a0_6 l0_7).bind fun t157 => (if t157 ≤ 64 then ((tree_Deep.f k a0_0 a0_1 a0_2 a0_3 a0_4 a0_5 a0_6 l0_7).bind fun t158 => (if t158 ≤ 8 then ((tree_right.f k a0_0 a0_1 a0_2 a0_3 a0_4 a0_5 a0_6 l0_7).bind fun t159 => (some t159)) else (some false))) else (some false))) = some r := h; clear h; obtain ⟨t157, A2, H⟩ := bi_ H
 by_cases c3 : t157 ≤ 64
 ·rw [if_pos c3] at H
  have c3b0 := decide_eq_true c3; clear c3; obtain ⟨t158, A4, H⟩ := bi_ H
  by_cases c5 : t158 ≤ 8
  ·rw [if_pos c5] at H
   have c5b0 := decide_eq_true c5; clear c5; obtain ⟨t159, A6, H⟩ := bi_ H; obtain rfl := Option.some.inj H; go_enter Tryz.func12, Tryz.ntmps12; go_wp2_with (first | (refine gx_ w 1 (n8_ a0_0 a0_1 a0_2 a0_3 a0_4 a0_5 a0_6 (.slice A0_7 l0_7.length c0_7)) 27 ?_; clear HB; intro gb156 w7 BK156 GE156 HB; have GW156 := GE156; have Z8 := bz8_ BK156) | (refine gC 27 ?_; refine gL 4 Tryz.func27 #[.agg (n8_ a0_0 a0_1 a0_2 a0_3 a0_4 a0_5 a0_6 (.slice A0_7 l0_7.length c0_7))] ?_; (with_reducible refine (tree_Count.calls k a0_0 a0_1 a0_2 a0_3 a0_4 a0_5 a0_6 _ _ l0_7 t157 _ ?side1 ?side2 A2.out).mono ?_); (case side1 => exact cb_ HR0_7); (case side2 => exact HC0_7.out); rintro e w9 ⟨rfl, hb⟩; refine ⟨_, rfl, ?_⟩; replace BK156 := bb_ BK156 hb; replace HB := bs_ hb; (try clear hb); have Z10 := bz8_ BK156) | (go_at_call 28; (with_reducible refine (tree_Deep.calls k a0_0 a0_1 a0_2 a0_3 a0_4 a0_5 a0_6 _ _ l0_7 t158 _ ?side1 ?side2 A4.out).mono ?_); (case side1 => exact cb_ HR0_7); (case side2 => exact HC0_7.out); rintro e w11 ⟨rfl, hb⟩; replace BK156 := bb_ BK156 hb; replace HB := bs_ hb; (try clear hb); have Z12 := bz8_ BK156) | (go_at_call 29; (with_reducible refine (tree_right.calls k a0_0 a0_1 a0_2 a0_3 a0_4 a0_5 a0_6 _ _ l0_7 t159 _ ?side1 ?side2 A6.out).mono ?_); (case side1 => exact cb_ HR0_7); (case side2 => exact HC0_7.out); rintro e w13 ⟨rfl, hb⟩; replace BK156 := bb_ BK156 hb; replace HB := bs_ hb; (try clear hb)))
   go_ret; exact ⟨re_, hs_⟩
  ·rw [if_neg c5] at H
   have c5b0 := decide_eq_false c5; clear c5; obtain rfl := Option.some.inj H; go_enter Tryz.func12, Tryz.ntmps12; go_wp2_with (first | (refine gx_ w 1 (n8_ a0_0 a0_1 a0_2 a0_3 a0_4 a0_5 a0_6 (.slice A0_7 l0_7.length c0_7)) 27 ?_; clear HB; intro gb156 w14 BK156 GE156 HB; have GW156 := GE156; have Z15 := bz8_ BK156) | (refine gC 27 ?_; refine gL 4 Tryz.func27 #[.agg (n8_ a0_0 a0_1 a0_2 a0_3 a0_4 a0_5 a0_6 (.slice A0_7 l0_7.length c0_7))] ?_; (with_reducible refine (tree_Count.calls k a0_0 a0_1 a0_2 a0_3 a0_4 a0_5 a0_6 _ _ l0_7 t157 _ ?side1 ?side2 A2.out).mono ?_); (case side1 => exact cb_ HR0_7); (case side2 => exact HC0_7.out); rintro e w16 ⟨rfl, hb⟩; refine ⟨_, rfl, ?_⟩; replace BK156 := bb_ BK156 hb; replace HB := bs_ hb; (try clear hb); have Z17 := bz8_ BK156) | (go_at_call 28; (with_reducible refine (tree_Deep.calls k a0_0 a0_1 a0_2 a0_3 a0_4 a0_5 a0_6 _ _ l0_7 t158 _ ?side1 ?side2 A4.out).mono ?_); (case side1 => exact cb_ HR0_7); (case side2 => exact HC0_7.out); rintro e w18 ⟨rfl, hb⟩; replace BK156 := bb_ BK156 hb; replace HB := bs_ hb; (try clear hb)))
   go_ret; exact ⟨re_, hs_⟩
 ·rw [if_neg c3] at H
  have c3b0 := decide_eq_false c3; clear c3; obtain rfl := Option.some.inj H; go_enter Tryz.func12, Tryz.ntmps12; go_wp2_with (first | (refine gx_ w 1 (n8_ a0_0 a0_1 a0_2 a0_3 a0_4 a0_5 a0_6 (.slice A0_7 l0_7.length c0_7)) 27 ?_; clear HB; intro gb156 w19 BK156 GE156 HB; have GW156 := GE156; have Z20 := bz8_ BK156) | (refine gC 27 ?_; refine gL 4 Tryz.func27 #[.agg (n8_ a0_0 a0_1 a0_2 a0_3 a0_4 a0_5 a0_6 (.slice A0_7 l0_7.length c0_7))] ?_; (with_reducible refine (tree_Count.calls k a0_0 a0_1 a0_2 a0_3 a0_4 a0_5 a0_6 _ _ l0_7 t157 _ ?side1 ?side2 A2.out).mono ?_); (case side1 => exact cb_ HR0_7); (case side2 => exact HC0_7.out); rintro e w21 ⟨rfl, hb⟩; refine ⟨_, rfl, ?_⟩; replace BK156 := bb_ BK156 hb; replace HB := bs_ hb; (try clear hb))); go_ret; exact ⟨re_, hs_⟩
set_option maxHeartbeats 8000000 in
set_option maxRecDepth 100000 in
theorem point_Text.calls (k : Nat) (a0_0 : Int) (a0_1 a0_2 a0_3 r : ByteArray) (w : World) (h : point_Text.f k a0_0 a0_1 a0_2 a0_3 = some r) :
  Calls Tryz.prog 51 #[.agg #[.int .i64 a0_0, .string a0_1, .string a0_2, .string a0_3]] w fun e w' => e = .returned (.string r) ∧ Below w.heap.size w w' := by
 have hu24 := Tryz.underlying24; have HB := A_ (Below.refl w.heap.size w); have H : ((point_Sane.f k a0_0 a0_1 a0_2 a0_3).bind fun t188 => (if t188 = true then (if a0_0 = 0 then (if 1 + a0_3.size ≤ 9223372036854775807 then (if 1 + a0_2.size ≤ 9223372036854775807 then (if ((⟨#[45]⟩ : ByteArray) ++ a0_2).size + ((⟨#[45]⟩ : ByteArray) ++ a0_3).size ≤ 9223372036854775807 then (if a0_1.size + (((⟨#[45]⟩ : ByteArray) ++ a0_2) ++ ((⟨#[45]⟩ : ByteArray) ++ a0_3)).size ≤ 9223372036854775807 then (some (a0_1 ++ (((⟨#[45]⟩ : ByteArray) ++ a0_2) ++ ((⟨#[45]⟩ : ByteArray) ++ a0_3)))) else (none)) else (none)) else (none)) else (none)) else (if a0_0 = 1 then (if 1 + a0_2.size ≤ 9223372036854775807 then (if ((⟨#[45]⟩ : ByteArray) ++ a0_2).size + 0 ≤ 9223372036854775807 then (if a0_1.size + (((⟨#[45]⟩ : ByteArray) ++ a0_2) ++ (⟨#[]⟩ : ByteArray)).size ≤ 9223372036854775807 then (some (a0_1 ++ (((⟨#[45]⟩ : ByteArray) ++ a0_2) ++ (⟨#[]⟩ : ByteArray)))) else (none)) else (none)) else (none)) else (if a0_0 = 2 then (if 1 + a0_2.size ≤ 9223372036854775807 then (if a0_1.size + ((⟨#[115]⟩ : ByteArray) ++ a0_2).size ≤ 9223372036854775807 then (some (a0_1 ++ ((⟨#[115]⟩ : ByteArray) ++ a0_2))) else (none)) else (none)) else (if a0_0 = 4 then (if a0_1.size + 1 ≤ 9223372036854775807 then (some (a0_1 ++ (⟨#[100]⟩ : ByteArray))) else (none)) else (if a0_0 = 5 then (if a0_1.size + 1 ≤ 9223372036854775807 then (some (a0_1 ++ (⟨#[99]⟩ : ByteArray))) else (none)) else (if a0_1.size + 0 ≤ 9223372036854775807 then (some (a0_1 ++ (⟨#[]⟩ : ByteArray))) else (none))))))) else (some (⟨#[]⟩ : ByteArray)))) = some r := h; clear h; obtain ⟨t188, A2, H⟩ := bi_ H
 by_cases c3 : t188 = true
 ·subst c3
  replace H := iP_ H
  by_cases c4 : a0_0 = 0
  ·rw [if_pos c4] at H
   have c4b0 : (a0_0 == 0) = true := beq_iff_eq.mpr c4; have c4b1 : (a0_0 != 0) = false := bne_eq_false_iff_eq.mpr c4; clear c4
   by_cases c5 : 1 + a0_3.size ≤ 9223372036854775807
   ·rw [if_pos c5] at H
    have c5b0 := eq_true c5; have c5b1 := decide_eq_true c5; (try have c5b2 : (9223372036854775807 < 1 + a0_3.size) = False := eq_false (Nat.not_lt.2 c5))
    by_cases c6 : 1 + a0_2.size ≤ 9223372036854775807
    ·rw [if_pos c6] at H
     have c6b0 := eq_true c6; have c6b1 := decide_eq_true c6; (try have c6b2 : (9223372036854775807 < 1 + a0_2.size) = False := eq_false (Nat.not_lt.2 c6))
     by_cases c7 : ((⟨#[45]⟩ : ByteArray) ++ a0_2).size + ((⟨#[45]⟩ : ByteArray) ++ a0_3).size ≤ 9223372036854775807
     ·rw [if_pos c7] at H
      have c7b0 := eq_true c7; have c7b1 := decide_eq_true c7; (try have c7b2 : (9223372036854775807 < ((⟨#[45]⟩ : ByteArray) ++ a0_2).size + ((⟨#[45]⟩ : ByteArray) ++ a0_3).size) = False := eq_false (Nat.not_lt.2 c7)); (try have c7b3 : (9223372036854775807 < 1 + a0_2.size + (1 + a0_3.size)) = False := eq_false (Nat.not_lt.2 (by have h_ := c7; simp only [ByteArray.size_append] at h_; exact h_)))
      by_cases c8 : a0_1.size + (((⟨#[45]⟩ : ByteArray) ++ a0_2) ++ ((⟨#[45]⟩ : ByteArray) ++ a0_3)).size ≤ 9223372036854775807
      ·rw [if_pos c8] at H
       have c8b0 := eq_true c8; have c8b1 := decide_eq_true c8; (try have c8b2 : (9223372036854775807 < a0_1.size + (((⟨#[45]⟩ : ByteArray) ++ a0_2) ++ ((⟨#[45]⟩ : ByteArray) ++ a0_3)).size) = False := eq_false (Nat.not_lt.2 c8)); (try have c8b3 : (9223372036854775807 < a0_1.size + (1 + a0_2.size + (1 + a0_3.size))) = False := eq_false (Nat.not_lt.2 (by have h_ := c8; simp only [ByteArray.size_append] at h_; exact h_))); obtain rfl := Option.some.inj H; go_enter Tryz.func51, Tryz.ntmps51; go_wp2_with (first | (refine gx_ w 1 (n4_ a0_0 a0_1 a0_2 a0_3) 24 ?_; clear HB; intro gb187 w9 BK187 GE187 HB; have GW187 := GE187; have Z10 := bz4_ BK187) | (refine gC 64 ?_; refine gL 5 Tryz.func64 #[.agg (n4_ a0_0 a0_1 a0_2 a0_3)] ?_; (with_reducible refine (point_Sane.calls k a0_0 a0_1 a0_2 a0_3 true _ A2.out).mono ?_); rintro e w11 ⟨rfl, hb⟩; refine ⟨_, rfl, ?_⟩; replace BK187 := bb_ BK187 hb; replace HB := bs_ hb; (try clear hb); have Z12 := bz4_ BK187)); go_ret; exact ⟨re_, hs_⟩
      ·rw [if_neg c8] at H
       exact absurd H (by simp)
     ·rw [if_neg c7] at H
      exact absurd H (by simp)
    ·rw [if_neg c6] at H
     exact absurd H (by simp)
   ·rw [if_neg c5] at H
    exact absurd H (by simp)
  ·rw [if_neg c4] at H
   have c4b0 : (a0_0 == 0) = false := beq_eq_false_iff_ne.mpr c4; have c4b1 : (a0_0 != 0) = true := bne_iff_ne.mpr c4
   by_cases c13 : a0_0 = 1
   ·rw [if_pos c13] at H
    have c13b0 : (a0_0 == 1) = true := beq_iff_eq.mpr c13; have c13b1 : (a0_0 != 1) = false := bne_eq_false_iff_eq.mpr c13; clear c13
    by_cases c14 : 1 + a0_2.size ≤ 9223372036854775807
    ·rw [if_pos c14] at H
     have c14b0 := eq_true c14; have c14b1 := decide_eq_true c14; (try have c14b2 : (9223372036854775807 < 1 + a0_2.size) = False := eq_false (Nat.not_lt.2 c14))
     by_cases c15 : ((⟨#[45]⟩ : ByteArray) ++ a0_2).size + 0 ≤ 9223372036854775807
     ·rw [if_pos c15] at H
      have c15b0 := eq_true c15; have c15b1 := decide_eq_true c15; (try have c15b2 : (9223372036854775807 < ((⟨#[45]⟩ : ByteArray) ++ a0_2).size + 0) = False := eq_false (Nat.not_lt.2 c15)); (try have c15b3 : (9223372036854775807 < 1 + a0_2.size + 0) = False := eq_false (Nat.not_lt.2 (by have h_ := c15; simp only [ByteArray.size_append] at h_; exact h_)))
      by_cases c16 : a0_1.size + (((⟨#[45]⟩ : ByteArray) ++ a0_2) ++ (⟨#[]⟩ : ByteArray)).size ≤ 9223372036854775807
      ·rw [if_pos c16] at H
       have c16b0 := eq_true c16; have c16b1 := decide_eq_true c16; (try have c16b2 : (9223372036854775807 < a0_1.size + (((⟨#[45]⟩ : ByteArray) ++ a0_2) ++ (⟨#[]⟩ : ByteArray)).size) = False := eq_false (Nat.not_lt.2 c16)); (try have c16b3 : (9223372036854775807 < a0_1.size + (1 + a0_2.size + 0)) = False := eq_false (Nat.not_lt.2 (by have h_ := c16; simp only [ByteArray.size_append] at h_; exact h_))); obtain rfl := Option.some.inj H; go_enter Tryz.func51, Tryz.ntmps51; go_wp2_with (first | (refine gx_ w 1 (n4_ a0_0 a0_1 a0_2 a0_3) 24 ?_; clear HB; intro gb187 w17 BK187 GE187 HB; have GW187 := GE187; have Z18 := bz4_ BK187) | (refine gC 64 ?_; refine gL 5 Tryz.func64 #[.agg (n4_ a0_0 a0_1 a0_2 a0_3)] ?_; (with_reducible refine (point_Sane.calls k a0_0 a0_1 a0_2 a0_3 true _ A2.out).mono ?_); rintro e w19 ⟨rfl, hb⟩; refine ⟨_, rfl, ?_⟩; replace BK187 := bb_ BK187 hb; replace HB := bs_ hb; (try clear hb); have Z20 := bz4_ BK187)); go_ret; exact ⟨re_, hs_⟩
      ·rw [if_neg c16] at H
       exact absurd H (by simp)
     ·rw [if_neg c15] at H
      exact absurd H (by simp)
    ·rw [if_neg c14] at H
     exact absurd H (by simp)
   ·rw [if_neg c13] at H
    have c13b0 : (a0_0 == 1) = false := beq_eq_false_iff_ne.mpr c13; have c13b1 : (a0_0 != 1) = true := bne_iff_ne.mpr c13
    by_cases c21 : a0_0 = 2
    ·rw [if_pos c21] at H
     have c21b0 : (a0_0 == 2) = true := beq_iff_eq.mpr c21; have c21b1 : (a0_0 != 2) = false := bne_eq_false_iff_eq.mpr c21; clear c21
     by_cases c22 : 1 + a0_2.size ≤ 9223372036854775807
     ·rw [if_pos c22] at H
      have c22b0 := eq_true c22; have c22b1 := decide_eq_true c22; (try have c22b2 : (9223372036854775807 < 1 + a0_2.size) = False := eq_false (Nat.not_lt.2 c22))
      by_cases c23 : a0_1.size + ((⟨#[115]⟩ : ByteArray) ++ a0_2).size ≤ 9223372036854775807
      ·rw [if_pos c23] at H
       have c23b0 := eq_true c23; have c23b1 := decide_eq_true c23; (try have c23b2 : (9223372036854775807 < a0_1.size + ((⟨#[115]⟩ : ByteArray) ++ a0_2).size) = False := eq_false (Nat.not_lt.2 c23)); (try have c23b3 : (9223372036854775807 < a0_1.size + (1 + a0_2.size)) = False := eq_false (Nat.not_lt.2 (by have h_ := c23; simp only [ByteArray.size_append] at h_; exact h_))); obtain rfl := Option.some.inj H; go_enter Tryz.func51, Tryz.ntmps51; go_wp2_with (first | (refine gx_ w 1 (n4_ a0_0 a0_1 a0_2 a0_3) 24 ?_; clear HB; intro gb187 w24 BK187 GE187 HB; have GW187 := GE187; have Z25 := bz4_ BK187) | (refine gC 64 ?_; refine gL 5 Tryz.func64 #[.agg (n4_ a0_0 a0_1 a0_2 a0_3)] ?_; (with_reducible refine (point_Sane.calls k a0_0 a0_1 a0_2 a0_3 true _ A2.out).mono ?_); rintro e w26 ⟨rfl, hb⟩; refine ⟨_, rfl, ?_⟩; replace BK187 := bb_ BK187 hb; replace HB := bs_ hb; (try clear hb); have Z27 := bz4_ BK187)); go_ret; exact ⟨re_, hs_⟩
      ·rw [if_neg c23] at H
       exact absurd H (by simp)
     ·rw [if_neg c22] at H
      exact absurd H (by simp)
    ·rw [if_neg c21] at H
     have c21b0 : (a0_0 == 2) = false := beq_eq_false_iff_ne.mpr c21; have c21b1 : (a0_0 != 2) = true := bne_iff_ne.mpr c21
     by_cases c28 : a0_0 = 4
     ·rw [if_pos c28] at H
      have c28b0 : (a0_0 == 4) = true := beq_iff_eq.mpr c28; have c28b1 : (a0_0 != 4) = false := bne_eq_false_iff_eq.mpr c28; clear c28
      by_cases c29 : a0_1.size + 1 ≤ 9223372036854775807
      ·rw [if_pos c29] at H
       have c29b0 := eq_true c29; have c29b1 := decide_eq_true c29; (try have c29b2 : (9223372036854775807 < a0_1.size + 1) = False := eq_false (Nat.not_lt.2 c29)); obtain rfl := Option.some.inj H; go_enter Tryz.func51, Tryz.ntmps51; go_wp2_with (first | (refine gx_ w 1 (n4_ a0_0 a0_1 a0_2 a0_3) 24 ?_; clear HB; intro gb187 w30 BK187 GE187 HB; have GW187 := GE187; have Z31 := bz4_ BK187) | (refine gC 64 ?_; refine gL 5 Tryz.func64 #[.agg (n4_ a0_0 a0_1 a0_2 a0_3)] ?_; (with_reducible refine (point_Sane.calls k a0_0 a0_1 a0_2 a0_3 true _ A2.out).mono ?_); rintro e w32 ⟨rfl, hb⟩; refine ⟨_, rfl, ?_⟩; replace BK187 := bb_ BK187 hb; replace HB := bs_ hb; (try clear hb); have Z33 := bz4_ BK187)); go_ret; exact ⟨re_, hs_⟩
      ·rw [if_neg c29] at H
       exact absurd H (by simp)
     ·rw [if_neg c28] at H
      have c28b0 : (a0_0 == 4) = false := beq_eq_false_iff_ne.mpr c28; have c28b1 : (a0_0 != 4) = true := bne_iff_ne.mpr c28
      by_cases c34 : a0_0 = 5
      ·rw [if_pos c34] at H
       have c34b0 : (a0_0 == 5) = true := beq_iff_eq.mpr c34; have c34b1 : (a0_0 != 5) = false := bne_eq_false_iff_eq.mpr c34; clear c34
       by_cases c35 : a0_1.size + 1 ≤ 9223372036854775807
       ·rw [if_pos c35] at H
        have c35b0 := eq_true c35; have c35b1 := decide_eq_true c35; (try have c35b2 : (9223372036854775807 < a0_1.size + 1) = False := eq_false (Nat.not_lt.2 c35)); obtain rfl := Option.some.inj H; go_enter Tryz.func51, Tryz.ntmps51; go_wp2_with (first | (refine gx_ w 1 (n4_ a0_0 a0_1 a0_2 a0_3) 24 ?_; clear HB; intro gb187 w36 BK187 GE187 HB; have GW187 := GE187; have Z37 := bz4_ BK187) | (refine gC 64 ?_; refine gL 5 Tryz.func64 #[.agg (n4_ a0_0 a0_1 a0_2 a0_3)] ?_; (with_reducible refine (point_Sane.calls k a0_0 a0_1 a0_2 a0_3 true _ A2.out).mono ?_); rintro e w38 ⟨rfl, hb⟩; refine ⟨_, rfl, ?_⟩; replace BK187 := bb_ BK187 hb; replace HB := bs_ hb; (try clear hb); have Z39 := bz4_ BK187)); go_ret; exact ⟨re_, hs_⟩
       ·rw [if_neg c35] at H
        exact absurd H (by simp)
      ·rw [if_neg c34] at H
       have c34b0 : (a0_0 == 5) = false := beq_eq_false_iff_ne.mpr c34; have c34b1 : (a0_0 != 5) = true := bne_iff_ne.mpr c34
       by_cases c40 : a0_1.size + 0 ≤ 9223372036854775807
       ·rw [if_pos c40] at H
        have c40b0 := eq_true c40; have c40b1 := decide_eq_true c40; (try have c40b2 : (9223372036854775807 < a0_1.size + 0) = False := eq_false (Nat.not_lt.2 c40)); obtain rfl := Option.some.inj H; go_enter Tryz.func51, Tryz.ntmps51; go_wp2_with (first | (refine gx_ w 1 (n4_ a0_0 a0_1 a0_2 a0_3) 24 ?_; clear HB; intro gb187 w41 BK187 GE187 HB; have GW187 := GE187; have Z42 := bz4_ BK187) | (refine gC 64 ?_; refine gL 5 Tryz.func64 #[.agg (n4_ a0_0 a0_1 a0_2 a0_3)] ?_; (with_reducible refine (point_Sane.calls k a0_0 a0_1 a0_2 a0_3 true _ A2.out).mono ?_); rintro e w43 ⟨rfl, hb⟩; refine ⟨_, rfl, ?_⟩; replace BK187 := bb_ BK187 hb; replace HB := bs_ hb; (try clear hb); have Z44 := bz4_ BK187)); go_ret; exact ⟨re_, hs_⟩
       ·rw [if_neg c40] at H
        exact absurd H (by simp)
 ·replace c3 := Bool.eq_false_iff.mpr c3
  subst c3; replace H := iN_ H; obtain rfl := Option.some.inj H; go_enter Tryz.func51, Tryz.ntmps51; go_wp2_with (first | (refine gx_ w 1 (n4_ a0_0 a0_1 a0_2 a0_3) 24 ?_; clear HB; intro gb187 w45 BK187 GE187 HB; have GW187 := GE187; have Z46 := bz4_ BK187) | (refine gC 64 ?_; refine gL 5 Tryz.func64 #[.agg (n4_ a0_0 a0_1 a0_2 a0_3)] ?_; (with_reducible refine (point_Sane.calls k a0_0 a0_1 a0_2 a0_3 false _ A2.out).mono ?_); rintro e w47 ⟨rfl, hb⟩; refine ⟨_, rfl, ?_⟩; replace BK187 := bb_ BK187 hb; replace HB := bs_ hb; (try clear hb))); go_ret; exact ⟨re_, hs_⟩
theorem spot_none {w : World} {a : Addr} {v : Value} (h : w.cell? a = some v) : a = ⟨a.block, a.off, none⟩ := by
  obtain ⟨b, o, s⟩ := a
  cases s with
  | none => rfl
  | some s =>
    exfalso
    unfold World.cell? at h
    simp only at h
    split at h
    · simp at h
    · simp at h
theorem strings_Join.calls (A0 : Option Addr) (c0 : Nat) (l0 : List ByteArray) (a1 r : ByteArray) (w : World) (hr0 : Kd.C Kd.string w A0 l0.length l0) (hc0 : l0.length ≤ c0) (h : strings_Join.f l0 a1 = some r) :
    Calls Tryz.prog 50 #[.slice A0 l0.length c0, .string a1] w fun e w' => e = .returned (.string r) ∧ Below w.heap.size w w' := by
  unfold strings_Join.f at h
  by_cases c1 : l0.length ≤ 140737488355328
  · rw [if_pos c1] at h
    by_cases c2 : (Lib.join (l0.map (·.data.toList)) a1.data.toList).length ≤ 140737488355328
    · rw [if_pos c2] at h
      obtain rfl := Option.some.inj h
      by_cases c3 : l0 = []
      · subst c3
        refine (Tryz.strings_Join_none A0 c0 a1 w).mono fun e w' ⟨he, hw⟩ => ⟨?_, hw ▸ Below.refl _ _⟩
        rw [he]; rfl
      · have hp : 0 < l0.length := List.length_pos_iff.2 c3
        obtain ⟨ad, rfl, h0⟩ := Kd.at_string hr0 0 (by omega) (by omega)
        have hs : ad = ⟨ad.block, ad.off, none⟩ := spot_none h0
        have hcells : ∀ (j : Nat) x, l0[j]? = some x → w.cell? ⟨ad.block, ad.off + j, none⟩ = some (.string x) := fun j x hj => by
          have hlt := (List.getElem?_eq_some_iff.1 hj).1
          obtain ⟨ad', e', h1⟩ := Kd.at_string hr0 (j : Int) (by omega) (by omega)
          obtain rfl := Option.some.inj e'
          have hg : rdOf ByteArray.empty l0 (j : Int) = x := by
            unfold rdOf
            rw [List.getD_eq_getElem?_getD, Int.toNat_natCast, hj]; rfl
          rw [hg, Int.toNat_natCast] at h1
          rw [hs] at h1
          unfold Addr.add at h1
          by_cases hj0 : j = 0
          · subst hj0
            simpa using h1
          · simpa [hj0] using h1
        have hb : ad.block < w.heap.size := World.block_lt_of_cell? w _ h0
        have := Tryz.strings_Join ad.block ad.off c0 l0 a1 w hcells hb c1 hc0 c2
        rw [← hs] at this
        exact this
    · rw [if_neg c2] at h; cases h
  · rw [if_neg c1] at h; cases h
set_option maxHeartbeats 8000000 in
set_option maxRecDepth 100000 in
theorem print_join.calls (A0 : Option Addr) (c0 : Nat) (l0 : List ByteArray) (r : ByteArray) (w : World) (hr0 : Kd.C Kd.string w A0 l0.length l0) (hc0 : l0.length ≤ c0) (h : print_join.f l0 = some r) :
  Calls Tryz.prog 49 #[.slice A0 l0.length c0] w fun e w' => e = .returned (.string r) ∧ Below w.heap.size w w' := by
 have HR0 := A_ hr0; have HC0 := A_ hc0; clear hr0 hc0; have HB := A_ (Below.refl w.heap.size w); have H : ((strings_Join.f l0 (⟨#[]⟩ : ByteArray)).bind fun t189 => (some t189)) = some r := h; clear h; obtain ⟨t189, A2, H⟩ := bi_ H; obtain rfl := Option.some.inj H; go_enter Tryz.func49, Tryz.ntmps49; go_wp2_with (first | (refine gC 50 ?_; refine gL 4 Tryz.func50 #[.slice A0 l0.length c0, .string ⟨#[]⟩] ?_; (with_reducible refine (strings_Join.calls _ _ l0 (⟨#[]⟩ : ByteArray) t189 _ ?side1 ?side2 A2.out).mono ?_); (case side1 => exact cr_ HR0.out); (case side2 => exact HC0.out); rintro e w3 ⟨rfl, hb⟩; refine ⟨_, rfl, ?_⟩; replace HB := bs_ hb; (try clear hb))); go_ret; exact ⟨re_, hs_⟩
set_option maxHeartbeats 8000000 in
set_option maxRecDepth 100000 in
theorem print_mark.calls (a0 : Bool) (a1 r : ByteArray) (w : World) (h : print_mark.f a0 a1 = some r) :
  Calls Tryz.prog 52 #[.bool a0, .string a1] w fun e w' => e = .returned (.string r) ∧ Drawn0 w w' := by
 have H : (if a0 = true then (some a1) else (some (⟨#[]⟩ : ByteArray))) = some r := h; clear h
 by_cases c3 : a0 = true
 ·subst c3
  replace H := iP_ H; obtain rfl := Option.some.inj H; go_enter Tryz.func52, Tryz.ntmps52; go_wp2; go_ret; exact ⟨by first | rfl | (simp; done) | (simp [*]; done), by repeat (first | exact Drawn0.refl _ | apply Drawn0.step)⟩
 ·replace c3 := Bool.eq_false_iff.mpr c3
  subst c3; replace H := iN_ H; obtain rfl := Option.some.inj H; go_enter Tryz.func52, Tryz.ntmps52; go_wp2; go_ret; exact ⟨by first | rfl | (simp; done) | (simp [*]; done), by repeat (first | exact Drawn0.refl _ | apply Drawn0.step)⟩
theorem info9_printtext : (Tryz.prog.info? 9).map (fun i => (i.zero, i.size, i.bytes)) = some (some (.string ⟨#[]⟩), 1, 16) := by kernel_rfl
def print_text.T3 : Bool × List (List Nat × List Nat) := (true, [([], []), ([0], [0]), ([1], [1]), ([2], [2]), ([3], [3]), ([], []), ([5], [5]), ([6], [6]), ([7], [7]), ([8, 4], [8]), ([4, 9], [4, 9]), ([10, 9], [10]), ([11, 11, 0, 1, 2, 3, 4, 5, 6, 7, 8, 9, 10, 11], [11])])
def print_text.B3 : List Nat := [0, 1, 3, 7, 15, 0, 32, 96, 224, 511, 1023, 2047, 4095]
theorem print_text.tab3 : rtab .any (opsOf Tryz.f30 3) = print_text.T3 := by kernel_rfl
theorem print_text.bits3 : waitsOk print_text.T3.2 print_text.B3 = true := by kernel_rfl
def print_text.T16 : Bool × List (List Nat × List Nat) := (true, [([], []), ([0], [0]), ([1], [1]), ([], []), ([3], [3]), ([4, 2], [4]), ([], []), ([6], [6]), ([7, 5], [7]), ([2, 5, 8], [2, 5, 8]), ([9, 8], [9]), ([10, 10, 0, 1, 2, 3, 4, 5, 6, 7, 8, 9, 10], [10])])
def print_text.B16 : List Nat := [0, 1, 3, 0, 8, 31, 0, 64, 255, 511, 1023, 2047]
theorem print_text.tab16 : rtab .any (opsOf Tryz.f30 16) = print_text.T16 := by kernel_rfl
theorem print_text.bits16 : waitsOk print_text.T16.2 print_text.B16 = true := by kernel_rfl
set_option maxHeartbeats 8000000 in
set_option maxRecDepth 100000 in
theorem print_text.calls (k : Nat) : ∀ (a0_0 a0_1 : Int) (a0_2 a0_3 a0_4 : ByteArray) (a0_5 a0_6 : Bool) (A0_7 : Option Addr) (c0_7 : Nat) (l0_7 : List (S27)) (r : ByteArray) (w : World) (hr0_7 : Kd.C k27 w A0_7 l0_7.length l0_7) (hc0_7 : l0_7.length ≤ c0_7) (h : print_text.f k a0_0 a0_1 a0_2 a0_3 a0_4 a0_5 a0_6 l0_7 = some r),
  Calls Tryz.prog 30 #[.agg #[.int .i64 a0_0, .int .i64 a0_1, .string a0_2, .string a0_3, .string a0_4, .bool a0_5, .bool a0_6, .slice A0_7 l0_7.length c0_7]] w fun e w' => e = .returned (.string r) ∧ Below w.heap.size w w' := by
 induction k using Nat.strongRecOn with
 | _ k ih =>
 intro a0_0 a0_1 a0_2 a0_3 a0_4 a0_5 a0_6 A0_7 c0_7 l0_7 r w hr0_7 hc0_7 h
 cases k with
 | zero => exact absurd h (by simp [print_text.f])
 | succ k =>
 simp only [print_text.f] at h; have hu27 := Tryz.underlying27; have hu24 := Tryz.underlying24; have HR0_7 := A_ hr0_7; have HC0_7 := A_ hc0_7; clear hr0_7 hc0_7; have HB := A_ (Below.refl w.heap.size w); have H : (if a0_0 = 1 then (if 0 < (l0_7.length : Int) then ((print_text.f k ((rd_T27 l0_7 0).f0) ((rd_T27 l0_7 0).f1.f0) ((rd_T27 l0_7 0).f1.f1) ((rd_T27 l0_7 0).f1.f2) ((rd_T27 l0_7 0).f1.f3) ((rd_T27 l0_7 0).f2) ((rd_T27 l0_7 0).f3) ((rd_T27 l0_7 0).f4)).bind fun t192 => (if 1 < (l0_7.length : Int) then ((print_text.f k ((rd_T27 l0_7 1).f0) ((rd_T27 l0_7 1).f1.f0) ((rd_T27 l0_7 1).f1.f1) ((rd_T27 l0_7 1).f1.f2) ((rd_T27 l0_7 1).f1.f3) ((rd_T27 l0_7 1).f2) ((rd_T27 l0_7 1).f3) ((rd_T27 l0_7 1).f4)).bind fun t194 => ((print_join.f (([t192, (⟨#[47]⟩ : ByteArray), t194] : List ByteArray))).bind fun t198 => (some t198))) else (none))) else (none)) else (if a0_0 = 2 then (print_text.l0 k ([] : List ByteArray) l0_7 (l0_7.length : Int) 0) else (if a0_0 = 3 then (some (⟨#[46, 46]⟩ : ByteArray)) else (if a0_0 = 4 then (some (⟨#[42]⟩ : ByteArray)) else ((point_Text.f k a0_1 a0_2 a0_3 a0_4).bind fun t210 => ((print_mark.f a0_5 (⟨#[63]⟩ : ByteArray)).bind fun t211 => ((print_mark.f a0_6 (⟨#[126]⟩ : ByteArray)).bind fun t212 => ((print_join.f (([t210, t211, t212] : List ByteArray))).bind fun t216 => (some t216))))))))) = some r := h; clear h
 by_cases c2 : a0_0 = 1
 ·rw [if_pos c2] at H
  have c2b0 : (a0_0 == 1) = true := beq_iff_eq.mpr c2; have c2b1 : (a0_0 != 1) = false := bne_eq_false_iff_eq.mpr c2; clear c2
  by_cases c3 : 0 < (l0_7.length : Int)
  ·rw [if_pos c3] at H
   have c3b0 := decide_eq_true c3; have c3b1 : decide (0 < l0_7.length) = true := decide_eq_true (by omega); clear c3; obtain ⟨t192, A4, H⟩ := bi_ H
   by_cases c5 : 1 < (l0_7.length : Int)
   ·rw [if_pos c5] at H
    have c5b0 := decide_eq_true c5; have c5b1 : decide (1 < l0_7.length) = true := decide_eq_true (by omega); clear c5; obtain ⟨t194, A6, H⟩ := bi_ H; obtain ⟨y195, hy195⟩ : ∃ y_ : List ByteArray, y_ = (([t192, (⟨#[47]⟩ : ByteArray), t194] : List ByteArray)) := ⟨_, rfl⟩; (replace H : ((print_join.f y195).bind fun t198 => (some t198)) = some r := hy_ hy195 H); have Ny195 := A_ hy195; clear hy195; obtain ⟨t198, A7, H⟩ := bi_ H; obtain rfl := Option.some.inj H; go_enter Tryz.func30, Tryz.ntmps30; (try go_wp2_with (first | (refine gx_ w 1 (n8_ a0_0 a0_1 a0_2 a0_3 a0_4 a0_5 a0_6 (.slice A0_7 l0_7.length c0_7)) 27 ?_; clear HB; intro gb190 w8 BK190 GE190 HB; have GW190 := GE190; have Z9 := bz8_ BK190))); replace BK190 := A_ (blk_drew BK190.out); replace HB := A_ (below_drew1 HB.out); have p191 : 0 ≤ (0 : Int) := (by omega); have q191 : 0 < (l0_7.length : Int) := od_; obtain ⟨ad191, A191_7, c191_7, e191, hx191_0, hx191_1, hx191_2, hx191_3, hx191_4, hx191_5, hx191_6, hx191_7, hl191_7, hi191_7⟩ := at_T27 HR0_7.out 0 p191 q191; have hw191_7 := ai_ hx191_7; have hw191_6 := ai_ hx191_6; have hw191_5 := ai_ hx191_5; have hw191_4 := ai_ hx191_4
    have hw191_3 := ai_ hx191_3; have hw191_2 := ai_ hx191_2; have hw191_1 := ai_ hx191_1; have hw191_0 := ai_ hx191_0
    cases e191
    have qi191 : (0 < l0_7.length) = True := eq_true (by omega); replace hx191_0 := ai_ hx191_0; replace hx191_1 := ai_ hx191_1; replace hx191_2 := ai_ hx191_2; replace hx191_3 := ai_ hx191_3; replace hx191_4 := ai_ hx191_4; replace hx191_5 := ai_ hx191_5; replace hx191_6 := ai_ hx191_6; replace hx191_7 := ai_ hx191_7; replace hx191_0 := cl_ HB hx191_0; replace hx191_1 := cl_ HB hx191_1; replace hx191_2 := cl_ HB hx191_2; replace hx191_3 := cl_ HB hx191_3; replace hx191_4 := cl_ HB hx191_4; replace hx191_5 := cl_ HB hx191_5; replace hx191_6 := cl_ HB hx191_6; replace hx191_7 := cl_ HB hx191_7; have HR191_7 := A_ hi191_7; have HC191_7 := A_ hl191_7; clear hi191_7 hl191_7; replace p191 := eq_true p191; replace q191 := eq_true q191; have p193 : 0 ≤ (1 : Int) := (by omega); have q193 : 1 < (l0_7.length : Int) := od_; obtain ⟨ad193, A193_7, c193_7, e193, hx193_0, hx193_1, hx193_2, hx193_3, hx193_4, hx193_5, hx193_6, hx193_7, hl193_7, hi193_7⟩ := at_T27 HR0_7.out 1 p193 q193; have hw193_7 := aj_ hx193_7; have hw193_6 := aj_ hx193_6; have hw193_5 := aj_ hx193_5; have hw193_4 := aj_ hx193_4; have hw193_3 := aj_ hx193_3; have hw193_2 := aj_ hx193_2; have hw193_1 := aj_ hx193_1; have hw193_0 := aj_ hx193_0
    obtain rfl : ad191 = ad193 := (by injection e193); replace hx193_0 := aj_ hx193_0; replace hx193_1 := aj_ hx193_1; replace hx193_2 := aj_ hx193_2; replace hx193_3 := aj_ hx193_3; replace hx193_4 := aj_ hx193_4; replace hx193_5 := aj_ hx193_5; replace hx193_6 := aj_ hx193_6; replace hx193_7 := aj_ hx193_7; have qi193 : (1 < l0_7.length) = True := eq_true (by omega); (try rw [show ((1 : Int)).toNat = 1 from rfl] at hx193_0); (try rw [show 1 * 8 = 8 from rfl] at hx193_0); (try rw [show ((1 : Int)).toNat = 1 from rfl] at hx193_1); (try rw [show 1 * 8 = 8 from rfl] at hx193_1); (try rw [show ((1 : Int)).toNat = 1 from rfl] at hx193_2); (try rw [show 1 * 8 = 8 from rfl] at hx193_2); (try rw [show ((1 : Int)).toNat = 1 from rfl] at hx193_3); (try rw [show 1 * 8 = 8 from rfl] at hx193_3); (try rw [show ((1 : Int)).toNat = 1 from rfl] at hx193_4); (try rw [show 1 * 8 = 8 from rfl] at hx193_4); (try rw [show ((1 : Int)).toNat = 1 from rfl] at hx193_5); (try rw [show 1 * 8 = 8 from rfl] at hx193_5); (try rw [show ((1 : Int)).toNat = 1 from rfl] at hx193_6); (try rw [show 1 * 8 = 8 from rfl] at hx193_6); (try rw [show ((1 : Int)).toNat = 1 from rfl] at hx193_7); (try rw [show 1 * 8 = 8 from rfl] at hx193_7); replace hx193_0 := cl_ HB hx193_0; replace hx193_1 := cl_ HB hx193_1; replace hx193_2 := cl_ HB hx193_2; replace hx193_3 := cl_ HB hx193_3; replace hx193_4 := cl_ HB hx193_4; replace hx193_5 := cl_ HB hx193_5; replace hx193_6 := cl_ HB hx193_6; replace hx193_7 := cl_ HB hx193_7; have HR193_7 := A_ hi193_7; have HC193_7 := A_ hl193_7; clear hi193_7 hl193_7; replace p193 := eq_true p193; replace q193 := eq_true q193; refine start_ (n := 13) (S := fun w' => K8 w' gb190 (.int .i64 a0_0) (.int .i64 a0_1) (.string a0_2) (.string a0_3) (.string a0_4) (.bool a0_5) (.bool a0_6) (.slice (some ad191) l0_7.length c0_7) (w'.cell? ad191 = some (.int .i64 ((rd_T27 l0_7 0).f0)) ∧ w'.cell? ⟨ad191.block, ad191.off + 1, none⟩ = some (.int .i64 ((rd_T27 l0_7 0).f1.f0)) ∧ w'.cell? ⟨ad191.block, ad191.off + 2, none⟩ = some (.string ((rd_T27 l0_7 0).f1.f1)) ∧ w'.cell? ⟨ad191.block, ad191.off + 3, none⟩ = some (.string ((rd_T27 l0_7 0).f1.f2)) ∧ w'.cell? ⟨ad191.block, ad191.off + 4, none⟩ = some (.string ((rd_T27 l0_7 0).f1.f3)) ∧ w'.cell? ⟨ad191.block, ad191.off + 5, none⟩ = some (.bool ((rd_T27 l0_7 0).f2)) ∧ w'.cell? ⟨ad191.block, ad191.off + 6, none⟩ = some (.bool ((rd_T27 l0_7 0).f3)) ∧ w'.cell? ⟨ad191.block, ad191.off + 7, none⟩ = some (.slice A191_7 ((rd_T27 l0_7 0).f4).length c191_7) ∧ w'.cell? ⟨ad191.block, ad191.off + 8, none⟩ = some (.int .i64 ((rd_T27 l0_7 1).f0)) ∧ w'.cell? ⟨ad191.block, ad191.off + 8 + 1, none⟩ = some (.int .i64 ((rd_T27 l0_7 1).f1.f0)) ∧ w'.cell? ⟨ad191.block, ad191.off + 8 + 2, none⟩ = some (.string ((rd_T27 l0_7 1).f1.f1)) ∧ w'.cell? ⟨ad191.block, ad191.off + 8 + 3, none⟩ = some (.string ((rd_T27 l0_7 1).f1.f2)) ∧ w'.cell? ⟨ad191.block, ad191.off + 8 + 4, none⟩ = some (.string ((rd_T27 l0_7 1).f1.f3)) ∧ w'.cell? ⟨ad191.block, ad191.off + 8 + 5, none⟩ = some (.bool ((rd_T27 l0_7 1).f2)) ∧ w'.cell? ⟨ad191.block, ad191.off + 8 + 6, none⟩ = some (.bool ((rd_T27 l0_7 1).f3)) ∧ w'.cell? ⟨ad191.block, ad191.off + 8 + 7, none⟩ = some (.slice A193_7 ((rd_T27 l0_7 1).f4).length c193_7))) (ds := []) (ab 13 0) (by kernel_rfl) rfl rfl (kq8_ BK190 (⟨(cl_ HB hw191_0), (cl_ HB hw191_1), (cl_ HB hw191_2), (cl_ HB hw191_3), (cl_ HB hw191_4), (cl_ HB hw191_5), (cl_ HB hw191_6), (cl_ HB hw191_7), (cl_ HB hw193_0), (cl_ HB hw193_1), (cl_ HB hw193_2), (cl_ HB hw193_3), (cl_ HB hw193_4), (cl_ HB hw193_5), (cl_ HB hw193_6), (cl_ HB hw193_7)⟩)) (fun hHeld => ?_); refine with_tabW print_text.tab3 print_text.bits3 (fun HT_ HW_ => ?_)
    generalize w8.drew = w10 at BK190 HB HR191_7 HR193_7 hx191_0 hx191_1 hx191_2 hx191_3 hx191_4 hx191_5 hx191_6 hx191_7 hx193_0 hx193_1 hx193_2 hx193_3 hx193_4 hx193_5 hx193_6 hx193_7 hHeld ⊢; refine pA 0 10 13 1 ?_; refine pA 5 15 13 33 ?_; refine tB 1 11 13 35 ?_; refine pA 2 12 13 39 ?_; refine tB 3 13 13 47 ?_; refine tB 6 16 13 111 ?_; refine pA 7 17 13 239 ?_; refine tB 8 18 13 495 ?_; refine oA 4 (some 14) 13 511 fun K hK => ?_; refine gS Tryz.func30 #[.agg #[.int .i64 ((rd_T27 l0_7 0).f0), .int .i64 ((rd_T27 l0_7 0).f1.f0), .string ((rd_T27 l0_7 0).f1.f1), .string ((rd_T27 l0_7 0).f1.f2), .string ((rd_T27 l0_7 0).f1.f3), .bool ((rd_T27 l0_7 0).f2), .bool ((rd_T27 l0_7 0).f3), .slice A191_7 ((rd_T27 l0_7 0).f4).length c191_7]] ?_; (with_reducible refine (ih k (by omega) ((rd_T27 l0_7 0).f0) ((rd_T27 l0_7 0).f1.f0) ((rd_T27 l0_7 0).f1.f1) ((rd_T27 l0_7 0).f1.f2) ((rd_T27 l0_7 0).f1.f3) ((rd_T27 l0_7 0).f2) ((rd_T27 l0_7 0).f3) _ _ ((rd_T27 l0_7 0).f4) t192 _ ?side1 ?side2 A4.out).mono ?_)
    (case side1 => exact cb_ HR191_7)
    (case side2 => exact HC191_7.out)
    rintro e w11 ⟨rfl, hb⟩; refine ⟨_, rfl, ?_⟩; replace BK190 := bb_ BK190 hb; replace HB := bs_ hb; (try clear hb); refine hK.out _ _ (kq8_ BK190 (⟨(cl_ HB hw191_0), (cl_ HB hw191_1), (cl_ HB hw191_2), (cl_ HB hw191_3), (cl_ HB hw191_4), (cl_ HB hw191_5), (cl_ HB hw191_6), (cl_ HB hw191_7), (cl_ HB hw193_0), (cl_ HB hw193_1), (cl_ HB hw193_2), (cl_ HB hw193_3), (cl_ HB hw193_4), (cl_ HB hw193_5), (cl_ HB hw193_6), (cl_ HB hw193_7)⟩)) (fun hHeld => ?_); clear hK K; refine nA ?_; refine oA 9 (some 19) 13 1023 fun K hK => ?_; refine gS Tryz.func30 #[.agg #[.int .i64 ((rd_T27 l0_7 1).f0), .int .i64 ((rd_T27 l0_7 1).f1.f0), .string ((rd_T27 l0_7 1).f1.f1), .string ((rd_T27 l0_7 1).f1.f2), .string ((rd_T27 l0_7 1).f1.f3), .bool ((rd_T27 l0_7 1).f2), .bool ((rd_T27 l0_7 1).f3), .slice A193_7 ((rd_T27 l0_7 1).f4).length c193_7]] ?_; (with_reducible refine (ih k (by omega) ((rd_T27 l0_7 1).f0) ((rd_T27 l0_7 1).f1.f0) ((rd_T27 l0_7 1).f1.f1) ((rd_T27 l0_7 1).f1.f2) ((rd_T27 l0_7 1).f1.f3) ((rd_T27 l0_7 1).f2) ((rd_T27 l0_7 1).f3) _ _ ((rd_T27 l0_7 1).f4) t194 _ ?side1 ?side2 A6.out).mono ?_)
    (case side1 => exact cb_ HR193_7)
    (case side2 => exact HC193_7.out)
    rintro e w12 ⟨rfl, hb⟩; refine ⟨_, rfl, ?_⟩; replace BK190 := bb_ BK190 hb; replace HB := bs_ hb; (try clear hb); refine hK.out _ _ (kq8_ BK190 (⟨(cl_ HB hw191_0), (cl_ HB hw191_1), (cl_ HB hw191_2), (cl_ HB hw191_3), (cl_ HB hw191_4), (cl_ HB hw191_5), (cl_ HB hw191_6), (cl_ HB hw191_7), (cl_ HB hw193_0), (cl_ HB hw193_1), (cl_ HB hw193_2), (cl_ HB hw193_3), (cl_ HB hw193_4), (cl_ HB hw193_5), (cl_ HB hw193_6), (cl_ HB hw193_7)⟩)) (fun hHeld => ?_); clear hK K; refine nA ?_; refine oA 10 (some 20) 13 2047 fun K hK => ?_; refine Kd.R_lit_step Kd.string _ 9 ?hg (N := 20) ?hd (xs := ([t192, (⟨#[47]⟩ : ByteArray), t194] : List ByteArray)) (inner := [.string t192, .string ⟨#[47]⟩, .string t194]) (ok := fun _ => True) (okp := fun _ => True) ?hr ?hp (fun _ hk => hk) trivial (Below.refl _ _) (Nat.le_refl _) (by simp) ?_; (case hd => rfl); (case hg => rfl); (case hr => first | (go_simp; done) | (go_simp; rfl)); (case hp => exact (Reps.one (show Kd.M Kd.string _ _ _ t192 [.string t192] from rfl) (Reps.one (show Kd.M Kd.string _ _ _ (⟨#[47]⟩ : ByteArray) [.string ⟨#[47]⟩] from rfl) (Reps.one (show Kd.M Kd.string _ _ _ t194 [.string t194] from rfl) (Reps.none _ _))))); intro v196 w13 ho14 hb hg_ hnew_; clear hg_ hnew_; (first | rw [← Ny195.out] at ho14 | (simp only [Int.reduceToNat] at ho14; rw [← Ny195.out] at ho14)); have HO197 := A_ (Kd.R_lower ho14 (below_size hs_)); replace BK190 := bb_ BK190 hb; replace HB := bs_ hb; clear hb ho14; obtain ⟨Ao15, co15, eo15⟩ := Kd.R_slice HO197.out; (first | subst eo15 | (injection eo15 with f1_ f2_ f3_; have f4_ := f1_.symm; have f5_ := f3_.symm; clear f1_ f2_ f3_; subst f4_; subst f5_))
    refine hK.out _ _ (kq8_ BK190 (⟨(cl_ HB hw191_0), (cl_ HB hw191_1), (cl_ HB hw191_2), (cl_ HB hw191_3), (cl_ HB hw191_4), (cl_ HB hw191_5), (cl_ HB hw191_6), (cl_ HB hw191_7), (cl_ HB hw193_0), (cl_ HB hw193_1), (cl_ HB hw193_2), (cl_ HB hw193_3), (cl_ HB hw193_4), (cl_ HB hw193_5), (cl_ HB hw193_6), (cl_ HB hw193_7)⟩)) (fun hHeld => ?_); clear hK K; refine nA ?_; refine oA 11 (some 21) 13 4095 fun K hK => ?_; refine gS Tryz.func49 #[.slice Ao15 y195.length co15] ?_; (with_reducible refine (print_join.calls _ _ y195 t198 _ ?side1 ?side2 A7.out).mono ?_)
    (case side1 => exact cr_ (Kd.R_reads' HO197.out).2.2)
    (case side2 => exact (Kd.R_reads' HO197.out).2.1)
    rintro e w16 ⟨rfl, hb⟩; refine ⟨_, rfl, ?_⟩; replace HO197 := A_ (Kd.R_below (hrR_ HO197.out) hb); replace BK190 := bb_ BK190 hb; replace HB := bs_ hb; (try clear hb); refine hK.out _ _ (kq8_ BK190 (⟨(cl_ HB hw191_0), (cl_ HB hw191_1), (cl_ HB hw191_2), (cl_ HB hw191_3), (cl_ HB hw191_4), (cl_ HB hw191_5), (cl_ HB hw191_6), (cl_ HB hw191_7), (cl_ HB hw193_0), (cl_ HB hw193_1), (cl_ HB hw193_2), (cl_ HB hw193_3), (cl_ HB hw193_4), (cl_ HB hw193_5), (cl_ HB hw193_6), (cl_ HB hw193_7)⟩)) (fun hHeld => ?_); clear hK K; refine nA ?_; refine pA 12 2 13 8191 ?_; refine done_ (done_of HT_.out (by kernel_rfl)) ?_; (try go_wp2); go_ret; exact ⟨re_, hs_⟩
   ·rw [if_neg c5] at H
    exact absurd H (by simp)
  ·rw [if_neg c3] at H
   exact absurd H (by simp)
 ·rw [if_neg c2] at H
  have c2b0 : (a0_0 == 1) = false := beq_eq_false_iff_ne.mpr c2; have c2b1 : (a0_0 != 1) = true := bne_iff_ne.mpr c2
  by_cases c17 : a0_0 = 2
  ·rw [if_pos c17] at H
   have c17b0 : (a0_0 == 2) = true := beq_iff_eq.mpr c17; have c17b1 : (a0_0 != 2) = false := bne_eq_false_iff_eq.mpr c17; clear c17; have H' := A_ H; clear H; go_enter Tryz.func30, Tryz.ntmps30; go_wp2_with (first | (refine gx_ w 1 (n8_ a0_0 a0_1 a0_2 a0_3 a0_4 a0_5 a0_6 (.slice A0_7 l0_7.length c0_7)) 27 ?_; clear HB; intro gb190 w18 BK190 GE190 HB; have GW190 := GE190; have Z19 := bz8_ BK190)); go_loopg [3, 27] k (fun kq v3 v27 w' => ∃ (x3_1 : List ByteArray) (x27_1 : Int), v27 = .int .i64 x27_1 ∧ Aside0 (print_text.l0 kq x3_1 l0_7 (l0_7.length : Int) x27_1 = some r) ∧ Aside0 (kq ≤ k) ∧ Aside0 (Kd.R Kd.string 9 w' w.heap.size (fun _ => True) v3 x3_1) ∧ Aside0 (w'.heap[gb190]? = some (.cells #[.int .i64 a0_0, .int .i64 a0_1, .string a0_2, .string a0_3, .string a0_4, .bool a0_5, .bool a0_6, (.slice A0_7 l0_7.length c0_7)] 27 (0, 0))) ∧ Aside0 (Below w.heap.size w w'))
   case atStart => exact ⟨(([] : List ByteArray)), (0), rf_, H', ⟨Nat.le_refl _⟩, ⟨by first | exact Kd.R_nil _ _ _ _ _ | exact Kd.N_nil _ _ _ _ _ | exact Kd.V_nil _ _ _ _ _ | exact Kd.Q_nil _ _ _ _ _ | exact Kd.S_nil _ _ _ _ _⟩, ⟨bl_ BK190.out⟩, ⟨hs_⟩⟩
   case round =>
    clear H'; (try clear c1); (try clear p1); (try clear q1); (try clear hx1); (try clear qi1); (try clear c2); (try clear c2b0); (try clear c2b1); (try clear p2); (try clear c3); (try clear c3b0); (try clear c3b1); (try clear c5); (try clear c5b0); (try clear c5b1); (try clear c7); (try clear c17); (try clear c17b0); (try clear c17b1); (try clear c19); (try clear p19); (try clear q19); (try clear hx19); (try clear qi19); (try clear Z19); (try clear Z9); (try clear hx191_0); (try clear hx191_1); (try clear hx191_2); (try clear hx191_3); (try clear hx191_4); (try clear hx191_5); (try clear hx191_6); (try clear hx191_7); (try clear hx193_0); (try clear hx193_1); (try clear hx193_2); (try clear hx193_3); (try clear hx193_4); (try clear hx193_5); (try clear hx193_6); (try clear hx193_7); (try clear p191); (try clear p193); (try clear q191); (try clear q193); obtain ⟨x3_1, x27_1, rfl, HA, HK1, HO_3, BK190, HB⟩ := hrel
    cases gk with
    | zero => exact absurd HA.out (by simp [print_text.l0])
    | succ k1 =>
     have H := HA.out; clear HA; simp only [print_text.l0] at H
     by_cases c20 : x27_1 < (l0_7.length : Int)
     ·rw [if_pos c20] at H
      have c20b0 := decide_eq_true c20; clear c20
      by_cases c21 : 0 ≤ x27_1
      ·rw [if_pos c21] at H
       have c21b0 := decide_eq_true c21; clear c21
       by_cases c22 : x27_1 < (l0_7.length : Int)
       ·rw [if_pos c22] at H
        have c22b0 := decide_eq_true c22; clear c22; obtain ⟨t201, A23, H⟩ := bi_ H
        by_cases c24 : x3_1.length < 8796093022208
        ·rw [if_pos c24] at H
         have LMc24 := A_ c24; clear c24; obtain ⟨y202, hy202⟩ : ∃ y_ : List ByteArray, y_ = (x3_1 ++ [t201]) := ⟨_, rfl⟩; (replace H : (print_text.l0 k1 y202 l0_7 (l0_7.length : Int) (wrap64 (x27_1 + 1))) = some r := hy_ hy202 H); have Ny202 := A_ hy202; clear hy202; have H' := A_ H; clear H; have p199 : 0 ≤ (x27_1 : Int) := od_; have q199 : x27_1 < (l0_7.length : Int) := od_; obtain ⟨ad199, A199_7, c199_7, e199, hx199_0, hx199_1, hx199_2, hx199_3, hx199_4, hx199_5, hx199_6, hx199_7, hl199_7, hi199_7⟩ := at_T27 HR0_7.out x27_1 p199 q199
         cases e199
         replace hx199_0 := cl_ HB hx199_0; replace hx199_1 := cl_ HB hx199_1; replace hx199_2 := cl_ HB hx199_2; replace hx199_3 := cl_ HB hx199_3; replace hx199_4 := cl_ HB hx199_4; replace hx199_5 := cl_ HB hx199_5; replace hx199_6 := cl_ HB hx199_6; replace hx199_7 := cl_ HB hx199_7; have HR199_7 := A_ hi199_7; have HC199_7 := A_ hl199_7; clear hi199_7 hl199_7; replace p199 := eq_true p199; replace q199 := eq_true q199; go_wp2_with (first | (refine gD 5 ?_; refine bxe_ 5 z8_ 27 ?_; intro gb200 hg w25 hbox hb; replace HO_3 := A_ (Kd.R_below (hrR_ HO_3.out) hb); have BK200 := A_ (hbox); have GW200 := gs_ w hg; have GE200 := gs_ w hg; replace HB := bs_ hb; have NB190_200 := nl_ BK190 hg; have NB200_190 := ng_ BK190 hg; replace BK190 := bb_ BK190 hb; clear hb hbox hg; have hnb26 := NB200_190.out; have hnc26 := NB190_200.out; have Z27 := bz8_ BK200) | (refine gC 30 ?_; refine gL 33 Tryz.func30 #[.agg #[.int .i64 ((rd_T27 l0_7 x27_1).f0), .int .i64 ((rd_T27 l0_7 x27_1).f1.f0), .string ((rd_T27 l0_7 x27_1).f1.f1), .string ((rd_T27 l0_7 x27_1).f1.f2), .string ((rd_T27 l0_7 x27_1).f1.f3), .bool ((rd_T27 l0_7 x27_1).f2), .bool ((rd_T27 l0_7 x27_1).f3), .slice A199_7 ((rd_T27 l0_7 x27_1).f4).length c199_7]] ?_; (with_reducible refine (ih k1 (by have := HK1.out; omega) ((rd_T27 l0_7 x27_1).f0) ((rd_T27 l0_7 x27_1).f1.f0) ((rd_T27 l0_7 x27_1).f1.f1) ((rd_T27 l0_7 x27_1).f1.f2) ((rd_T27 l0_7 x27_1).f1.f3) ((rd_T27 l0_7 x27_1).f2) ((rd_T27 l0_7 x27_1).f3) _ _ ((rd_T27 l0_7 x27_1).f4) t201 _ ?side1 ?side2 A23.out).mono ?_); (case side1 => exact Kd.C_below HR199_7.out hs_); (case side2 => exact HC199_7.out); rintro e w28 ⟨rfl, hb⟩; refine ⟨_, rfl, ?_⟩; replace HO_3 := A_ (Kd.R_below (by (with_reducible repeat (first | apply Kd.R_alloc | apply Kd.R_drewN | apply Kd.R_drew)); exact (Kd.R_mono (Kd.R_far (p := ⟨gb200, 7, none⟩) (Kd.R_far (p := ⟨gb200, 6, none⟩) (Kd.R_far (p := ⟨gb200, 5, none⟩) (Kd.R_far (p := ⟨gb200, 4, none⟩) (Kd.R_far (p := ⟨gb200, 3, none⟩) (Kd.R_far (p := ⟨gb200, 2, none⟩) (Kd.R_far (p := ⟨gb200, 1, none⟩) (Kd.R_far (p := ⟨gb200, 0, none⟩) (Kd.R_types HO_3.out BK200.out (by decide)) (fun _ hk => hk.2) (.int .i64 ((rd_T27 l0_7 x27_1).f0))) (fun _ hk => hk.2) (.int .i64 ((rd_T27 l0_7 x27_1).f1.f0))) (fun _ hk => hk.2) (.string ((rd_T27 l0_7 x27_1).f1.f1))) (fun _ hk => hk.2) (.string ((rd_T27 l0_7 x27_1).f1.f2))) (fun _ hk => hk.2) (.string ((rd_T27 l0_7 x27_1).f1.f3))) (fun _ hk => hk.2) (.bool ((rd_T27 l0_7 x27_1).f2))) (fun _ hk => hk.2) (.bool ((rd_T27 l0_7 x27_1).f3))) (fun _ hk => hk.2) (.slice A199_7 ((rd_T27 l0_7 x27_1).f4).length c199_7)) (fun _ h_ => h_.1))) hb); replace BK190 := A_ (blk_below (g := gb190) (o := .cells (n8_ a0_0 a0_1 a0_2 a0_3 a0_4 a0_5 a0_6 (.slice (some ad199) l0_7.length c0_7)) 27 (0, 0)) (pf_ NB190_200 BK190) hb); replace BK200 := bp_ BK200 (.cells #[.int .i64 ((rd_T27 l0_7 x27_1).f0), .int .i64 ((rd_T27 l0_7 x27_1).f1.f0), .string ((rd_T27 l0_7 x27_1).f1.f1), .string ((rd_T27 l0_7 x27_1).f1.f2), .string ((rd_T27 l0_7 x27_1).f1.f3), .bool ((rd_T27 l0_7 x27_1).f2), .bool ((rd_T27 l0_7 x27_1).f3), .slice A199_7 ((rd_T27 l0_7 x27_1).f4).length c199_7] 27 (0, 0)) hb; replace HB := bs_ hb; (try clear hb); (try clear hk)) | ((with_reducible refine gate_builtin (b := .append) (xs := #[.tmp 31, .tmp 34]) rfl ?_); at_builtin; refine Kd.R_append Kd.string (w0 := w) w.heap.size rfl (.tmp 31) (.tmp 34) 77 9 (.string ⟨#[]⟩) 16 rfl Tryz.underlying77 info9_printtext rfl (by decide) (by omega) u3 x3_1 t201 [.string t201] (fun _ => True) (fun _ => False) rfl rfl ?aP (fun _ hk => hk.elim) ?aF ?aO ?aB ?aS ?aL ?_; (case aP => exact rfl); (case aB => exact hs_); (case aF => exact (fun _ _ => trivial)); (case aO => exact (hrR_ HO_3.out)); (case aS => exact (below_size hs_)); (case aL => have := LMc24.out; omega); intro v203 w29 ho hb hg hat; rw [← Ny202.out] at ho; replace BK190 := A_ (blk_grown (g := gb190) (o := .cells (n8_ a0_0 a0_1 a0_2 a0_3 a0_4 a0_5 a0_6 (.slice (some ad199) l0_7.length c0_7)) 27 (0, 0)) (bl_ BK190.out) hg (Kd.R_ne HO_3.out BK190.out (by decide))); replace BK200 := A_ (blk_grown (g := gb200) (o := .cells #[.int .i64 ((rd_T27 l0_7 x27_1).f0), .int .i64 ((rd_T27 l0_7 x27_1).f1.f0), .string ((rd_T27 l0_7 x27_1).f1.f1), .string ((rd_T27 l0_7 x27_1).f1.f2), .string ((rd_T27 l0_7 x27_1).f1.f3), .bool ((rd_T27 l0_7 x27_1).f2), .bool ((rd_T27 l0_7 x27_1).f3), .slice A199_7 ((rd_T27 l0_7 x27_1).f4).length c199_7] 27 (0, 0)) (bl_ BK200.out) hg (Kd.R_ne HO_3.out BK200.out (by decide))); replace HB := A_ (hb); have HO204 := A_ (ho); clear HO_3; clear ho hb hg hat))
         go_roundg k1
         case measure => have := HK1.out; omega
         case rel => exact ⟨(y202), (wrap64 (x27_1 + 1)), rf_, H', ⟨by have := HK1.out; omega⟩, ⟨fxR_ HO204.out⟩, ⟨bl_ BK190.out⟩, ⟨hs_⟩⟩
        ·rw [if_neg c24] at H
         exact absurd H (by simp)
       ·rw [if_neg c22] at H
        exact absurd H (by simp)
      ·rw [if_neg c21] at H
       exact absurd H (by simp)
     ·rw [if_neg c20] at H
      have c20b0 := decide_eq_false c20; have c20b9 := c20b0; (try simp only [hl191_7] at c20b9); (try simp only [hl193_7] at c20b9); (try simp only [hl199_7] at c20b9); clear c20; obtain ⟨t205, A30, H⟩ := bi_ H; obtain ⟨y206, hy206⟩ : ∃ y_ : List ByteArray, y_ = (([(⟨#[91]⟩ : ByteArray), t205, (⟨#[93]⟩ : ByteArray)] : List ByteArray)) := ⟨_, rfl⟩; (replace H : ((print_join.f y206).bind fun t209 => (some t209)) = some r := hy_ hy206 H); have Ny206 := A_ hy206; clear hy206; obtain ⟨t209, A31, H⟩ := bi_ H; obtain rfl := Option.some.inj H; obtain ⟨Ao32, co32, eo32⟩ := Kd.R_slice HO_3.out; subst eo32; go_wp2_with (first | (refine gC 50 ?_; refine gL 38 Tryz.func50 #[.slice Ao32 x3_1.length co32, .string ⟨#[44, 32]⟩] ?_; (with_reducible refine (strings_Join.calls _ _ x3_1 (⟨#[44, 32]⟩ : ByteArray) t205 _ ?side1 ?side2 A30.out).mono ?_); (case side1 => exact cr_ (Kd.R_reads' HO_3.out).2.2); (case side2 => exact (Kd.R_reads' HO_3.out).2.1); rintro e w33 ⟨rfl, hb⟩; refine ⟨_, rfl, ?_⟩; replace HO_3 := A_ (Kd.R_below (hrR_ HO_3.out) hb); replace BK190 := bb_ BK190 hb; replace HB := bs_ hb; (try clear hb)) | (refine gD 39 ?_; refine Kd.R_lit Kd.string _ 9 ?hg (N := 39) ?hd (xs := ([(⟨#[91]⟩ : ByteArray), t205, (⟨#[93]⟩ : ByteArray)] : List ByteArray)) (inner := [.string ⟨#[91]⟩, .string t205, .string ⟨#[93]⟩]) (ok := fun _ => True) (okp := fun _ => True) ?hr ?hp (fun _ hk => hk) trivial (Below.refl _ _) (Nat.le_refl _) (by simp) ?_; (case hd => rfl); (case hg => rfl); (case hr => first | (go_simp; done) | (go_simp; rfl)); (case hp => exact (Reps.one (show Kd.M Kd.string _ _ _ (⟨#[91]⟩ : ByteArray) [.string ⟨#[91]⟩] from rfl) (Reps.one (show Kd.M Kd.string _ _ _ t205 [.string t205] from rfl) (Reps.one (show Kd.M Kd.string _ _ _ (⟨#[93]⟩ : ByteArray) [.string ⟨#[93]⟩] from rfl) (Reps.none _ _))))); intro v207 w34 ho35 hb hg_ hnew_; clear hg_ hnew_; (first | rw [← Ny206.out] at ho35 | (simp only [Int.reduceToNat] at ho35; rw [← Ny206.out] at ho35)); have HO208 := A_ (Kd.R_lower (Kd.R_new' ho35 (Kd.R_lt (hrR_ HO_3.out))) (below_size hs_)); replace HO_3 := A_ (Kd.R_elder' (hrR_ HO_3.out) (Kd.R_base ho35) hb); replace BK190 := bb_ BK190 hb; replace HB := bs_ hb; clear hb ho35; obtain ⟨Ao36, co36, eo36⟩ := Kd.R_slice HO208.out; subst eo36) | (refine gC 49 ?_; refine gL 40 Tryz.func49 #[.slice Ao36 y206.length co36] ?_; (with_reducible refine (print_join.calls _ _ y206 t209 _ ?side1 ?side2 A31.out).mono ?_); (case side1 => exact cr_ (Kd.R_reads' HO208.out).2.2); (case side2 => exact (Kd.R_reads' HO208.out).2.1); rintro e w37 ⟨rfl, hb⟩; refine ⟨_, rfl, ?_⟩; replace HO_3 := A_ (Kd.R_below (hrR_ HO_3.out) hb); replace HO208 := A_ (Kd.R_below (hrR_ HO208.out) hb); replace BK190 := bb_ BK190 hb; replace HB := bs_ hb; (try clear hb)))
      go_ret; exact ⟨re_, hs_⟩
  ·rw [if_neg c17] at H
   have c17b0 : (a0_0 == 2) = false := beq_eq_false_iff_ne.mpr c17; have c17b1 : (a0_0 != 2) = true := bne_iff_ne.mpr c17
   by_cases c38 : a0_0 = 3
   ·rw [if_pos c38] at H
    have c38b0 : (a0_0 == 3) = true := beq_iff_eq.mpr c38; have c38b1 : (a0_0 != 3) = false := bne_eq_false_iff_eq.mpr c38; clear c38; obtain rfl := Option.some.inj H; go_enter Tryz.func30, Tryz.ntmps30; go_wp2_with (first | (refine gx_ w 1 (n8_ a0_0 a0_1 a0_2 a0_3 a0_4 a0_5 a0_6 (.slice A0_7 l0_7.length c0_7)) 27 ?_; clear HB; intro gb190 w39 BK190 GE190 HB; have GW190 := GE190; have Z40 := bz8_ BK190)); go_ret; exact ⟨re_, hs_⟩
   ·rw [if_neg c38] at H
    have c38b0 : (a0_0 == 3) = false := beq_eq_false_iff_ne.mpr c38; have c38b1 : (a0_0 != 3) = true := bne_iff_ne.mpr c38
    by_cases c41 : a0_0 = 4
    ·rw [if_pos c41] at H
     have c41b0 : (a0_0 == 4) = true := beq_iff_eq.mpr c41; have c41b1 : (a0_0 != 4) = false := bne_eq_false_iff_eq.mpr c41; clear c41; obtain rfl := Option.some.inj H; go_enter Tryz.func30, Tryz.ntmps30; go_wp2_with (first | (refine gx_ w 1 (n8_ a0_0 a0_1 a0_2 a0_3 a0_4 a0_5 a0_6 (.slice A0_7 l0_7.length c0_7)) 27 ?_; clear HB; intro gb190 w42 BK190 GE190 HB; have GW190 := GE190; have Z43 := bz8_ BK190)); go_ret; exact ⟨re_, hs_⟩
    ·rw [if_neg c41] at H
     have c41b0 : (a0_0 == 4) = false := beq_eq_false_iff_ne.mpr c41; have c41b1 : (a0_0 != 4) = true := bne_iff_ne.mpr c41; obtain ⟨t210, A44, H⟩ := bi_ H; obtain ⟨t211, A45, H⟩ := bi_ H; obtain ⟨t212, A46, H⟩ := bi_ H; obtain ⟨y213, hy213⟩ : ∃ y_ : List ByteArray, y_ = (([t210, t211, t212] : List ByteArray)) := ⟨_, rfl⟩; (replace H : ((print_join.f y213).bind fun t216 => (some t216)) = some r := hy_ hy213 H); have Ny213 := A_ hy213; clear hy213; obtain ⟨t216, A47, H⟩ := bi_ H; obtain rfl := Option.some.inj H; go_enter Tryz.func30, Tryz.ntmps30; (try go_wp2_with (first | (refine gx_ w 1 (n8_ a0_0 a0_1 a0_2 a0_3 a0_4 a0_5 a0_6 (.slice A0_7 l0_7.length c0_7)) 27 ?_; clear HB; intro gb190 w48 BK190 GE190 HB; have GW190 := GE190; have Z49 := bz8_ BK190))); replace BK190 := A_ (blk_drew BK190.out); replace HB := A_ (below_drew1 HB.out); refine start_ (n := 12) (S := fun w' => C8 w' gb190 (.int .i64 a0_0) (.int .i64 a0_1) (.string a0_2) (.string a0_3) (.string a0_4) (.bool a0_5) (.bool a0_6) (.slice A0_7 l0_7.length c0_7)) (ds := []) (ab 12 0) (by kernel_rfl) rfl rfl (cq8_ BK190) (fun hHeld => ?_); refine with_tabW print_text.tab16 print_text.bits16 (fun HT_ HW_ => ?_)
     generalize w48.drew = w50 at BK190 HB hHeld ⊢; refine pA 0 45 12 1 ?_; refine pA 3 48 12 9 ?_; refine pA 6 51 12 73 ?_; refine tB 1 46 12 75 ?_; refine tB 4 49 12 91 ?_; refine tB 7 52 12 219 ?_; refine oA 2 (some 47) 12 223 fun K hK => ?_; refine gS Tryz.func51 #[.agg (n4_ a0_1 a0_2 a0_3 a0_4)] ?_; (with_reducible refine (point_Text.calls k a0_1 a0_2 a0_3 a0_4 t210 _ A44.out).mono ?_); rintro e w51 ⟨rfl, hb⟩; refine ⟨_, rfl, ?_⟩; replace BK190 := bb_ BK190 hb; replace HB := bs_ hb; (try clear hb); refine hK.out _ _ (cq8_ BK190) (fun hHeld => ?_); clear hK K; refine nA ?_; refine oA 5 (some 50) 12 255 fun K hK => ?_; refine gS Tryz.func52 #[.bool a0_5, .string ⟨#[63]⟩] ?_; (with_reducible refine (print_mark.calls a0_5 (⟨#[63]⟩ : ByteArray) t211 _ A45.out).mono ?_); rintro e w' ⟨rfl, ⟨nd, rfl⟩⟩; refine ⟨_, rfl, ?_⟩; refine hK.out _ _ (cq8_ BK190) (fun hHeld => ?_); clear hK K; refine nA ?_; refine oA 8 (some 53) 12 511 fun K hK => ?_; refine gS Tryz.func52 #[.bool a0_6, .string ⟨#[126]⟩] ?_; (with_reducible refine (print_mark.calls a0_6 (⟨#[126]⟩ : ByteArray) t212 _ A46.out).mono ?_); rintro e w' ⟨rfl, ⟨nd, rfl⟩⟩; refine ⟨_, rfl, ?_⟩; refine hK.out _ _ (cq8_ BK190) (fun hHeld => ?_); clear hK K; refine nA ?_; refine oA 9 (some 54) 12 1023 fun K hK => ?_; refine Kd.R_lit_step Kd.string _ 9 ?hg (N := 54) ?hd (xs := ([t210, t211, t212] : List ByteArray)) (inner := [.string t210, .string t211, .string t212]) (ok := fun _ => True) (okp := fun _ => True) ?hr ?hp (fun _ hk => hk) trivial (Below.refl _ _) (Nat.le_refl _) (by simp) ?_; (case hd => rfl); (case hg => rfl); (case hr => first | (go_simp; done) | (go_simp; rfl)); (case hp => exact (Reps.one (show Kd.M Kd.string _ _ _ t210 [.string t210] from rfl) (Reps.one (show Kd.M Kd.string _ _ _ t211 [.string t211] from rfl) (Reps.one (show Kd.M Kd.string _ _ _ t212 [.string t212] from rfl) (Reps.none _ _)))))
     intro v214 w52 ho53 hb hg_ hnew_; clear hg_ hnew_; (first | rw [← Ny213.out] at ho53 | (simp only [Int.reduceToNat] at ho53; rw [← Ny213.out] at ho53)); have HO215 := A_ (Kd.R_lower ho53 (below_size hs_)); replace BK190 := bb_ BK190 hb; replace HB := bs_ hb; clear hb ho53; obtain ⟨Ao54, co54, eo54⟩ := Kd.R_slice HO215.out; (first | subst eo54 | (injection eo54 with f1_ f2_ f3_; have f4_ := f1_.symm; have f5_ := f3_.symm; clear f1_ f2_ f3_; subst f4_; subst f5_)); refine hK.out _ _ (cq8_ BK190) (fun hHeld => ?_); clear hK K; refine nA ?_; refine oA 10 (some 55) 12 2047 fun K hK => ?_; refine gS Tryz.func49 #[.slice Ao54 y213.length co54] ?_; (with_reducible refine (print_join.calls _ _ y213 t216 _ ?side1 ?side2 A47.out).mono ?_)
     (case side1 => exact cr_ (Kd.R_reads' HO215.out).2.2)
     (case side2 => exact (Kd.R_reads' HO215.out).2.1)
     rintro e w55 ⟨rfl, hb⟩; refine ⟨_, rfl, ?_⟩; replace HO215 := A_ (Kd.R_below (hrR_ HO215.out) hb); replace BK190 := bb_ BK190 hb; replace HB := bs_ hb; (try clear hb); refine hK.out _ _ (cq8_ BK190) (fun hHeld => ?_); clear hK K; refine nA ?_; refine pA 11 2 12 4095 ?_; refine done_ (done_of HT_.out (by kernel_rfl)) ?_; (try go_wp2); go_ret; exact ⟨re_, hs_⟩
set_option maxHeartbeats 8000000 in
set_option maxRecDepth 100000 in
theorem print_Text.calls (k : Nat) (a0_0 a0_1 : Int) (a0_2 a0_3 a0_4 : ByteArray) (a0_5 a0_6 : Bool) (A0_7 : Option Addr) (c0_7 : Nat) (l0_7 : List (S27)) (r : ByteArray) (w : World) (hr0_7 : Kd.C k27 w A0_7 l0_7.length l0_7) (hc0_7 : l0_7.length ≤ c0_7) (h : print_Text.f k a0_0 a0_1 a0_2 a0_3 a0_4 a0_5 a0_6 l0_7 = some r) :
  Calls Tryz.prog 13 #[.agg #[.int .i64 a0_0, .int .i64 a0_1, .string a0_2, .string a0_3, .string a0_4, .bool a0_5, .bool a0_6, .slice A0_7 l0_7.length c0_7]] w fun e w' => e = .returned (.string r) ∧ Below w.heap.size w w' := by
 have hu27 := Tryz.underlying27; have HR0_7 := A_ hr0_7; have HC0_7 := A_ hc0_7; clear hr0_7 hc0_7; have HB := A_ (Below.refl w.heap.size w); have H : ((tree_Sane.f k a0_0 a0_1 a0_2 a0_3 a0_4 a0_5 a0_6 l0_7).bind fun t218 => (if t218 = true then ((print_text.f k a0_0 a0_1 a0_2 a0_3 a0_4 a0_5 a0_6 l0_7).bind fun t219 => (some t219)) else (some (⟨#[]⟩ : ByteArray)))) = some r := h; clear h; obtain ⟨t218, A2, H⟩ := bi_ H
 by_cases c3 : t218 = true
 ·subst c3
  replace H := iP_ H; obtain ⟨t219, A4, H⟩ := bi_ H; obtain rfl := Option.some.inj H; go_enter Tryz.func13, Tryz.ntmps13; go_wp2_with (first | (refine gx_ w 1 (n8_ a0_0 a0_1 a0_2 a0_3 a0_4 a0_5 a0_6 (.slice A0_7 l0_7.length c0_7)) 27 ?_; clear HB; intro gb217 w5 BK217 GE217 HB; have GW217 := GE217; have Z6 := bz8_ BK217) | (refine gC 12 ?_; refine gL 4 Tryz.func12 #[.agg (n8_ a0_0 a0_1 a0_2 a0_3 a0_4 a0_5 a0_6 (.slice A0_7 l0_7.length c0_7))] ?_; (with_reducible refine (tree_Sane.calls k a0_0 a0_1 a0_2 a0_3 a0_4 a0_5 a0_6 _ _ l0_7 true _ ?side1 ?side2 A2.out).mono ?_); (case side1 => exact cb_ HR0_7); (case side2 => exact HC0_7.out); rintro e w7 ⟨rfl, hb⟩; refine ⟨_, rfl, ?_⟩; replace BK217 := bb_ BK217 hb; replace HB := bs_ hb; (try clear hb); have Z8 := bz8_ BK217) | (refine gC 30 ?_; refine gL 7 Tryz.func30 #[.agg (n8_ a0_0 a0_1 a0_2 a0_3 a0_4 a0_5 a0_6 (.slice A0_7 l0_7.length c0_7))] ?_; (with_reducible refine (print_text.calls k a0_0 a0_1 a0_2 a0_3 a0_4 a0_5 a0_6 _ _ l0_7 t219 _ ?side1 ?side2 A4.out).mono ?_); (case side1 => exact cb_ HR0_7); (case side2 => exact HC0_7.out); rintro e w9 ⟨rfl, hb⟩; refine ⟨_, rfl, ?_⟩; replace BK217 := bb_ BK217 hb; replace HB := bs_ hb; (try clear hb)))
  go_ret; exact ⟨re_, hs_⟩
 ·replace c3 := Bool.eq_false_iff.mpr c3
  subst c3; replace H := iN_ H; obtain rfl := Option.some.inj H; go_enter Tryz.func13, Tryz.ntmps13; go_wp2_with (first | (refine gx_ w 1 (n8_ a0_0 a0_1 a0_2 a0_3 a0_4 a0_5 a0_6 (.slice A0_7 l0_7.length c0_7)) 27 ?_; clear HB; intro gb217 w10 BK217 GE217 HB; have GW217 := GE217; have Z11 := bz8_ BK217) | (refine gC 12 ?_; refine gL 4 Tryz.func12 #[.agg (n8_ a0_0 a0_1 a0_2 a0_3 a0_4 a0_5 a0_6 (.slice A0_7 l0_7.length c0_7))] ?_; (with_reducible refine (tree_Sane.calls k a0_0 a0_1 a0_2 a0_3 a0_4 a0_5 a0_6 _ _ l0_7 false _ ?side1 ?side2 A2.out).mono ?_); (case side1 => exact cb_ HR0_7); (case side2 => exact HC0_7.out); rintro e w12 ⟨rfl, hb⟩; refine ⟨_, rfl, ?_⟩; replace BK217 := bb_ BK217 hb; replace HB := bs_ hb; (try clear hb))); go_ret; exact ⟨re_, hs_⟩
set_option maxHeartbeats 8000000 in
set_option maxRecDepth 100000 in
theorem lustrumlaw13_awake.callsT (k : Nat)  (r : Bool) (w : World) (hrT_ : r = true) (h : lustrumlaw13_awake.f k  = some r) :
  Calls Tryz.prog 7 #[] w fun e w' => e = .returned (.bool r) ∧ Below w.heap.size w w' := by
 have hu27 := Tryz.underlying27; have HB := A_ (Below.refl w.heap.size w); have H : ((parse_Parse.f k (⟨#[91, 49, 57, 56, 52, 126, 63, 44, 32, 46, 46, 47, 49, 57, 88, 52, 93]⟩ : ByteArray)).bind fun bt101 => ((parse_Parse.f k (⟨#[49, 57, 56, 52, 47, 91]⟩ : ByteArray)).bind fun bt114 => ((parse_Parse.f k (⟨#[91, 49, 57, 56, 52]⟩ : ByteArray)).bind fun bt127 => (if bt101.2.2.2.2.2.2.2.2.2 = 0 then (if bt101.2.2.2.2.2.2.2.2.1 = 17 then ((print_Text.f k bt101.1 bt101.2.1 bt101.2.2.1 bt101.2.2.2.1 bt101.2.2.2.2.1 bt101.2.2.2.2.2.1 bt101.2.2.2.2.2.2.1 bt101.2.2.2.2.2.2.2.1).bind fun t140 => (if t140.toList = ([91, 49, 57, 56, 52, 63, 126, 44, 32, 46, 46, 47, 49, 57, 88, 52, 93] : List UInt8) then (if bt114.2.2.2.2.2.2.2.2.1 = 5 then (if bt114.2.2.2.2.2.2.2.2.2 = 3 then (if bt127.2.2.2.2.2.2.2.2.1 = 5 then (some (bt127.2.2.2.2.2.2.2.2.2 == 4)) else (some false)) else (some false)) else (some false)) else (some false))) else (some false)) else (some false))))) = some r := h; clear h; obtain ⟨⟨t101, t102, t103, t104, t105, t106, t107, t108, t111, t112⟩, A1, H⟩ := bi_ H; obtain ⟨⟨t114, t115, t116, t117, t118, t119, t120, t121, t124, t125⟩, A2, H⟩ := bi_ H; obtain ⟨⟨t127, t128, t129, t130, t131, t132, t133, t134, t137, t138⟩, A3, H⟩ := bi_ H
 by_cases c4 : t112 = 0
 ·rw [if_pos c4] at H
  have c4b0 : (t112 == 0) = true := beq_iff_eq.mpr c4; have c4b1 : (t112 != 0) = false := bne_eq_false_iff_eq.mpr c4; clear c4
  by_cases c5 : t111 = 17
  ·rw [if_pos c5] at H
   have c5b0 : (t111 == 17) = true := beq_iff_eq.mpr c5; have c5b1 : (t111 != 17) = false := bne_eq_false_iff_eq.mpr c5; clear c5; obtain ⟨t140, A6, H⟩ := bi_ H
   by_cases c7 : t140.toList = ([91, 49, 57, 56, 52, 63, 126, 44, 32, 46, 46, 47, 49, 57, 88, 52, 93] : List UInt8)
   ·rw [if_pos c7] at H
    have c7b0 : (t140.toList == ([91, 49, 57, 56, 52, 63, 126, 44, 32, 46, 46, 47, 49, 57, 88, 52, 93] : List UInt8)) = true := beq_iff_eq.mpr c7; have c7b1 : (t140.toList != ([91, 49, 57, 56, 52, 63, 126, 44, 32, 46, 46, 47, 49, 57, 88, 52, 93] : List UInt8)) = false := bne_eq_false_iff_eq.mpr c7; clear c7
    by_cases c8 : t124 = 5
    ·rw [if_pos c8] at H
     have c8b0 : (t124 == 5) = true := beq_iff_eq.mpr c8; have c8b1 : (t124 != 5) = false := bne_eq_false_iff_eq.mpr c8; clear c8
     by_cases c9 : t125 = 3
     ·rw [if_pos c9] at H
      have c9b0 : (t125 == 3) = true := beq_iff_eq.mpr c9; have c9b1 : (t125 != 3) = false := bne_eq_false_iff_eq.mpr c9; clear c9
      by_cases c10 : t137 = 5
      ·rw [if_pos c10] at H
       have c10b0 : (t137 == 5) = true := beq_iff_eq.mpr c10; have c10b1 : (t137 != 5) = false := bne_eq_false_iff_eq.mpr c10; clear c10; obtain rfl := Option.some.inj H; clear hrT_; go_enter Tryz.func7, Tryz.ntmps7; go_wp2_with (first | ((with_reducible refine gC 8 ?_); refine goesL_ (some 11) rfl rfl Tryz.func8 (by kernel_rfl) rfl #[.string ⟨#[91, 49, 57, 56, 52, 126, 63, 44, 32, 46, 46, 47, 49, 57, 88, 52, 93]⟩] rfl ml_ ?_; (with_reducible refine (parse_Parse.calls k (⟨#[91, 49, 57, 56, 52, 126, 63, 44, 32, 46, 46, 47, 49, 57, 88, 52, 93]⟩ : ByteArray) t101 t102 t103 t104 t105 t106 t107 t108 t111 t112 _ A1.out).mono ?_); rintro e w11 ⟨v109, rfl, ho0, hb⟩; refine ⟨_, rfl, ?_⟩; have HO110 := A_ (Kd.V_lower (Kd.V_mono (ok' := fun k_ => True) ho0 (fun k_ hk_ => trivial)) (below_size hs_)); replace HB := bs_ hb; (try clear hb); (try clear ho0)) | ((with_reducible refine gD 1 ?_); refine bxe_ 1 z8_ 27 ?_; intro gb113 hg w12 hbox hb; replace HO110 := eV_ HO110 hg hb; have BK113 := A_ (hbox); have GW113 := gs_ w hg; have GE113 := gs_ w hg; replace HB := bs_ hb; clear hb hbox hg; have Z13 := bz8_ BK113; obtain ⟨Ao14, co14, eo14⟩ := Kd.V_slice HO110.out; subst eo14) | ((with_reducible refine gC 8 ?_); refine goesL_ (some 16) rfl rfl Tryz.func8 (by kernel_rfl) rfl #[.string ⟨#[49, 57, 56, 52, 47, 91]⟩] rfl ml_ ?_; (with_reducible refine (parse_Parse.calls k (⟨#[49, 57, 56, 52, 47, 91]⟩ : ByteArray) t114 t115 t116 t117 t118 t119 t120 t121 t124 t125 _ A2.out).mono ?_); rintro e w15 ⟨v122, rfl, ho0, hb⟩; refine ⟨_, rfl, ?_⟩; replace HO110 := bV_ HO110 hb; have HO123 := A_ (Kd.V_lower (Kd.V_mono (ok' := fun k_ => k_ ≠ gb113) ho0 (fun k_ hk_ => (fb_ BK113 k_ hk_))) (below_size hs_)); replace BK113 := bp_ BK113 (.cells (n8_ t101 t102 t103 t104 t105 t106 t107 (.slice Ao14 t108.length co14)) 27 (0, 0)) hb; replace HB := bs_ hb; (try clear hb); (try clear ho0)) | ((with_reducible refine gD 4 ?_); refine bxe_ 4 z8_ 27 ?_; intro gb126 hg w16 hbox hb; replace HO110 := eV_ HO110 hg hb; replace HO123 := eV_ HO123 hg hb; have BK126 := A_ (hbox); have GW126 := gs_ w hg; have GE126 := gs_ w hg; replace HB := bs_ hb; have NB113_126 := nl_ BK113 hg; have NB126_113 := ng_ BK113 hg; replace BK113 := bb_ BK113 hb; clear hb hbox hg; have hnb17 := NB126_113.out; have hnc17 := NB113_126.out; have Z18 := bz8_ BK126; obtain ⟨Ao19, co19, eo19⟩ := Kd.V_slice HO123.out; subst eo19) | ((with_reducible refine gC 8 ?_); refine goesL_ (some 21) rfl rfl Tryz.func8 (by kernel_rfl) rfl #[.string ⟨#[91, 49, 57, 56, 52]⟩] rfl ml_ ?_; (with_reducible refine (parse_Parse.calls k (⟨#[91, 49, 57, 56, 52]⟩ : ByteArray) t127 t128 t129 t130 t131 t132 t133 t134 t137 t138 _ A3.out).mono ?_); rintro e w20 ⟨v135, rfl, ho0, hb⟩; refine ⟨_, rfl, ?_⟩; replace HO110 := bV_ HO110 hb; replace HO123 := bV_ HO123 hb; have HO136 := A_ (Kd.V_lower (Kd.V_mono (ok' := fun k_ => k_ ≠ gb113 ∧ k_ ≠ gb126) ho0 (fun k_ hk_ => ⟨(Kd.freshB (g := gb113) (o := .cells (n8_ t101 t102 t103 t104 t105 t106 t107 (.slice Ao14 t108.length co14)) 27 (0, 0)) (pf_ NB113_126 BK113) k_ hk_), (fb_ BK126 k_ hk_)⟩)) (below_size hs_)); replace BK113 := A_ (blk_below (g := gb113) (o := .cells (n8_ t101 t102 t103 t104 t105 t106 t107 (.slice Ao14 t108.length co14)) 27 (0, 0)) (pf_ NB113_126 BK113) hb); replace BK126 := bp_ BK126 (.cells (n8_ t114 t115 t116 t117 t118 t119 t120 (.slice Ao19 t121.length co19)) 27 (0, 0)) hb; replace HB := bs_ hb; (try clear hb); (try clear ho0)) | ((with_reducible refine gD 7 ?_); refine bxe_ 7 z8_ 27 ?_; intro gb139 hg w21 hbox hb; replace HO110 := eV_ HO110 hg hb; replace HO123 := eV_ HO123 hg hb; replace HO136 := eV_ HO136 hg hb; have BK139 := A_ (hbox); have GW139 := gs_ w hg; have GE139 := gs_ w hg; replace HB := bs_ hb; have NB113_139 := nl_ BK113 hg; have NB139_113 := ng_ BK113 hg; replace BK113 := bb_ BK113 hb; have NB126_139 := nl_ BK126 hg; have NB139_126 := ng_ BK126 hg; replace BK126 := bb_ BK126 hb; clear hb hbox hg; have hnb22 := NB139_113.out; have hnc22 := NB113_139.out; have hnb23 := NB139_126.out; have hnc23 := NB126_139.out; have Z24 := bz8_ BK139; obtain ⟨Ao25, co25, eo25⟩ := Kd.V_slice HO136.out; subst eo25; have Z26 := bz8_ BK113) | (go_at_call 13; (with_reducible refine (print_Text.calls k t101 t102 t103 t104 t105 t106 t107 _ _ t108 t140 _ ?side1 ?side2 A6.out).mono ?_); (case side1 => refine (Kd.V_reads' (e := 27) (base := w.heap.size) (ok := fun k_ => (((True ∧ k_ ≠ gb113) ∧ k_ ≠ gb126) ∧ k_ ≠ gb139)) (n := t108.length) (c := co14) ?_).2.2; exact (fxV_ HO110.out)); (case side2 => exact (Kd.V_reads' HO110.out).2.1); rintro e w27 ⟨rfl, hb⟩; replace HO110 := bV_ HO110 hb; replace HO123 := bV_ HO123 hb; replace HO136 := bV_ HO136 hb; replace BK113 := A_ (blk_below (g := gb113) (o := .cells (n8_ t101 t102 t103 t104 t105 t106 t107 (.slice Ao14 t108.length co14)) 27 (0, 0)) (pf_ NB113_139 BK113) hb); replace BK126 := A_ (blk_below (g := gb126) (o := .cells (n8_ t114 t115 t116 t117 t118 t119 t120 (.slice Ao19 t121.length co19)) 27 (0, 0)) (pf_ NB126_139 BK126) hb); replace BK139 := bp_ BK139 (.cells (n8_ t127 t128 t129 t130 t131 t132 t133 (.slice Ao25 t134.length co25)) 27 (0, 0)) hb; replace HB := bs_ hb; (try clear hb)))
       go_ret; exact ⟨re_, hs_⟩
      ·rw [if_neg c10] at H
       have c10b0 : (t137 == 5) = false := beq_eq_false_iff_ne.mpr c10; have c10b1 : (t137 != 5) = true := bne_iff_ne.mpr c10; exact absurd ((Option.some.inj H).trans hrT_) (by decide)
     ·rw [if_neg c9] at H
      have c9b0 : (t125 == 3) = false := beq_eq_false_iff_ne.mpr c9; have c9b1 : (t125 != 3) = true := bne_iff_ne.mpr c9; exact absurd ((Option.some.inj H).trans hrT_) (by decide)
    ·rw [if_neg c8] at H
     have c8b0 : (t124 == 5) = false := beq_eq_false_iff_ne.mpr c8; have c8b1 : (t124 != 5) = true := bne_iff_ne.mpr c8; exact absurd ((Option.some.inj H).trans hrT_) (by decide)
   ·rw [if_neg c7] at H
    have c7b0 : (t140.toList == ([91, 49, 57, 56, 52, 63, 126, 44, 32, 46, 46, 47, 49, 57, 88, 52, 93] : List UInt8)) = false := beq_eq_false_iff_ne.mpr c7; have c7b1 : (t140.toList != ([91, 49, 57, 56, 52, 63, 126, 44, 32, 46, 46, 47, 49, 57, 88, 52, 93] : List UInt8)) = true := bne_iff_ne.mpr c7; exact absurd ((Option.some.inj H).trans hrT_) (by decide)
  ·rw [if_neg c5] at H
   have c5b0 : (t111 == 17) = false := beq_eq_false_iff_ne.mpr c5; have c5b1 : (t111 != 17) = true := bne_iff_ne.mpr c5; exact absurd ((Option.some.inj H).trans hrT_) (by decide)
 ·rw [if_neg c4] at H
  have c4b0 : (t112 == 0) = false := beq_eq_false_iff_ne.mpr c4; have c4b1 : (t112 != 0) = true := bne_iff_ne.mpr c4; exact absurd ((Option.some.inj H).trans hrT_) (by decide)
theorem Ev.only13 {α : Type} {f : Nat → Option α} {r q : α} (hm : ∀ k, LeO (f k) (f (k + 1))) (h : Ev f r) {k : Nat} (hk : f k = some q) : q = r := by
  obtain ⟨K, hK⟩ := h
  have up : ∀ j, f (k + j) = some q := fun j => by
    induction j with
    | zero => exact hk
    | succ j ih => exact hm (k + j) q ih
  exact Option.some.inj ((up K).symm.trans (hK (k + K) (by omega)))
theorem lustrumlaw13_awake.calls (k : Nat) (r : Bool) (w : World) (h : lustrumlaw13_awake.f k = some r) :
    Calls Tryz.prog 7 #[] w fun e w' => e = .returned (.bool r) ∧ Below w.heap.size w w' := lustrumlaw13_awake.callsT k r w (Ev.only13 lustrumlaw13_awake.mono awake13 h) h
set_option maxHeartbeats 8000000 in
set_option maxRecDepth 100000 in
theorem lustrumlaw13_ParseIs.calls (k : Nat) (a0 : ByteArray) (r : Bool) (w : World) (hrT_ : r = true) (h : lustrumlaw13_ParseIs.f k a0 = some r) :
  Calls Tryz.prog 3 #[.string a0] w fun e w' => e = .returned (.bool r) ∧ Below w.heap.size w w' := by
 have hu27 := Tryz.underlying27; have HB := A_ (Below.refl w.heap.size w); have H : ((lustrumlaw13_awake.f k).bind fun t101 => (if (a0.size : Int) > 2100 then (some t101) else ((parse_Parse.f k a0).bind fun bt102 => ((lustrumref13_Parse.f k a0).bind fun bt115 => (if t101 = true then ((tree_Same.f k bt102.1 bt102.2.1 bt102.2.2.1 bt102.2.2.2.1 bt102.2.2.2.2.1 bt102.2.2.2.2.2.1 bt102.2.2.2.2.2.2.1 bt102.2.2.2.2.2.2.2.1 bt115.1 bt115.2.1 bt115.2.2.1 bt115.2.2.2.1 bt115.2.2.2.2.1 bt115.2.2.2.2.2.1 bt115.2.2.2.2.2.2.1 bt115.2.2.2.2.2.2.2.1).bind fun t128 => (if t128 = true then (if bt102.2.2.2.2.2.2.2.2.1 = bt115.2.2.2.2.2.2.2.2.1 then (some (bt102.2.2.2.2.2.2.2.2.2 == bt115.2.2.2.2.2.2.2.2.2)) else (some false)) else (some false))) else (some false)))))) = some r := h; clear h; obtain ⟨t101, A2, H⟩ := bi_ H
 by_cases c3 : (a0.size : Int) > 2100
 ·rw [if_pos c3] at H
  have c3b0 := decide_eq_true c3; have c3b1 : decide (2100 < a0.size) = true := decide_eq_true (by omega); clear c3; obtain rfl := Option.some.inj H; clear hrT_; go_enter Tryz.func3, Tryz.ntmps3; go_wp2_with (first | ((with_reducible refine gC 7 ?_); refine goesL_ (some 10) rfl rfl Tryz.func7 (by kernel_rfl) rfl #[] rfl ml_ ?_; (with_reducible refine (lustrumlaw13_awake.calls k  t101 _ A2.out).mono ?_); rintro e w4 ⟨rfl, hb⟩; refine ⟨_, rfl, ?_⟩; replace HB := bs_ hb; (try clear hb))); go_ret; exact ⟨re_, hs_⟩
 ·rw [if_neg c3] at H
  have c3b0 := decide_eq_false c3; have c3b1 : decide (2100 < a0.size) = false := decide_eq_false (by omega); clear c3; obtain ⟨⟨t102, t103, t104, t105, t106, t107, t108, t109, t112, t113⟩, A5, H⟩ := bi_ H; obtain ⟨⟨t115, t116, t117, t118, t119, t120, t121, t122, t125, t126⟩, A6, H⟩ := bi_ H
  by_cases c7 : t101 = true
  ·subst c7
   replace H := iP_ H; obtain ⟨t128, A8, H⟩ := bi_ H
   by_cases c9 : t128 = true
   ·subst c9
    replace H := iP_ H
    by_cases c10 : t112 = t125
    ·rw [if_pos c10] at H
     have c10b0 : (t112 == t125) = true := beq_iff_eq.mpr c10; have c10b1 : (t112 != t125) = false := bne_eq_false_iff_eq.mpr c10; clear c10; obtain rfl := Option.some.inj H; clear hrT_; go_enter Tryz.func3, Tryz.ntmps3; go_wp2_with (first | ((with_reducible refine gC 7 ?_); refine goesL_ (some 10) rfl rfl Tryz.func7 (by kernel_rfl) rfl #[] rfl ml_ ?_; (with_reducible refine (lustrumlaw13_awake.calls k  true _ A2.out).mono ?_); rintro e w11 ⟨rfl, hb⟩; refine ⟨_, rfl, ?_⟩; replace HB := bs_ hb; (try clear hb)) | ((with_reducible refine gC 8 ?_); refine goesL_ (some 17) rfl rfl Tryz.func8 (by kernel_rfl) rfl #[.string a0] rfl ml_ ?_; (with_reducible refine (parse_Parse.calls k a0 t102 t103 t104 t105 t106 t107 t108 t109 t112 t113 _ A5.out).mono ?_); rintro e w12 ⟨v110, rfl, ho0, hb⟩; refine ⟨_, rfl, ?_⟩; have HO111 := A_ (Kd.V_lower (Kd.V_mono (ok' := fun k_ => True) ho0 (fun k_ hk_ => trivial)) (below_size hs_)); replace HB := bs_ hb; (try clear hb); (try clear ho0)) | ((with_reducible refine gD 4 ?_); refine bxe_ 4 z8_ 27 ?_; intro gb114 hg w13 hbox hb; replace HO111 := eV_ HO111 hg hb; have BK114 := A_ (hbox); have GW114 := gs_ w hg; have GE114 := gs_ w hg; replace HB := bs_ hb; clear hb hbox hg; have Z14 := bz8_ BK114; obtain ⟨Ao15, co15, eo15⟩ := Kd.V_slice HO111.out; subst eo15) | ((with_reducible refine gC 9 ?_); refine goesL_ (some 23) rfl rfl Tryz.func9 (by kernel_rfl) rfl #[.string a0] rfl ml_ ?_; (with_reducible refine (lustrumref13_Parse.calls k a0 t115 t116 t117 t118 t119 t120 t121 t122 t125 t126 _ A6.out).mono ?_); rintro e w16 ⟨v123, rfl, ho0, hb⟩; refine ⟨_, rfl, ?_⟩; replace HO111 := bV_ HO111 hb; have HO124 := A_ (Kd.V_lower (Kd.V_mono (ok' := fun k_ => k_ ≠ gb114) ho0 (fun k_ hk_ => (fb_ BK114 k_ hk_))) (below_size hs_)); replace BK114 := bp_ BK114 (.cells (n8_ t102 t103 t104 t105 t106 t107 t108 (.slice Ao15 t109.length co15)) 27 (0, 0)) hb; replace HB := bs_ hb; (try clear hb); (try clear ho0)) | ((with_reducible refine gD 7 ?_); refine bxe_ 7 z8_ 27 ?_; intro gb127 hg w17 hbox hb; replace HO111 := eV_ HO111 hg hb; replace HO124 := eV_ HO124 hg hb; have BK127 := A_ (hbox); have GW127 := gs_ w hg; have GE127 := gs_ w hg; replace HB := bs_ hb; have NB114_127 := nl_ BK114 hg; have NB127_114 := ng_ BK114 hg; replace BK114 := bb_ BK114 hb; clear hb hbox hg; have hnb18 := NB127_114.out; have hnc18 := NB114_127.out; have Z19 := bz8_ BK127; obtain ⟨Ao20, co20, eo20⟩ := Kd.V_slice HO124.out; subst eo20; have Z21 := bz8_ BK114) | (go_at_call 10; (with_reducible refine (tree_Same.calls k t102 t103 t104 t105 t106 t107 t108 _ _ t109 t115 t116 t117 t118 t119 t120 t121 _ _ t122 true _ ?side1 ?side2 ?side3 ?side4 A8.out).mono ?_); (case side1 => refine (Kd.V_reads' (e := 27) (base := w.heap.size) (ok := fun k_ => ((True ∧ k_ ≠ gb114) ∧ k_ ≠ gb127)) (n := t109.length) (c := co15) ?_).2.2; exact (fxV_ HO111.out)); (case side2 => exact (Kd.V_reads' HO111.out).2.1); (case side3 => refine (Kd.V_reads' (e := 27) (base := w.heap.size) (ok := fun k_ => (k_ ≠ gb114 ∧ k_ ≠ gb127)) (n := t122.length) (c := co20) ?_).2.2; exact (fxV_ HO124.out)); (case side4 => exact (Kd.V_reads' HO124.out).2.1); rintro e w22 ⟨rfl, hb⟩; replace HO111 := bV_ HO111 hb; replace HO124 := bV_ HO124 hb; replace BK114 := A_ (blk_below (g := gb114) (o := .cells (n8_ t102 t103 t104 t105 t106 t107 t108 (.slice Ao15 t109.length co15)) 27 (0, 0)) (pf_ NB114_127 BK114) hb); replace BK127 := bp_ BK127 (.cells (n8_ t115 t116 t117 t118 t119 t120 t121 (.slice Ao20 t122.length co20)) 27 (0, 0)) hb; replace HB := bs_ hb; (try clear hb)))
     go_ret; exact ⟨re_, hs_⟩
    ·rw [if_neg c10] at H
     have c10b0 : (t112 == t125) = false := beq_eq_false_iff_ne.mpr c10; have c10b1 : (t112 != t125) = true := bne_iff_ne.mpr c10; exact absurd ((Option.some.inj H).trans hrT_) (by decide)
   ·replace c9 := Bool.eq_false_iff.mpr c9
    subst c9; replace H := iN_ H; exact absurd ((Option.some.inj H).trans hrT_) (by decide)
  ·replace c7 := Bool.eq_false_iff.mpr c7
   subst c7; replace H := iN_ H; exact absurd ((Option.some.inj H).trans hrT_) (by decide)
def Out (v : List S46) (e : S46) (m d : Nat) (R : PR) : Prop :=
  (R.x = none ∧ rt R.n = true ∧ R.m = ((m + nd R.n : Nat) : Int) ∧ m + nd R.n ≤ 64 ∧ R.d = (d : Int) ∧ d + dp R.n ≤ 8 ∧ ∃ v', R.t = v' ++ [e] ∧ v' <:+ v ∧ v'.length < v.length)
  ∨ ∃ a c, R.x = some (a, c) ∧ (∃ x, x ∈ v ++ [e] ∧ a = x.f1) ∧ c ≠ 0
def OutE (v : List S46) (e : S46) (m : Nat) (d : Int) (R : PR) : Prop :=
  (R.x = none ∧ endV R.n = true ∧ R.m = ((m + 1 : Nat) : Int) ∧ m + 1 ≤ 64 ∧ R.d = d ∧ ∃ v', R.t = v' ++ [e] ∧ v' <:+ v ∧ v'.length < v.length)
  ∨ ∃ a c, R.x = some (a, c) ∧ (∃ x, x ∈ v ++ [e] ∧ a = x.f1) ∧ c ≠ 0
def shortW (v : List S46) : Prop := ∀ x, x ∈ v → x.f2.size ≤ 4611686018427387904
theorem eNot_ne (x : S46) (c : Int) (h : c ≠ 0) : eNot x c ≠ 0 := by unfold eNot; split <;> omega
theorem cons_of (v : List S46) (e : S46) : ∃ y u, v ++ [e] = y :: u := by cases v with
  | nil => exact ⟨_, _, rfl⟩
  | cons y u => exact ⟨_, _, rfl⟩
theorem marked_any (e : S46) (he : e.f0 = 9) (p : S24) : ∀ (v : List S46) (a b : Bool), ∃ a' b' v', pMarked (v ++ [e]) p a b = some (⟨0, p, a', b', []⟩, v' ++ [e]) ∧ v' <:+ v
  | [], a, b => ⟨a, b, [], by rw [List.nil_append, pMarked, if_neg (by omega), if_neg (by omega)], List.suffix_refl _⟩
  | x :: v, a, b => by
    rw [List.cons_append, pMarked]
    by_cases c7 : x.f0 = 7
    · rw [if_pos c7]
      by_cases ca : a = false
      · rw [if_pos ca]
        obtain ⟨a', b', v', h, hs⟩ := marked_any e he p v true b
        exact ⟨a', b', v', h, hs.trans (List.suffix_cons _ _)⟩
      · rw [if_neg ca]; exact ⟨a, b, x :: v, rfl, List.suffix_refl _⟩
    · rw [if_neg c7]
      by_cases c8 : x.f0 = 8
      · rw [if_pos c8]
        by_cases cb : b = false
        · rw [if_pos cb]
          obtain ⟨a', b', v', h, hs⟩ := marked_any e he p v a true
          exact ⟨a', b', v', h, hs.trans (List.suffix_cons _ _)⟩
        · rw [if_neg cb]; exact ⟨a, b, x :: v, rfl, List.suffix_refl _⟩
      · rw [if_neg c8]; exact ⟨a, b, x :: v, rfl, List.suffix_refl _⟩
theorem endV_pt (p : S24) (a b : Bool) (h : ptV p = true) : endV ⟨0, p, a, b, []⟩ = true := by
  unfold endV
  rw [if_pos rfl]
  show (decide (([] : List S27) = []) && ptV p) = true
  rw [h]; simp
theorem endV_kz (k : Int) (h : k = 3 ∨ k = 4) : endV (kz k) = true := by
  have hb : bareV (kz k) = true := bare_mk k []
  unfold endV
  rw [hb, if_neg (show ¬ (kz k).f0 = 0 by show ¬ k = 0; omega), if_pos (show (kz k).f0 = 3 ∨ (kz k).f0 = 4 from h)]
  simp [kz]
theorem end_any (e : S46) (he : e.f0 = 9) (v : List S46) (hw : shortW v) (m : Nat) (d : Int) (hm : m ≤ 64) : ∃ R, Ev (fun k => pEnd k (m : Int) d (v ++ [e])) R ∧ OutE v e m d R := by
  cases v with
  | nil =>
    refine ⟨⟨pz, some (e.f1, eNot e 3), [e], (m : Int), d⟩, ?_, .inr ⟨_, _, rfl, ⟨e, by simp, rfl⟩, eNot_ne _ _ (by omega)⟩⟩
    unfold pEnd
    exact Ev.iff_ (by omega) (Ev.iff_ (by omega) (Ev.iff_ (by omega) (Ev.now _)))
  | cons x v =>
    have bad : ∀ c : Int, c ≠ 0 → OutE (x :: v) e m d ⟨pz, some (x.f1, eNot x c), x :: (v ++ [e]), (m : Int), d⟩ := fun c hc => .inr ⟨_, _, rfl, ⟨x, by simp, rfl⟩, eNot_ne _ _ hc⟩
    unfold pEnd
    by_cases c0 : x.f0 = 0
    · by_cases c64 : (m : Int) = 64
      · exact ⟨_, Ev.ift c0 (Ev.ift c64 (Ev.now _)), bad 6 (by omega)⟩
      · have hx := hw x (by simp)
        have hm1 : m + 1 ≤ 64 := by omega
        have hrd := read_any x.f2.data.toList (by rw [← bsize]; exact hx)
        rw [bA_mk] at hrd
        unfold pWord
        rw [up1 (by omega)]
        rcases hrd with ⟨p, hp, _, hr⟩ | ⟨_, hr⟩
        · obtain ⟨a', b', v', hM, hs⟩ := marked_any e he ⟨p.f0, p.f1, p.f2, p.f3⟩ v false false
          refine ⟨⟨⟨0, ⟨p.f0, p.f1, p.f2, p.f3⟩, a', b', []⟩, none, v' ++ [e], ((m + 1 : Nat) : Int), d⟩, Ev.ift c0 (Ev.iff_ c64 (Ev.bind hr (Ev.ift rfl (Ev.bnow hM (Ev.now _))))), .inl ⟨rfl, endV_pt _ _ _ hp, rfl, hm1, rfl, v', rfl, hs.trans (List.suffix_cons _ _), ?_⟩⟩
          have := hs.length_le
          rw [List.length_cons]; omega
        · exact ⟨⟨pz, some (x.f1, eNot x 2), x :: (v ++ [e]), ((m + 1 : Nat) : Int), d⟩, Ev.ift c0 (Ev.iff_ c64 (Ev.bind hr (Ev.iff_ (by simp) (Ev.now _)))), .inr ⟨_, _, rfl, ⟨x, by simp, rfl⟩, eNot_ne _ _ (by omega)⟩⟩
    by_cases c2 : x.f0 = 2
    · by_cases c64 : (m : Int) = 64
      · exact ⟨_, Ev.iff_ c0 (Ev.ift c2 (Ev.ift c64 (Ev.now _))), bad 6 (by omega)⟩
      · rw [up1 (by omega)]
        exact ⟨⟨kz 3, none, v ++ [e], ((m + 1 : Nat) : Int), d⟩, Ev.iff_ c0 (Ev.ift c2 (Ev.iff_ c64 (Ev.now _))), .inl ⟨rfl, endV_kz 3 (.inl rfl), rfl, by omega, rfl, v, rfl, List.suffix_cons _ _, by simp⟩⟩
    by_cases c3 : x.f0 = 3
    · by_cases c64 : (m : Int) = 64
      · exact ⟨_, Ev.iff_ c0 (Ev.iff_ c2 (Ev.ift c3 (Ev.ift c64 (Ev.now _)))), bad 6 (by omega)⟩
      · rw [up1 (by omega)]
        exact ⟨⟨kz 4, none, v ++ [e], ((m + 1 : Nat) : Int), d⟩, Ev.iff_ c0 (Ev.iff_ c2 (Ev.ift c3 (Ev.iff_ c64 (Ev.now _)))), .inl ⟨rfl, endV_kz 4 (.inr rfl), rfl, by omega, rfl, v, rfl, List.suffix_cons _ _, by simp⟩⟩
    · exact ⟨_, Ev.iff_ c0 (Ev.iff_ c2 (Ev.iff_ c3 (Ev.now _))), bad 3 (by omega)⟩
theorem nd_end {n : S27} (h : endV n = true) : nd n = 1 := by rw [nd_eq, (end_kinds h).1]; rfl
theorem dp_end0 {n : S27} (h : endV n = true) : dp n = 0 := by
  obtain ⟨h4, hk⟩ := end_kinds h
  rw [dp_eq, if_neg (by omega), h4]; rfl
theorem shortW.suf {v' v : List S46} (hw : shortW v) (h : v' <:+ v) : shortW v' := fun x hx => hw x (h.subset hx)
theorem span_any (e : S46) (he : e.f0 = 9) (v : List S46) (hw : shortW v) (m d : Nat) (hm : m ≤ 64) (hd : d ≤ 8) : ∃ R, Ev (fun k => pSpan k (m : Int) (d : Int) (v ++ [e])) R ∧ Out v e m d R := by
  obtain ⟨R, hR, hO⟩ := end_any e he v hw m d hm
  unfold pSpan
  rcases hO with ⟨hx, hn, hm', hm1, hd', v', ht, hs, hl⟩ | ⟨a, c, hx, hp, hc⟩
  · obtain ⟨n, x, t, m', d'⟩ := R
    simp only at hx hn hm' hd' ht
    subst hx; subst hm'; subst hd'; subst ht
    have h1 := nd_end hn
    have hdp := dp_end0 hn
    have done : ∀ y u, v' ++ [e] = y :: u → y.f0 ≠ 1 → ∃ R, Ev (fun k => (pEnd k (m : Int) (d : Int) (v ++ [e])).bind fun r => match r.x with
        | some _ => some r
        | none => match r.t with
          | [] => none
          | y :: u => if y.f0 = 1 then (if r.m = 64 then some ⟨r.n, some (y.f1, eNot y 6), y :: u, r.m, r.d⟩ else (pEnd k (wrap64 (r.m + 1)) r.d u).bind fun s => some ⟨⟨1, ⟨0, ⟨#[]⟩, ⟨#[]⟩, ⟨#[]⟩⟩, false, false, [r.n, s.n]⟩, s.x, s.t, s.m, s.d⟩)
            else if r.n.f0 = 0 then some ⟨r.n, none, y :: u, r.m, r.d⟩ else some ⟨r.n, some (y.f1, eNot y 3), y :: u, r.m, r.d⟩) R ∧ Out v e m d R := fun y u hyu hy => by
      rw [hyu] at hR
      have hmem : y ∈ v ++ [e] := by
        have : y ∈ v' ++ [e] := by rw [hyu]; simp
        rcases List.mem_append.1 this with h | h
        · exact List.mem_append.2 (.inl (hs.subset h))
        · exact List.mem_append.2 (.inr h)
      by_cases cn : n.f0 = 0
      · refine ⟨_, Ev.bind hR (Ev.iff_ hy (Ev.ift cn (Ev.now _))), .inl ⟨rfl, by rw [rt_eq, if_pos cn]; exact hn, by rw [h1], (show m + nd n ≤ 64 by omega), rfl, (show d + dp n ≤ 8 by omega), v', hyu.symm, hs, hl⟩⟩
      · exact ⟨_, Ev.bind hR (Ev.iff_ hy (Ev.iff_ cn (Ev.now _))), .inr ⟨_, _, rfl, ⟨y, hmem, rfl⟩, eNot_ne _ _ (by omega)⟩⟩
    cases v' with
    | nil => exact done e [] rfl (by omega)
    | cons y u =>
      by_cases cy : y.f0 = 1
      · have hmem : y ∈ v ++ [e] := List.mem_append.2 (.inl (hs.subset (by simp)))
        by_cases c64 : ((m + 1 : Nat) : Int) = 64
        · exact ⟨_, Ev.bind hR (Ev.ift cy (Ev.ift c64 (Ev.now _))), .inr ⟨_, _, rfl, ⟨y, hmem, rfl⟩, eNot_ne _ _ (by omega)⟩⟩
        · have hu : u <:+ v := (List.suffix_cons y u).trans hs
          obtain ⟨S, hS, hSO⟩ := end_any e he u (hw.suf hu) (m + 2) d (by omega)
          have hE : Ev (fun k => (pEnd k (wrap64 (((m + 1 : Nat) : Int) + 1)) (d : Int) (u ++ [e])).bind fun s => some (⟨⟨1, ⟨0, ⟨#[]⟩, ⟨#[]⟩, ⟨#[]⟩⟩, false, false, [n, s.n]⟩, s.x, s.t, s.m, s.d⟩ : PR)) ⟨⟨1, ⟨0, ⟨#[]⟩, ⟨#[]⟩, ⟨#[]⟩⟩, false, false, [n, S.n]⟩, S.x, S.t, S.m, S.d⟩ := by
            rw [up1 (by omega)]
            exact Ev.bind hS (Ev.now _)
          refine ⟨_, Ev.bind hR (Ev.ift cy (Ev.iff_ c64 hE)), ?_⟩
          rcases hSO with ⟨sx, sn, sm, sm1, sd, w', st, ss, sl⟩ | ⟨a, c, sx, ⟨x, hx, hax⟩, hc⟩
          · have s1 := nd_end sn
            have s2 := dp_end0 sn
            have hnd : nd (⟨1, ⟨0, ⟨#[]⟩, ⟨#[]⟩, ⟨#[]⟩⟩, false, false, [n, S.n]⟩ : S27) = 3 := by rw [nd, ndL, ndL, ndL, h1, s1]
            have hdp2 : dp (⟨1, ⟨0, ⟨#[]⟩, ⟨#[]⟩, ⟨#[]⟩⟩, false, false, [n, S.n]⟩ : S27) = 0 := by rw [dp, if_neg (by decide), dpL, dpL, dpL, hdp, s2]; rfl
            refine .inl ⟨sx, ?_, ?_, by rw [hnd]; omega, sd, by rw [hdp2]; omega, w', st, ss.trans hu, ?_⟩
            · rw [rt_eq, if_neg (show ¬ (1 : Int) = 0 by decide), if_pos rfl]
              show (bareV ⟨1, ⟨0, e0, e0, e0⟩, false, false, [n, S.n]⟩ && two [n, S.n]) = true
              rw [bare_mk, two, hn, sn]; rfl
            · show S.m = _
              rw [sm, hnd]
            · simp only [List.length_cons] at hl; omega
          · refine .inr ⟨a, c, sx, ⟨x, ?_, hax⟩, hc⟩
            rcases List.mem_append.1 hx with h | h
            · exact List.mem_append.2 (.inl (hu.subset h))
            · exact List.mem_append.2 (.inr h)
      · exact done y (u ++ [e]) rfl cy
  · refine ⟨R, Ev.bind hR ?_, .inr ⟨a, c, hx, hp, hc⟩⟩
    rw [hx]; exact Ev.now _
theorem rtL_app : ∀ l u : List S27, rtL (l ++ u) = (rtL l && rtL u)
  | [], u => by simp [rtL]
  | x :: l, u => by rw [List.cons_append, rtL, rtL, rtL_app l u, Bool.and_assoc]
def ExprAny (e : S46) (v : List S46) : Prop := ∀ m d : Nat, m ≤ 64 → d ≤ 8 → ∃ R, Ev (fun k => pExpr k (m : Int) (d : Int) (v ++ [e])) R ∧ Out v e m d R
def ItemsAny (e : S46) (v : List S46) : Prop := ∀ (x : S46) (acc : List S27) (m d : Nat), rtL acc = true → m + 1 + ndL acc ≤ 64 → d + 1 + dpL acc ≤ 8 →
  ∃ R, Ev (fun k => pItems k ((m + 1 + ndL acc : Nat) : Int) ((d + 1 : Nat) : Int) (x :: (v ++ [e])) acc) R ∧ Out v e m d R
theorem expr_of (e : S46) (he : e.f0 = 9) (v : List S46) (hw : shortW v) (ih : ∀ u, u.length < v.length → shortW u → ItemsAny e u) : ExprAny e v := fun m d hm hd => by
  by_cases hv : ∃ x u, v = x :: u ∧ x.f0 = 4
  · obtain ⟨x, u, rfl, h4⟩ := hv
    have mem : x ∈ (x :: u) ++ [e] := by simp
    by_cases c8 : d = 8
    · refine ⟨⟨pz, some (x.f1, eNot x 5), x :: (u ++ [e]), (m : Int), (d : Int)⟩, ?_, .inr ⟨_, _, rfl, ⟨x, mem, rfl⟩, eNot_ne _ _ (by omega)⟩⟩
      refine Ev.step (f := fun k => pList k (m : Int) (d : Int) x (u ++ [e])) (fun k => by rw [List.cons_append, pExpr, if_pos h4]) ?_
      exact Ev.step (fun k => by rw [pList, if_pos (by omega)]) (Ev.now _)
    by_cases c64 : m = 64
    · refine ⟨⟨pz, some (x.f1, eNot x 6), x :: (u ++ [e]), (m : Int), (d : Int)⟩, ?_, .inr ⟨_, _, rfl, ⟨x, mem, rfl⟩, eNot_ne _ _ (by omega)⟩⟩
      refine Ev.step (f := fun k => pList k (m : Int) (d : Int) x (u ++ [e])) (fun k => by rw [List.cons_append, pExpr, if_pos h4]) ?_
      exact Ev.step (fun k => by rw [pList, if_neg (by omega), if_pos (by omega)]) (Ev.now _)
    · obtain ⟨R, hR, hO⟩ := ih u (by simp) (hw.suf (List.suffix_cons x u)) x [] m d rfl (by simp only [ndL]; omega) (by simp only [dpL]; omega)
      simp only [ndL, Nat.add_zero] at hR
      refine ⟨R, ?_, ?_⟩
      · refine Ev.step (f := fun k => pList k (m : Int) (d : Int) x (u ++ [e])) (fun k => by rw [List.cons_append, pExpr, if_pos h4]) ?_
        exact Ev.step (fun k => by rw [pList, if_neg (by omega), if_neg (by omega), up1 (by omega), up1 (by omega)]) hR
      · rcases hO with ⟨h1, h2, h3, h5, h6, h7, v', ht, hs, hl⟩ | ⟨a, c, hx, ⟨y, hy, hay⟩, hc⟩
        · exact .inl ⟨h1, h2, h3, h5, h6, h7, v', ht, hs.trans (List.suffix_cons x u), by rw [List.length_cons]; omega⟩
        · exact .inr ⟨a, c, hx, ⟨y, by rw [List.cons_append]; exact List.mem_cons_of_mem _ hy, hay⟩, hc⟩
  · obtain ⟨R, hR, hO⟩ := span_any e he v hw m d hm hd
    refine ⟨R, ?_, hO⟩
    cases v with
    | nil => exact Ev.step (fun k => by rw [List.nil_append, pExpr, if_neg (by omega)]) hR
    | cons x u => exact Ev.step (fun k => by rw [List.cons_append, pExpr, if_neg (fun h => hv ⟨x, u, rfl, h⟩)]) hR
theorem items_of (e : S46) (he : e.f0 = 9) (v : List S46) (hw : shortW v) (hE : ExprAny e v) (ih : ∀ u, u.length < v.length → shortW u → ItemsAny e u) : ItemsAny e v := fun x acc m d hrt hm hd => by
  obtain ⟨R, hR, hO⟩ := hE (m + 1 + ndL acc) (d + 1) hm (by omega)
  have hlen := len_nd acc
  rcases hO with ⟨h1, h2, h3, h5, h6, h7, v', ht, hs, hl⟩ | ⟨a, c, hx, hp, hc⟩
  · obtain ⟨n, x', t, m', d'⟩ := R
    simp only at h1 h2 h3 h5 h6 h7 ht
    subst h1; subst h3; subst h6
    have e1 : m + 1 + ndL acc + nd n = m + 1 + ndL (acc ++ [n]) := by rw [ndL_app, ndL, ndL]; omega
    have e2 : rtL (acc ++ [n]) = true := by rw [rtL_app, hrt, rtL, h2]; rfl
    have e3 : d + 1 + dpL (acc ++ [n]) ≤ 8 := by rw [dpL_app, dpL, dpL]; omega
    have hl2 : (acc ++ [n]).length ≤ 64 := by have := len_nd (acc ++ [n]); omega
    have other : ∀ y u, v' ++ [e] = y :: u → y.f0 ≠ 6 → y.f0 ≠ 5 → ∃ R, Ev (fun k => pItems k ((m + 1 + ndL acc : Nat) : Int) ((d + 1 : Nat) : Int) (x :: (v ++ [e])) acc) R ∧ Out v e m d R := fun y u hyu c6 c5 => by
      have hmem : y ∈ v ++ [e] := by
        have : y ∈ v' ++ [e] := by rw [hyu]; simp
        rcases List.mem_append.1 this with h | h
        · exact List.mem_append.2 (.inl (hs.subset h))
        · exact List.mem_append.2 (.inr h)
      rw [ht, hyu] at hR
      exact ⟨_, Ev.step (fun k => pItems_one k _ _ x _ acc) (Ev.bind hR (Ev.ift (by omega) (Ev.iff_ c6 (Ev.iff_ c5 (Ev.now _))))), .inr ⟨_, _, rfl, ⟨y, hmem, rfl⟩, eNot_ne _ _ (by omega)⟩⟩
    cases v' with
    | nil => exact other e [] rfl (by omega) (by omega)
    | cons y u =>
      have hu : u <:+ v := (List.suffix_cons y u).trans hs
      simp only [List.length_cons] at hl
      rw [ht, List.cons_append] at hR
      by_cases c6 : y.f0 = 6
      · obtain ⟨S, hS, hSO⟩ := ih u (by omega) (hw.suf hu) y (acc ++ [n]) m d e2 (by omega) e3
        rw [← e1] at hS
        refine ⟨S, items_step hR (by omega) (.inl ⟨c6, hS⟩), ?_⟩
        rcases hSO with ⟨s1, s2, s3, s5, s6, s7, w', st, ss, sl⟩ | ⟨a, c, sx, ⟨z, hz, haz⟩, hc⟩
        · exact .inl ⟨s1, s2, s3, s5, s6, s7, w', st, ss.trans hu, by omega⟩
        · refine .inr ⟨a, c, sx, ⟨z, ?_, haz⟩, hc⟩
          rcases List.mem_append.1 hz with h | h
          · exact List.mem_append.2 (.inl (hu.subset h))
          · exact List.mem_append.2 (.inr h)
      by_cases c5 : y.f0 = 5
      · have hnd : nd (⟨2, ⟨0, e0, e0, e0⟩, false, false, acc ++ [n]⟩ : S27) = 1 + ndL (acc ++ [n]) := by rw [nd]; omega
        have hdp : dp (⟨2, ⟨0, e0, e0, e0⟩, false, false, acc ++ [n]⟩ : S27) = dpL (acc ++ [n]) + 1 := by rw [dp, if_pos rfl]
        refine ⟨⟨⟨2, ⟨0, e0, e0, e0⟩, false, false, acc ++ [n]⟩, none, u ++ [e], ((m + 1 + ndL acc + nd n : Nat) : Int), (d : Int)⟩, items_step hR (by omega) (.inr ⟨c5, ?_, by omega⟩), .inl ⟨rfl, ?_, ?_, by rw [hnd]; omega, rfl, by rw [hdp]; omega, u, rfl, hu, by omega⟩⟩
        · rw [w64 (by omega) (by omega)]
          have : ((d + 1 : Nat) : Int) - 1 = (d : Int) := by omega
          rw [this]
        · rw [rt_eq, if_neg (show ¬ (2 : Int) = 0 by decide), if_neg (show ¬ (2 : Int) = 1 by decide), if_pos rfl, bare_mk]
          show (true && (decide (acc ++ [n] ≠ []) && rtL (acc ++ [n]))) = true
          rw [e2]; simp
        · show ((m + 1 + ndL acc + nd n : Nat) : Int) = _
          rw [hnd, e1]; omega
      · exact other y (u ++ [e]) rfl c6 c5
  · refine ⟨R, Ev.step (fun k => pItems_one k _ _ x _ acc) (Ev.bind hR ?_), .inr ⟨a, c, hx, hp, hc⟩⟩
    rw [hx]; exact Ev.now _
theorem items_any (e : S46) (he : e.f0 = 9) : ∀ (M : Nat) (v : List S46), v.length ≤ M → shortW v → ItemsAny e v
  | 0, v, hl, hw => items_of e he v hw (expr_of e he v hw (fun u h _ => by omega)) (fun u h _ => by omega)
  | M + 1, v, hl, hw => items_of e he v hw (expr_of e he v hw (fun u h hu => items_any e he M u (by omega) hu)) (fun u h hu => items_any e he M u (by omega) hu)
theorem expr_any (e : S46) (he : e.f0 = 9) (v : List S46) (hw : shortW v) : ExprAny e v := expr_of e he v hw (fun u _ hu => items_any e he _ u (Nat.le_refl _) hu)
def badC : List UInt8 → Prop
  | [] => False
  | c :: r => isW c = false ∧ signB (c.toNat : Int) = false ∧ c ≠ 32 ∧ ([46, 46] : List UInt8).isPrefixOf (c :: r) = false
def okG : List It → List UInt8 → Prop
  | [], r => r = [] ∨ badC r
  | .w l :: t, r => l ≠ [] ∧ l.all isW = true ∧ noW (flatT t ++ r) ∧ okG t r
  | .s k c :: t, r => signK (c.toNat : Int) = k ∧ signB (c.toNat : Int) = true ∧ okG t r
  | .d :: t, r => okG t r
  | .b :: t, r => okG t r
theorem drop_noW : ∀ l : List UInt8, noW (l.dropWhile isW)
  | [] => trivial
  | c :: l => by
    rw [List.dropWhile_cons]
    cases h : isW c with
    | true => exact drop_noW l
    | false => exact h
theorem all_take : ∀ l : List UInt8, (l.takeWhile isW).all isW = true
  | [] => rfl
  | c :: l => by
    rw [List.takeWhile_cons]
    cases h : isW c with
    | true => simp only [if_true, List.all_cons, h, Bool.true_and]; exact all_take l
    | false => rfl
theorem split_any : ∀ (M : Nat) (l : List UInt8), l.length ≤ M → ∃ its r, okG its r ∧ l = flatT its ++ r
  | _, [], _ => ⟨[], [], .inl rfl, rfl⟩
  | 0, c :: l, h => by rw [List.length_cons] at h; omega
  | M + 1, c :: l, h => by
    rw [List.length_cons] at h
    by_cases hW : isW c = true
    · have e := List.takeWhile_append_dropWhile (p := isW) (l := c :: l)
      have ht : (c :: l).takeWhile isW = c :: l.takeWhile isW := by rw [List.takeWhile_cons, hW]; rfl
      have hd : (c :: l).dropWhile isW = l.dropWhile isW := by rw [List.dropWhile_cons, hW]; rfl
      have hlen : (l.dropWhile isW).length ≤ l.length := (List.dropWhile_suffix _).length_le
      obtain ⟨its, r, ho, hr⟩ := split_any M (l.dropWhile isW) (by omega)
      refine ⟨.w (c :: l.takeWhile isW) :: its, r, ⟨by simp, ?_, ?_, ho⟩, ?_⟩
      · rw [← ht]; exact all_take _
      · rw [← hr]; exact drop_noW l
      · rw [flatT, List.append_assoc, ← hr, ← hd, It.tx, ← ht, e]
    have hW : isW c = false := Bool.eq_false_iff.mpr hW
    by_cases hS : signB (c.toNat : Int) = true
    · obtain ⟨its, r, ho, hr⟩ := split_any M l (by omega)
      exact ⟨.s (signK (c.toNat : Int)) c :: its, r, ⟨rfl, hS, ho⟩, by rw [flatT, It.tx, hr]; rfl⟩
    have hS : signB (c.toNat : Int) = false := Bool.eq_false_iff.mpr hS
    by_cases h2 : ([46, 46] : List UInt8).isPrefixOf (c :: l) = true
    · obtain ⟨u, rfl, rfl⟩ : ∃ u, c = 46 ∧ l = 46 :: u := by
        cases l with
        | nil => simp [List.isPrefixOf] at h2
        | cons b u =>
          simp only [List.isPrefixOf, Bool.and_true, Bool.and_eq_true, beq_iff_eq] at h2
          exact ⟨u, h2.1.symm, by rw [← h2.2]⟩
      rw [List.length_cons] at h
      obtain ⟨its, r, ho, hr⟩ := split_any M u (by omega)
      exact ⟨.d :: its, r, ho, by rw [flatT, It.tx, hr]; rfl⟩
    by_cases h3 : c = 32
    · obtain ⟨its, r, ho, hr⟩ := split_any M l (by omega)
      exact ⟨.b :: its, r, ho, by rw [flatT, It.tx, hr, h3]; rfl⟩
    · exact ⟨[], c :: l, .inr ⟨hW, hS, h3, Bool.eq_false_iff.mpr h2⟩, rfl⟩
theorem lex_round (p X : List UInt8) (c : UInt8) (l : List UInt8) (hX : X = c :: l) (acc : List S46) (k : Nat) :
    lex_All.l0 (k + 1) (bA (p ++ X)) acc (p.length : Int) = (lex_word.f k (bA X)).bind fun t274 => (if t274 > 0 then (if (p.length : Int) ≤ (wrap64 ((p.length : Int) + t274)) then (if (wrap64 ((p.length : Int) + t274)) ≤ ((bA (p ++ X)).size : Int) then (if acc.length < 4398046511104 then (lex_All.l0 k (bA (p ++ X)) (acc ++ [(⟨0, (p.length : Int), (bA (p ++ X)).extract ((p.length : Int)).toNat ((wrap64 ((p.length : Int) + t274)) : Int).toNat⟩ : S46)]) (wrap64 ((p.length : Int) + t274))) else (none)) else (none)) else (none)) else (if signB (c.toNat : Int) = true then (if acc.length < 4398046511104 then (lex_All.l0 k (bA (p ++ X)) (acc ++ [(⟨signK (c.toNat : Int), (p.length : Int), (⟨#[]⟩ : ByteArray)⟩ : S46)]) (wrap64 ((p.length : Int) + 1))) else (none)) else (if ([46, 46] : List UInt8).isPrefixOf X = true then (if acc.length < 4398046511104 then (lex_All.l0 k (bA (p ++ X)) (acc ++ [(⟨2, (p.length : Int), (⟨#[]⟩ : ByteArray)⟩ : S46)]) (wrap64 ((p.length : Int) + 2))) else (none)) else (if (c.toNat : Int) = 32 then (lex_All.l0 k (bA (p ++ X)) acc (wrap64 ((p.length : Int) + 1))) else (some (([] : List S46), (p.length : Int), 1)))))) := by
  have hbt : bt (bA (p ++ X)) (p.length : Int) = (c.toNat : Int) := by rw [hX, bt_mid]
  have hsz : ((bA (p ++ X)).size : Int) = ((p ++ X).length : Nat) := by rw [bA_size]
  have hlt : (p.length : Int) < ((bA (p ++ X)).size : Int) := by rw [hsz, hX, List.length_append, List.length_cons]; omega
  have hext : (bA (p ++ X)).extract ((p.length : Int)).toNat (bA (p ++ X)).size = bA X := by rw [Int.toNat_natCast]; exact ext_end p _
  have hp := prefix_f X [46, 46]
  rw [lex_All.l0, if_pos hlt, if_pos (by omega), hbt, hext]
  simp only [lex_signs.f, Option.bind_some]
  rw [if_pos (by omega)]
  have e1 : (⟨#[46, 46]⟩ : ByteArray) = bA [46, 46] := rfl
  rw [e1, hp]
  rfl
def lexR (p : List UInt8) (acc : List S46) (its : List It) (r : List UInt8) : List S46 × Int × Int :=
  if r = [] then (acc ++ toks p.length its ++ [endT (p ++ (flatT its ++ r)).length], ((p ++ (flatT its ++ r)).length : Int), 0) else ([], ((p.length + (flatT its).length : Nat) : Int), 1)
theorem lex_g (r : List UInt8) : ∀ (its : List It) (p : List UInt8) (acc : List S46), okG its r → (p ++ (flatT its ++ r)).length ≤ 1000000 → acc.length ≤ p.length →
    Ev (fun k => lex_All.l0 k (bA (p ++ (flatT its ++ r))) acc (p.length : Int)) (lexR p acc its r)
  | [], p, acc, hok, hn, ha => by
    unfold lexR
    rw [flatT, List.nil_append] at hn ⊢
    rcases hok with rfl | hb
    · rw [if_pos rfl]
      refine Ev.step (f := fun _ => some (acc ++ toks p.length [] ++ [endT (p ++ []).length], ((p ++ []).length : Int), 0)) (fun k => ?_) (Ev.now _)
      rw [lex_All.l0, bA_size, if_neg (by simp), if_pos (by simp at hn; omega)]
      simp only [toks, List.append_nil]
      rfl
    · cases r with
      | nil => exact hb.elim
      | cons c l =>
        obtain ⟨h1, h2, h3, h4⟩ := hb
        rw [if_neg (by simp)]
        have hword := word_f (c :: l) (by rw [List.length_append] at hn; omega)
        have e1 : (c :: l).takeWhile isW = [] := take_W [] (c :: l) rfl h1
        rw [e1] at hword
        have h32 : ¬ (c.toNat : Int) = 32 := fun h => h3 (u8eq (show c.toNat = 32 by omega))
        refine Ev.step (lex_round p (c :: l) c l rfl acc) (Ev.bind hword (Ev.iff_ (by simp) (Ev.iff_ (by rw [h2]; simp) (Ev.iff_ (by rw [h4]; simp) (Ev.iff_ h32 ?_)))))
        exact Ev.eq (Ev.now _) (by simp)
  | i :: t, p, acc, hok, hn, ha => by
    rw [flatT, List.append_assoc] at hn ⊢
    have hlen : p.length + i.tx.length + (flatT t).length + r.length ≤ 1000000 := by simp only [List.length_append] at hn; omega
    have hhead : ∃ c l, i.tx ++ (flatT t ++ r) = c :: l := by
      cases i with
      | w l => obtain ⟨h1, _⟩ := hok; cases l with
        | nil => exact absurd rfl h1
        | cons c l => exact ⟨c, _, rfl⟩
      | s k c => exact ⟨c, _, rfl⟩
      | d => exact ⟨46, _, rfl⟩
      | b => exact ⟨32, _, rfl⟩
    obtain ⟨c, l, hcl⟩ := hhead
    have next : ∀ (acc' : List S46), okG t r → acc'.length ≤ p.length + i.tx.length → acc' = acc ++ i.tok p.length → Ev (fun k => lex_All.l0 k (bA (p ++ (i.tx ++ (flatT t ++ r)))) acc' ((p.length : Int) + (i.tx.length : Int))) (lexR p acc (i :: t) r) := fun acc' hr ha' e => by
      have := lex_g r t (p ++ i.tx) acc' hr (by simp only [List.length_append]; omega) (by rw [List.length_append]; exact ha')
      have e3 : ((p ++ i.tx).length : Int) = (p.length : Int) + (i.tx.length : Int) := by rw [List.length_append]; omega
      rw [e3, List.append_assoc p] at this
      refine Ev.eq this ?_
      unfold lexR
      rw [flatT, toks, e]
      by_cases h0 : r = []
      · rw [if_pos h0, if_pos h0]
        simp only [List.append_assoc, List.length_append]
      · rw [if_neg h0, if_neg h0]
        simp only [List.length_append, Nat.add_assoc]
    have W : ∀ n : Nat, n ≤ 1000000 → wrap64 ((p.length : Int) + (n : Int)) = (p.length : Int) + (n : Int) := fun n h => w64 (by omega) (by omega)
    have w1 := W 1 (by omega)
    have w2 := W 2 (by omega)
    have n1 := Aside0.mk w1
    have n2 := Aside0.mk w2
    clear w1 w2
    have hword := word_f (i.tx ++ (flatT t ++ r)) (by simp only [List.length_append]; omega)
    refine Ev.step (lex_round p _ c l hcl acc) (Ev.bind hword ?_)
    cases i with
    | w u =>
      obtain ⟨h1, h2, h3, h4⟩ := hok
      have hu := List.length_pos_iff.2 h1
      have e1 : ((It.w u).tx ++ (flatT t ++ r)).takeWhile isW = u := take_W u _ h2 h3
      rw [e1]
      rw [W u.length (by simp only [It.tx] at hlen; omega)]
      refine Ev.ift (by omega) (Ev.ift (by omega) (Ev.ift (by rw [bA_size]; simp only [It.tx, List.length_append]; omega) (Ev.ift (by simp only [It.tx] at hlen; omega) ?_)))
      have e2 : (bA (p ++ ((It.w u).tx ++ (flatT t ++ r)))).extract ((p.length : Int)).toNat ((p.length : Int) + (u.length : Int)).toNat = bA u := by
        have : ((p.length : Int) + (u.length : Int)).toNat = p.length + u.length := by omega
        rw [Int.toNat_natCast, this]
        exact ext_bA p u _
      rw [e2]
      exact next (acc ++ [⟨0, (p.length : Int), bA u⟩]) h4 (by simp only [It.tx, List.length_append, List.length_cons, List.length_nil]; omega) rfl
    | s k d =>
      obtain ⟨h1, h2, h3⟩ := hok
      injection hcl with hc _
      subst hc
      have e1 : ((It.s k d).tx ++ (flatT t ++ r)).takeWhile isW = [] := take_W [] _ rfl (sign_noW h2)
      rw [e1]
      refine Ev.iff_ (by simp) (Ev.ift h2 (Ev.ift (by omega) ?_))
      rw [h1]
      rw [show wrap64 ((p.length : Int) + 1) = (p.length : Int) + 1 from n1.out]
      exact next (acc ++ [⟨k, (p.length : Int), e0⟩]) h3 (by simp only [It.tx, List.length_append, List.length_cons, List.length_nil]; omega) rfl
    | d =>
      injection hcl with hc _
      subst hc
      have e1 : (It.d.tx ++ (flatT t ++ r)).takeWhile isW = [] := take_W [] _ rfl (show isW 46 = false by decide)
      rw [e1]
      refine Ev.iff_ (by simp) (Ev.iff_ (by decide) (Ev.ift (by simp [It.tx, List.isPrefixOf]) (Ev.ift (by omega) ?_)))
      rw [show wrap64 ((p.length : Int) + 2) = (p.length : Int) + 2 from n2.out]
      exact next (acc ++ [⟨2, (p.length : Int), e0⟩]) hok (by simp only [It.tx, List.length_append, List.length_cons, List.length_nil]; omega) rfl
    | b =>
      injection hcl with hc _
      subst hc
      have e1 : (It.b.tx ++ (flatT t ++ r)).takeWhile isW = [] := take_W [] _ rfl (show isW 32 = false by decide)
      rw [e1]
      refine Ev.iff_ (by simp) (Ev.iff_ (by decide) (Ev.iff_ (by simp [It.tx, List.isPrefixOf]) (Ev.ift (by decide) ?_)))
      rw [show wrap64 ((p.length : Int) + 1) = (p.length : Int) + 1 from n1.out]
      exact next acc hok (by simp only [It.tx, List.length_cons, List.length_nil]; omega) (by simp [It.tok])
theorem All_ok (its : List It) (h : okG its []) (hn : (flatT its).length ≤ 2000) : Ev (fun k => lex_All.f k (bA (flatT its))) (toks 0 its ++ [endT (flatT its).length], ((flatT its).length : Int), 0) := by
  have := lex_g [] its [] [] h (by simp only [List.nil_append, List.append_nil]; omega) (Nat.le_refl _)
  unfold lexR at this
  rw [if_pos rfl] at this
  simp only [List.nil_append, List.append_nil, List.length_nil] at this
  exact Ev.iff_ (by rw [bA_size]; omega) this
theorem All_bad (its : List It) (r : List UInt8) (h : okG its r) (hr : r ≠ []) (hn : (flatT its ++ r).length ≤ 2000) : Ev (fun k => lex_All.f k (bA (flatT its ++ r))) ([], ((flatT its).length : Int), 1) := by
  have := lex_g r its [] [] h (by simp only [List.nil_append]; omega) (Nat.le_refl _)
  unfold lexR at this
  rw [if_neg hr] at this
  simp only [List.nil_append, List.length_nil, Nat.zero_add] at this
  exact Ev.iff_ (by rw [bA_size]; omega) this
theorem All_long (l : List UInt8) (h : 2000 < l.length) : Ev (fun k => lex_All.f k (bA l)) ([], 2000, 7) := Ev.ift (by rw [bA_size]; omega) (Ev.now _)
theorem toks_in : ∀ (its : List It) (p : Nat) (x : S46), x ∈ toks p its → (p : Int) ≤ x.f1 ∧ x.f1 ≤ ((p + (flatT its).length : Nat) : Int) ∧ x.f2.size ≤ (flatT its).length
  | [], _, _, h => by cases h
  | i :: t, p, x, h => by
    rw [toks] at h
    rw [flatT, List.length_append]
    rcases List.mem_append.1 h with h | h
    · cases i with
      | w l => obtain rfl := List.mem_singleton.1 h; exact ⟨Int.le_refl _, by simp only; omega, by simp only [bA_size, It.tx]; omega⟩
      | s k c => obtain rfl := List.mem_singleton.1 h; exact ⟨Int.le_refl _, by simp only; omega, Nat.zero_le _⟩
      | d => obtain rfl := List.mem_singleton.1 h; exact ⟨Int.le_refl _, by simp only; omega, Nat.zero_le _⟩
      | b => cases h
    · have := toks_in t _ x h
      exact ⟨by omega, by omega, by omega⟩
def tupP (n : S27) (a e : Int) : Int × Int × ByteArray × ByteArray × ByteArray × Bool × Bool × List S27 × Int × Int := (n.f0, n.f1.f0, n.f1.f1, n.f1.f2, n.f1.f3, n.f2, n.f3, n.f4, a, e)
theorem rletter_f (c : UInt8) : lustrumref09_letter.f (c.toNat : Int) = some (isW c) := by
  have e : ∀ n : Nat, n < 256 → lustrumref09_letter.f ((UInt8.ofNat n).toNat : Int) = some (isW (UInt8.ofNat n)) := by decide +kernel
  have := e c.toNat c.toNat_lt
  rwa [UInt8.ofNat_toNat] at this
theorem rsign_f (c : UInt8) : lustrumref09_sign.f (c.toNat : Int) = some (if signB (c.toNat : Int) = true then signK (c.toNat : Int) else -1) := by
  have e : ∀ n : Nat, n < 256 → lustrumref09_sign.f ((UInt8.ofNat n).toNat : Int) = some (if signB ((UInt8.ofNat n).toNat : Int) = true then signK ((UInt8.ofNat n).toNat : Int) else -1) := by decide +kernel
  have := e c.toNat c.toNat_lt
  rwa [UInt8.ofNat_toNat] at this
theorem signK_pos (c : UInt8) (h : signB (c.toNat : Int) = true) : ¬ signK (c.toNat : Int) < 0 := by
  have e : ∀ n : Nat, n < 256 → signB ((UInt8.ofNat n).toNat : Int) = true → ¬ signK ((UInt8.ofNat n).toNat : Int) < 0 := by decide +kernel
  have := e c.toNat c.toNat_lt
  rw [UInt8.ofNat_toNat] at this
  exact this h
theorem rone_l0 {R : Int × Int × ByteArray × Int} : ∀ (l p u : List UInt8), (p ++ (u ++ l)).length ≤ 1000000 →
    Ev (fun k => lustrumref09_one.j1 k (bA (p ++ (u ++ l))) (p.length : Int) (((u ++ l.takeWhile isW).length : Nat) : Int)) R → Ev (fun k => lustrumref09_one.l0 k (bA (p ++ (u ++ l))) (p.length : Int) (u.length : Int)) R
  | [], p, u, hn, h => by
    simp only [List.append_nil, List.takeWhile_nil, List.length_append] at hn h ⊢
    refine Ev.step (fun k => ?_) h
    rw [lustrumref09_one.l0, w64 (by omega) (by omega), if_neg (by rw [bA_size, List.length_append]; omega)]
  | c :: l, p, u, hn, h => by
    have hl : p.length + u.length + 1 + l.length ≤ 1000000 := by simp only [List.length_append, List.length_cons] at hn; omega
    have hw : wrap64 ((p.length : Int) + (u.length : Int)) = (((p ++ u).length : Nat) : Int) := by rw [w64 (by omega) (by omega), List.length_append]; omega
    have hbt : bt (bA (p ++ (u ++ c :: l))) (((p ++ u).length : Nat) : Int) = (c.toNat : Int) := by
      rw [← List.append_assoc p u (c :: l)]
      exact bt_mid (p ++ u) c l
    have hlt : (((p ++ u).length : Nat) : Int) < ((bA (p ++ (u ++ c :: l))).size : Int) := by rw [bA_size]; simp only [List.length_append, List.length_cons]; omega
    have hw1 : wrap64 ((u.length : Int) + 1) = (((u ++ [c]).length : Nat) : Int) := by rw [w64 (by omega) (by omega)]; simp
    have step : ∀ k, lustrumref09_one.l0 (k + 1) (bA (p ++ (u ++ c :: l))) (p.length : Int) (u.length : Int) = (if isW c = true then lustrumref09_one.l0 k (bA (p ++ (u ++ c :: l))) (p.length : Int) (((u ++ [c]).length : Nat) : Int) else lustrumref09_one.j1 k (bA (p ++ (u ++ c :: l))) (p.length : Int) (u.length : Int)) := fun k => by
      rw [lustrumref09_one.l0, hw, if_pos hlt, if_pos (by omega), hbt, rletter_f, Option.bind_some, hw1]
    refine Ev.step step ?_
    by_cases hc : isW c = true
    · refine Ev.ift hc ?_
      have e1 : u ++ c :: l = (u ++ [c]) ++ l := by simp
      rw [e1] at h hn ⊢
      refine rone_l0 l p (u ++ [c]) hn ?_
      have e2 : (u ++ [c]) ++ l.takeWhile isW = u ++ (c :: l).takeWhile isW := by rw [List.takeWhile_cons, if_pos hc]; simp
      rw [e2]; exact h
    · refine Ev.iff_ hc ?_
      have e2 : u ++ (c :: l).takeWhile isW = u := by rw [List.takeWhile_cons, if_neg hc]; simp
      rw [e2] at h; exact h
theorem rone_w (p w X : List UInt8) (hw : w ≠ []) (ha : w.all isW = true) (hX : noW X) (hn : (p ++ (w ++ X)).length ≤ 1000000) : Ev (fun k => lustrumref09_one.f k (bA (p ++ (w ++ X))) (p.length : Int)) (0, (p.length : Int), bA w, (w.length : Int)) := by
  have hl : p.length + w.length + X.length ≤ 1000000 := by simp only [List.length_append] at hn; omega
  have hp := List.length_pos_iff.2 hw
  refine rone_l0 (w ++ X) p [] hn ?_
  rw [List.nil_append, List.nil_append, take_W w X ha hX]
  refine Ev.step (f := fun _ => some (0, (p.length : Int), bA w, (w.length : Int))) (fun k => ?_) (Ev.now _)
  rw [lustrumref09_one.j1, if_pos (by omega), if_pos (by omega), w64 (by omega) (by omega), if_pos (by omega), if_pos (by rw [bA_size]; simp only [List.length_append]; omega)]
  have e2 : (bA (p ++ (w ++ X))).extract ((p.length : Int)).toNat ((p.length : Int) + (w.length : Int)).toNat = bA w := by
    have : ((p.length : Int) + (w.length : Int)).toNat = p.length + w.length := by omega
    rw [Int.toNat_natCast, this]
    exact ext_bA p w _
  rw [e2]
theorem rone_d (p l : List UInt8) (hn : (p ++ 46 :: l).length ≤ 1000000) : Ev (fun k => lustrumref09_one.f k (bA (p ++ 46 :: l)) (p.length : Int)) (if ([46, 46] : List UInt8).isPrefixOf (46 :: l) = true then (2, (p.length : Int), e0, 2) else (0, 0, e0, 0)) := by
  have hl : p.length + 1 + l.length ≤ 1000000 := by simp only [List.length_append, List.length_cons] at hn; omega
  have e1 : (46 :: l).takeWhile isW = [] := take_W [] (46 :: l) rfl (show isW 46 = false by decide)
  refine rone_l0 (46 :: l) p [] hn ?_
  rw [List.nil_append, List.nil_append, e1]
  have hlt : (p.length : Int) < ((bA (p ++ 46 :: l)).size : Int) := by rw [bA_size, List.length_append, List.length_cons]; omega
  have hbt : bt (bA (p ++ 46 :: l)) (p.length : Int) = 46 := bt_mid p 46 l
  have hw1 : wrap64 ((p.length : Int) + 1) = (((p ++ [46]).length : Nat) : Int) := by rw [w64 (by omega) (by omega)]; simp
  have two : ∀ b : Bool, Ev (fun k => lustrumref09_one.j2 k (p.length : Int) b) (if b = true then (2, (p.length : Int), e0, 2) else (0, 0, e0, 0)) := fun b => by
    cases b with
    | true => exact Ev.step (f := fun _ => some (2, (p.length : Int), e0, 2)) (fun k => by rw [lustrumref09_one.j2, if_pos rfl]; rfl) (Ev.now _)
    | false => exact Ev.step (f := fun _ => some (0, 0, e0, 0)) (fun k => by rw [lustrumref09_one.j2, if_neg (by simp)]; rfl) (Ev.now _)
  refine Ev.step (f := fun k => if (((p ++ [46]).length : Nat) : Int) < ((bA (p ++ 46 :: l)).size : Int) then lustrumref09_one.j2 k (p.length : Int) (bt (bA (p ++ 46 :: l)) (((p ++ [46]).length : Nat) : Int) == 46) else lustrumref09_one.j2 k (p.length : Int) false) (fun k => ?_) ?_
  · rw [lustrumref09_one.j1, if_neg (by simp), if_pos (by omega), if_pos hlt, hbt, if_pos rfl, hw1]
    by_cases h : (((p ++ [46]).length : Nat) : Int) < ((bA (p ++ 46 :: l)).size : Int)
    · rw [if_pos h, if_pos h, if_pos (by omega)]
    · rw [if_neg h, if_neg h]
  · cases l with
    | nil =>
      refine Ev.iff_ (by rw [bA_size]; simp) ?_
      exact two false
    | cons b u =>
      refine Ev.ift (by rw [bA_size]; simp; omega) ?_
      have hb2 : bt (bA (p ++ 46 :: b :: u)) (((p ++ [46]).length : Nat) : Int) = (b.toNat : Int) := by
        have e : p ++ 46 :: b :: u = (p ++ [46]) ++ b :: u := by simp
        rw [e]; exact bt_mid (p ++ [46]) b u
      rw [hb2]
      have hp : ([46, 46] : List UInt8).isPrefixOf (46 :: b :: u) = ((b.toNat : Int) == 46) := by
        have e : ∀ n : Nat, n < 256 → ((46 : UInt8) == UInt8.ofNat n) = (((UInt8.ofNat n).toNat : Int) == 46) := by decide +kernel
        have := e b.toNat b.toNat_lt
        rw [UInt8.ofNat_toNat] at this
        simp only [List.isPrefixOf, Bool.and_true]
        rw [← this]
        simp
      rw [hp]
      exact two _
theorem rone_s (p l : List UInt8) (c : UInt8) (hc : isW c = false) (h46 : c ≠ 46) (hn : (p ++ c :: l).length ≤ 1000000) : Ev (fun k => lustrumref09_one.f k (bA (p ++ c :: l)) (p.length : Int)) (if signB (c.toNat : Int) = true then (signK (c.toNat : Int), (p.length : Int), e0, 1) else (0, 0, e0, 0)) := by
  have hl : p.length + 1 + l.length ≤ 1000000 := by simp only [List.length_append, List.length_cons] at hn; omega
  have e1 : (c :: l).takeWhile isW = [] := take_W [] (c :: l) rfl hc
  refine rone_l0 (c :: l) p [] hn ?_
  rw [List.nil_append, List.nil_append, e1]
  have hlt : (p.length : Int) < ((bA (p ++ c :: l)).size : Int) := by rw [bA_size, List.length_append, List.length_cons]; omega
  have hbt : bt (bA (p ++ c :: l)) (p.length : Int) = (c.toNat : Int) := bt_mid p c l
  have h46' : ¬ (c.toNat : Int) = 46 := fun h => h46 (u8eq (show c.toNat = 46 by omega))
  refine Ev.step (f := fun _ => some (if signB (c.toNat : Int) = true then (signK (c.toNat : Int), (p.length : Int), e0, 1) else (0, 0, e0, 0))) (fun k => ?_) (Ev.now _)
  rw [lustrumref09_one.j1, if_neg (by simp), if_pos (by omega), if_pos hlt, hbt, if_neg h46', rsign_f, Option.bind_some]
  by_cases hs : signB (c.toNat : Int) = true
  · rw [if_pos hs, if_pos hs, if_neg (signK_pos c hs)]; rfl
  · rw [if_neg hs, if_neg hs, if_pos (by decide)]; rfl
theorem rAll_round (p X : List UInt8) (c : UInt8) (l : List UInt8) (hX : X = c :: l) (h32 : ¬ (c.toNat : Int) = 32) (acc : List S46) (k : Nat) : lustrumref09_All.l0 (k + 1) (bA (p ++ X)) acc (p.length : Int) = (lustrumref09_one.f k (bA (p ++ X)) (p.length : Int)).bind fun b => (if b.2.2.2 = 0 then (some (([] : List (S46)), (p.length : Int), 1)) else (if acc.length < 4398046511104 then (lustrumref09_All.l0 k (bA (p ++ X)) (acc ++ [(⟨b.1, b.2.1, b.2.2.1⟩ : S46)]) (wrap64 ((p.length : Int) + b.2.2.2))) else (none))) := by
  have hlt : (p.length : Int) < ((bA (p ++ X)).size : Int) := by rw [hX, bA_size, List.length_append, List.length_cons]; omega
  have hbt : bt (bA (p ++ X)) (p.length : Int) = (c.toNat : Int) := by rw [hX, bt_mid]
  rw [lustrumref09_All.l0, if_pos hlt, if_pos (by omega), hbt, if_neg h32]
theorem rlex_g (r : List UInt8) : ∀ (its : List It) (p : List UInt8) (acc : List S46), okG its r → (p ++ (flatT its ++ r)).length ≤ 1000000 → acc.length ≤ p.length →
    Ev (fun k => lustrumref09_All.l0 k (bA (p ++ (flatT its ++ r))) acc (p.length : Int)) (lexR p acc its r)
  | [], p, acc, hok, hn, ha => by
    unfold lexR
    rw [flatT, List.nil_append] at hn ⊢
    rcases hok with rfl | hb
    · rw [if_pos rfl]
      refine Ev.step (f := fun _ => some (acc ++ toks p.length [] ++ [endT (p ++ []).length], ((p ++ []).length : Int), 0)) (fun k => ?_) (Ev.now _)
      rw [lustrumref09_All.l0, bA_size, if_neg (by simp), if_pos (by simp at hn; omega)]
      simp only [toks, List.append_nil]
      rfl
    · cases r with
      | nil => exact hb.elim
      | cons c l =>
        obtain ⟨h1, h2, h3, h4⟩ := hb
        rw [if_neg (by simp)]
        have h32 : ¬ (c.toNat : Int) = 32 := fun h => h3 (u8eq (show c.toNat = 32 by omega))
        have hlt : (p.length : Int) < ((bA (p ++ c :: l)).size : Int) := by rw [bA_size, List.length_append, List.length_cons]; omega
        have ho : Ev (fun k => lustrumref09_one.f k (bA (p ++ c :: l)) (p.length : Int)) (0, 0, e0, 0) := by
          by_cases h46 : c = 46
          · subst h46
            have := rone_d p l hn
            rwa [h4, if_neg (by simp)] at this
          · have := rone_s p l c h1 h46 hn
            rwa [h2, if_neg (by simp)] at this
        refine Ev.step (rAll_round p _ c l rfl h32 acc) (Ev.bind ho (Ev.ift rfl ?_))
        exact Ev.eq (Ev.now _) (by simp [flatT])
  | i :: t, p, acc, hok, hn, ha => by
    rw [flatT, List.append_assoc] at hn ⊢
    have hlen : p.length + i.tx.length + (flatT t).length + r.length ≤ 1000000 := by simp only [List.length_append] at hn; omega
    have next : ∀ (acc' : List S46), okG t r → acc'.length ≤ p.length + i.tx.length → acc' = acc ++ i.tok p.length → Ev (fun k => lustrumref09_All.l0 k (bA (p ++ (i.tx ++ (flatT t ++ r)))) acc' ((p.length : Int) + (i.tx.length : Int))) (lexR p acc (i :: t) r) := fun acc' hr ha' e => by
      have := rlex_g r t (p ++ i.tx) acc' hr (by simp only [List.length_append]; omega) (by rw [List.length_append]; exact ha')
      have e3 : ((p ++ i.tx).length : Int) = (p.length : Int) + (i.tx.length : Int) := by rw [List.length_append]; omega
      rw [e3, List.append_assoc p] at this
      refine Ev.eq this ?_
      unfold lexR
      rw [flatT, toks, e]
      by_cases h0 : r = []
      · rw [if_pos h0, if_pos h0]
        simp only [List.append_assoc, List.length_append]
      · rw [if_neg h0, if_neg h0]
        simp only [List.length_append, Nat.add_assoc]
    have W : ∀ n : Nat, n ≤ 1000000 → wrap64 ((p.length : Int) + (n : Int)) = (p.length : Int) + (n : Int) := fun n h => w64 (by omega) (by omega)
    have w1 := Aside0.mk (W 1 (by omega))
    have w2 := Aside0.mk (W 2 (by omega))
    have head : ∀ (c : UInt8) (l : List UInt8), i.tx ++ (flatT t ++ r) = c :: l → (p.length : Int) < ((bA (p ++ (i.tx ++ (flatT t ++ r)))).size : Int) ∧ bt (bA (p ++ (i.tx ++ (flatT t ++ r)))) (p.length : Int) = (c.toNat : Int) := fun c l e => by
      rw [e]
      exact ⟨by rw [bA_size, List.length_append, List.length_cons]; omega, bt_mid p c l⟩
    cases i with
    | w u =>
      obtain ⟨h1, h2, h3, h4⟩ := hok
      have hu := List.length_pos_iff.2 h1
      obtain ⟨c, l, hcl⟩ : ∃ c l, u = c :: l := by cases u with
        | nil => exact absurd rfl h1
        | cons c l => exact ⟨c, l, rfl⟩
      obtain ⟨hlt, hbt⟩ := head c (l ++ (flatT t ++ r)) (by rw [It.tx, hcl]; rfl)
      have hc32 : ¬ (c.toNat : Int) = 32 := by
        have hcw : isW c = true := by rw [hcl, List.all_cons, Bool.and_eq_true] at h2; exact h2.1
        intro h
        have : c = 32 := u8eq (show c.toNat = 32 by omega)
        rw [this] at hcw; revert hcw; decide
      refine Ev.step (rAll_round p _ c (l ++ (flatT t ++ r)) (by rw [It.tx, hcl]; rfl) hc32 acc) (Ev.bind (rone_w p u _ h1 h2 h3 hn) (Ev.iff_ (show ¬ ((u.length : Nat) : Int) = 0 by omega) (Ev.ift (by simp only [It.tx] at hlen; omega) ?_)))
      simp only
      rw [W u.length (by simp only [It.tx] at hlen; omega)]
      exact next (acc ++ [⟨0, (p.length : Int), bA u⟩]) h4 (by simp only [It.tx, List.length_append, List.length_cons, List.length_nil]; omega) rfl
    | s k d =>
      obtain ⟨h1, h2, h3⟩ := hok
      obtain ⟨hlt, hbt⟩ := head d (flatT t ++ r) rfl
      have hd : ¬ (d.toNat : Int) = 32 ∧ d ≠ 46 := by
        have e : ∀ n : Nat, n < 256 → signB ((UInt8.ofNat n).toNat : Int) = true → ¬ ((UInt8.ofNat n).toNat : Int) = 32 ∧ UInt8.ofNat n ≠ 46 := by decide +kernel
        have := e d.toNat d.toNat_lt
        rw [UInt8.ofNat_toNat] at this
        exact this h2
      have ho := rone_s p (flatT t ++ r) d (sign_noW h2) hd.2 hn
      rw [if_pos h2, h1] at ho
      refine Ev.step (rAll_round p _ d (flatT t ++ r) rfl hd.1 acc) (Ev.bind ho (Ev.iff_ (show ¬ (1 : Int) = 0 by decide) (Ev.ift (by omega) ?_)))
      simp only
      rw [show wrap64 ((p.length : Int) + 1) = (p.length : Int) + 1 from w1.out]
      exact next (acc ++ [⟨k, (p.length : Int), e0⟩]) h3 (by simp only [It.tx, List.length_append, List.length_cons, List.length_nil]; omega) rfl
    | d =>
      obtain ⟨hlt, hbt⟩ := head 46 (46 :: (flatT t ++ r)) rfl
      have ho := rone_d p (46 :: (flatT t ++ r)) hn
      rw [if_pos (by simp [List.isPrefixOf])] at ho
      refine Ev.step (rAll_round p _ 46 (46 :: (flatT t ++ r)) rfl (by decide) acc) (Ev.bind ho (Ev.iff_ (show ¬ (2 : Int) = 0 by decide) (Ev.ift (by omega) ?_)))
      simp only
      rw [show wrap64 ((p.length : Int) + 2) = (p.length : Int) + 2 from w2.out]
      exact next (acc ++ [⟨2, (p.length : Int), e0⟩]) hok (by simp only [It.tx, List.length_append, List.length_cons, List.length_nil]; omega) rfl
    | b =>
      obtain ⟨hlt, hbt⟩ := head 32 (flatT t ++ r) rfl
      refine Ev.step (fun k => by rw [lustrumref09_All.l0, if_pos hlt, if_pos (by omega), hbt, if_pos (by decide)]) ?_
      rw [show wrap64 ((p.length : Int) + 1) = (p.length : Int) + 1 from w1.out]
      exact next acc hok (by simp only [It.tx, List.length_cons, List.length_nil]; omega) (by simp [It.tok])
theorem rAll_ok (its : List It) (h : okG its []) (hn : (flatT its).length ≤ 2000) : Ev (fun k => lustrumref09_All.f k (bA (flatT its))) (toks 0 its ++ [endT (flatT its).length], ((flatT its).length : Int), 0) := by
  have := rlex_g [] its [] [] h (by simp only [List.nil_append, List.append_nil]; omega) (Nat.le_refl _)
  unfold lexR at this
  rw [if_pos rfl] at this
  simp only [List.nil_append, List.append_nil, List.length_nil] at this
  exact Ev.iff_ (by rw [bA_size]; omega) this
theorem rAll_bad (its : List It) (r : List UInt8) (h : okG its r) (hr : r ≠ []) (hn : (flatT its ++ r).length ≤ 2000) : Ev (fun k => lustrumref09_All.f k (bA (flatT its ++ r))) ([], ((flatT its).length : Int), 1) := by
  have := rlex_g r its [] [] h (by simp only [List.nil_append]; omega) (Nat.le_refl _)
  unfold lexR at this
  rw [if_neg hr] at this
  simp only [List.nil_append, List.length_nil, Nat.zero_add] at this
  exact Ev.iff_ (by rw [bA_size]; omega) this
theorem rAll_long (l : List UInt8) (h : 2000 < l.length) : Ev (fun k => lustrumref09_All.f k (bA l)) ([], 2000, 7) := Ev.ift (by rw [bA_size]; omega) (Ev.now _)
theorem bare_sizes {n : S27} (h : bareV n = true) : n.f1.f1.size = 0 ∧ n.f1.f2.size = 0 ∧ n.f1.f3.size = 0 := by
  unfold bareV at h
  simp only [Bool.and_eq_true] at h
  exact ⟨empty_size h.1.1.2.1, empty_size h.1.1.2.2.1, empty_size h.1.1.2.2.2⟩
theorem end_sizes {n : S27} (h : endV n = true) : n.f1.f1.size ≤ 4 ∧ n.f1.f2.size ≤ 4 ∧ n.f1.f3.size ≤ 4 := by
  obtain ⟨_, hk⟩ := end_kinds h
  rcases hk with ⟨_, hp⟩ | ⟨_, hb⟩ | ⟨_, hb⟩
  · have := pt_sizes hp; omega
  · have := bare_sizes hb; omega
  · have := bare_sizes hb; omega
theorem end_wf {n : S27} (h : endV n = true) : wfN n := by
  have := end_sizes h
  refine .mk _ (by omega) (by omega) (by omega) (by rw [(end_kinds h).1]; simp) (fun x hx => ?_)
  rw [(end_kinds h).1] at hx; cases hx
theorem rtL_mem' : ∀ {l : List S27}, rtL l = true → ∀ x, x ∈ l → rt x = true
  | [], _, x, hx => by cases hx
  | y :: l, h, x, hx => by
    rw [rtL, Bool.and_eq_true] at h
    rcases List.mem_cons.1 hx with rfl | hx
    · exact h.1
    · exact rtL_mem' h.2 x hx
theorem rt_wf : ∀ (M : Nat) (n : S27), nd n ≤ M → nd n ≤ 1000 → rt n = true → wfN n
  | 0, n, h, _, _ => by have := nd_pos n; omega
  | M + 1, n, h, hb, hr => by
    have e := nd_eq n
    have hl := len_nd n.f4
    rcases rt_kinds hr with ⟨he, _⟩ | ⟨_, hb', x, y, h4, hx, hy, _⟩ | ⟨_, hb', _, hrt, _⟩
    · exact end_wf he
    · have := bare_sizes hb'
      refine .mk _ (by omega) (by omega) (by omega) (by omega) (fun z hz => ?_)
      rw [h4] at hz
      simp only [List.mem_cons, List.not_mem_nil, or_false] at hz
      rcases hz with rfl | rfl
      · exact end_wf hx
      · exact end_wf hy
    · have := bare_sizes hb'
      refine .mk _ (by omega) (by omega) (by omega) (by omega) (fun z hz => ?_)
      have := ndL_mem hz
      exact rt_wf M z (by omega) (by omega) (rtL_mem' hrt z hz)
theorem sane_wf {n : S27} (h : saneV n = true) : wfN n := rt_wf _ n (Nat.le_refl _) (by have := sane_rt h; omega) (sane_rt h).2.2
theorem same_t {n : S27} (h : saneV n = true) : Ev (fun k => tSame k n n) true := Ev.eq (tSame_f _ n n (Nat.le_refl _) (sane_wf h)) (sm_refl _ _ (Nat.le_refl _))
theorem wf_pz : wfN pz := wf_leaf _ _ _ _ (by decide) (by decide) (by decide)
theorem Ev.det {α : Type} {f : Nat → Option α} {r q : α} (h : Ev f r) (g : Ev f q) : r = q := by
  obtain ⟨K, hK⟩ := h
  obtain ⟨L, hL⟩ := g
  exact Option.some.inj ((hK (max K L) (by omega)).symm.trans (hL (max K L) (by omega)))
theorem Ev.det1 {α : Type} {f : Nat → Option α} {r q : α} (hm : ∀ k, LeO (f k) (f (k + 1))) (h : Ev f r) {k : Nat} (hk : f k = some q) : q = r := Ev.det (Ev.of hm hk) h
def b2 (a : Bool) : Nat := if a = true then 1 else 0
theorem ptTxt_inj {p q : S24} (hp : ptV p = true) (hq : ptV q = true) (h : ptTxt p = ptTxt q) : p = q := by
  unfold ptTxt at h
  rw [if_pos hp, if_pos hq] at h
  have a := guess_raw p hp
  have b := guess_raw q hq
  rw [h, b] at a
  simp only [Option.some.injEq, Prod.mk.injEq] at a
  obtain ⟨e1, e2, e3, e4⟩ := a
  cases p; cases q; simp only at e1 e2 e3 e4; rw [e1, e2, e3, e4]
theorem ptTxt_ptV {p : S24} {l : List UInt8} (hl : l ≠ []) (h : ptTxt p = l) : ptV p = true := by
  unfold ptTxt at h
  cases hp : ptV p with
  | true => rfl
  | false => rw [hp, if_neg (by simp)] at h; exact absurd h.symm hl
def partV (l : List UInt8) (a b : Nat) : ByteArray := if b ≤ l.length then bA ((l.drop a).take (b - a)) else e0
theorem part_f (l : List UInt8) (a b : Nat) (h : a ≤ b) : lustrumref08_part.f (bA l) (a : Int) (b : Int) = some (partV l a b) := by
  unfold lustrumref08_part.f partV
  rw [bA_size]
  by_cases hb : b ≤ l.length
  · rw [if_neg (by omega), if_pos (by omega), if_pos (by omega), if_pos (by omega), if_pos hb, Int.toNat_natCast, Int.toNat_natCast]
    congr 1
    refine ba_eq ?_
    rw [ByteArray.data_extract, Array.toList_extract, bA_data]
    rfl
  · rw [if_pos (by omega), if_neg hb]; rfl
theorem partV_size (l : List UInt8) (a b : Nat) : (partV l a b).size ≤ b - a := by
  unfold partV
  split
  · rw [bA_size, List.length_take]; omega
  · exact Nat.zero_le _
theorem partV_mid (x y z : List UInt8) : partV (x ++ (y ++ z)) x.length (x.length + y.length) = bA y := by
  unfold partV
  rw [if_pos (by simp only [List.length_append]; omega), List.drop_left, Nat.add_sub_cancel_left, List.take_left]
def cands (l : List UInt8) : List S24 := [⟨0, partV l 0 4, partV l 5 7, partV l 8 10⟩, ⟨1, partV l 0 4, partV l 5 7, e0⟩, ⟨2, partV l 0 4, partV l 5 6, e0⟩, ⟨3, partV l 0 4, e0, e0⟩, ⟨4, partV l 0 3, e0, e0⟩, ⟨5, partV l 0 2, e0, e0⟩]
theorem cands_small (l : List UInt8) : ∀ p, p ∈ cands l → p.f1.size ≤ 10 ∧ p.f2.size ≤ 10 ∧ p.f3.size ≤ 10 := by
  have h1 := partV_size l 0 4
  have h2 := partV_size l 5 7
  have h3 := partV_size l 8 10
  have h4 := partV_size l 5 6
  have h5 := partV_size l 0 3
  have h6 := partV_size l 0 2
  have h7 : e0.size = 0 := rfl
  intro p hp
  simp only [cands, List.mem_cons, List.not_mem_nil, or_false] at hp
  rcases hp with rfl | rfl | rfl | rfl | rfl | rfl <;> simp only <;> omega
theorem cands_mem (p : S24) (hp : ptV p = true) : p ∈ cands (ptRaw p) := by
  obtain ⟨hY, hk⟩ := pt_kinds hp
  obtain ⟨k, y, m, d⟩ := p
  simp only at hY hk
  have eE : ∀ s : ByteArray, s.data.toList = [] → s = e0 := fun s h => ba_eq (by rw [h]; rfl)
  have e0' : ∀ (z : List UInt8) (n : Nat), y.data.toList.length = n → partV (y.data.toList ++ z) 0 n = y := fun z n h => by
    have := partV_mid [] y.data.toList z
    rw [List.nil_append, List.length_nil, Nat.zero_add, h] at this
    rw [this]; exact bA_mk y
  have em : ∀ (c : UInt8) (z : List UInt8) (n : Nat), y.data.toList.length = 4 → m.data.toList.length = n → partV (y.data.toList ++ c :: (m.data.toList ++ z)) 5 (5 + n) = m := fun c z n h1 h2 => by
    have := partV_mid (y.data.toList ++ [c]) m.data.toList z
    rw [List.length_append, h1, h2] at this
    simp only [List.length_cons, List.length_nil, List.append_assoc, List.cons_append, List.nil_append, Nat.zero_add] at this
    rw [this]; exact bA_mk m
  have hyl : y.data.toList.length = y.size := (bsize y).symm
  rcases hk with ⟨rfl, ly, lm, am, ld, ad⟩ | ⟨rfl, ly, lm, am, ld⟩ | ⟨rfl, ly, lm, am, ld⟩ | ⟨rfl, ly, lm, ld⟩ | ⟨rfl, ly, lm, ld⟩ | ⟨rfl, ly, lm, ld⟩
  · have hr : ptRaw ⟨0, y, m, d⟩ = y.data.toList ++ 45 :: (m.data.toList ++ 45 :: d.data.toList) := rfl
    have ed : partV (y.data.toList ++ 45 :: (m.data.toList ++ 45 :: d.data.toList)) 8 10 = d := by
      have := partV_mid (y.data.toList ++ 45 :: (m.data.toList ++ [45])) d.data.toList []
      simp only [List.length_append, List.length_cons, List.length_nil, ly, lm, ld, List.append_assoc, List.cons_append, List.nil_append, List.append_nil] at this
      rw [this]; exact bA_mk d
    rw [hr, cands, e0' _ 4 ly, em 45 (45 :: d.data.toList) 2 ly lm, ed]
    simp
  · have hr : ptRaw ⟨1, y, m, d⟩ = y.data.toList ++ 45 :: (m.data.toList ++ []) := by rw [List.append_nil]; rfl
    rw [hr, cands, e0' _ 4 ly, em 45 [] 2 ly lm, eE d ld]
    simp
  · have hr : ptRaw ⟨2, y, m, d⟩ = y.data.toList ++ 115 :: (m.data.toList ++ []) := by rw [List.append_nil]; rfl
    rw [hr, cands, e0' _ 4 ly, em 115 [] 1 ly lm, eE d ld]
    simp
  · have hr : ptRaw ⟨3, y, m, d⟩ = y.data.toList ++ [] := by rw [List.append_nil]; rfl
    rw [hr, cands, e0' _ 4 ly, eE d ld, eE m lm]
    simp
  · have hr : ptRaw ⟨4, y, m, d⟩ = y.data.toList ++ [100] := rfl
    rw [hr, cands, e0' _ 3 ly, eE d ld, eE m lm]
    simp
  · have hr : ptRaw ⟨5, y, m, d⟩ = y.data.toList ++ [99] := rfl
    rw [hr, cands, e0' _ 2 ly, eE d ld, eE m lm]
    simp
def tup5 : Option S24 → Int × ByteArray × ByteArray × ByteArray × Bool
  | some c => (c.f0, c.f1, c.f2, c.f3, true)
  | none => (0, e0, e0, e0, false)
theorem at_rd24 (p : List S24) (r : S24) (t : List S24) : rd_T24 (p ++ r :: t) (p.length : Int) = r := by simp [rd_T24]
theorem rread_l0 (l : List UInt8) (hl : l ≠ []) : ∀ (r p : List S24), (p ++ r).length ≤ 100 → (∀ c, c ∈ r → c.f1.size ≤ 10 ∧ c.f2.size ≤ 10 ∧ c.f3.size ≤ 10) →
    Ev (fun k => lustrumref08_Read.l0 k (bA l) (p ++ r) (p.length : Int)) (tup5 (r.find? fun c => decide (ptTxt c = l)))
  | [], p, hn, _ => Ev.step (f := fun _ => some (tup5 none)) (fun k => by rw [lustrumref08_Read.l0, if_neg (by simp)]; rfl) (Ev.now _)
  | c :: r, p, hn, hs => by
    obtain ⟨h1, h2, h3⟩ := hs c (by simp)
    have ht := rptText_f c (by omega) (by omega) (by omega)
    have hlen : p.length + 1 + r.length ≤ 100 := by simp only [List.length_append, List.length_cons] at hn; omega
    have hlt : (p.length : Int) < ((p ++ c :: r).length : Int) := by simp only [List.length_append, List.length_cons]; omega
    have hw : wrap64 ((p.length : Int) + 1) = (((p ++ [c]).length : Nat) : Int) := by rw [w64 (by omega) (by omega)]; simp
    have hlne : ¬ (bA l).toList = [] := by rw [bA_toList]; exact hl
    refine Ev.step (fun k => by rw [lustrumref08_Read.l0, if_pos hlt, if_neg hlne, if_pos (by omega), at_rd24]) ?_
    refine Ev.bind ht ?_
    rw [bA_toList, bA_toList, List.find?_cons, hw]
    by_cases he : ptTxt c = l
    · rw [decide_eq_true he]
      exact Ev.ift he (Ev.now _)
    · rw [decide_eq_false he]
      refine Ev.iff_ he ?_
      have := rread_l0 l hl r (p ++ [c]) (by rw [List.append_assoc]; exact hn) (fun x hx => hs x (by simp [hx]))
      rw [List.append_assoc] at this
      exact this
theorem rread_nil : ∀ (r p : List S24), (p ++ r).length ≤ 100 → Ev (fun k => lustrumref08_Read.l0 k (bA []) (p ++ r) (p.length : Int)) (tup5 none)
  | [], p, hn => Ev.step (f := fun _ => some (tup5 none)) (fun k => by rw [lustrumref08_Read.l0, if_neg (by simp)]; rfl) (Ev.now _)
  | c :: r, p, hn => by
    have hlen : p.length + 1 + r.length ≤ 100 := by simp only [List.length_append, List.length_cons] at hn; omega
    have hlt : (p.length : Int) < ((p ++ c :: r).length : Int) := by simp only [List.length_append, List.length_cons]; omega
    have hw : wrap64 ((p.length : Int) + 1) = (((p ++ [c]).length : Nat) : Int) := by rw [w64 (by omega) (by omega)]; simp
    refine Ev.step (fun k => by rw [lustrumref08_Read.l0, if_pos hlt, if_pos (by rw [bA_toList]), hw]) ?_
    have := rread_nil r (p ++ [c]) (by rw [List.append_assoc]; exact hn)
    rw [List.append_assoc] at this
    exact this
theorem rRead_f (l : List UInt8) : Ev (fun k => lustrumref08_Read.f k (bA l)) (tup5 (if l = [] then none else (cands l).find? fun c => decide (ptTxt c = l))) := by
  have hloop : Ev (fun k => lustrumref08_Read.l0 k (bA l) (cands l) 0) (tup5 (if l = [] then none else (cands l).find? fun c => decide (ptTxt c = l))) := by
    by_cases h : l = []
    · subst h
      rw [if_pos rfl]
      exact rread_nil (cands []) [] (by simp [cands])
    · rw [if_neg h]
      exact rread_l0 l h (cands l) [] (by simp [cands]) (cands_small l)
  have e : ∀ k, lustrumref08_Read.f k (bA l) = lustrumref08_Read.l0 k (bA l) (cands l) 0 := fun k => by
    unfold lustrumref08_Read.f
    rw [show lustrumref08_part.f (bA l) 0 4 = _ from part_f l 0 4 (by decide), show lustrumref08_part.f (bA l) 5 7 = _ from part_f l 5 7 (by decide), show lustrumref08_part.f (bA l) 8 10 = _ from part_f l 8 10 (by decide), show lustrumref08_part.f (bA l) 5 6 = _ from part_f l 5 6 (by decide), show lustrumref08_part.f (bA l) 0 3 = _ from part_f l 0 3 (by decide), show lustrumref08_part.f (bA l) 0 2 = _ from part_f l 0 2 (by decide)]
    simp only [Option.bind_some]
    rfl
  exact Ev.congr e hloop
theorem Read_same {k : Nat} {s : ByteArray} (hs : s.size ≤ 4611686018427387904) {x : Int × ByteArray × ByteArray × ByteArray × Bool} (h : point_Read.f k s = some x) : Ev (fun k => lustrumref08_Read.f k s) x := by
  obtain ⟨l, rfl⟩ : ∃ l, s = bA l := ⟨s.data.toList, (bA_mk _).symm⟩
  rw [bA_size] at hs
  have hf := rRead_f l
  rcases read_any l hs with ⟨p, hp, ht, hR⟩ | ⟨hno, hR⟩
  · have hx := Ev.det1 (f := fun k => point_Read.f k (bA l)) (fun k => point_Read.mono (bA l) k) hR h
    rw [hx]
    have hne : l ≠ [] := fun e => by
      have hl : ptRaw p = l := by unfold ptTxt at ht; rwa [if_pos hp] at ht
      have hm := cands_mem p hp
      obtain ⟨_, hk⟩ := pt_kinds hp
      have hy : p.f1.data.toList ≠ [] := by
        intro hy
        rcases hk with ⟨_, a, _⟩ | ⟨_, a, _⟩ | ⟨_, a, _⟩ | ⟨_, a, _⟩ | ⟨_, a, _⟩ | ⟨_, a, _⟩ <;> (rw [hy] at a; cases a)
      rw [e] at hl
      unfold ptRaw at hl
      repeat' split at hl
      all_goals first
        | exact hy hl | (have := congrArg List.length hl; simp only [List.length_append, List.length_cons, List.length_nil] at this; omega)
    have hmem : p ∈ cands l := by
      have := cands_mem p hp
      have hl : ptRaw p = l := by unfold ptTxt at ht; rwa [if_pos hp] at ht
      rwa [hl] at this
    rw [if_neg hne] at hf
    cases hfind : (cands l).find? fun c => decide (ptTxt c = l) with
    | none =>
      have := List.find?_eq_none.1 hfind p hmem
      exact absurd ht (by simpa using this)
    | some c =>
      have hc := List.find?_some hfind
      have hc' : ptTxt c = l := of_decide_eq_true hc
      have hcp := ptTxt_inj (ptTxt_ptV hne hc') hp (hc'.trans ht.symm)
      subst hcp
      rw [hfind] at hf
      exact hf
  · have hx := Ev.det1 (f := fun k => point_Read.f k (bA l)) (fun k => point_Read.mono (bA l) k) hR h
    rw [hx]
    refine Ev.eq hf ?_
    by_cases hne : l = []
    · rw [if_pos hne]; rfl
    · rw [if_neg hne]
      have : ((cands l).find? fun c => decide (ptTxt c = l)) = none := List.find?_eq_none.2 (fun c _ hc => hno c (ptTxt_ptV hne (of_decide_eq_true hc)) (of_decide_eq_true hc))
      rw [this]; rfl
def er (x : S46) : S46 := ⟨x.f0, 0, x.f2⟩
def DM : List S46 → Bool → Bool → Bool → Bool → Prop
  | [], a, b, a', b' => a = a' ∧ b = b'
  | x :: v, a, b, a', b' => x.f0 = 7 ∧ a = false ∧ DM v true b a' b' ∨ x.f0 = 8 ∧ b = false ∧ DM v a true a' b'
theorem marked_D : ∀ (t : List S46) (p : S24) (a b : Bool) (n : S27) (u : List S46), pMarked t p a b = some (n, u) → ∃ v a' b', t = v ++ u ∧ DM v a b a' b' ∧ n = ⟨0, p, a', b', []⟩
  | [], p, a, b, n, u, h => by rw [pMarked] at h; cases h
  | x :: t, p, a, b, n, u, h => by
    rw [pMarked] at h
    by_cases c7 : x.f0 = 7
    · rw [if_pos c7] at h
      by_cases ca : a = false
      · rw [if_pos ca] at h
        obtain ⟨v, a', b', e, hd, hn⟩ := marked_D t p true b n u h
        exact ⟨x :: v, a', b', by rw [e]; rfl, by rw [DM]; exact .inl ⟨c7, ca, hd⟩, hn⟩
      · rw [if_neg ca] at h
        simp only [Option.some.injEq, Prod.mk.injEq] at h
        exact ⟨[], a, b, by rw [← h.2]; rfl, ⟨rfl, rfl⟩, h.1.symm⟩
    · rw [if_neg c7] at h
      by_cases c8 : x.f0 = 8
      · rw [if_pos c8] at h
        by_cases cb : b = false
        · rw [if_pos cb] at h
          obtain ⟨v, a', b', e, hd, hn⟩ := marked_D t p a true n u h
          exact ⟨x :: v, a', b', by rw [e]; rfl, by rw [DM]; exact .inr ⟨c8, cb, hd⟩, hn⟩
        · rw [if_neg cb] at h
          simp only [Option.some.injEq, Prod.mk.injEq] at h
          exact ⟨[], a, b, by rw [← h.2]; rfl, ⟨rfl, rfl⟩, h.1.symm⟩
      · rw [if_neg c8] at h
        simp only [Option.some.injEq, Prod.mk.injEq] at h
        exact ⟨[], a, b, by rw [← h.2]; rfl, ⟨rfl, rfl⟩, h.1.symm⟩
theorem shortW.suf2 {v u t : List S46} (hw : shortW t) (h : t = v ++ u) : shortW u := fun x hx => hw x (by rw [h]; exact List.mem_append.2 (.inr hx))
theorem OneOf_p2 {l : List S27} {o : Int × Int × ByteArray × ByteArray × ByteArray × Bool × Bool × List S27} (h : tree_OneOf.f l = some o) : o = (2, 0, e0, e0, e0, false, false, l) := by
  unfold tree_OneOf.f at h
  obtain ⟨v, hv, h⟩ := Option.bind_eq_some_iff.mp h
  rw [slices_Clone.f] at hv
  split at hv
  · simp only [Option.some.injEq] at hv h
    subst hv; exact h.symm
  · cases hv
def Sim (d : Int) (t : List S46) (R : PR) (Q : QR) : Prop := Q.x = R.x ∧ (R.x = none → Q.n = R.n ∧ Q.t = R.t ∧ Q.m = R.m ∧ R.d = d ∧ R.t.length ≤ t.length ∧ shortW R.t)
theorem Sim.bad {d : Int} {t : List S46} {R : PR} {Q : QR} {w : Int × Int} (h : R.x = some w) (h' : Q.x = some w) : Sim d t R Q := ⟨h'.trans h.symm, fun e => by rw [h] at e; cases e⟩
theorem shortW.tail {x : S46} {t : List S46} (h : shortW (x :: t)) : shortW t := fun y hy => h y (List.mem_cons_of_mem _ hy)
theorem end_sim {k : Nat} {m d : Int} {t : List S46} {R : PR} (hw : shortW t) (h : pEnd k m d t = some R) : ∃ Q, Ev (fun j => qEnd j m t) Q ∧ Sim d t R Q := by
  cases t with
  | nil => cases h
  | cons x t =>
    rw [pEnd] at h
    by_cases c0 : x.f0 = 0
    · rw [if_pos c0] at h
      by_cases cm : m = 64
      · rw [if_pos cm] at h
        obtain rfl := Option.some.inj h
        exact ⟨_, Ev.ift c0 (Ev.ift cm (Ev.now _)), Sim.bad rfl rfl⟩
      · rw [if_neg cm] at h
        obtain ⟨p, hp, h2⟩ := Option.bind_eq_some_iff.mp h
        have hR := Read_same (hw x (by simp)) hp
        by_cases ht : p.2.2.2.2 = true
        · replace h2 := (if_pos ht).symm.trans h2
          obtain ⟨q, hq, h3⟩ := Option.bind_eq_some_iff.mp h2
          obtain rfl := Option.some.inj h3
          obtain ⟨v, _, _, e, _⟩ := marked_D _ _ _ _ _ _ hq
          refine ⟨⟨q.1, none, q.2, wrap64 (m + 1)⟩, Ev.ift c0 (Ev.iff_ cm (Ev.bind hR (Ev.ift ht (Ev.bnow hq (Ev.now _))))), rfl, fun _ => ⟨rfl, rfl, rfl, rfl, ?_, ?_⟩⟩
          · rw [e]; simp only [List.length_cons, List.length_append]; omega
          · exact hw.tail.suf2 e
        · replace h2 := (if_neg ht).symm.trans h2
          obtain rfl := Option.some.inj h2
          exact ⟨_, Ev.ift c0 (Ev.iff_ cm (Ev.bind hR (Ev.iff_ ht (Ev.now _)))), Sim.bad rfl rfl⟩
    · rw [if_neg c0] at h
      by_cases c2 : x.f0 = 2
      · rw [if_pos c2] at h
        by_cases cm : m = 64
        · rw [if_pos cm] at h
          obtain rfl := Option.some.inj h
          exact ⟨_, Ev.iff_ c0 (Ev.ift c2 (Ev.ift cm (Ev.now _))), Sim.bad rfl rfl⟩
        · rw [if_neg cm] at h
          obtain rfl := Option.some.inj h
          exact ⟨_, Ev.iff_ c0 (Ev.ift c2 (Ev.iff_ cm (Ev.now _))), rfl, fun _ => ⟨rfl, rfl, rfl, rfl, by simp, hw.tail⟩⟩
      · rw [if_neg c2] at h
        by_cases c3 : x.f0 = 3
        · rw [if_pos c3] at h
          by_cases cm : m = 64
          · rw [if_pos cm] at h
            obtain rfl := Option.some.inj h
            exact ⟨_, Ev.iff_ c0 (Ev.iff_ c2 (Ev.ift c3 (Ev.ift cm (Ev.now _)))), Sim.bad rfl rfl⟩
          · rw [if_neg cm] at h
            obtain rfl := Option.some.inj h
            exact ⟨_, Ev.iff_ c0 (Ev.iff_ c2 (Ev.ift c3 (Ev.iff_ cm (Ev.now _)))), rfl, fun _ => ⟨rfl, rfl, rfl, rfl, by simp, hw.tail⟩⟩
        · rw [if_neg c3] at h
          obtain rfl := Option.some.inj h
          exact ⟨_, Ev.iff_ c0 (Ev.iff_ c2 (Ev.iff_ c3 (Ev.now _))), Sim.bad rfl rfl⟩
theorem span_sim {k : Nat} {m d : Int} {t : List S46} {R : PR} (hw : shortW t) (h : pSpan k m d t = some R) : ∃ Q, Ev (fun j => qSpan j m t) Q ∧ Sim d t R Q := by
  obtain ⟨⟨n1, x1, t1, m1, d1⟩, h1, h2⟩ := Option.bind_eq_some_iff.mp h
  obtain ⟨⟨n2, x2, t2, m2⟩, hQ, hx, hs⟩ := end_sim hw h1
  simp only at hx hs
  subst hx
  cases x2 with
  | some y =>
    obtain rfl := Option.some.inj h2
    exact ⟨_, Ev.bind hQ (Ev.now _), Sim.bad rfl rfl⟩
  | none =>
    obtain ⟨rfl, rfl, rfl, rfl, hl, hw1⟩ := hs rfl
    cases t2 with
    | nil => cases h2
    | cons y u =>
      simp only at h2
      by_cases cy : y.f0 = 1
      · rw [if_pos cy] at h2
        by_cases cm : m2 = 64
        · rw [if_pos cm] at h2
          obtain rfl := Option.some.inj h2
          exact ⟨_, Ev.bind hQ (Ev.ift cy (Ev.ift cm (Ev.now _))), Sim.bad rfl rfl⟩
        · rw [if_neg cm] at h2
          obtain ⟨⟨n3, x3, t3, m3, d3⟩, h3, h4⟩ := Option.bind_eq_some_iff.mp h2
          obtain rfl := Option.some.inj h4
          obtain ⟨⟨n4, x4, t4, m4⟩, hQ2, hx4, hs4⟩ := end_sim hw1.tail h3
          simp only at hx4 hs4
          subst hx4
          refine ⟨_, Ev.bind hQ (Ev.ift cy (Ev.iff_ cm (Ev.bind hQ2 (Ev.now _)))), rfl, fun e => ?_⟩
          obtain ⟨rfl, rfl, rfl, rfl, hl4, hw4⟩ := hs4 e
          refine ⟨rfl, rfl, rfl, rfl, ?_, hw4⟩
          simp only [List.length_cons] at hl hl4 ⊢
          omega
      · rw [if_neg cy] at h2
        by_cases cn : n2.f0 = 0
        · rw [if_pos cn] at h2
          obtain rfl := Option.some.inj h2
          exact ⟨_, Ev.bind hQ (Ev.iff_ cy (Ev.ift cn (Ev.now _))), rfl, fun _ => ⟨rfl, rfl, rfl, rfl, hl, hw1⟩⟩
        · rw [if_neg cn] at h2
          obtain rfl := Option.some.inj h2
          exact ⟨_, Ev.bind hQ (Ev.iff_ cy (Ev.iff_ cn (Ev.now _))), Sim.bad rfl rfl⟩
theorem Sim.longer {d : Int} {t u : List S46} {R : PR} {Q : QR} (h : Sim d t R Q) (hl : t.length ≤ u.length) : Sim d u R Q := ⟨h.1, fun e => by
  obtain ⟨a, b, c, f, g, i⟩ := h.2 e
  exact ⟨a, b, c, f, Nat.le_trans g hl, i⟩⟩
theorem expr_sim : ∀ k, (∀ (m d : Int) (t : List S46) (R : PR), 0 ≤ d → d ≤ 8 → shortW t → t.length ≤ 100000 → pExpr k m d t = some R → ∃ Q, Ev (fun j => qExpr j m d t) Q ∧ Sim d t R Q)
    ∧ (∀ (m d : Int) (x : S46) (t : List S46) (R : PR), 0 ≤ d → d ≤ 8 → shortW (x :: t) → (x :: t).length ≤ 100000 → pList k m d x t = some R → ∃ Q, Ev (fun j => qList j m d x t) Q ∧ Sim d (x :: t) R Q)
    ∧ (∀ (m d : Int) (t : List S46) (l : List S27) (R : PR), 0 ≤ d → d ≤ 8 → shortW t → t.length + l.length ≤ 100000 → pItems k m d t l = some R → ∃ Q, Ev (fun j => qItems j m d t l) Q ∧ Sim (wrap64 (d - 1)) t R Q)
  | 0 => ⟨fun _ _ _ _ _ _ _ _ h => by simp [pExpr] at h, fun _ _ _ _ _ _ _ _ _ h => by simp [pList] at h, fun _ _ _ _ _ _ _ _ _ h => by simp [pItems] at h⟩
  | k + 1 => by
    obtain ⟨i1, i2, i3⟩ := expr_sim k
    refine ⟨fun m d t R d0 d8 hw hl h => ?_, fun m d x t R d0 d8 hw hl h => ?_, fun m d t l R d0 d8 hw hl h => ?_⟩
    · cases t with
      | nil => simp [pExpr] at h
      | cons x t =>
        rw [pExpr] at h
        by_cases c : x.f0 = 4
        · rw [if_pos c] at h
          obtain ⟨Q, hQ, hs⟩ := i2 m d x t R d0 d8 hw hl h
          exact ⟨Q, Ev.step (fun j => by rw [qExpr, if_pos c]) hQ, hs⟩
        · rw [if_neg c] at h
          obtain ⟨Q, hQ, hs⟩ := span_sim hw h
          exact ⟨Q, Ev.step (fun j => by rw [qExpr, if_neg c]) hQ, hs⟩
    · rw [pList] at h
      by_cases c : d = 8
      · rw [if_pos c] at h
        obtain rfl := Option.some.inj h
        exact ⟨⟨pz, some (x.f1, eNot x 5), x :: t, m⟩, Ev.step (f := fun _ => some ⟨pz, some (x.f1, eNot x 5), x :: t, m⟩) (fun j => by rw [qList, if_pos c]) (Ev.now _), Sim.bad rfl rfl⟩
      · rw [if_neg c] at h
        by_cases cm : m = 64
        · rw [if_pos cm] at h
          obtain rfl := Option.some.inj h
          exact ⟨⟨pz, some (x.f1, eNot x 6), x :: t, m⟩, Ev.step (f := fun _ => some ⟨pz, some (x.f1, eNot x 6), x :: t, m⟩) (fun j => by rw [qList, if_neg c, if_pos cm]) (Ev.now _), Sim.bad rfl rfl⟩
        · rw [if_neg cm] at h
          have e1 : wrap64 (d + 1) = d + 1 := w64 (by omega) (by omega)
          have e2 : wrap64 (d + 1 - 1) = d := by rw [w64 (by omega) (by omega)]; omega
          rw [e1] at h
          obtain ⟨Q, hQ, hs⟩ := i3 (wrap64 (m + 1)) (d + 1) (x :: t) [] R (by omega) (by omega) hw (by simpa using hl) h
          rw [e2] at hs
          exact ⟨Q, Ev.step (fun j => by rw [qList, if_neg c, if_neg cm, e1]) hQ, hs⟩
    · cases t with
      | nil => simp [pItems] at h
      | cons x t =>
        rw [pItems_one] at h
        obtain ⟨⟨n1, x1, t1, m1, d1⟩, h1, h2⟩ := Option.bind_eq_some_iff.mp h
        rw [List.length_cons] at hl
        obtain ⟨⟨n2, x2, t2, m2⟩, hQ, hx, hs⟩ := i1 m d t _ d0 d8 hw.tail (by omega) h1
        simp only at hx hs
        subst hx
        have hlen : l.length < 1466015503701 := by omega
        have one : ∀ j, qItems (j + 1) m d (x :: t) l = (qExpr j m d t).bind fun r => if l.length < 1466015503701 then (match r.x with
            | some _ => some ⟨li2 (l ++ [r.n]), r.x, r.t, r.m⟩
            | none => match r.t with
              | [] => none
              | y :: u =>
                if y.f0 = 5 then some ⟨li2 (l ++ [r.n]), none, u, r.m⟩
                else if y.f0 = 6 then qItems j r.m d (y :: u) (l ++ [r.n])
                else some ⟨pz, some (y.f1, eNot y 3), y :: u, r.m⟩) else none := fun j => by rw [qItems] <;> rfl
        cases x2 with
        | some w =>
          obtain rfl := Option.some.inj h2
          exact ⟨⟨li2 (l ++ [n2]), some w, t2, m2⟩, Ev.step one (Ev.bind hQ (Ev.ift hlen (Ev.now _))), Sim.bad rfl rfl⟩
        | none =>
          obtain ⟨rfl, rfl, rfl, rfl, hl2, hw2⟩ := hs rfl
          simp only at h2
          rw [if_pos hlen] at h2
          cases t2 with
          | nil => cases h2
          | cons y u =>
            simp only at h2
            by_cases c6 : y.f0 = 6
            · rw [if_pos c6] at h2
              have c5 : ¬ y.f0 = 5 := by omega
              obtain ⟨Q, hQ2, hs2⟩ := i3 m2 d1 (y :: u) (l ++ [n2]) R d0 d8 hw2 (by rw [List.length_append]; simp only [List.length_cons, List.length_nil] at hl2 ⊢; omega) h2
              refine ⟨Q, Ev.step one (Ev.bind hQ (Ev.ift hlen (Ev.iff_ c5 (Ev.ift c6 hQ2)))), hs2.longer ?_⟩
              simp only [List.length_cons] at hl2 ⊢; omega
            · rw [if_neg c6] at h2
              by_cases c5 : y.f0 = 5
              · rw [if_pos c5] at h2
                obtain ⟨o, ho, h3⟩ := Option.bind_eq_some_iff.mp h2
                obtain rfl := OneOf_p2 ho
                obtain rfl := Option.some.inj h3
                refine ⟨⟨li2 (l ++ [n2]), none, u, m2⟩, Ev.step one (Ev.bind hQ (Ev.ift hlen (Ev.ift c5 (Ev.now _)))), rfl, fun _ => ⟨rfl, rfl, rfl, rfl, ?_, hw2.tail⟩⟩
                simp only [List.length_cons] at hl2 ⊢; omega
              · rw [if_neg c5] at h2
                obtain rfl := Option.some.inj h2
                exact ⟨⟨pz, some (y.f1, eNot y 3), y :: u, m2⟩, Ev.step one (Ev.bind hQ (Ev.ift hlen (Ev.iff_ c5 (Ev.iff_ c6 (Ev.now _))))), Sim.bad rfl rfl⟩
theorem toks_len : ∀ (its : List It) (q : Nat), okG its [] → (toks q its).length ≤ (flatT its).length
  | [], q, _ => Nat.le_refl _
  | .w l :: t, q, h => by
    have := toks_len t (q + (It.w l).tx.length) h.2.2.2
    have hl : 0 < l.length := List.length_pos_iff.2 h.1
    rw [toks, flatT, List.length_append, List.length_append]
    simp only [It.tok, It.tx, List.length_cons, List.length_nil] at this ⊢
    omega
  | .s k c :: t, q, h => by
    have := toks_len t (q + (It.s k c).tx.length) h.2.2
    rw [toks, flatT, List.length_append, List.length_append]
    simp only [It.tok, It.tx, List.length_cons, List.length_nil] at this ⊢
    omega
  | .d :: t, q, h => by
    have := toks_len t (q + It.d.tx.length) h
    rw [toks, flatT, List.length_append, List.length_append]
    simp only [It.tok, It.tx, List.length_cons, List.length_nil] at this ⊢
    omega
  | .b :: t, q, h => by
    have := toks_len t (q + It.b.tx.length) h
    rw [toks, flatT, List.length_append, List.length_append]
    simp only [It.tok, It.tx, List.length_cons, List.length_nil] at this ⊢
    omega
theorem Parse_same (l : List UInt8) : ∃ (n : S27) (a e : Int), (saneV n = true ∨ n = pz) ∧ Ev (fun k => parse_Parse.f k (bA l)) (tupP n a e) ∧ Ev (fun k => lustrumref13_Parse.f k (bA l)) (tupP n a e) := by
  by_cases h2 : 2000 < l.length
  · exact ⟨pz, 2000, 7, .inr rfl, Ev.bind (All_long l h2) (Ev.iff_ (by simp) (Ev.now _)), Ev.bind (rAll_long l h2) (Ev.iff_ (by simp) (Ev.now _))⟩
  obtain ⟨its, r, ho, rfl⟩ := split_any _ l (Nat.le_refl _)
  by_cases hr : r = []
  · subst hr
    rw [List.append_nil] at h2 ⊢
    have hL := All_ok its ho (by omega)
    have hM := rAll_ok its ho (by omega)
    have hT := toks_in its 0
    have hw0 : shortW (toks 0 its) := fun x hx => by have := hT x hx; omega
    have hw : shortW (toks 0 its ++ [endT (flatT its).length]) := fun x hx => by
      rcases List.mem_append.1 hx with h | h
      · exact hw0 x h
      · obtain rfl := List.mem_singleton.1 h; exact Nat.zero_le _
    have htl := toks_len its 0 ho
    have hlen : (toks 0 its ++ [endT (flatT its).length]).length ≤ 100000 := by rw [List.length_append]; simp only [List.length_cons, List.length_nil]; omega
    obtain ⟨R, hR, hO⟩ := expr_any (endT (flatT its).length) rfl (toks 0 its) hw0 0 0 (by omega) (by omega)
    obtain ⟨k, hk⟩ := hR.rounds
    obtain ⟨Q, hQ, hx, hs⟩ := (expr_sim k).1 0 0 _ R (by decide) (by decide) hw hlen hk
    obtain ⟨n, x, t, m, d⟩ := R
    obtain ⟨n', x', t', m'⟩ := Q
    simp only at hx hs
    subst hx
    have hlt : (toks 0 its ++ [endT (flatT its).length]).length < 4611686018427387904 := by omega
    rcases hO with ⟨hx, hn, hm, h64, hd, h8, v', ht, hsf, hl⟩ | ⟨a, c, hx, _, hc⟩
    · simp only at hx ht
      subst hx; subst ht
      obtain ⟨rfl, rfl, rfl, _, _, _⟩ := hs rfl
      obtain ⟨y, u, hyu⟩ := cons_of v' (endT (flatT its).length)
      rw [hyu] at hR hQ
      have hsane : saneV n' = true := by
        unfold saneV
        rw [show rt n' = true from hn]
        simp only [Bool.and_true, Bool.and_eq_true, decide_eq_true_eq]
        simp only at h64 h8
        omega
      by_cases hy : y.f0 = 9
      · exact ⟨n', ((flatT its).length : Int), 0, .inl hsane, Ev.bind hL (Ev.ift rfl (Ev.bind hR (Ev.ift hy (Ev.now _)))), Ev.bind hM (Ev.ift rfl (Ev.ift hlt (Ev.bind hQ (Ev.ift hy (Ev.eq (Ev.now _) (by rw [bA_size]; rfl))))))⟩
      · exact ⟨pz, y.f1, 3, .inr rfl, Ev.bind hL (Ev.ift rfl (Ev.bind hR (Ev.iff_ hy (Ev.now _)))), Ev.bind hM (Ev.ift rfl (Ev.ift hlt (Ev.bind hQ (Ev.iff_ hy (Ev.now _)))))⟩
    · simp only at hx
      subst hx
      exact ⟨pz, a, c, .inr rfl, Ev.bind hL (Ev.ift rfl (Ev.bind hR (Ev.now _))), Ev.bind hM (Ev.ift rfl (Ev.ift hlt (Ev.bind hQ (Ev.iff_ hc (Ev.now _)))))⟩
  · have hlen : (flatT its ++ r).length ≤ 2000 := by omega
    exact ⟨pz, ((flatT its).length : Int), 1, .inr rfl, Ev.bind (All_bad its r ho hr hlen) (Ev.iff_ (by simp) (Ev.now _)), Ev.bind (rAll_bad its r ho hr hlen) (Ev.iff_ (by simp) (Ev.now _))⟩
theorem ParseIs_t (s : ByteArray) : Ev (fun k => lustrumlaw13_ParseIs.f k s) true := by
  refine Ev.bind awake13 ?_
  by_cases hs : (s.size : Int) > 2100
  · exact Ev.ift hs (Ev.now _)
  refine Ev.iff_ hs ?_
  obtain ⟨l, rfl⟩ : ∃ l, s = bA l := ⟨s.data.toList, (bA_mk _).symm⟩
  obtain ⟨n, a, e, hn, hP, hQ⟩ := Parse_same l
  have hS : Ev (fun k => tSame k n n) true := by
    rcases hn with hn | rfl
    · exact same_t hn
    · have := tSame_f _ pz pz (Nat.le_refl _) wf_pz
      rwa [sm_refl _ _ (Nat.le_refl _)] at this
  refine Ev.bind hP (Ev.bind hQ (Ev.ift rfl (Ev.bind hS (Ev.ift rfl (Ev.ift rfl ?_)))))
  exact Ev.eq (Ev.now _) (beq_self_eq_true _)
end Go.Proofs.YtjgjhekpiijniaaGreat.A