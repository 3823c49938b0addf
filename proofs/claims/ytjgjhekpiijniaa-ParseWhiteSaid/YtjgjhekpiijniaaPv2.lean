/- Walks of functions, and plain facts about what they compute. No conditions. -/
import Derived.Test.YtjgjhekpiijniaaPv1
set_option linter.unusedVariables false
set_option linter.unusedSimpArgs false
namespace Go.Proofs.Ytjgjhekpiijniaa.A
open Go.RowKit Go.Proofs.YtjgjhekpiijniaaW.PrintWords Go.Proofs.YtjgjhekpiijniaaW.PrintLast Go.Proofs.YtjgjhekpiijniaaW.PrintMore
mutual
def nd : S27 → Nat
  | ⟨_, _, _, _, l⟩ => ndL l + 1
def ndL : List S27 → Nat
  | [] => 0
  | x :: l => nd x + ndL l
end
mutual
def dp : S27 → Nat
  | ⟨k, _, _, _, l⟩ => if k = 2 then dpL l + 1 else dpL l
def dpL : List S27 → Nat
  | [] => 0
  | x :: l => max (dp x) (dpL l)
end
mutual
def sm : S27 → S27 → Bool
  | ⟨k, p, a, t, l⟩, n => decide (k = n.f0) && (decide (p.f0 = n.f1.f0) && (decide (p.f1.toList = n.f1.f1.toList) && (decide (p.f2.toList = n.f1.f2.toList) && decide (p.f3.toList = n.f1.f3.toList)))) && (a == n.f2) && (t == n.f3) && smL l n.f4
def smL : List S27 → List S27 → Bool
  | [], [] => true
  | x :: l, y :: m => sm x y && smL l m
  | _, _ => false
end
def bareV (n : S27) : Bool := decide (n.f1.f0 = 0) && (emptyV n.f1.f1 && (emptyV n.f1.f2 && emptyV n.f1.f3)) && !n.f2 && !n.f3
def endV (n : S27) : Bool := decide (n.f4 = []) && (if n.f0 = 0 then ptV n.f1 else if n.f0 = 3 ∨ n.f0 = 4 then bareV n else false)
def two : List S27 → Bool
  | [x, y] => endV x && endV y
  | _ => false
mutual
def rt : S27 → Bool
  | ⟨k, p, a, t, l⟩ => if k = 0 then endV ⟨k, p, a, t, l⟩ else if k = 1 then bareV ⟨k, p, a, t, l⟩ && two l else if k = 2 then bareV ⟨k, p, a, t, l⟩ && (decide (l ≠ []) && rtL l) else false
def rtL : List S27 → Bool
  | [] => true
  | x :: l => rt x && rtL l
end
theorem nd_eq (n : S27) : nd n = ndL n.f4 + 1 := by cases n; rw [nd]
theorem dp_eq (n : S27) : dp n = if n.f0 = 2 then dpL n.f4 + 1 else dpL n.f4 := by cases n; rw [dp]
theorem sm_eq (a n : S27) : sm a n = (decide (a.f0 = n.f0) && (decide (a.f1.f0 = n.f1.f0) && (decide (a.f1.f1.toList = n.f1.f1.toList) && (decide (a.f1.f2.toList = n.f1.f2.toList) && decide (a.f1.f3.toList = n.f1.f3.toList)))) && (a.f2 == n.f2) && (a.f3 == n.f3) && smL a.f4 n.f4) := by cases a; rw [sm]
theorem rt_eq (n : S27) : rt n = if n.f0 = 0 then endV n else if n.f0 = 1 then bareV n && two n.f4 else if n.f0 = 2 then bareV n && (decide (n.f4 ≠ []) && rtL n.f4) else false := by cases n; rw [rt]
theorem nd_pos (n : S27) : 1 ≤ nd n := by rw [nd_eq]; omega
theorem len_nd : ∀ l : List S27, l.length ≤ ndL l
  | [] => Nat.le_refl _
  | x :: l => by have h1 := nd_pos x; have h2 := len_nd l; rw [ndL, List.length_cons]; omega
inductive wfN : S27 → Prop
  | mk (n : S27) (h1 : n.f1.f1.size ≤ 140737488351232) (h2 : n.f1.f2.size ≤ 140737488351232) (h3 : n.f1.f3.size ≤ 140737488351232) (hl : n.f4.length ≤ 1466015503711) (hc : ∀ x, x ∈ n.f4 → wfN x) : wfN n
theorem wfN.s1 {n : S27} (h : wfN n) : n.f1.f1.size ≤ 140737488351232 := by cases h; assumption
theorem wfN.s2 {n : S27} (h : wfN n) : n.f1.f2.size ≤ 140737488351232 := by cases h; assumption
theorem wfN.s3 {n : S27} (h : wfN n) : n.f1.f3.size ≤ 140737488351232 := by cases h; assumption
theorem wfN.len {n : S27} (h : wfN n) : n.f4.length ≤ 1466015503711 := by cases h; assumption
theorem wfN.all {n : S27} (h : wfN n) : ∀ x, x ∈ n.f4 → wfN x := by cases h; assumption
theorem at_rd26 (p : List S27) (r : S27) (t : List S27) : rd_T27 (p ++ r :: t) (p.length : Int) = r := by simp [rd_T27]
abbrev cn1 (k : Nat) (n : S27) (c : Int) : Option Int := tree_Count_1.f k n.f0 n.f1.f0 n.f1.f1 n.f1.f2 n.f1.f3 n.f2 n.f3 n.f4 c
abbrev dp1 (k : Nat) (n : S27) (i c : Int) : Option Int := tree_Deep_1.f k n.f0 n.f1.f0 n.f1.f1 n.f1.f2 n.f1.f3 n.f2 n.f3 n.f4 i c
abbrev tCount (k : Nat) (n : S27) : Option Int := tree_Count.f k n.f0 n.f1.f0 n.f1.f1 n.f1.f2 n.f1.f3 n.f2 n.f3 n.f4
abbrev tDeep (k : Nat) (n : S27) : Option Int := tree_Deep.f k n.f0 n.f1.f0 n.f1.f1 n.f1.f2 n.f1.f3 n.f2 n.f3 n.f4
abbrev tEnd (k : Nat) (n : S27) : Option Bool := tree_End.f k n.f0 n.f1.f0 n.f1.f1 n.f1.f2 n.f1.f3 n.f2 n.f3 n.f4
abbrev tBare (n : S27) : Option Bool := tree_bare.f n.f0 n.f1.f0 n.f1.f1 n.f1.f2 n.f1.f3 n.f2 n.f3 n.f4
abbrev tRight (k : Nat) (n : S27) : Option Bool := tree_right.f k n.f0 n.f1.f0 n.f1.f1 n.f1.f2 n.f1.f3 n.f2 n.f3 n.f4
abbrev tSane (k : Nat) (n : S27) : Option Bool := tree_Sane.f k n.f0 n.f1.f0 n.f1.f1 n.f1.f2 n.f1.f3 n.f2 n.f3 n.f4
abbrev tSame (k : Nat) (n m : S27) : Option Bool := tree_Same.f k n.f0 n.f1.f0 n.f1.f1 n.f1.f2 n.f1.f3 n.f2 n.f3 n.f4 m.f0 m.f1.f0 m.f1.f1 m.f1.f2 m.f1.f3 m.f2 m.f3 m.f4
theorem cn_f : ∀ (m : Nat) (n : S27) (c : Int), nd n ≤ m → 0 ≤ c → c + nd n ≤ 4611686018427387904 → Ev (fun k => cn1 k n c) (c + nd n)
  | 0, n, c, h, _, _ => by have := nd_pos n; omega
  | m + 1, n, c, h, h0, hb => by
    have loop : ∀ (t p : List S27) (c : Int), ndL t ≤ m → 0 ≤ c → c + ndL t ≤ 4611686018427387904 → (p ++ t).length ≤ 4611686018427387904 → Ev (fun k => tree_Count_1.l0 k c (p ++ t) ((p ++ t).length : Int) (p.length : Int)) (c + ndL t) := fun t => by
      induction t with
      | nil => exact fun p c _ _ _ _ => Ev.step (f := fun _ => some c) (fun k => by rw [tree_Count_1.l0, if_neg (at_end p)]) (Ev.eq (Ev.now _) (by simp [ndL]))
      | cons x t ih =>
        intro p c hm hc hb hp
        rw [ndL] at hm hb ⊢
        refine Ev.step (f := fun k => (cn1 k x c).bind fun t' => tree_Count_1.l0 k t' (p ++ x :: t) ((p ++ x :: t).length : Int) ((p ++ [x]).length : Int)) (fun k => by rw [tree_Count_1.l0, if_pos (at_lt p x t), if_pos (at_0 p), if_pos (at_lt p x t), at_rd26, at_next hp]) ?_
        refine Ev.bind (cn_f m x c (by omega) hc (by omega)) ?_
        have := ih (p ++ [x]) (c + nd x) (by omega) (by omega) (by omega) (by rw [← at_app]; exact hp)
        rw [← at_app] at this
        exact Ev.eq this (by omega)
    have hn := nd_eq n
    have hl := len_nd n.f4
    refine Ev.step (f := fun k => tree_Count_1.l0 k (c + 1) n.f4 (n.f4.length : Int) 0) (fun k => by show tree_Count_1.f (k + 1) _ _ _ _ _ _ _ _ _ = _; rw [tree_Count_1.f, w64 (by omega) (by omega)]) ?_
    have := loop n.f4 [] (c + 1) (by omega) (by omega) (by omega) (by simp; omega)
    exact Ev.eq this (by omega)
theorem tCount_f (n : S27) (h : nd n ≤ 4611686018427387904) : Ev (fun k => tCount k n) (nd n : Int) := Ev.eq (cn_f _ n 0 (Nat.le_refl _) (Int.le_refl _) (by omega)) (by omega)
theorem dp_f : ∀ (m : Nat) (n : S27) (i c : Int), nd n ≤ m → 0 ≤ i → 0 ≤ c → i + nd n ≤ 4611686018427387904 → Ev (fun k => dp1 k n i c) (max c (i + dp n))
  | 0, n, i, c, h, _, _, _ => by have := nd_pos n; omega
  | m + 1, n, i, c, h, h0, hc, hb => by
    have loop : ∀ (t p : List S27) (i c : Int), ndL t ≤ m → 0 ≤ i → i ≤ c → i + ndL t ≤ 4611686018427387904 → (p ++ t).length ≤ 4611686018427387904 → Ev (fun k => tree_Deep_1.l0 k i c (p ++ t) ((p ++ t).length : Int) (p.length : Int)) (max c (i + dpL t)) := fun t => by
      induction t with
      | nil => exact fun p i c _ _ h _ _ => Ev.step (f := fun _ => some c) (fun k => by rw [tree_Deep_1.l0, if_neg (at_end p)]) (Ev.eq (Ev.now _) (by simp only [dpL]; omega))
      | cons x t ih =>
        intro p i c hm hi hc hb hp
        rw [ndL] at hm hb
        rw [dpL]
        refine Ev.step (f := fun k => (dp1 k x i c).bind fun t' => tree_Deep_1.l0 k i t' (p ++ x :: t) ((p ++ x :: t).length : Int) ((p ++ [x]).length : Int)) (fun k => by rw [tree_Deep_1.l0, if_pos (at_lt p x t), if_pos (at_0 p), if_pos (at_lt p x t), at_rd26, at_next hp]) ?_
        refine Ev.bind (dp_f m x i c (by omega) hi (by omega) (by omega)) ?_
        have := ih (p ++ [x]) i (max c (i + dp x)) (by have := nd_pos x; omega) hi (by omega) (by omega) (by rw [← at_app]; exact hp)
        rw [← at_app] at this
        exact Ev.eq this (by omega)
    have hn := nd_eq n
    have hl := len_nd n.f4
    have hj : ∀ x1 : Int, 0 ≤ x1 → x1 ≤ i + 1 → Ev (fun k => tree_Deep_1.j0 k x1 c n.f0 n.f1.f0 n.f1.f1 n.f1.f2 n.f1.f3 n.f2 n.f3 n.f4) (max c (x1 + dpL n.f4)) := fun x1 h1 h2 => by
      refine Ev.step (f := fun k => tree_Deep_1.l0 k x1 (mx c x1) n.f4 (n.f4.length : Int) 0) (fun k => by rw [tree_Deep_1.j0]) ?_
      have := loop n.f4 [] x1 (mx c x1) (by omega) h1 (by rw [mx_max]; omega) (by omega) (by simp; omega)
      rw [mx_max] at this ⊢
      exact Ev.eq this (by omega)
    rw [dp_eq]
    by_cases h2 : n.f0 = 2
    · rw [if_pos h2]
      refine Ev.step (f := fun k => tree_Deep_1.j0 k (i + 1) c n.f0 n.f1.f0 n.f1.f1 n.f1.f2 n.f1.f3 n.f2 n.f3 n.f4) (fun k => by show tree_Deep_1.f (k + 1) _ _ _ _ _ _ _ _ _ _ = _; rw [tree_Deep_1.f, if_pos h2, w64 (by omega) (by omega)]) ?_
      exact Ev.eq (hj (i + 1) (by omega) (by omega)) (by omega)
    · rw [if_neg h2]
      refine Ev.step (f := fun k => tree_Deep_1.j0 k i c n.f0 n.f1.f0 n.f1.f1 n.f1.f2 n.f1.f3 n.f2 n.f3 n.f4) (fun k => by show tree_Deep_1.f (k + 1) _ _ _ _ _ _ _ _ _ _ = _; rw [tree_Deep_1.f, if_neg h2]) ?_
      exact hj i (by omega) (by omega)
theorem tDeep_f (n : S27) (h : nd n ≤ 4611686018427387904) : Ev (fun k => tDeep k n) (dp n : Int) := Ev.eq (dp_f _ n 0 0 (Nat.le_refl _) (Int.le_refl _) (Int.le_refl _) (by omega)) (by omega)
theorem smL_len : ∀ (l u : List S27), smL l u = true → l.length = u.length
  | [], [], _ => rfl
  | [], y :: u, h => by rw [smL] at h; · cases h
                        all_goals simp
  | x :: l, [], h => by rw [smL] at h; · cases h
                        all_goals simp
  | x :: l, y :: u, h => by
    rw [smL, Bool.and_eq_true] at h
    rw [List.length_cons, List.length_cons, smL_len l u h.2]
theorem at_rd26' (p q : List S27) (r : S27) (t : List S27) (e : p.length = q.length) : rd_T27 (q ++ r :: t) (p.length : Int) = r := by rw [e, at_rd26]
theorem at_lt' (p q : List S27) (r : S27) (t : List S27) (e : p.length = q.length) : (p.length : Int) < ((q ++ r :: t).length : Int) := by rw [e]; exact at_lt q r t
theorem tSame_f : ∀ (m : Nat) (a b : S27), nd a ≤ m → wfN a → Ev (fun k => tSame k a b) (sm a b)
  | 0, a, _, h, _ => by have := nd_pos a; omega
  | m + 1, a, b, h, hw => by
    have loop : ∀ (t u p q : List S27), ndL t ≤ m → (∀ x, x ∈ t → wfN x) → p.length = q.length → t.length = u.length → (p ++ t).length ≤ 4611686018427387904 → Ev (fun k => slices_EqualFunc.l0 k (q ++ u) (p ++ t) ((p ++ t).length : Int) (p.length : Int)) (smL t u) := fun t => by
      induction t with
      | nil =>
        intro u p q _ _ _ hu _
        cases u with
        | nil => exact Ev.step (f := fun _ => some true) (fun k => by rw [slices_EqualFunc.l0, if_neg (at_end p)]) (Ev.eq (Ev.now _) (by rw [smL]))
        | cons y u => simp at hu
      | cons x t ih =>
        intro u p q hm hx hpq hu hp
        cases u with
        | nil => simp at hu
        | cons y u =>
          rw [ndL] at hm
          rw [smL]
          refine Ev.step (f := fun k => (tSame k x y).bind fun t' => if t' = true then slices_EqualFunc.l0 k (q ++ y :: u) (p ++ x :: t) ((p ++ x :: t).length : Int) ((p ++ [x]).length : Int) else some false) (fun k => by rw [slices_EqualFunc.l0, if_pos (at_lt p x t), if_pos (at_0 p), if_pos (at_lt p x t), if_pos (at_lt' p q y u hpq), at_rd26, at_rd26' p q y u hpq, at_next hp]) ?_
          refine Ev.andb (tSame_f m x y (by omega) (hx x List.mem_cons_self)) ?_
          have := ih u (p ++ [x]) (q ++ [y]) (by have := nd_pos x; omega) (fun z hz => hx z (List.mem_cons_of_mem _ hz)) (by simp [hpq]) (by simpa using hu) (by rw [← at_app]; exact hp)
          rw [← at_app, ← at_app] at this
          exact this
    have hn := nd_eq a
    have hl := hw.len
    refine Ev.step (fun k => by show tree_Same.f (k + 1) _ _ _ _ _ _ _ _ _ _ _ _ _ _ _ _ = _; rw [tree_Same.f_succ]) ?_
    have hE : Ev (fun k => slices_EqualFunc.f k a.f4 b.f4) (smL a.f4 b.f4) := by
      by_cases c : (a.f4.length : Int) = (b.f4.length : Int)
      · have := loop a.f4 b.f4 [] [] (by omega) hw.all rfl (by omega) (by simp; omega)
        exact Ev.ift c this
      · refine Ev.iff_ c (Ev.eq (Ev.now _) ?_)
        cases hs : smL a.f4 b.f4 with
        | false => rfl
        | true => exact absurd (smL_len _ _ hs) (by omega)
    refine Ev.eq (Ev.cond fun _ => Ev.cond fun _ => Ev.cond fun _ => Ev.cond fun _ => Ev.self hE) ?_
    rw [sm_eq, Bool.eq_iff_iff]
    simp [and_assoc]
theorem tBare_f (n : S27) : tBare n = some (bareV n) := by
  show tree_bare.f _ _ _ _ _ _ _ _ = _
  unfold tree_bare.f bareV emptyV
  cases h : (n.f1.f0 == 0 && (n.f1.f1.toList == ([] : List UInt8) && (n.f1.f2.toList == ([] : List UInt8) && (n.f1.f3.toList == ([] : List UInt8))))) with
  | true =>
    rw [if_pos rfl]
    cases n.f2 <;> cases n.f3 <;> rfl
  | false =>
    rw [if_neg (by simp)]
    simp
theorem tEnd_f (n : S27) : Ev (fun k => tEnd k n) (endV n) := by
  refine Ev.eq (Ev.pick (Ev.cond fun _ => Ev.self (ptSane_f n.f1)) (Ev.pick (Ev.cond fun _ => Ev.bnow (tBare_f n) (Ev.now _)) (Ev.pick (Ev.cond fun _ => Ev.bnow (tBare_f n) (Ev.now _)) (Ev.now false)))) ?_
  unfold endV
  have e : decide ((n.f4.length : Int) = 0) = decide (n.f4 = []) := by rw [Bool.eq_iff_iff]; simp
  rw [e]
  by_cases c0 : n.f0 = 0
  · rw [if_pos c0, if_pos c0]
  · by_cases c3 : n.f0 = 3
    · rw [if_neg c0, if_pos c3, if_neg c0, if_pos (.inl c3)]
    · by_cases c4 : n.f0 = 4
      · rw [if_neg c0, if_neg c3, if_pos c4, if_neg c0, if_pos (.inr c4)]
      · rw [if_neg c0, if_neg c3, if_neg c4, if_neg c0, if_neg (by rintro (h | h) <;> contradiction)]; simp
theorem two_f (E : Nat → S27 → Option Bool) (l : List S27) (hE : ∀ x, x ∈ l → Ev (fun k => E k x) (endV x)) :
    Ev (fun k => if (l.length : Int) = 2 then (if 0 < (l.length : Int) then ((E k (rd_T27 l 0)).bind fun t108 => (if t108 = true then (if 1 < (l.length : Int) then ((E k (rd_T27 l 1)).bind fun t110 => (some t110)) else (none)) else (some false))) else (none)) else (some false)) (two l) := by
  match l, hE with
  | [], _ => exact Ev.iff_ (by simp) (Ev.now _)
  | [x], _ => exact Ev.iff_ (by simp) (Ev.now _)
  | [x, y], hE =>
    refine Ev.ift (by simp) (Ev.ift (by simp) ?_)
    refine Ev.andb (hE x (by simp)) (Ev.ift (by simp) (Ev.self (hE y (by simp))))
  | x :: y :: z :: l, _ => exact Ev.iff_ (by simp; omega) (Ev.now _)
theorem tRight_f : ∀ (m : Nat) (n : S27), nd n ≤ m → wfN n → Ev (fun k => tRight k n) (rt n)
  | 0, a, h, _ => by have := nd_pos a; omega
  | m + 1, n, h, hw => by
    have loop : ∀ (t p : List S27), ndL t ≤ m → (∀ x, x ∈ t → wfN x) → (p ++ t).length ≤ 4611686018427387904 → ∃ v, Ev (fun k => slices_IndexFunc.l0 k (p ++ t) ((p ++ t).length : Int) (p.length : Int)) v ∧ decide (v ≥ 0) = !rtL t := fun t => by
      induction t with
      | nil => exact fun p _ _ _ => ⟨-1, Ev.step (f := fun _ => some (-1)) (fun k => by rw [slices_IndexFunc.l0_succ, if_neg (at_end p)]) (Ev.now _), by rw [rtL]; rfl⟩
      | cons x t ih =>
        intro p hm hx hp
        rw [ndL] at hm
        rw [rtL]
        have hstep : ∀ k, slices_IndexFunc.l0 (k + 1) (p ++ x :: t) ((p ++ x :: t).length : Int) (p.length : Int) = ((tRight k x).bind fun t_ => some (!t_)).bind fun t' => if t' = true then some (p.length : Int) else slices_IndexFunc.l0 k (p ++ x :: t) ((p ++ x :: t).length : Int) ((p ++ [x]).length : Int) := fun k => by
          rw [slices_IndexFunc.l0_succ, if_pos (at_lt p x t), if_pos (at_0 p), if_pos (at_lt p x t), at_rd26, at_next hp]
          rfl
        have hR := tRight_f m x (by omega) (hx x List.mem_cons_self)
        cases hv : rt x with
        | false =>
          rw [hv] at hR
          exact ⟨(p.length : Int), Ev.step hstep (Ev.bind (Ev.bind hR (Ev.now _)) (Ev.ift rfl (Ev.now _))), by simp⟩
        | true =>
          rw [hv] at hR
          obtain ⟨v, h1, h2⟩ := ih (p ++ [x]) (by have := nd_pos x; omega) (fun z hz => hx z (List.mem_cons_of_mem _ hz)) (by rw [← at_app]; exact hp)
          rw [← at_app] at h1
          exact ⟨v, Ev.step hstep (Ev.bind (Ev.bind hR (Ev.now _)) (Ev.iff_ (by simp) h1)), by rw [h2, Bool.true_and]⟩
    have hn := nd_eq n
    have hl := hw.len
    refine Ev.step (f := fun k => tree_rightR.f k n.f0 n.f1.f0 n.f1.f1 n.f1.f2 n.f1.f3 n.f2 n.f3 n.f4) (fun k => by show tree_right.f (k + 1) _ _ _ _ _ _ _ _ = _; rw [tree_right.f_succ]) ?_
    have h2 := two_f (fun k x => tEnd k x) n.f4 (fun x _ => tEnd_f x)
    have hc : Ev (fun k => (slices_ContainsFunc.f k n.f4).bind fun t112 => some (!t112)) (rtL n.f4) := by
      obtain ⟨v, h1, h3⟩ := loop n.f4 [] (by omega) hw.all (by simp; omega)
      refine Ev.bind (Ev.bind (show Ev (fun k => slices_IndexFunc.f k n.f4) v from h1) (Ev.now _)) (Ev.eq (Ev.now _) ?_)
      rw [h3, Bool.not_not]
    refine Ev.eq (Ev.pick (Ev.self (tEnd_f n)) (Ev.pick (Ev.bnow (tBare_f n) (Ev.cond fun _ => h2)) (Ev.pick (Ev.bnow (tBare_f n) (Ev.cond fun _ => Ev.cond fun _ => hc)) (Ev.now false)))) ?_
    rw [rt_eq]
    have e : decide ((n.f4.length : Int) > 0) = decide (n.f4 ≠ []) := by
      rw [Bool.eq_iff_iff]
      simp only [decide_eq_true_eq]
      cases n.f4 <;> simp
    rw [e, Bool.decide_eq_true]
def saneV (n : S27) : Bool := decide (nd n ≤ 64) && (decide (dp n ≤ 8) && rt n)
theorem le_dec (a b : Nat) : decide ((a : Int) ≤ (b : Int)) = decide (a ≤ b) := by rw [Bool.eq_iff_iff]; simp
theorem tSane_f (n : S27) (hw : wfN n) (h : nd n ≤ 4611686018427387904) : Ev (fun k => tSane k n) (saneV n) := by
  refine Ev.eq (Ev.bind (tCount_f n h) (Ev.cond fun _ => Ev.bind (tDeep_f n h) (Ev.cond fun _ => Ev.self (tRight_f _ n (Nat.le_refl _) hw)))) ?_
  unfold saneV
  rw [← le_dec, ← le_dec]; rfl
theorem sm_refl : ∀ (m : Nat) (n : S27), nd n ≤ m → sm n n = true
  | 0, n, h => by have := nd_pos n; omega
  | m + 1, n, h => by
    have hl : ∀ l : List S27, ndL l ≤ m → smL l l = true := fun l => by
      induction l with
      | nil => intro _; rw [smL]
      | cons x t ih =>
        intro hh
        rw [ndL] at hh
        rw [smL, sm_refl m x (by omega), ih (by omega)]; rfl
    have hn := nd_eq n
    rw [sm_eq, hl n.f4 (by omega)]
    simp
def eP : S24 := ⟨0, ⟨#[]⟩, ⟨#[]⟩, ⟨#[]⟩⟩
def oN : S27 := ⟨3, eP, false, false, []⟩
def lN (l : List S27) : S27 := ⟨2, eP, false, false, l⟩
theorem wf_leaf (k : Int) (p : S24) (a t : Bool) (h1 : p.f1.size ≤ 140737488351232) (h2 : p.f2.size ≤ 140737488351232) (h3 : p.f3.size ≤ 140737488351232) : wfN ⟨k, p, a, t, []⟩ := .mk _ h1 h2 h3 (by simp) (fun x hx => by cases hx)
theorem wf_oN : wfN oN := wf_leaf _ _ _ _ (by decide) (by decide) (by decide)
theorem emptyV_nil : emptyV ⟨#[]⟩ = true := by unfold emptyV; rw [ByteArray.toList_eq]; rfl
theorem endV_o : endV oN = true := by
  show (true && (true && (emptyV ⟨#[]⟩ && (emptyV ⟨#[]⟩ && emptyV ⟨#[]⟩)) && !false && !false)) = true
  rw [emptyV_nil]; decide
theorem ndL_app : ∀ (l u : List S27), ndL (l ++ u) = ndL l + ndL u
  | [], u => by rw [List.nil_append, ndL, Nat.zero_add]
  | x :: l, u => by rw [List.cons_append, ndL, ndL, ndL_app l u]; omega
theorem dpL_app : ∀ (l u : List S27), dpL (l ++ u) = max (dpL l) (dpL u)
  | [], u => by rw [List.nil_append, dpL]; omega
  | x :: l, u => by rw [List.cons_append, dpL, dpL, dpL_app l u]; omega
def bA (l : List UInt8) : ByteArray := ⟨l.toArray⟩
theorem bA_data (l : List UInt8) : (bA l).data.toList = l := rfl
theorem bA_size (l : List UInt8) : (bA l).size = l.length := by rw [bsize, bA_data]
theorem ba_eq {a b : ByteArray} (h : a.data.toList = b.data.toList) : a = b := by
  cases a; cases b
  simp only at h
  rw [Array.toList_inj] at h
  rw [h]
theorem bA_mk (s : ByteArray) : bA s.data.toList = s := ba_eq rfl
theorem ba_app (a b : ByteArray) : (a ++ b).data.toList = a.data.toList ++ b.data.toList := by rw [ByteArray.data_append, Array.toList_append]
theorem bA_app (l u : List UInt8) : bA l ++ bA u = bA (l ++ u) := ba_eq (by rw [ba_app]; rfl)
theorem bA_toList (l : List UInt8) : (bA l).toList = l := by rw [ByteArray.toList_eq]; rfl
theorem ba_toList (s : ByteArray) : s.toList = s.data.toList := ByteArray.toList_eq s
theorem empty_size {s : ByteArray} (h : emptyV s = true) : s.size = 0 := by
  unfold emptyV at h
  rw [ba_toList] at h
  rw [bsize, beq_iff_eq.1 h]; rfl
def ptRaw (p : S24) : List UInt8 :=
  if p.f0 = 0 then p.f1.data.toList ++ 45 :: (p.f2.data.toList ++ 45 :: p.f3.data.toList)
  else if p.f0 = 1 then p.f1.data.toList ++ 45 :: p.f2.data.toList
  else if p.f0 = 2 then p.f1.data.toList ++ 115 :: p.f2.data.toList
  else if p.f0 = 4 then p.f1.data.toList ++ [100]
  else if p.f0 = 5 then p.f1.data.toList ++ [99]
  else p.f1.data.toList
def ptTxt (p : S24) : List UInt8 := if ptV p = true then ptRaw p else []
theorem pt_sizes {p : S24} (h : ptV p = true) : p.f1.size ≤ 4 ∧ p.f2.size ≤ 2 ∧ p.f3.size ≤ 2 := by
  unfold ptV at h
  rw [Bool.and_eq_true] at h
  obtain ⟨h1, h2⟩ := h
  have hy : p.f1.size ≤ 4 := by rw [bsize]; exact (sane_all h1).2.2
  refine ⟨hy, ?_⟩
  by_cases c0 : p.f0 = 0
  · rw [if_pos c0] at h2
    simp only [someV, Bool.and_eq_true, decide_eq_true_eq] at h2
    omega
  rw [if_neg c0] at h2
  by_cases c1 : p.f0 = 1
  · rw [if_pos c1] at h2
    simp only [someV, Bool.and_eq_true, decide_eq_true_eq] at h2
    have := empty_size h2.2.2
    omega
  rw [if_neg c1] at h2
  by_cases c2 : p.f0 = 2
  · rw [if_pos c2] at h2
    simp only [someV, Bool.and_eq_true, decide_eq_true_eq] at h2
    have := empty_size h2.2.2
    omega
  rw [if_neg c2] at h2
  have fin : ∀ n : Int, (decide ((p.f1.size : Int) = n) && (emptyV p.f2 && emptyV p.f3)) = true → p.f2.size ≤ 2 ∧ p.f3.size ≤ 2 := fun n h => by
    simp only [Bool.and_eq_true] at h
    have a := empty_size h.2.1
    have b := empty_size h.2.2
    omega
  by_cases c3 : p.f0 = 3
  · rw [if_pos c3] at h2; exact fin _ h2
  rw [if_neg c3] at h2
  by_cases c4 : p.f0 = 4
  · rw [if_pos c4] at h2; exact fin _ h2
  rw [if_neg c4] at h2
  by_cases c5 : p.f0 = 5
  · rw [if_pos c5] at h2; exact fin _ h2
  rw [if_neg c5] at h2
  cases h2
theorem ptTxt_len (p : S24) : (ptTxt p).length ≤ 10 := by
  unfold ptTxt
  split
  · rename_i h
    obtain ⟨h1, h2, h3⟩ := pt_sizes h
    rw [bsize] at h1 h2 h3
    unfold ptRaw
    repeat' split
    all_goals (first | (simp only [List.length_append, List.length_cons, List.length_nil]; omega) | omega)
  · simp
theorem ptText_f (p : S24) : Ev (fun k => point_Text.f k p.f0 p.f1 p.f2 p.f3) (bA (ptTxt p)) := by
  refine Ev.bind (ptSane_f p) ?_
  unfold ptTxt
  cases hv : ptV p with
  | false => exact Ev.iff_ (by simp) (Ev.eq (Ev.now _) rfl)
  | true =>
    obtain ⟨h1, h2, h3⟩ := pt_sizes hv
    have e1 : (⟨#[45]⟩ : ByteArray).size = 1 := rfl
    have e2 : (⟨#[115]⟩ : ByteArray).size = 1 := rfl
    have e3 : (⟨#[]⟩ : ByteArray).size = 0 := rfl
    refine Ev.ift rfl ?_
    rw [if_pos rfl]
    unfold ptRaw
    by_cases c0 : p.f0 = 0
    · refine Ev.ift c0 ?_
      rw [if_pos c0]
      refine Ev.ift (by omega) (Ev.ift (by omega) (Ev.ift (by simp only [ByteArray.size_append]; omega) (Ev.ift (by simp only [ByteArray.size_append]; omega) (Ev.eq (Ev.now _) (ba_eq ?_)))))
      simp only [ba_app, bA_data]; rfl
    refine Ev.iff_ c0 ?_
    rw [if_neg c0]
    by_cases c1 : p.f0 = 1
    · refine Ev.ift c1 ?_
      rw [if_pos c1]
      refine Ev.ift (by omega) (Ev.ift (by simp only [ByteArray.size_append]; omega) (Ev.ift (by simp only [ByteArray.size_append]; omega) (Ev.eq (Ev.now _) (ba_eq ?_))))
      simp only [ba_app, bA_data, List.append_nil]; rfl
    refine Ev.iff_ c1 ?_
    rw [if_neg c1]
    by_cases c2 : p.f0 = 2
    · refine Ev.ift c2 ?_
      rw [if_pos c2]
      refine Ev.ift (by omega) (Ev.ift (by simp only [ByteArray.size_append]; omega) (Ev.eq (Ev.now _) (ba_eq ?_)))
      simp only [ba_app, bA_data]; rfl
    refine Ev.iff_ c2 ?_
    rw [if_neg c2]
    by_cases c4 : p.f0 = 4
    · refine Ev.ift c4 ?_
      rw [if_pos c4]
      exact Ev.ift (by omega) (Ev.eq (Ev.now _) (ba_eq (by simp only [ba_app, bA_data])))
    refine Ev.iff_ c4 ?_
    rw [if_neg c4]
    by_cases c5 : p.f0 = 5
    · refine Ev.ift c5 ?_
      rw [if_pos c5]
      exact Ev.ift (by omega) (Ev.eq (Ev.now _) (ba_eq (by simp only [ba_app, bA_data])))
    refine Ev.iff_ c5 ?_
    rw [if_neg c5]
    exact Ev.ift (by omega) (Ev.eq (Ev.now _) (ba_eq (by simp only [ba_app, bA_data, List.append_nil])))
def span2 : List (List UInt8) → List UInt8
  | x :: y :: _ => x ++ 47 :: y
  | _ => []
def markV (a : Bool) (c : UInt8) : List UInt8 := if a = true then [c] else []
mutual
def tx : S27 → List UInt8
  | ⟨k, p, a, t, l⟩ => if k = 1 then span2 (txL l) else if k = 2 then 91 :: (Lib.join (txL l) [44, 32] ++ [93]) else if k = 3 then [46, 46] else if k = 4 then [42] else ptTxt p ++ (markV a 63 ++ markV t 126)
def txL : List S27 → List (List UInt8)
  | [] => []
  | x :: l => tx x :: txL l
end
theorem tx_eq (n : S27) : tx n = if n.f0 = 1 then span2 (txL n.f4) else if n.f0 = 2 then 91 :: (Lib.join (txL n.f4) [44, 32] ++ [93]) else if n.f0 = 3 then [46, 46] else if n.f0 = 4 then [42] else ptTxt n.f1 ++ (markV n.f2 63 ++ markV n.f3 126) := by cases n; rw [tx]
theorem txL_app : ∀ (l u : List S27), txL (l ++ u) = txL l ++ txL u
  | [], u => by rw [List.nil_append, txL, List.nil_append]
  | x :: l, u => by rw [List.cons_append, txL, txL, txL_app l u, List.cons_append]
theorem txL_len : ∀ l : List S27, (txL l).length = l.length
  | [] => by rw [txL]; rfl
  | x :: l => by rw [txL, List.length_cons, List.length_cons, txL_len l]
theorem markV_len (a : Bool) (c : UInt8) : (markV a c).length ≤ 1 := by unfold markV; split <;> simp
theorem join_len : ∀ xs : List (List UInt8), (Lib.join xs [44, 32]).length ≤ Lib.lens xs + 2 * xs.length
  | [] => by rw [Lib.join_nil]; simp
  | x :: r => by
    rw [Lib.join_cons, List.length_append, Lib.joinTail_length]
    simp only [Lib.lens, List.map_cons, List.sum_cons, List.length_cons, List.length_nil]
    omega
theorem lens_cons (x : List UInt8) (l : List (List UInt8)) : Lib.lens (x :: l) = x.length + Lib.lens l := by simp [Lib.lens]
theorem tx_len : ∀ (m : Nat) (n : S27), nd n ≤ m → (tx n).length + 2 ≤ 31 * nd n
  | 0, n, h => by have := nd_pos n; omega
  | m + 1, n, h => by
    have hl : ∀ l : List S27, ndL l ≤ m → Lib.lens (txL l) + 2 * l.length ≤ 31 * ndL l := fun l => by
      induction l with
      | nil => intro _; rw [txL]; simp [Lib.lens, ndL]
      | cons x t ih =>
        intro hh
        rw [ndL] at hh ⊢
        rw [txL, lens_cons, List.length_cons]
        have h1 := tx_len m x (by omega)
        have h2 := ih (by omega)
        omega
    have hn := nd_eq n
    have hL := hl n.f4 (by omega)
    have hS : (span2 (txL n.f4)).length ≤ Lib.lens (txL n.f4) + 1 := by
      cases txL n.f4 with
      | nil => simp [span2]
      | cons x t =>
        cases t with
        | nil => simp [span2]
        | cons y t => rw [lens_cons, lens_cons]; simp only [span2, List.length_append, List.length_cons]; omega
    have hJ := join_len (txL n.f4)
    rw [txL_len] at hJ
    have hp := ptTxt_len n.f1
    have ha := markV_len n.f2 63
    have ht := markV_len n.f3 126
    rw [tx_eq]
    repeat' split
    all_goals (first | (simp only [List.length_append, List.length_cons, List.length_nil]; omega) | omega)
theorem join_le (l : List S27) : (Lib.join (txL l) [44, 32]).length ≤ 31 * ndL l := by
  have h1 := join_len (txL l)
  rw [txL_len] at h1
  have hl : ∀ l : List S27, Lib.lens (txL l) + 2 * l.length ≤ 31 * ndL l := fun l => by
    induction l with
    | nil => rw [txL]; simp [Lib.lens, ndL]
    | cons x t ih =>
      rw [ndL, txL, lens_cons, List.length_cons]
      have h1 := tx_len _ x (Nat.le_refl _)
      omega
  have := hl l
  omega
theorem Join_f (l : List ByteArray) (sep : ByteArray) (h1 : l.length ≤ 140737488355328) (h2 : (Lib.join (l.map (·.data.toList)) sep.data.toList).length ≤ 140737488355328) : strings_Join.f l sep = some (bA (Lib.join (l.map (·.data.toList)) sep.data.toList)) := by
  unfold strings_Join.f
  rw [if_pos h1, if_pos h2]; rfl
theorem join3_f (a b c : List UInt8) (h : a.length + b.length + c.length ≤ 140737488355328) : print_join.f [bA a, bA b, bA c] = some (bA (a ++ (b ++ c))) := by
  have e : Lib.join (([bA a, bA b, bA c] : List ByteArray).map (·.data.toList)) ((⟨#[]⟩ : ByteArray).data.toList) = a ++ (b ++ c) := by
    simp only [List.map_cons, List.map_nil, bA_data]
    rw [Lib.join_cons]
    simp [Lib.joinTail]
  unfold print_join.f
  rw [Join_f _ _ (by simp) (by rw [e]; simp only [List.length_append]; omega), e]; rfl
theorem mark_f (a : Bool) (c : ByteArray) (u : UInt8) (hc : c = bA [u]) : print_mark.f a c = some (bA (markV a u)) := by
  subst hc
  unfold print_mark.f markV
  cases a <;> rfl
abbrev pText (k : Nat) (n : S27) : Option ByteArray := print_text.f k n.f0 n.f1.f0 n.f1.f1 n.f1.f2 n.f1.f3 n.f2 n.f3 n.f4
abbrev pTx (k : Nat) (n : S27) : Option ByteArray := print_Text.f k n.f0 n.f1.f0 n.f1.f1 n.f1.f2 n.f1.f3 n.f2 n.f3 n.f4
theorem two_inv {l : List S27} (h : two l = true) : ∃ x y, l = [x, y] ∧ endV x = true ∧ endV y = true := by
  match l, h with
  | [x, y], h => rw [two, Bool.and_eq_true] at h; exact ⟨x, y, rfl, h.1, h.2⟩
def rte (n : S27) : Prop := rt n = true ∨ endV n = true
theorem rte_one {n : S27} (h : rte n) (c : n.f0 = 1) : ∃ x y, n.f4 = [x, y] ∧ endV x = true ∧ endV y = true := by
  rcases h with h | h
  · rw [rt_eq, if_neg (by omega), if_pos c, Bool.and_eq_true] at h
    exact two_inv h.2
  · unfold endV at h
    rw [if_neg (by omega), if_neg (by omega)] at h
    simp at h
theorem rte_two {n : S27} (h : rte n) (c : n.f0 = 2) : rtL n.f4 = true := by
  rcases h with h | h
  · rw [rt_eq, if_neg (by omega), if_neg (by omega), if_pos c] at h
    simp only [Bool.and_eq_true] at h
    exact h.2.2
  · unfold endV at h
    rw [if_neg (by omega), if_neg (by omega)] at h
    simp at h
theorem pText_f : ∀ (m : Nat) (n : S27), nd n ≤ m → nd n ≤ 1048576 → rte n → Ev (fun k => pText k n) (bA (tx n))
  | 0, n, h, _, _ => by have := nd_pos n; omega
  | m + 1, n, h, hb, hr => by
    have hn := nd_eq n
    have hl := len_nd n.f4
    rw [tx_eq]
    by_cases c1 : n.f0 = 1
    · rw [if_pos c1]
      obtain ⟨x, y, e, hx, hy⟩ := rte_one hr c1
      have hxy : ndL n.f4 = nd x + nd y := by rw [e, ndL, ndL, ndL]; omega
      have ht : txL n.f4 = [tx x, tx y] := by rw [e, txL, txL, txL]
      have hX := pText_f m x (by omega) (by omega) (.inr hx)
      have hY := pText_f m y (by omega) (by omega) (.inr hy)
      have lx := tx_len _ x (Nat.le_refl _)
      have ly := tx_len _ y (Nat.le_refl _)
      have hj := join3_f (tx x) [47] (tx y) (by simp only [List.length_cons, List.length_nil]; omega)
      rw [ht]
      refine Ev.step (fun k => by show print_text.f (k + 1) _ _ _ _ _ _ _ _ = _; rw [print_text.f, if_pos c1, e]) ?_
      exact Ev.ift (by simp) (Ev.bind hX (Ev.ift (by simp) (Ev.bind hY (Ev.bnow hj (Ev.now _)))))
    rw [if_neg c1]
    by_cases c2 : n.f0 = 2
    · rw [if_pos c2]
      have hL := rte_two hr c2
      have loop : ∀ (t p : List S27), p ++ t = n.f4 → rtL t = true → Ev (fun k => print_text.l0 k ((txL p).map bA) (p ++ t) ((p ++ t).length : Int) (p.length : Int)) (bA (91 :: (Lib.join (txL n.f4) [44, 32] ++ [93]))) := fun t => by
        induction t with
        | nil =>
          intro p he _
          rw [List.append_nil] at he ⊢
          subst he
          have hj := join_le n.f4
          have em : ((txL n.f4).map bA).map (·.data.toList) = txL n.f4 := by rw [List.map_map]; conv => rhs; rw [← List.map_id (txL n.f4)]
                                                                             rfl
          have h1 := Join_f ((txL n.f4).map bA) ⟨#[44, 32]⟩ (by rw [List.length_map, txL_len]; omega) (by rw [em]; show (Lib.join (txL n.f4) [44, 32]).length ≤ _; omega)
          rw [em] at h1
          have h2 := join3_f [91] (Lib.join (txL n.f4) [44, 32]) [93] (by simp only [List.length_cons, List.length_nil]; omega)
          refine Ev.step (fun k => by rw [print_text.l0, if_neg (by omega)]) ?_
          exact Ev.bnow h1 (Ev.bnow h2 (Ev.now _))
        | cons x t ih =>
          intro p he hrt
          rw [rtL, Bool.and_eq_true] at hrt
          have hxl : nd x + ndL p ≤ ndL n.f4 := by rw [← he, ndL_app, ndL]; omega
          have hp : (p ++ x :: t).length ≤ 4611686018427387904 := by rw [he]; omega
          have hlp : p.length ≤ n.f4.length := by rw [← he]; simp
          refine Ev.step (f := fun k => (pText k x).bind fun t' => if ((txL p).map bA).length < 8796093022208 then print_text.l0 k ((txL p).map bA ++ [t']) (p ++ x :: t) ((p ++ x :: t).length : Int) ((p ++ [x]).length : Int) else none) (fun k => by rw [print_text.l0, if_pos (at_lt p x t), if_pos (at_0 p), if_pos (at_lt p x t), at_rd26, at_next hp]) ?_
          refine Ev.bind (pText_f m x (by omega) (by omega) (.inl hrt.1)) (Ev.ift (by rw [List.length_map, txL_len]; omega) ?_)
          have := ih (p ++ [x]) (by rw [← at_app]; exact he) hrt.2
          rw [← at_app, txL_app, List.map_append] at this
          have e1 : (txL [x]).map bA = [bA (tx x)] := by rw [txL, txL]; rfl
          rw [e1] at this
          exact this
      refine Ev.step (f := fun k => print_text.l0 k [] n.f4 (n.f4.length : Int) 0) (fun k => by show print_text.f (k + 1) _ _ _ _ _ _ _ _ = _; rw [print_text.f, if_neg c1, if_pos c2]) ?_
      have := loop n.f4 [] rfl hL
      rw [txL] at this
      exact this
    rw [if_neg c2]
    by_cases c3 : n.f0 = 3
    · rw [if_pos c3]
      exact Ev.step (f := fun _ => some (bA [46, 46])) (fun k => by show print_text.f (k + 1) _ _ _ _ _ _ _ _ = _; rw [print_text.f, if_neg c1, if_neg c2, if_pos c3]; rfl) (Ev.now _)
    rw [if_neg c3]
    by_cases c4 : n.f0 = 4
    · rw [if_pos c4]
      exact Ev.step (f := fun _ => some (bA [42])) (fun k => by show print_text.f (k + 1) _ _ _ _ _ _ _ _ = _; rw [print_text.f, if_neg c1, if_neg c2, if_neg c3, if_pos c4]; rfl) (Ev.now _)
    rw [if_neg c4]
    have hp := ptTxt_len n.f1
    have ha := markV_len n.f2 63
    have ht := markV_len n.f3 126
    refine Ev.step (fun k => by show print_text.f (k + 1) _ _ _ _ _ _ _ _ = _; rw [print_text.f, if_neg c1, if_neg c2, if_neg c3, if_neg c4]) ?_
    exact Ev.bind (ptText_f n.f1) (Ev.bnow (mark_f _ _ 63 rfl) (Ev.bnow (mark_f _ _ 126 rfl) (Ev.bnow (join3_f _ _ _ (by omega)) (Ev.now _))))
def txV (n : S27) : List UInt8 := if saneV n = true then tx n else []
theorem sane_rt {n : S27} (h : saneV n = true) : nd n ≤ 64 ∧ dp n ≤ 8 ∧ rt n = true := by
  unfold saneV at h
  simp only [Bool.and_eq_true, decide_eq_true_eq] at h
  exact h
theorem pTx_f (n : S27) (hw : wfN n) (hb : nd n ≤ 1048576) : Ev (fun k => pTx k n) (bA (txV n)) := by
  refine Ev.bind (tSane_f n hw (by omega)) ?_
  unfold txV
  cases hv : saneV n with
  | false => exact Ev.iff_ (by simp) (Ev.eq (Ev.now _) rfl)
  | true =>
    refine Ev.ift rfl ?_
    rw [if_pos rfl]
    exact Ev.bind (pText_f _ n (Nat.le_refl _) hb (.inl (sane_rt hv).2.2)) (Ev.now _)
def p11 : S27 := ⟨0, ⟨3, ⟨#[49, 57, 56, 52]⟩, ⟨#[]⟩, ⟨#[]⟩⟩, true, true, []⟩
theorem pv_p11 : ptV p11.f1 = true := by
  show (saneL [49, 57, 56, 52] && (true && (emptyV ⟨#[]⟩ && emptyV ⟨#[]⟩))) = true
  rw [emptyV_nil]; decide
theorem wf_p11 : wfN p11 := wf_leaf _ _ _ _ (by decide) (by decide) (by decide)
theorem endV_p11 : endV p11 = true := by show (true && ptV p11.f1) = true; rw [pv_p11]; rfl
theorem bare_e (k : Int) (l : List S27) : bareV ⟨k, eP, false, false, l⟩ = true := by
  show (true && (emptyV ⟨#[]⟩ && (emptyV ⟨#[]⟩ && emptyV ⟨#[]⟩)) && !false && !false) = true
  rw [emptyV_nil]; decide
theorem ndL_mem {x : S27} : ∀ {l : List S27}, x ∈ l → nd x ≤ ndL l
  | [], h => by cases h
  | y :: l, h => by
    rw [ndL]
    rcases List.mem_cons.1 h with rfl | h
    · omega
    · have := ndL_mem h; omega
def isW (c : UInt8) : Bool := okB c || (c == 45 || (c == 115 || (c == 100 || c == 99)))
def noW : List UInt8 → Prop
  | [] => True
  | c :: _ => isW c = false
theorem any_sane {l : List UInt8} {m : Nat} {i : Int} (h : anyV l i m = true) : l.all okB = true := by
  obtain ⟨n, _, _, hn⟩ := (anyV_iff l m i).1 h
  cases hs : saneL l with
  | true => exact (sane_all hs).1
  | false => rw [refV_sane hs] at hn; cases hn
theorem pt_kinds {p : S24} (h : ptV p = true) : p.f1.data.toList.all okB = true ∧
    (p.f0 = 0 ∧ p.f1.data.toList.length = 4 ∧ p.f2.data.toList.length = 2 ∧ p.f2.data.toList.all okB = true ∧ p.f3.data.toList.length = 2 ∧ p.f3.data.toList.all okB = true
    ∨ p.f0 = 1 ∧ p.f1.data.toList.length = 4 ∧ p.f2.data.toList.length = 2 ∧ p.f2.data.toList.all okB = true ∧ p.f3.data.toList = []
    ∨ p.f0 = 2 ∧ p.f1.data.toList.length = 4 ∧ p.f2.data.toList.length = 1 ∧ p.f2.data.toList.all okB = true ∧ p.f3.data.toList = []
    ∨ p.f0 = 3 ∧ p.f1.data.toList.length = 4 ∧ p.f2.data.toList = [] ∧ p.f3.data.toList = []
    ∨ p.f0 = 4 ∧ p.f1.data.toList.length = 3 ∧ p.f2.data.toList = [] ∧ p.f3.data.toList = []
    ∨ p.f0 = 5 ∧ p.f1.data.toList.length = 2 ∧ p.f2.data.toList = [] ∧ p.f3.data.toList = []) := by
  have em : ∀ {s : ByteArray}, emptyV s = true → s.data.toList = [] := fun {s} h => by
    unfold emptyV at h
    rw [ba_toList] at h
    exact beq_iff_eq.1 h
  unfold ptV at h
  rw [Bool.and_eq_true] at h
  obtain ⟨h1, h2⟩ := h
  refine ⟨(sane_all h1).1, ?_⟩
  by_cases c0 : p.f0 = 0
  · rw [if_pos c0] at h2
    simp only [someV, Bool.and_eq_true, decide_eq_true_eq, bsize] at h2
    exact .inl ⟨c0, by omega, by omega, any_sane h2.2.1.2, by omega, any_sane h2.2.2.2⟩
  rw [if_neg c0] at h2
  by_cases c1 : p.f0 = 1
  · rw [if_pos c1] at h2
    simp only [someV, Bool.and_eq_true, decide_eq_true_eq, bsize] at h2
    exact .inr (.inl ⟨c1, by omega, by omega, any_sane h2.2.1.2, em h2.2.2⟩)
  rw [if_neg c1] at h2
  by_cases c2 : p.f0 = 2
  · rw [if_pos c2] at h2
    simp only [someV, Bool.and_eq_true, decide_eq_true_eq, bsize] at h2
    exact .inr (.inr (.inl ⟨c2, by omega, by omega, any_sane h2.2.1.2, em h2.2.2⟩))
  rw [if_neg c2] at h2
  by_cases c3 : p.f0 = 3
  · rw [if_pos c3] at h2
    simp only [Bool.and_eq_true, decide_eq_true_eq, bsize] at h2
    exact .inr (.inr (.inr (.inl ⟨c3, by omega, em h2.2.1, em h2.2.2⟩)))
  rw [if_neg c3] at h2
  by_cases c4 : p.f0 = 4
  · rw [if_pos c4] at h2
    simp only [Bool.and_eq_true, decide_eq_true_eq, bsize] at h2
    exact .inr (.inr (.inr (.inr (.inl ⟨c4, by omega, em h2.2.1, em h2.2.2⟩))))
  rw [if_neg c4] at h2
  by_cases c5 : p.f0 = 5
  · rw [if_pos c5] at h2
    simp only [Bool.and_eq_true, decide_eq_true_eq, bsize] at h2
    exact .inr (.inr (.inr (.inr (.inr ⟨c5, by omega, em h2.2.1, em h2.2.2⟩))))
  rw [if_neg c5] at h2
  cases h2
theorem S24.ext4 {a b : S24} (h0 : a.f0 = b.f0) (h1 : a.f1.data.toList = b.f1.data.toList) (h2 : a.f2.data.toList = b.f2.data.toList) (h3 : a.f3.data.toList = b.f3.data.toList) : a = b := by
  cases a; cases b
  simp only at h0 h1 h2 h3
  rw [h0, ba_eq h1, ba_eq h2, ba_eq h3]
theorem k0 {p : S24} (h : ptV p = true) (c : p.f0 = 0) : p.f1.data.toList.length = 4 ∧ p.f2.data.toList.length = 2 := by
  obtain ⟨_, hk⟩ := pt_kinds h
  rcases hk with ⟨d, a, b, _⟩ | ⟨d, _⟩ | ⟨d, _⟩ | ⟨d, _⟩ | ⟨d, _⟩ | ⟨d, _⟩ <;> first | exact ⟨a, b⟩ | omega
theorem S27.ext5 {a b : S27} (h0 : a.f0 = b.f0) (h1 : a.f1 = b.f1) (h2 : a.f2 = b.f2) (h3 : a.f3 = b.f3) (h4 : a.f4 = b.f4) : a = b := by
  cases a; cases b
  simp only at h0 h1 h2 h3 h4
  rw [h0, h1, h2, h3, h4]
theorem bare_inj {a b : S27} (ha : bareV a = true) (hb : bareV b = true) (h0 : a.f0 = b.f0) (h4 : a.f4 = b.f4) : a = b := by
  unfold bareV at ha hb
  simp only [Bool.and_eq_true, decide_eq_true_eq, Bool.not_eq_true'] at ha hb
  have em : ∀ {s : ByteArray}, emptyV s = true → s.data.toList = [] := fun {s} h => by
    unfold emptyV at h
    rw [ba_toList] at h
    exact beq_iff_eq.1 h
  obtain ⟨⟨⟨a0, a1, a2, a3⟩, a4⟩, a5⟩ := ha
  obtain ⟨⟨⟨b0, b1, b2, b3⟩, b4⟩, b5⟩ := hb
  have e1 : a.f1 = b.f1 := S24.ext4 (by omega) (by rw [em a1, em b1]) (by rw [em a2, em b2]) (by rw [em a3, em b3])
  exact S27.ext5 h0 e1 (by rw [a4, b4]) (by rw [a5, b5]) h4
theorem end_kinds {n : S27} (h : endV n = true) : n.f4 = [] ∧ (n.f0 = 0 ∧ ptV n.f1 = true ∨ n.f0 = 3 ∧ bareV n = true ∨ n.f0 = 4 ∧ bareV n = true) := by
  unfold endV at h
  rw [Bool.and_eq_true, decide_eq_true_eq] at h
  refine ⟨h.1, ?_⟩
  have h2 := h.2
  by_cases c0 : n.f0 = 0
  · rw [if_pos c0] at h2; exact .inl ⟨c0, h2⟩
  rw [if_neg c0] at h2
  by_cases c3 : n.f0 = 3 ∨ n.f0 = 4
  · rw [if_pos c3] at h2
    rcases c3 with c | c
    · exact .inr (.inl ⟨c, h2⟩)
    · exact .inr (.inr ⟨c, h2⟩)
  · rw [if_neg c3] at h2; cases h2
def sep : List UInt8 → Prop
  | [] => True
  | c :: _ => c = 47 ∨ c = 44 ∨ c = 93
theorem rt_kinds {n : S27} (h : rt n = true) : endV n = true ∧ n.f0 = 0 ∨ (n.f0 = 1 ∧ bareV n = true ∧ ∃ x y, n.f4 = [x, y] ∧ endV x = true ∧ endV y = true ∧ tx n = tx x ++ 47 :: tx y) ∨ (n.f0 = 2 ∧ bareV n = true ∧ n.f4 ≠ [] ∧ rtL n.f4 = true ∧ tx n = 91 :: (Lib.join (txL n.f4) [44, 32] ++ [93])) := by
  rw [rt_eq] at h
  by_cases c0 : n.f0 = 0
  · rw [if_pos c0] at h; exact .inl ⟨h, c0⟩
  rw [if_neg c0] at h
  by_cases c1 : n.f0 = 1
  · rw [if_pos c1, Bool.and_eq_true] at h
    obtain ⟨x, y, e, hx, hy⟩ := two_inv h.2
    exact .inr (.inl ⟨c1, h.1, x, y, e, hx, hy, by rw [tx_eq, if_pos c1, e, txL, txL, txL]; rfl⟩)
  rw [if_neg c1] at h
  by_cases c2 : n.f0 = 2
  · rw [if_pos c2] at h
    simp only [Bool.and_eq_true, decide_eq_true_eq] at h
    exact .inr (.inr ⟨c2, h.1, h.2.1, h.2.2, by rw [tx_eq, if_neg c1, if_pos c2]⟩)
  rw [if_neg c2] at h
  cases h
theorem strOf_list (l : List UInt8) : strOfNums (l.map fun b => (b.toNat : Int)) = bA l := by
  unfold strOfNums bA
  have e : ∀ l : List UInt8, (l.map fun b => (b.toNat : Int)).map (fun n => n.toNat.toUInt8) = l := fun l => by
    induction l with
    | nil => rfl
    | cons c l ih =>
      rw [List.map_cons, List.map_cons, ih]
      congr 1
      exact u8eq (by simp)
  first | rw [e] | (simp; exact e l)
def nb (l : List UInt8) : List Int := l.map fun b => (b.toNat : Int)
theorem nb_len (l : List UInt8) : (nb l).length = l.length := by unfold nb; rw [List.length_map]
theorem nb_app (l u : List UInt8) : nb (l ++ u) = nb l ++ nb u := by unfold nb; rw [List.map_append]
theorem bytesOf_nb (s : ByteArray) : bytesOf s = nb s.data.toList := rfl
theorem ext_bA (p l r : List UInt8) : (bA (p ++ (l ++ r))).extract p.length (p.length + l.length) = bA l := ba_eq (by
  rw [ByteArray.data_extract, Array.toList_extract, bA_data]
  simp [List.extract]
  rfl)
theorem ext_end (p r : List UInt8) : (bA (p ++ r)).extract p.length (bA (p ++ r)).size = bA r := ba_eq (by
  rw [ByteArray.data_extract, Array.toList_extract, bA_data, bA_size]
  simp [List.extract]
  rfl)
theorem bt_mid (p : List UInt8) (c : UInt8) (r : List UInt8) : bt (bA (p ++ c :: r)) (p.length : Int) = (c.toNat : Int) := by
  rw [bt_list _ _ (by rw [bA_data]; simp)]
  simp [bA_data]
theorem index_mem : ∀ (l : List UInt8) (c : UInt8), (Lib.indexByte l c = -1 ∨ 0 ≤ Lib.indexByte l c) ∧ (0 ≤ Lib.indexByte l c ↔ c ∈ l)
  | [], c => by simp [Lib.indexByte]
  | b :: l, c => by
    obtain ⟨h1, h2⟩ := index_mem l c
    rw [Lib.indexByte]
    by_cases e : b = c
    · subst e; simp
    · have e' : (b == c) = false := by simpa using e
      rw [e', List.mem_cons]
      simp only [Bool.false_eq_true, if_false, beq_iff_eq]
      have e2 : ¬ c = b := fun h => e h.symm
      rcases h1 with h1 | h1
      · rw [if_pos h1]
        have h3 : ¬ c ∈ l := fun hc => by have := h2.2 hc; omega
        exact ⟨.inl rfl, by simp [e2, h3]⟩
      · rw [if_neg (by omega)]
        have h3 : c ∈ l := h2.1 h1
        exact ⟨.inr (by omega), by simp [h3]; omega⟩
def lettersL : List UInt8 := [48, 49, 50, 51, 52, 53, 54, 55, 56, 57, 88, 45, 115, 100, 99]
theorem letters_W (c : UInt8) : c ∈ lettersL ↔ isW c = true := by
  have e : ∀ n : Nat, n < 256 → (UInt8.ofNat n ∈ lettersL ↔ isW (UInt8.ofNat n) = true) := by decide +kernel
  have := e c.toNat c.toNat_lt
  rwa [UInt8.ofNat_toNat] at this
theorem index_W (c : UInt8) : ∃ v, strings_IndexByte.f (⟨#[48, 49, 50, 51, 52, 53, 54, 55, 56, 57, 88, 45, 115, 100, 99]⟩ : ByteArray) (c.toNat : Int) = some v ∧ (v ≥ 0 ↔ isW c = true) := by
  refine ⟨_, rfl, ?_⟩
  have e : ((c.toNat : Int).toNat.toUInt8) = c := u8eq (by simp)
  rw [e]
  have := (index_mem lettersL c).2
  rw [letters_W] at this
  exact this
theorem word_l0 : ∀ (l p : List UInt8), (p ++ l).length ≤ 4611686018427387904 → Ev (fun k => lex_word.l0 k (bA (p ++ l)) (p.length : Int)) (((p.length + (l.takeWhile isW).length : Nat)) : Int)
  | [], p, h => Ev.step (f := fun _ => some ((p.length : Nat) : Int)) (fun k => by rw [lex_word.l0, if_neg (by rw [bA_size]; simp)]) (Ev.eq (Ev.now _) (by simp))
  | c :: l, p, h => by
    obtain ⟨v, hv, hw⟩ := index_W c
    have hlt : (p.length : Int) < ((bA (p ++ c :: l)).size : Int) := by rw [bA_size, List.length_append, List.length_cons]; omega
    refine Ev.step (f := fun k => if v ≥ 0 then lex_word.l0 k (bA (p ++ c :: l)) ((p ++ [c]).length : Int) else some (p.length : Int)) (fun k => by rw [lex_word.l0, if_pos hlt, if_pos (by omega), bt_mid, hv, Option.bind_some, at_next h]) ?_
    by_cases hc : isW c = true
    · refine Ev.ift (hw.2 hc) ?_
      have := word_l0 l (p ++ [c]) (by rw [← at_app]; exact h)
      rw [← at_app] at this
      refine Ev.eq this ?_
      rw [List.takeWhile_cons, if_pos hc, List.length_append, List.length_cons, List.length_cons, List.length_nil]
      omega
    · refine Ev.iff_ (fun h => hc (hw.1 h)) (Ev.eq (Ev.now _) ?_)
      rw [List.takeWhile_cons, if_neg hc]; simp
theorem word_f (l : List UInt8) (h : l.length ≤ 4611686018427387904) : Ev (fun k => lex_word.f k (bA l)) ((l.takeWhile isW).length : Int) := by
  have := word_l0 l [] (by simpa using h)
  rw [List.nil_append] at this
  exact Ev.eq this (by simp)
theorem prefix_f (l u : List UInt8) : strings_HasPrefix.f (bA l) (bA u) = some (u.isPrefixOf l) := by
  unfold strings_HasPrefix.f stringslite_HasPrefix.f
  rw [bA_size, bA_size]
  by_cases c : u.length ≤ l.length
  · rw [if_pos (by omega), if_pos (by omega), if_pos (by omega)]
    simp only [Option.bind_some, Option.some.injEq]
    rw [ba_toList, ByteArray.data_extract, Array.toList_extract, bA_data, bA_toList]
    simp only [Int.toNat_natCast, List.extract, Nat.sub_zero, List.drop_zero]
    rw [Bool.eq_iff_iff, beq_iff_eq, List.isPrefixOf_iff_prefix, List.prefix_iff_eq_take]
    exact ⟨fun h => h.symm, fun h => h.symm⟩
  · rw [if_neg (by omega)]
    simp only [Option.bind_some, Option.some.injEq]
    symm
    rw [Bool.eq_false_iff]
    intro h
    have := (List.isPrefixOf_iff_prefix.1 h).length_le
    omega
inductive It where
  | w (l : List UInt8)
  | s (k : Int) (c : UInt8)
  | d
  | b
def It.tx : It → List UInt8
  | .w l => l
  | .s _ c => [c]
  | .d => [46, 46]
  | .b => [32]
def flatT : List It → List UInt8
  | [] => []
  | i :: r => i.tx ++ flatT r
theorem flatT_app : ∀ l u : List It, flatT (l ++ u) = flatT l ++ flatT u
  | [], u => rfl
  | i :: l, u => by rw [List.cons_append, flatT, flatT, flatT_app l u, List.append_assoc]
def stopI : List It → Prop
  | .w _ :: _ => False
  | .b :: _ => False
  | _ => True
def okI : List It → Prop
  | [] => True
  | .w l :: r => l ≠ [] ∧ l.all isW = true ∧ stopI r ∧ okI r
  | .s k c :: r => signK (c.toNat : Int) = k ∧ signB (c.toNat : Int) = true ∧ okI r
  | .d :: r => okI r
  | .b :: r => okI r
theorem sign_noW {c : UInt8} (h : signB (c.toNat : Int) = true) : isW c = false := by
  have e : ∀ n : Nat, n < 256 → signB ((UInt8.ofNat n).toNat : Int) = true → isW (UInt8.ofNat n) = false := by decide +kernel
  have := e c.toNat c.toNat_lt
  rw [UInt8.ofNat_toNat] at this
  exact this h
theorem stop_noW : ∀ {r : List It}, stopI r → okI r → noW (flatT r)
  | [], _, _ => trivial
  | .w _ :: _, h, _ => h.elim
  | .b :: _, h, _ => h.elim
  | .s k c :: r, _, h => sign_noW h.2.1
  | .d :: r, _, _ => by show isW 46 = false; decide
theorem take_W : ∀ (l r : List UInt8), l.all isW = true → noW r → (l ++ r).takeWhile isW = l
  | [], [], _, _ => rfl
  | [], c :: r, _, h => by rw [List.nil_append, List.takeWhile_cons]; simp only [noW] at h; rw [h]; rfl
  | c :: l, r, hl, h => by
    rw [List.all_cons, Bool.and_eq_true] at hl
    rw [List.cons_append, List.takeWhile_cons, if_pos hl.1, take_W l r hl.2 h]
def e0 : ByteArray := ⟨#[]⟩
def It.tok (p : Nat) : It → List S48
  | .w l => [⟨0, (p : Int), bA l⟩]
  | .s k _ => [⟨k, (p : Int), e0⟩]
  | .d => [⟨2, (p : Int), e0⟩]
  | .b => []
def toks : Nat → List It → List S48
  | _, [] => []
  | p, i :: r => i.tok p ++ toks (p + i.tx.length) r
theorem toks_app : ∀ (p : Nat) (l u : List It), toks p (l ++ u) = toks p l ++ toks (p + (flatT l).length) u
  | p, [], u => by simp [toks, flatT]
  | p, i :: l, u => by rw [List.cons_append, toks, toks, flatT, toks_app, List.append_assoc, List.length_append, Nat.add_assoc]
def endT (n : Nat) : S48 := ⟨9, (n : Int), e0⟩
theorem lex_l0 : ∀ (its : List It) (p : List UInt8) (acc : List S48), okI its → (p ++ flatT its).length ≤ 1000000 → acc.length ≤ p.length →
    Ev (fun k => lex_All.l0 k (bA (p ++ flatT its)) acc (p.length : Int)) (acc ++ toks p.length its ++ [endT (p ++ flatT its).length], ((p ++ flatT its).length : Int), 0)
  | [], p, acc, _, hn, ha => by
    refine Ev.step (f := fun _ => some (acc ++ toks p.length [] ++ [endT (p ++ flatT []).length], ((p ++ flatT []).length : Int), 0)) (fun k => ?_) (Ev.now _)
    rw [lex_All.l0, bA_size, if_neg (by simp [flatT]), if_pos (by simp [flatT] at hn; omega)]
    simp only [toks, List.append_nil]
    rfl
  | i :: r, p, acc, hok, hn, ha => by
    rw [flatT] at hn ⊢
    rw [toks]
    have hlen : p.length + i.tx.length + (flatT r).length ≤ 1000000 := by simp only [List.length_append] at hn; omega
    have hhead : ∃ c l, i.tx ++ flatT r = c :: l := by
      cases i with
      | w l => obtain ⟨h1, _⟩ := hok; cases l with
        | nil => exact absurd rfl h1
        | cons c l => exact ⟨c, _, rfl⟩
      | s k c => exact ⟨c, _, rfl⟩
      | d => exact ⟨46, _, rfl⟩
      | b => exact ⟨32, _, rfl⟩
    obtain ⟨c, l, hcl⟩ := hhead
    have hbt : bt (bA (p ++ (i.tx ++ flatT r))) (p.length : Int) = (c.toNat : Int) := by rw [hcl, bt_mid]
    have hsz : ((bA (p ++ (i.tx ++ flatT r))).size : Int) = ((p ++ (i.tx ++ flatT r)).length : Nat) := by rw [bA_size]
    have hlt : (p.length : Int) < ((bA (p ++ (i.tx ++ flatT r))).size : Int) := by rw [hsz, hcl, List.length_append, List.length_cons]; omega
    have hext : (bA (p ++ (i.tx ++ flatT r))).extract ((p.length : Int)).toNat (bA (p ++ (i.tx ++ flatT r))).size = bA (i.tx ++ flatT r) := by rw [Int.toNat_natCast]; exact ext_end p _
    have next : ∀ (its' : List It) (acc' : List S48), okI r → acc'.length ≤ p.length + i.tx.length → Ev (fun k => lex_All.l0 k (bA (p ++ (i.tx ++ flatT r))) acc' ((p.length : Int) + (i.tx.length : Int))) (acc' ++ toks (p.length + i.tx.length) r ++ [endT (p ++ (i.tx ++ flatT r)).length], ((p ++ (i.tx ++ flatT r)).length : Int), 0) := fun _ acc' hr ha' => by
      have := lex_l0 r (p ++ i.tx) acc' hr (by simp only [List.length_append]; omega) (by rw [List.length_append]; exact ha')
      have e3 : ((p ++ i.tx).length : Int) = (p.length : Int) + (i.tx.length : Int) := by rw [List.length_append]; omega
      rw [e3, List.append_assoc p, List.length_append] at this
      exact this
    have hstep : ∀ k, lex_All.l0 (k + 1) (bA (p ++ (i.tx ++ flatT r))) acc (p.length : Int) = (lex_word.f k (bA (i.tx ++ flatT r))).bind fun t274 => (if t274 > 0 then (if (p.length : Int) ≤ (wrap64 ((p.length : Int) + t274)) then (if (wrap64 ((p.length : Int) + t274)) ≤ ((bA (p ++ (i.tx ++ flatT r))).size : Int) then (if acc.length < 4398046511104 then (lex_All.l0 k (bA (p ++ (i.tx ++ flatT r))) (acc ++ [(⟨0, (p.length : Int), (bA (p ++ (i.tx ++ flatT r))).extract ((p.length : Int)).toNat ((wrap64 ((p.length : Int) + t274)) : Int).toNat⟩ : S48)]) (wrap64 ((p.length : Int) + t274))) else (none)) else (none)) else (none)) else (if signB (c.toNat : Int) = true then (if acc.length < 4398046511104 then (lex_All.l0 k (bA (p ++ (i.tx ++ flatT r))) (acc ++ [(⟨signK (c.toNat : Int), (p.length : Int), (⟨#[]⟩ : ByteArray)⟩ : S48)]) (wrap64 ((p.length : Int) + 1))) else (none)) else (if ([46, 46] : List UInt8).isPrefixOf (i.tx ++ flatT r) = true then (if acc.length < 4398046511104 then (lex_All.l0 k (bA (p ++ (i.tx ++ flatT r))) (acc ++ [(⟨2, (p.length : Int), (⟨#[]⟩ : ByteArray)⟩ : S48)]) (wrap64 ((p.length : Int) + 2))) else (none)) else (if (c.toNat : Int) = 32 then (lex_All.l0 k (bA (p ++ (i.tx ++ flatT r))) acc (wrap64 ((p.length : Int) + 1))) else (some (([] : List S48), (p.length : Int), 1)))))) := fun k => by
      have hp := prefix_f (i.tx ++ flatT r) [46, 46]
      rw [lex_All.l0, if_pos hlt, if_pos (by omega), hbt, hext]
      simp only [lex_signs.f, Option.bind_some]
      rw [if_pos (by omega)]
      have e1 : (⟨#[46, 46]⟩ : ByteArray) = bA [46, 46] := rfl
      rw [e1, hp]
      rfl
    have W : ∀ n : Nat, n ≤ 1000000 → wrap64 ((p.length : Int) + (n : Int)) = (p.length : Int) + (n : Int) := fun n h => w64 (by omega) (by omega)
    have w1 := W 1 (by omega)
    have w2 := W 2 (by omega)
    have n1 := Aside0.mk w1
    have n2 := Aside0.mk w2
    clear w1 w2
    have hword := word_f (i.tx ++ flatT r) (by rw [List.length_append]; omega)
    refine Ev.step hstep (Ev.bind hword ?_)
    cases i with
    | w u =>
      obtain ⟨h1, h2, h3, h4⟩ := hok
      have hu := List.length_pos_iff.2 h1
      have e1 : ((It.w u).tx ++ flatT r).takeWhile isW = u := take_W u _ h2 (stop_noW h3 h4)
      rw [e1]
      rw [W u.length (by simp only [It.tx] at hlen; omega)]
      refine Ev.ift (by omega) (Ev.ift (by omega) (Ev.ift (by rw [bA_size]; simp only [It.tx, List.length_append]; omega) (Ev.ift (by simp only [It.tx] at hlen; omega) ?_)))
      have e2 : (bA (p ++ ((It.w u).tx ++ flatT r))).extract ((p.length : Int)).toNat ((p.length : Int) + (u.length : Int)).toNat = bA u := by
        have : ((p.length : Int) + (u.length : Int)).toNat = p.length + u.length := by omega
        rw [Int.toNat_natCast, this]
        exact ext_bA p u _
      rw [e2]
      have := next [] (acc ++ [⟨0, (p.length : Int), bA u⟩]) h4 (by simp only [It.tx, List.length_append, List.length_cons, List.length_nil]; omega)
      simp only [List.append_assoc] at this ⊢
      exact this
    | s k d =>
      obtain ⟨h1, h2, h3⟩ := hok
      injection hcl with hc _
      subst hc
      have e1 : ((It.s k d).tx ++ flatT r).takeWhile isW = [] := take_W [] _ rfl (sign_noW h2)
      rw [e1]
      refine Ev.iff_ (by simp) (Ev.ift h2 (Ev.ift (by omega) ?_))
      rw [h1]
      rw [show wrap64 ((p.length : Int) + 1) = (p.length : Int) + 1 from n1.out]
      have := next [] (acc ++ [⟨k, (p.length : Int), e0⟩]) h3 (by simp only [It.tx, List.length_append, List.length_cons, List.length_nil]; omega)
      simp only [List.append_assoc] at this ⊢
      exact this
    | d =>
      injection hcl with hc _
      subst hc
      have e1 : (It.d.tx ++ flatT r).takeWhile isW = [] := take_W [] _ rfl (show isW 46 = false by decide)
      rw [e1]
      refine Ev.iff_ (by simp) (Ev.iff_ (by decide) (Ev.ift (by simp [It.tx, List.isPrefixOf]) (Ev.ift (by omega) ?_)))
      rw [show wrap64 ((p.length : Int) + 2) = (p.length : Int) + 2 from n2.out]
      have := next [] (acc ++ [⟨2, (p.length : Int), e0⟩]) hok (by simp only [It.tx, List.length_append, List.length_cons, List.length_nil]; omega)
      simp only [List.append_assoc] at this ⊢
      exact this
    | b =>
      injection hcl with hc _
      subst hc
      have e1 : (It.b.tx ++ flatT r).takeWhile isW = [] := take_W [] _ rfl (show isW 32 = false by decide)
      rw [e1]
      refine Ev.iff_ (by simp) (Ev.iff_ (by decide) (Ev.iff_ (by simp [It.tx, List.isPrefixOf]) (Ev.ift (by decide) ?_)))
      rw [show wrap64 ((p.length : Int) + 1) = (p.length : Int) + 1 from n1.out]
      have := next [] acc hok (by simp only [It.tx, List.length_cons, List.length_nil]; omega)
      exact this
theorem lex_f (its : List It) (h : okI its) (hn : (flatT its).length ≤ 2000) : Ev (fun k => lex_All.f k (bA (flatT its))) (toks 0 its ++ [endT (flatT its).length], ((flatT its).length : Int), 0) := by
  refine Ev.iff_ (by rw [bA_size]; omega) ?_
  have := lex_l0 its [] [] h (by simpa using Nat.le_trans hn (by omega)) (Nat.le_refl _)
  simpa using this
def spanI : List (List It) → List It
  | x :: y :: _ => x ++ .s 1 47 :: y
  | _ => []
def markI (a : Bool) (k : Int) (c : UInt8) : List It := if a = true then [.s k c] else []
def joinI : List (List It) → List It
  | [] => []
  | [x] => x
  | x :: y :: r => x ++ .s 6 44 :: .b :: joinI (y :: r)
mutual
def it : S27 → List It
  | ⟨k, p, a, t, l⟩ => if k = 1 then spanI (itL l) else if k = 2 then .s 4 91 :: (joinI (itL l) ++ [.s 5 93]) else if k = 3 then [.d] else if k = 4 then [.s 3 42] else .w (ptTxt p) :: (markI a 7 63 ++ markI t 8 126)
def itL : List S27 → List (List It)
  | [] => []
  | x :: l => it x :: itL l
end
theorem it_eq (n : S27) : it n = if n.f0 = 1 then spanI (itL n.f4) else if n.f0 = 2 then .s 4 91 :: (joinI (itL n.f4) ++ [.s 5 93]) else if n.f0 = 3 then [.d] else if n.f0 = 4 then [.s 3 42] else .w (ptTxt n.f1) :: (markI n.f2 7 63 ++ markI n.f3 8 126) := by cases n; rw [it]
def sgn (k : Int) : List UInt8 := if k = 1 then [47] else if k = 3 then [42] else if k = 4 then [91] else if k = 5 then [93] else if k = 6 then [44] else if k = 7 then [63] else if k = 8 then [126] else []
def showR : Bool → List S48 → List UInt8
  | _, [] => []
  | b, t :: r => (if t.f0 = 0 then (if b = true then 32 :: t.f2.data.toList else t.f2.data.toList) else if t.f0 = 2 then [46, 46] else sgn t.f0) ++ showR (decide (t.f0 = 0)) r
def lastW (p : List S48) : Bool := match p.getLast? with
  | some t => decide (t.f0 = 0)
  | none => false
theorem lastW_snoc (p : List S48) (t : S48) : lastW (p ++ [t]) = decide (t.f0 = 0) := by unfold lastW; simp
theorem at_rd42 (p : List S48) (r : S48) (t : List S48) : rd_T48 (p ++ r :: t) (p.length : Int) = r := by simp [rd_T48]
theorem sgn_bt : ∀ k : Int, k = 1 ∨ k = 3 ∨ k = 4 ∨ k = 5 ∨ k = 6 ∨ k = 7 ∨ k = 8 → 0 ≤ wrap64 (k - 1) ∧ wrap64 (k - 1) < 8 ∧ [bt (⟨#[47, 46, 42, 91, 93, 44, 63, 126]⟩ : ByteArray) (wrap64 (k - 1))] = nb (sgn k) := by
  intro k h
  rcases h with rfl | rfl | rfl | rfl | rfl | rfl | rfl <;> decide +kernel
theorem Show_l0 : ∀ (r p : List S48) (out : List UInt8), (p ++ r).length ≤ 4611686018427387904 → out.length + (showR (lastW p) r).length ≤ 1000000 →
    Ev (fun k => lex_Show.l0 k (p ++ r) (nb out) (p ++ r) ((p ++ r).length : Int) (p.length : Int)) (bA (out ++ showR (lastW p) r))
  | [], p, out, hn, hl => Ev.step (f := fun _ => some (bA (out ++ showR (lastW p) []))) (fun k => by rw [lex_Show.l0, if_neg (at_end p)]; unfold nb; rw [strOf_list, showR, List.append_nil]) (Ev.now _)
  | t :: r, p, out, hn, hl => by
    rw [showR] at hl ⊢
    have next : ∀ u : List UInt8, out.length + u.length + (showR (decide (t.f0 = 0)) r).length ≤ 1000000 → Ev (fun k => lex_Show.l0 k (p ++ t :: r) (nb out ++ nb u) (p ++ t :: r) ((p ++ t :: r).length : Int) (wrap64 ((p.length : Int) + 1))) (bA (out ++ (u ++ showR (decide (t.f0 = 0)) r))) := fun u hu => by
      have := Show_l0 r (p ++ [t]) (out ++ u) (by rw [← at_app]; exact hn) (by rw [List.length_append, lastW_snoc]; omega)
      rw [← at_app, lastW_snoc, nb_app, List.append_assoc] at this
      rw [at_next hn]
      exact this
    by_cases c0 : t.f0 = 0
    · rw [if_pos c0] at hl ⊢
      by_cases cp : (p.length : Int) > 0
      · obtain ⟨q, s, rfl⟩ : ∃ q s, p = q ++ [s] := by
          have hne : p ≠ [] := by intro e; rw [e] at cp; simp at cp
          exact ⟨p.dropLast, p.getLast hne, (List.dropLast_concat_getLast hne).symm⟩
        have hw : wrap64 (((q ++ [s]).length : Int) - 1) = (q.length : Int) := by
          have : (q ++ [s]).length = q.length + 1 := by simp
          rw [this, w64 (by omega) (by simp only [List.length_append, List.length_cons] at hn; omega)]
          omega
        have hrd : rd_T48 ((q ++ [s]) ++ t :: r) (q.length : Int) = s := by rw [List.append_assoc]; exact at_rd42 q s _
        have hlt : (q.length : Int) < (((q ++ [s]) ++ t :: r).length : Int) := by simp only [List.length_append, List.length_cons]; omega
        rw [lastW_snoc] at hl ⊢
        by_cases cs : s.f0 = 0
        · rw [if_pos (decide_eq_true cs)] at hl ⊢
          have hb := bytesOf_length t.f2
          have hd := data_length t.f2
          refine Ev.step (f := fun k => lex_Show.l0 k ((q ++ [s]) ++ t :: r) (nb out ++ nb (32 :: t.f2.data.toList)) ((q ++ [s]) ++ t :: r) (((q ++ [s]) ++ t :: r).length : Int) (wrap64 (((q ++ [s]).length : Int) + 1))) (fun k => ?_) (next _ (by simp only [List.length_append] at hl; omega))
          rw [lex_Show.l0, if_pos (at_lt _ t r), if_pos (at_0 _), if_pos (at_lt _ t r), at_rd42, if_pos c0, if_pos cp, hw, if_pos (by omega), if_pos hlt, hrd, if_pos cs, if_pos (by rw [nb_len]; simp only [List.length_append] at hl; omega), Option.bind_some, if_pos (by rw [List.length_append, nb_len]; simp only [List.length_append, List.length_cons, List.length_nil] at hl ⊢; omega), bytesOf_nb]
          rw [show nb (32 :: t.f2.data.toList) = [32] ++ nb t.f2.data.toList from rfl, ← List.append_assoc (nb out)]
        · rw [if_neg (by simpa using cs)] at hl ⊢
          have hd := data_length t.f2
          refine Ev.step (f := fun k => lex_Show.l0 k ((q ++ [s]) ++ t :: r) (nb out ++ nb t.f2.data.toList) ((q ++ [s]) ++ t :: r) (((q ++ [s]) ++ t :: r).length : Int) (wrap64 (((q ++ [s]).length : Int) + 1))) (fun k => ?_) (next _ (by simp only [List.length_append] at hl; omega))
          rw [lex_Show.l0, if_pos (at_lt _ t r), if_pos (at_0 _), if_pos (at_lt _ t r), at_rd42, if_pos c0, if_pos cp, hw, if_pos (by omega), if_pos hlt, hrd, if_neg cs, if_pos (by rw [nb_len]; simp only [List.length_append] at hl; omega), bytesOf_nb]
      · have hp : p = [] := by
          cases p with
          | nil => rfl
          | cons x y => simp at cp
        have hlw : lastW p = false := by rw [hp]; rfl
        rw [hlw, if_neg (by simp)] at hl ⊢
        have hd := data_length t.f2
        refine Ev.step (f := fun k => lex_Show.l0 k (p ++ t :: r) (nb out ++ nb t.f2.data.toList) (p ++ t :: r) ((p ++ t :: r).length : Int) (wrap64 ((p.length : Int) + 1))) (fun k => ?_) (next _ (by simp only [List.length_append] at hl; omega))
        rw [lex_Show.l0, if_pos (at_lt p t r), if_pos (at_0 p), if_pos (at_lt p t r), at_rd42, if_pos c0, if_neg cp, if_pos (by rw [nb_len]; simp only [List.length_append] at hl; omega), bytesOf_nb]
    rw [if_neg c0] at hl ⊢
    by_cases c2 : t.f0 = 2
    · rw [if_pos c2] at hl ⊢
      refine Ev.step (f := fun k => lex_Show.l0 k (p ++ t :: r) (nb out ++ nb [46, 46]) (p ++ t :: r) ((p ++ t :: r).length : Int) (wrap64 ((p.length : Int) + 1))) (fun k => ?_) (next _ (by simp only [List.length_append] at hl; omega))
      rw [lex_Show.l0, if_pos (at_lt p t r), if_pos (at_0 p), if_pos (at_lt p t r), at_rd42, if_neg c0, if_pos c2, if_pos (by rw [nb_len]; simp only [List.length_append] at hl; omega), bytesOf_nb]
    rw [if_neg c2] at hl ⊢
    have sign : (t.f0 = 1 ∨ t.f0 = 3 ∨ t.f0 = 4 ∨ t.f0 = 5 ∨ t.f0 = 6 ∨ t.f0 = 7 ∨ t.f0 = 8) → Ev (fun k => if 0 ≤ wrap64 (t.f0 - 1) then (if wrap64 (t.f0 - 1) < 8 then (if (nb out).length < 140737488355328 then lex_Show.l0 k (p ++ t :: r) (nb out ++ [bt (⟨#[47, 46, 42, 91, 93, 44, 63, 126]⟩ : ByteArray) (wrap64 (t.f0 - 1))]) (p ++ t :: r) ((p ++ t :: r).length : Int) (wrap64 ((p.length : Int) + 1)) else none) else none) else none) (bA (out ++ (sgn t.f0 ++ showR (decide (t.f0 = 0)) r))) := fun h => by
      obtain ⟨h1, h2, h3⟩ := sgn_bt t.f0 h
      rw [h3]
      exact Ev.ift h1 (Ev.ift h2 (Ev.ift (by rw [nb_len]; omega) (next _ (by simp only [List.length_append] at hl; omega))))
    have head : ∀ k, lex_Show.l0 (k + 1) (p ++ t :: r) (nb out) (p ++ t :: r) ((p ++ t :: r).length : Int) (p.length : Int) = (if t.f0 = 1 then _ else _) := fun k => by
      rw [lex_Show.l0, if_pos (at_lt p t r), if_pos (at_0 p), if_pos (at_lt p t r), at_rd42, if_neg c0, if_neg c2]
    refine Ev.step head ?_
    by_cases d1 : t.f0 = 1
    · exact Ev.ift d1 (sign (by omega))
    refine Ev.iff_ d1 ?_
    by_cases d3 : t.f0 = 3
    · exact Ev.ift d3 (sign (by omega))
    refine Ev.iff_ d3 ?_
    by_cases d4 : t.f0 = 4
    · exact Ev.ift d4 (sign (by omega))
    refine Ev.iff_ d4 ?_
    by_cases d5 : t.f0 = 5
    · exact Ev.ift d5 (sign (by omega))
    refine Ev.iff_ d5 ?_
    by_cases d6 : t.f0 = 6
    · exact Ev.ift d6 (sign (by omega))
    refine Ev.iff_ d6 ?_
    by_cases d7 : t.f0 = 7
    · exact Ev.ift d7 (sign (by omega))
    refine Ev.iff_ d7 ?_
    by_cases d8 : t.f0 = 8
    · exact Ev.ift d8 (sign (by omega))
    refine Ev.iff_ d8 ?_
    have hs : sgn t.f0 = [] := by unfold sgn; rw [if_neg d1, if_neg d3, if_neg d4, if_neg d5, if_neg d6, if_neg d7, if_neg d8]
    have := next [] (by simp only [List.length_append] at hl; simp only [List.length_nil]; omega)
    rw [hs]
    have e : nb out ++ nb [] = nb out := by simp [nb]
    rw [e] at this
    exact this
theorem index_no : ∀ (l : List UInt8) (c : UInt8), c ∉ l → Lib.indexByte l c = -1
  | [], c, _ => by simp [Lib.indexByte]
  | b :: l, c, h => by
    rw [List.mem_cons, not_or] at h
    have e : (b == c) = false := by simpa using Ne.symm h.1
    rw [Lib.indexByte, e, index_no l c h.2]; rfl
theorem index_yes : ∀ (a b : List UInt8) (c : UInt8), c ∉ a → Lib.indexByte (a ++ c :: b) c = (a.length : Int)
  | [], b, c, _ => by simp [Lib.indexByte]
  | x :: a, b, c, h => by
    rw [List.mem_cons, not_or] at h
    have e : (x == c) = false := by simpa using Ne.symm h.1
    rw [List.cons_append, Lib.indexByte, e, index_yes a b c h.2]
    simp only [Bool.false_eq_true, if_false, List.length_cons, beq_iff_eq]
    rw [if_neg (by omega)]; omega
theorem sep_f (s : ByteArray) (c : UInt8) : stringslite_Index.f s (bA [c]) = some (Lib.indexByte s.data.toList c) := by
  have e : (bt (bA [c]) 0).toNat.toUInt8 = c := by
    have h : bt (bA [c]) 0 = (c.toNat : Int) := bt_mid [] c []
    rw [h]; exact u8eq (by simp)
  unfold stringslite_Index.f
  rw [if_pos (show (bA [c]).size = 1 from bA_size [c]), e]
theorem ext_to (a b : List UInt8) : (bA (a ++ b)).extract 0 a.length = bA a := by have := ext_bA [] a b; simpa using this
theorem Cut_no (l : List UInt8) (c : UInt8) (h : c ∉ l) : strings_Cut.f (bA l) (bA [c]) = some (bA l, e0, false) := by
  have e : stringslite_Cut.f (bA l) (bA [c]) = some (bA l, e0, false) := by
    unfold stringslite_Cut.f
    rw [sep_f, bA_data, index_no l c h]
    rfl
  unfold strings_Cut.f
  rw [e]; rfl
theorem Cut_yes (a b : List UInt8) (c : UInt8) (h : c ∉ a) (hl : (a ++ c :: b).length ≤ 4611686018427387904) : strings_Cut.f (bA (a ++ c :: b)) (bA [c]) = some (bA a, bA b, true) := by
  have e : stringslite_Cut.f (bA (a ++ c :: b)) (bA [c]) = some (bA a, bA b, true) := by
    unfold stringslite_Cut.f
    rw [sep_f, bA_data, index_yes a b c h]
    have hl' : (a ++ c :: b).length = a.length + (b.length + 1) := by simp
    have w : wrap64 ((a.length : Int) + ((bA [c]).size : Int)) = (a.length : Int) + 1 := by rw [bA_size, show (([c] : List UInt8).length : Int) = 1 from rfl]; exact w64 (by omega) (by omega)
    simp only [Option.bind_some]
    rw [w, bA_size (a ++ c :: b), if_pos (by omega), if_pos (by omega), if_pos (by omega), if_pos (by omega), if_pos (by omega), Int.toNat_natCast, ext_to]
    have e2 : ((a.length : Int) + 1).toNat = (a ++ [c]).length := by rw [List.length_append]; simp
    have e3 : (bA (a ++ c :: b)).extract ((a.length : Int) + 1).toNat (a ++ c :: b).length = bA b := by
      have := ext_end (a ++ [c]) b
      rw [bA_size, List.append_assoc] at this
      rw [e2]; exact this
    rw [e3]
  unfold strings_Cut.f
  rw [e]; rfl
theorem HasS_yes (a : List UInt8) (c : UInt8) (hl : (a ++ [c]).length ≤ 4611686018427387904) : stringslite_HasSuffix.f (bA (a ++ [c])) (bA [c]) = some true := by
  have hl' : (a ++ [c]).length = a.length + 1 := by simp
  have w : wrap64 (((bA (a ++ [c])).size : Int) - ((bA [c]).size : Int)) = (a.length : Int) := by rw [bA_size, bA_size, hl', show (([c] : List UInt8).length : Int) = 1 from rfl, w64 (by omega) (by omega)]; omega
  unfold stringslite_HasSuffix.f
  rw [w, if_pos (by rw [bA_size, bA_size]; simp; omega), if_pos (by omega), if_pos (by rw [bA_size]; omega), Int.toNat_natCast, ext_end]
  simp
theorem HasS_no (l : List UInt8) (c : UInt8) (h : ∀ a, l ≠ a ++ [c]) (hl : l.length ≤ 4611686018427387904) : stringslite_HasSuffix.f (bA l) (bA [c]) = some false := by
  unfold stringslite_HasSuffix.f
  by_cases h0 : l = []
  · subst h0; rfl
  · obtain ⟨a, x, rfl⟩ : ∃ a x, l = a ++ [x] := ⟨_, _, (List.dropLast_concat_getLast h0).symm⟩
    have hl' : (a ++ [x]).length = a.length + 1 := by simp
    have w : wrap64 (((bA (a ++ [x])).size : Int) - ((bA [c]).size : Int)) = (a.length : Int) := by rw [bA_size, bA_size, hl', show (([c] : List UInt8).length : Int) = 1 from rfl, w64 (by omega) (by omega)]; omega
    rw [w, if_pos (by rw [bA_size, bA_size]; simp; omega), if_pos (by omega), if_pos (by rw [bA_size]; omega), Int.toNat_natCast, ext_end]
    have hx : ¬ x = c := fun e => h a (by rw [e])
    rw [bA_toList, bA_toList]
    simp [hx]
theorem CutS_yes (a : List UInt8) (c : UInt8) (hl : (a ++ [c]).length ≤ 4611686018427387904) : strings_CutSuffix.f (bA (a ++ [c])) (bA [c]) = some (bA a, true) := by
  have hl' : (a ++ [c]).length = a.length + 1 := by simp
  have w : wrap64 (((bA (a ++ [c])).size : Int) - ((bA [c]).size : Int)) = (a.length : Int) := by rw [bA_size, bA_size, hl', show (([c] : List UInt8).length : Int) = 1 from rfl, w64 (by omega) (by omega)]; omega
  have e : stringslite_CutSuffix.f (bA (a ++ [c])) (bA [c]) = some (bA a, true) := by
    unfold stringslite_CutSuffix.f
    rw [HasS_yes a c hl]
    simp only [Option.bind_some, if_true]
    rw [w, if_pos (by omega), if_pos (by rw [bA_size]; omega), Int.toNat_natCast, ext_to]
  unfold strings_CutSuffix.f
  rw [e]; rfl
theorem CutS_no (l : List UInt8) (c : UInt8) (h : ∀ a, l ≠ a ++ [c]) (hl : l.length ≤ 4611686018427387904) : strings_CutSuffix.f (bA l) (bA [c]) = some (bA l, false) := by
  have e : stringslite_CutSuffix.f (bA l) (bA [c]) = some (bA l, false) := by
    unfold stringslite_CutSuffix.f
    rw [HasS_no l c h hl]; rfl
  unfold strings_CutSuffix.f
  rw [e]; rfl
abbrev gsV (l : List UInt8) : Option (Int × ByteArray × ByteArray × ByteArray) := point_guess.f (bA l)
theorem guess_any (l : List UInt8) (hl : l.length ≤ 4611686018427387904) : ∃ p : S24, gsV l = some (p.f0, p.f1, p.f2, p.f3) ∧ ptRaw p = l := by
  unfold gsV point_guess.f
  rw [show (⟨#[100]⟩ : ByteArray) = bA [100] from rfl, show (⟨#[99]⟩ : ByteArray) = bA [99] from rfl, show (⟨#[115]⟩ : ByteArray) = bA [115] from rfl, show (⟨#[45]⟩ : ByteArray) = bA [45] from rfl]
  by_cases h1 : ∃ a, l = a ++ [100]
  · obtain ⟨a, rfl⟩ := h1
    rw [CutS_yes a 100 hl]
    exact ⟨⟨4, bA a, e0, e0⟩, rfl, rfl⟩
  rw [CutS_no l 100 (fun a h => h1 ⟨a, h⟩) hl]
  by_cases h2 : ∃ a, l = a ++ [99]
  · obtain ⟨a, rfl⟩ := h2
    rw [CutS_yes a 99 hl]
    exact ⟨⟨5, bA a, e0, e0⟩, rfl, rfl⟩
  rw [CutS_no l 99 (fun a h => h2 ⟨a, h⟩) hl]
  by_cases h3 : (115 : UInt8) ∈ l
  · obtain ⟨a, b, rfl, ha⟩ := List.eq_append_cons_of_mem h3
    rw [Cut_yes a b 115 ha hl]
    exact ⟨⟨2, bA a, bA b, e0⟩, rfl, rfl⟩
  rw [Cut_no l 115 h3]
  by_cases h4 : (45 : UInt8) ∈ l
  · obtain ⟨a, b, rfl, ha⟩ := List.eq_append_cons_of_mem h4
    rw [Cut_yes a b 45 ha hl]
    simp only [Option.bind_some, if_true, if_false, Bool.false_eq_true]
    by_cases h5 : (45 : UInt8) ∈ b
    · obtain ⟨c, d, rfl, hc⟩ := List.eq_append_cons_of_mem h5
      rw [Cut_yes c d 45 hc (by simp only [List.length_append, List.length_cons] at hl ⊢; omega)]
      exact ⟨⟨0, bA a, bA c, bA d⟩, rfl, rfl⟩
    · rw [Cut_no b 45 h5]
      exact ⟨⟨1, bA a, bA b, e0⟩, rfl, rfl⟩
  · rw [Cut_no l 45 h4]
    exact ⟨⟨3, bA l, e0, e0⟩, rfl, rfl⟩
theorem ok_not {l : List UInt8} (h : l.all okB = true) (c : UInt8) (hc : okB c = false) : c ∉ l := fun hm => by
  rw [List.all_eq_true] at h
  rw [h c hm] at hc; cases hc
theorem not_end {u v : List UInt8} {c : UInt8} (hv : v ≠ []) (hc : c ∉ v) (a : List UInt8) : u ++ v ≠ a ++ [c] := fun h => by
  obtain ⟨w, x, rfl⟩ : ∃ w x, v = w ++ [x] := ⟨_, _, (List.dropLast_concat_getLast hv).symm⟩
  rw [← List.append_assoc] at h
  have e := (List.append_inj' h rfl).2
  injection e with e _
  exact hc (by rw [e]; simp)
theorem guess_raw (q : S24) (hq : ptV q = true) : gsV (ptRaw q) = some (q.f0, q.f1, q.f2, q.f3) := by
  obtain ⟨hY, hk⟩ := pt_kinds hq
  unfold gsV point_guess.f ptRaw
  rw [show (⟨#[100]⟩ : ByteArray) = bA [100] from rfl, show (⟨#[99]⟩ : ByteArray) = bA [99] from rfl, show (⟨#[115]⟩ : ByteArray) = bA [115] from rfl, show (⟨#[45]⟩ : ByteArray) = bA [45] from rfl]
  obtain ⟨k, y, m, d⟩ := q
  simp only at hY hk ⊢
  have n1 := ok_not hY 100 (by decide)
  have n2 := ok_not hY 99 (by decide)
  have n3 := ok_not hY 115 (by decide)
  have n4 := ok_not hY 45 (by decide)
  have eE : ∀ s : ByteArray, s.data.toList = [] → s = e0 := fun s h => ba_eq (by rw [h]; rfl)
  have L : ∀ l : List UInt8, l.length ≤ 100 → l.length ≤ 4611686018427387904 := fun _ h => by omega
  rcases hk with ⟨rfl, ly, lm, am, ld, ad⟩ | ⟨rfl, ly, lm, am, ld⟩ | ⟨rfl, ly, lm, am, ld⟩ | ⟨rfl, ly, lm, ld⟩ | ⟨rfl, ly, lm, ld⟩ | ⟨rfl, ly, lm, ld⟩
  · rw [if_pos rfl]
    have hd : d.data.toList ≠ [] := fun h => by rw [h] at ld; cases ld
    have S : ∀ c : UInt8, okB c = false → ∀ a, y.data.toList ++ 45 :: (m.data.toList ++ 45 :: d.data.toList) ≠ a ++ [c] := fun c hc a => by
      have := not_end (u := y.data.toList ++ 45 :: (m.data.toList ++ [45])) hd (ok_not ad c hc) a
      simpa using this
    have Ln : (y.data.toList ++ 45 :: (m.data.toList ++ 45 :: d.data.toList)).length ≤ 100 := by simp only [List.length_append, List.length_cons]; omega
    rw [CutS_no _ 100 (S 100 (by decide)) (L _ Ln), Option.bind_some, CutS_no _ 99 (S 99 (by decide)) (L _ Ln), Option.bind_some, Cut_no _ 115 (by simp [n3, ok_not am 115 (by decide), ok_not ad 115 (by decide)]), Option.bind_some, Cut_yes _ _ 45 n4 (L _ Ln), Option.bind_some]
    simp only [if_true, if_false, Bool.false_eq_true]
    rw [Cut_yes _ _ 45 (ok_not am 45 (by decide)) (L _ (by simp only [List.length_append, List.length_cons]; omega))]
    simp only [Option.bind_some, if_true, bA_mk]
  · rw [if_neg (by decide), if_pos rfl]
    have hd : m.data.toList ≠ [] := fun h => by rw [h] at lm; cases lm
    have S : ∀ c : UInt8, okB c = false → ∀ a, y.data.toList ++ 45 :: m.data.toList ≠ a ++ [c] := fun c hc a => by
      have := not_end (u := y.data.toList ++ [45]) hd (ok_not am c hc) a
      simpa using this
    have Ln : (y.data.toList ++ 45 :: m.data.toList).length ≤ 100 := by simp only [List.length_append, List.length_cons]; omega
    rw [CutS_no _ 100 (S 100 (by decide)) (L _ Ln), Option.bind_some, CutS_no _ 99 (S 99 (by decide)) (L _ Ln), Option.bind_some, Cut_no _ 115 (by simp [n3, ok_not am 115 (by decide)]), Option.bind_some, Cut_yes _ _ 45 n4 (L _ Ln), Option.bind_some]
    simp only [if_true, if_false, Bool.false_eq_true]
    rw [Cut_no _ 45 (ok_not am 45 (by decide)), eE d ld]
    simp only [Option.bind_some, if_true, if_false, Bool.false_eq_true, bA_mk]
    rfl
  · rw [if_neg (by decide), if_neg (by decide), if_pos rfl]
    have hd : m.data.toList ≠ [] := fun h => by rw [h] at lm; cases lm
    have S : ∀ c : UInt8, okB c = false → ∀ a, y.data.toList ++ 115 :: m.data.toList ≠ a ++ [c] := fun c hc a => by
      have := not_end (u := y.data.toList ++ [115]) hd (ok_not am c hc) a
      simpa using this
    have Ln : (y.data.toList ++ 115 :: m.data.toList).length ≤ 100 := by simp only [List.length_append, List.length_cons]; omega
    rw [CutS_no _ 100 (S 100 (by decide)) (L _ Ln), Option.bind_some, CutS_no _ 99 (S 99 (by decide)) (L _ Ln), Option.bind_some, Cut_yes _ _ 115 n3 (L _ Ln), Option.bind_some, eE d ld]
    simp only [if_true, if_false, Bool.false_eq_true, bA_mk]
    rfl
  · rw [if_neg (by decide), if_neg (by decide), if_neg (by decide), if_neg (by decide), if_neg (by decide)]
    have hd : y.data.toList ≠ [] := fun h => by rw [h] at ly; cases ly
    have Ln : y.data.toList.length ≤ 100 := by omega
    have S : ∀ c : UInt8, okB c = false → ∀ a, y.data.toList ≠ a ++ [c] := fun c hc a => not_end (u := []) hd (ok_not hY c hc) a
    rw [CutS_no _ 100 (S 100 (by decide)) (L _ Ln), Option.bind_some, CutS_no _ 99 (S 99 (by decide)) (L _ Ln), Option.bind_some, Cut_no _ 115 n3, Option.bind_some, Cut_no _ 45 n4, eE d ld, eE m lm]
    simp only [Option.bind_some, if_true, if_false, Bool.false_eq_true, bA_mk]
    rfl
  · rw [if_neg (by decide), if_neg (by decide), if_neg (by decide), if_pos rfl]
    rw [CutS_yes _ 100 (L _ (by simp only [List.length_append, List.length_cons, List.length_nil]; omega)), eE d ld, eE m lm]
    simp only [Option.bind_some, if_true, bA_mk]
    rfl
  · rw [if_neg (by decide), if_neg (by decide), if_neg (by decide), if_neg (by decide), if_pos rfl]
    have S : ∀ a, y.data.toList ++ [99] ≠ a ++ [100] := fun a => not_end (by simp) (by decide) a
    have Ln : (y.data.toList ++ [99]).length ≤ 100 := by simp only [List.length_append, List.length_cons, List.length_nil]; omega
    rw [CutS_no _ 100 S (L _ Ln), Option.bind_some, CutS_yes _ 99 (L _ Ln), eE d ld, eE m lm]
    simp only [Option.bind_some, if_true, if_false, Bool.false_eq_true, bA_mk]
    rfl
theorem read_any (l : List UInt8) (hl : l.length ≤ 4611686018427387904) : (∃ p : S24, ptV p = true ∧ ptTxt p = l ∧ Ev (fun k => point_Read.f k (bA l)) (p.f0, p.f1, p.f2, p.f3, true)) ∨ (∀ p : S24, ptV p = true → ptTxt p ≠ l) ∧ Ev (fun k => point_Read.f k (bA l)) (0, e0, e0, e0, false) := by
  obtain ⟨p, h1, h2⟩ := guess_any l hl
  have hs := ptSane_f p
  cases hp : ptV p with
  | true =>
    rw [hp] at hs
    exact .inl ⟨p, hp, by unfold ptTxt; rw [if_pos hp]; exact h2, Ev.bnow (x := (p.f0, p.f1, p.f2, p.f3)) h1 (Ev.bind hs (Ev.ift rfl (Ev.now _)))⟩
  | false =>
    rw [hp] at hs
    refine .inr ⟨fun q hq he => ?_, Ev.bnow (x := (p.f0, p.f1, p.f2, p.f3)) h1 (Ev.bind hs (Ev.iff_ (by simp) (Ev.now _)))⟩
    unfold ptTxt at he
    rw [if_pos hq] at he
    have := guess_raw q hq
    rw [he, h1] at this
    simp only [Option.some.injEq, Prod.mk.injEq] at this
    obtain ⟨e1, e2, e3, e4⟩ := this
    have e : p = q := by cases p; cases q; simp only at e1 e2 e3 e4; rw [e1, e2, e3, e4]
    rw [e, hq] at hp; cases hp
theorem read_txt (p : S24) (hp : ptV p = true) : Ev (fun k => point_Read.f k (bA (ptTxt p))) (p.f0, p.f1, p.f2, p.f3, true) := by
  have h1 := guess_raw p hp
  have hs := ptSane_f p
  rw [hp] at hs
  unfold ptTxt
  rw [if_pos hp]
  exact Ev.bnow (x := (p.f0, p.f1, p.f2, p.f3)) h1 (Ev.bind hs (Ev.ift rfl (Ev.now _)))
def free (r : List S48) : Prop := ∃ y u, r = y :: u ∧ y.f0 ≠ 7 ∧ y.f0 ≠ 8
def freeE (r : List S48) : Prop := ∃ y u, r = y :: u ∧ y.f0 ≠ 7 ∧ y.f0 ≠ 8 ∧ y.f0 ≠ 1
theorem up1 {m : Nat} (h : m ≤ 1000) : wrap64 ((m : Int) + 1) = ((m + 1 : Nat) : Int) := by rw [w64 (by omega) (by omega)]; omega
theorem marked_back (a b : Bool) (p : S24) (q : Nat) (r : List S48) (hr : free r) : pMarked (toks q (markI a 7 63 ++ markI b 8 126) ++ r) p false false = some (⟨0, p, a, b, []⟩, r) := by
  obtain ⟨y, u, rfl, h7, h8⟩ := hr
  cases a <;> cases b <;> simp [markI, toks, It.tok, pMarked, h7, h8]
theorem bare_mk (k : Int) (l : List S27) : bareV ⟨k, ⟨0, e0, e0, e0⟩, false, false, l⟩ = true := by
  have e : emptyV e0 = true := by unfold emptyV; rw [ba_toList]; rfl
  simp [bareV, e]
theorem kz_of {n : S27} (h4 : n.f4 = []) (hb : bareV n = true) : n = kz n.f0 := bare_inj hb (bare_mk _ _) rfl h4
theorem end_back (n : S27) (he : endV n = true) (q m : Nat) (d : Int) (r : List S48) (hr : free r) (hm : m + 1 ≤ 64) :
    Ev (fun k => pEnd k (m : Int) d (toks q (it n) ++ r)) ⟨n, none, r, ((m + 1 : Nat) : Int), d⟩ := by
  obtain ⟨h4, hk⟩ := end_kinds he
  rw [it_eq]
  rcases hk with ⟨c, hp⟩ | ⟨c, hb⟩ | ⟨c, hb⟩
  · rw [if_neg (by omega), if_neg (by omega), if_neg (by omega), if_neg (by omega)]
    have e : toks q (It.w (ptTxt n.f1) :: (markI n.f2 7 63 ++ markI n.f3 8 126)) ++ r = (⟨0, (q : Int), bA (ptTxt n.f1)⟩ : S48) :: (toks (q + (It.w (ptTxt n.f1)).tx.length) (markI n.f2 7 63 ++ markI n.f3 8 126) ++ r) := rfl
    rw [e]
    unfold pEnd pWord
    refine Ev.ift rfl (Ev.iff_ (by omega) ?_)
    refine Ev.bind (read_txt n.f1 hp) (Ev.ift rfl (Ev.bnow (marked_back n.f2 n.f3 ⟨n.f1.f0, n.f1.f1, n.f1.f2, n.f1.f3⟩ _ r hr) (Ev.eq (Ev.now _) ?_)))
    rw [up1 (by omega)]
    have e2 : (⟨0, ⟨n.f1.f0, n.f1.f1, n.f1.f2, n.f1.f3⟩, n.f2, n.f3, []⟩ : S27) = n := S27.ext5 c.symm rfl rfl rfl h4.symm
    rw [e2]
  · rw [if_neg (by omega), if_neg (by omega), if_pos c]
    have e : toks q [It.d] ++ r = (⟨2, (q : Int), e0⟩ : S48) :: r := rfl
    rw [e]
    unfold pEnd
    refine Ev.iff_ (by simp) (Ev.ift rfl (Ev.iff_ (by omega) (Ev.eq (Ev.now _) ?_)))
    rw [up1 (by omega), kz_of h4 hb, c]
  · rw [if_neg (by omega), if_neg (by omega), if_neg (by omega), if_pos c]
    have e : toks q [It.s 3 42] ++ r = (⟨3, (q : Int), e0⟩ : S48) :: r := rfl
    rw [e]
    unfold pEnd
    refine Ev.iff_ (by simp) (Ev.iff_ (by simp) (Ev.ift rfl (Ev.iff_ (by omega) (Ev.eq (Ev.now _) ?_))))
    rw [up1 (by omega), kz_of h4 hb, c]
theorem point_back (n : S27) (he : endV n = true) (c0 : n.f0 = 0) (q m : Nat) (d : Int) (r : List S48) (hr : freeE r) (hm : m + 1 ≤ 64) :
    Ev (fun k => pSpan k (m : Int) d (toks q (it n) ++ r)) ⟨n, none, r, ((m + 1 : Nat) : Int), d⟩ := by
  obtain ⟨y, u, rfl, h7, h8, h1⟩ := hr
  unfold pSpan
  exact Ev.bind (end_back n he q m d _ ⟨y, u, rfl, h7, h8⟩ hm) (Ev.iff_ h1 (Ev.ift c0 (Ev.now _)))
theorem span_back (x y : S27) (hx : endV x = true) (hy : endV y = true) (q m : Nat) (d : Int) (r : List S48) (hr : free r) (hm : m + 3 ≤ 64) :
    Ev (fun k => pSpan k (m : Int) d (toks q (it x ++ .s 1 47 :: it y) ++ r)) ⟨⟨1, ⟨0, e0, e0, e0⟩, false, false, [x, y]⟩, none, r, ((m + 3 : Nat) : Int), d⟩ := by
  rw [toks_app, List.append_assoc]
  have e : ∀ p, toks p (.s 1 47 :: it y) ++ r = (⟨1, (p : Int), e0⟩ : S48) :: (toks (p + 1) (it y) ++ r) := fun p => rfl
  rw [e]
  unfold pSpan
  refine Ev.bind (end_back x hx q m d _ ⟨_, _, rfl, by simp, by simp⟩ (by omega)) (Ev.ift rfl (Ev.iff_ (by show ¬ ((m + 1 : Nat) : Int) = 64; omega) ?_))
  refine Ev.bind (f := fun k s => _) (a := ⟨y, none, r, ((m + 3 : Nat) : Int), d⟩) ?_ (Ev.now _)
  show Ev (fun k => pEnd k (wrap64 (((m + 1 : Nat) : Int) + 1)) d (toks (q + (flatT (it x)).length + 1) (it y) ++ r)) _
  rw [up1 (by omega)]
  exact end_back y hy _ (m + 2) d r hr (by omega)
theorem Clone_e (l : List S27) (h : l.length < 1466015503701) : slices_Clone.f l = some l := by rw [slices_Clone.f, if_pos h]
theorem OneOf_e (l : List S27) (h : l.length < 1466015503701) : tree_OneOf.f l = some (2, 0, e0, e0, e0, false, false, l) := by
  unfold tree_OneOf.f
  rw [Clone_e l h]; rfl
theorem pItems_one (k : Nat) (m d : Int) (x : S48) (t : List S48) (l : List S27) : pItems (k + 1) m d (x :: t) l = (pExpr k m d t).bind fun r => match r.x with
    | some _ => some r
    | none => if l.length < 1466015503701 then (match r.t with
      | [] => none
      | y :: u =>
        if y.f0 = 6 then pItems k r.m r.d (y :: u) (l ++ [r.n])
        else if y.f0 = 5 then (tree_OneOf.f (l ++ [r.n])).bind fun o => some ⟨⟨o.1, ⟨o.2.1, o.2.2.1, o.2.2.2.1, o.2.2.2.2.1⟩, o.2.2.2.2.2.1, o.2.2.2.2.2.2.1, o.2.2.2.2.2.2.2⟩, none, u, r.m, wrap64 (r.d - 1)⟩
        else some ⟨r.n, some (y.f1, eNot y 3), y :: u, r.m, r.d⟩) else none := by rw [pItems] <;> rfl
theorem items_step {n : S27} {m m' : Int} {d : Int} {x y : S48} {t u : List S48} {l : List S27} {R : PR} (h1 : Ev (fun k => pExpr k m d t) ⟨n, none, y :: u, m', d⟩) (hl : l.length < 1466015503701)
    (h2 : y.f0 = 6 ∧ Ev (fun k => pItems k m' d (y :: u) (l ++ [n])) R ∨ y.f0 = 5 ∧ R = ⟨⟨2, ⟨0, e0, e0, e0⟩, false, false, l ++ [n]⟩, none, u, m', wrap64 (d - 1)⟩ ∧ l.length + 1 < 1466015503701) :
    Ev (fun k => pItems k m d (x :: t) l) R := by
  refine Ev.step (fun k => pItems_one k m d x t l) (Ev.bind h1 (Ev.ift hl ?_))
  rcases h2 with ⟨c, h⟩ | ⟨c, rfl, h⟩
  · exact Ev.ift c h
  · refine Ev.iff_ (by omega) (Ev.ift c ?_)
    exact Ev.bnow (OneOf_e _ (by rw [List.length_append]; simpa using h)) (Ev.now _)
theorem expr_back : ∀ (M : Nat) (n : S27), nd n ≤ M → rt n = true → ∀ (q m d : Nat) (r : List S48), freeE r → m + nd n ≤ 64 → d + dp n ≤ 8 →
    Ev (fun k => pExpr k (m : Int) (d : Int) (toks q (it n) ++ r)) ⟨n, none, r, ((m + nd n : Nat) : Int), (d : Int)⟩
  | 0, n, h, _ => by have := nd_pos n; omega
  | M + 1, n, hM, hn => by
    intro q m d r hr hm hd
    have span : ∀ (t : List S48) (R : PR), (∃ x u, t = x :: u ∧ x.f0 ≠ 4) → Ev (fun k => pSpan k (m : Int) (d : Int) t) R → Ev (fun k => pExpr k (m : Int) (d : Int) t) R := fun t R ht h => by
      obtain ⟨x, u, rfl, hx⟩ := ht
      exact Ev.step (fun k => by rw [pExpr, if_neg hx]) h
    have hr' : free r := by obtain ⟨y, u, e, h7, h8, _⟩ := hr; exact ⟨y, u, e, h7, h8⟩
    have head : ∀ (x : S27), endV x = true → ∀ (s : List It) (v : List S48), ∃ z u, toks q (it x ++ s) ++ v = z :: u ∧ z.f0 ≠ 4 := fun x hx s v => by
      obtain ⟨_, hk⟩ := end_kinds hx
      rw [it_eq]
      rcases hk with ⟨c, _⟩ | ⟨c, _⟩ | ⟨c, _⟩
      · rw [if_neg (by omega), if_neg (by omega), if_neg (by omega), if_neg (by omega)]; exact ⟨_, _, rfl, by simp [It.tok]⟩
      · rw [if_neg (by omega), if_neg (by omega), if_pos c]; exact ⟨_, _, rfl, by simp [It.tok]⟩
      · rw [if_neg (by omega), if_neg (by omega), if_neg (by omega), if_pos c]; exact ⟨_, _, rfl, by simp [It.tok]⟩
    rcases rt_kinds hn with ⟨he, c⟩ | ⟨c, hb, x, y, h4, hx, hy, _⟩ | ⟨c, hb, hne, hl, _⟩
    · have h1 : nd n = 1 := by rw [nd_eq, (end_kinds he).1]; rfl
      refine span _ _ (by have := head n he [] r; rwa [List.append_nil] at this) ?_
      rw [h1]
      exact point_back n he c q m d r hr (by omega)
    · have h3 : nd n = 3 := by
        have e1 : nd x = 1 := by rw [nd_eq, (end_kinds hx).1]; rfl
        have e2 : nd y = 1 := by rw [nd_eq, (end_kinds hy).1]; rfl
        rw [nd_eq, h4, ndL, ndL, ndL, e1, e2]
      have hi : it n = it x ++ .s 1 47 :: it y := by rw [it_eq, if_pos c, h4]; rfl
      rw [hi, h3]
      refine span _ _ (head x hx _ r) (Ev.eq (span_back x y hx hy q m d r hr' (by omega)) ?_)
      have e : (⟨1, ⟨0, e0, e0, e0⟩, false, false, [x, y]⟩ : S27) = n := bare_inj (bare_mk _ _) hb c.symm h4.symm
      rw [e]
    · have hi : it n = .s 4 91 :: (joinI (itL n.f4) ++ [.s 5 93]) := by rw [it_eq, if_neg (by omega), if_pos c]
      have hnd : nd n = ndL n.f4 + 1 := nd_eq n
      have hdp : dp n = dpL n.f4 + 1 := by rw [dp_eq, if_pos c]
      rw [hi]
      have e : toks q (.s 4 91 :: (joinI (itL n.f4) ++ [.s 5 93])) ++ r = (⟨4, (q : Int), e0⟩ : S48) :: (toks (q + 1) (joinI (itL n.f4) ++ [.s 5 93]) ++ r) := rfl
      rw [e]
      have items : ∀ (l : List S27), l ≠ [] → ndL l ≤ M → rtL l = true → ∀ (acc : List S27) (q m : Nat) (x : S48), m + ndL l ≤ 64 → d + 1 + dpL l ≤ 8 → acc.length + l.length ≤ 64 →
          Ev (fun k => pItems k (m : Int) ((d + 1 : Nat) : Int) (x :: (toks q (joinI (itL l) ++ [.s 5 93]) ++ r)) acc) ⟨⟨2, ⟨0, e0, e0, e0⟩, false, false, acc ++ l⟩, none, r, ((m + ndL l : Nat) : Int), (d : Int)⟩ := fun l => by
        induction l with
        | nil => intro h; exact absurd rfl h
        | cons n1 l ih =>
          intro _ hM1 hrt acc q m x hm1 hd1 hlen
          rw [ndL] at hM1 hm1
          rw [dpL] at hd1
          rw [rtL, Bool.and_eq_true] at hrt
          rw [List.length_cons] at hlen
          cases l with
          | nil =>
            have ei : joinI (itL [n1]) ++ [.s 5 93] = it n1 ++ [.s 5 93] := by rw [itL, itL, joinI]
            rw [ei, toks_app, List.append_assoc]
            have h1 := expr_back M n1 (by omega) hrt.1 q m (d + 1) (toks (q + (flatT (it n1)).length) [.s 5 93] ++ r) ⟨_, _, rfl, by simp [It.tok], by simp [It.tok], by simp [It.tok]⟩ (by omega) (by omega)
            refine items_step (y := ⟨5, ((q + (flatT (it n1)).length : Nat) : Int), e0⟩) (u := r) h1 (by omega) (.inr ⟨rfl, ?_, by omega⟩)
            have e2 : wrap64 (((d + 1 : Nat) : Int) - 1) = (d : Int) := by rw [w64 (by omega) (by omega)]; omega
            rw [e2]; rfl
          | cons n2 l =>
            have ei : joinI (itL (n1 :: n2 :: l)) ++ [.s 5 93] = it n1 ++ (.s 6 44 :: .b :: (joinI (itL (n2 :: l)) ++ [.s 5 93])) := by rw [itL, itL, joinI, List.append_assoc]; rfl
            rw [ei, toks_app, List.append_assoc]
            have h1 := expr_back M n1 (by omega) hrt.1 q m (d + 1) (toks (q + (flatT (it n1)).length) (.s 6 44 :: .b :: (joinI (itL (n2 :: l)) ++ [.s 5 93])) ++ r) ⟨_, _, rfl, by simp [It.tok], by simp [It.tok], by simp [It.tok]⟩ (by omega) (by omega)
            have h2 := ih (by simp) (by omega) hrt.2 (acc ++ [n1]) (q + (flatT (it n1)).length + 1 + 1) (m + nd n1) ⟨6, ((q + (flatT (it n1)).length : Nat) : Int), e0⟩ (by omega) (by omega) (by rw [List.length_append]; simp only [List.length_cons, List.length_nil]; simp only [List.length_cons] at hlen; omega)
            refine items_step (y := ⟨6, ((q + (flatT (it n1)).length : Nat) : Int), e0⟩) (u := toks (q + (flatT (it n1)).length + 1 + 1) (joinI (itL (n2 :: l)) ++ [.s 5 93]) ++ r) h1 (by omega) (.inl ⟨rfl, Ev.eq h2 ?_⟩)
            rw [List.append_assoc, ndL, Nat.add_assoc]; rfl
      have hi2 := items n.f4 hne (by omega) hl [] (q + 1) (m + 1) ⟨4, (q : Int), e0⟩ (by omega) (by omega) (by have := len_nd n.f4; simp only [List.length_nil]; omega)
      have en : (⟨2, ⟨0, e0, e0, e0⟩, false, false, [] ++ n.f4⟩ : S27) = n := bare_inj (bare_mk _ _) hb c.symm rfl
      rw [en] at hi2
      refine Ev.step (f := fun k => pList k (m : Int) (d : Int) ⟨4, (q : Int), e0⟩ (toks (q + 1) (joinI (itL n.f4) ++ [.s 5 93]) ++ r)) (fun k => by rw [pExpr, if_pos rfl]) ?_
      refine Ev.step (fun k => by rw [pList, if_neg (by omega), if_neg (by omega), up1 (by omega), up1 (by omega)]) (Ev.eq hi2 ?_)
      rw [hnd, Nat.add_assoc, Nat.add_comm 1]
def b13 : S27 := ⟨0, ⟨3, ⟨#[49, 57, 88, 52]⟩, ⟨#[]⟩, ⟨#[]⟩⟩, false, false, []⟩
def s13 : S27 := ⟨1, eP, false, false, [oN, b13]⟩
def l13 : S27 := lN [p11, s13]
theorem pv_b13 : ptV b13.f1 = true := by
  show (saneL [49, 57, 88, 52] && (true && (emptyV ⟨#[]⟩ && emptyV ⟨#[]⟩))) = true
  rw [emptyV_nil]; decide
theorem wf_b13 : wfN b13 := wf_leaf _ _ _ _ (by decide) (by decide) (by decide)
theorem wf_s13 : wfN s13 := .mk _ (by decide) (by decide) (by decide) (by simp [s13]) (fun x hx => by
  simp only [s13, List.mem_cons, List.not_mem_nil, or_false] at hx
  rcases hx with rfl | rfl
  · exact wf_oN
  · exact wf_b13)
theorem wf_l13 : wfN l13 := .mk _ (by decide) (by decide) (by decide) (by simp [l13, lN]) (fun x hx => by
  simp only [l13, lN, List.mem_cons, List.not_mem_nil, or_false] at hx
  rcases hx with rfl | rfl
  · exact wf_p11
  · exact wf_s13)
theorem endV_b13 : endV b13 = true := by show (true && ptV b13.f1) = true; rw [pv_b13]; rfl
theorem rt_s13 : rt s13 = true := by
  rw [rt_eq]
  show (bareV ⟨1, eP, false, false, [oN, b13]⟩ && two [oN, b13]) = true
  rw [bare_e, two, endV_b13, endV_o]; rfl
theorem sane_l13 : saneV l13 = true := by
  have h1 : nd l13 = 5 := by simp [l13, lN, s13, b13, p11, oN, nd, ndL]
  have h2 : dp l13 = 1 := by simp [l13, lN, s13, b13, p11, oN, dp, dpL]
  have h4 : rt p11 = true := by rw [rt_eq]; show endV p11 = true; exact endV_p11
  have h3 : rt l13 = true := by
    rw [rt_eq]
    show (bareV ⟨2, eP, false, false, [p11, s13]⟩ && (true && rtL [p11, s13])) = true
    rw [bare_e, rtL, rtL, rtL, rt_s13, h4]; rfl
  unfold saneV
  rw [h1, h2, h3]; rfl
theorem tx_l13 : tx l13 = [91, 49, 57, 56, 52, 63, 126, 44, 32, 46, 46, 47, 49, 57, 88, 52, 93] := by
  have e1 : tx p11 = [49, 57, 56, 52, 63, 126] := by
    rw [tx_eq]
    show ptTxt p11.f1 ++ [63, 126] = _
    unfold ptTxt
    rw [pv_p11]; rfl
  have e2 : tx b13 = [49, 57, 88, 52] := by
    rw [tx_eq]
    show ptTxt b13.f1 ++ [] = _
    unfold ptTxt
    rw [pv_b13]; rfl
  have e3 : tx oN = [46, 46] := by rw [tx_eq]; rfl
  have e4 : tx s13 = [46, 46, 47, 49, 57, 88, 52] := by
    rw [tx_eq]
    show span2 (txL [oN, b13]) = _
    rw [txL, txL, txL, e2, e3]; rfl
  rw [tx_eq]
  show 91 :: (Lib.join (txL [p11, s13]) [44, 32] ++ [93]) = _
  rw [txL, txL, txL, e1, e4]; rfl
theorem ptTxt_p11 : ptTxt p11.f1 = [49, 57, 56, 52] := by unfold ptTxt; rw [pv_p11]; rfl
theorem read_1984 : Ev (fun k => point_Read.f k (⟨#[49, 57, 56, 52]⟩ : ByteArray)) (3, ⟨#[49, 57, 56, 52]⟩, e0, e0, true) := by
  have := read_txt p11.f1 pv_p11
  rw [ptTxt_p11] at this
  exact this
theorem end_1984 (q : Int) (m : Nat) (d : Int) (t r : List S48) (a b : Bool) (hm : m + 1 ≤ 64) (h : pMarked t ⟨3, ⟨#[49, 57, 56, 52]⟩, e0, e0⟩ false false = some (⟨0, ⟨3, ⟨#[49, 57, 56, 52]⟩, e0, e0⟩, a, b, []⟩, r)) :
    Ev (fun k => pEnd k (m : Int) d ((⟨0, q, ⟨#[49, 57, 56, 52]⟩⟩ : S48) :: t)) ⟨⟨0, ⟨3, ⟨#[49, 57, 56, 52]⟩, e0, e0⟩, a, b, []⟩, none, r, ((m + 1 : Nat) : Int), d⟩ := by
  unfold pEnd pWord
  refine Ev.ift rfl (Ev.iff_ (by omega) ?_)
  refine Ev.bind read_1984 (Ev.ift rfl (Ev.bnow h (Ev.eq (Ev.now _) ?_)))
  rw [up1 (by omega)]
theorem list_go {x : S48} {t : List S48} {m d : Nat} {R : PR} (h4 : x.f0 = 4) (hm : m + 1 ≤ 64) (hd : d + 1 ≤ 8) (h : Ev (fun k => pItems k ((m + 1 : Nat) : Int) ((d + 1 : Nat) : Int) (x :: t) []) R) : Ev (fun k => pExpr k (m : Int) (d : Int) (x :: t)) R := by
  refine Ev.step (f := fun k => pList k (m : Int) (d : Int) x t) (fun k => by rw [pExpr, if_pos h4]) ?_
  exact Ev.step (fun k => by rw [pList, if_neg (by omega), if_neg (by omega), up1 (by omega), up1 (by omega)]) h
theorem span_go {x : S48} {t : List S48} {m d : Int} {R : PR} (h4 : x.f0 ≠ 4) (h : Ev (fun k => pSpan k m d (x :: t)) R) : Ev (fun k => pExpr k m d (x :: t)) R := Ev.step (fun k => by rw [pExpr, if_neg h4]) h
theorem parse_bad {s : List UInt8} {L : List S48} {z at_ e : Int} {R : PR} (hL : Ev (fun k => lex_All.f k (bA s)) (L, z, 0)) (hE : Ev (fun k => pExpr k 0 0 L) R) (hx : R.x = some (at_, e)) : Ev (fun k => parse_Parse.f k (bA s)) (0, 0, e0, e0, e0, false, false, [], at_, e) := by
  unfold parse_Parse.f
  refine Ev.bind hL (Ev.ift rfl (Ev.bind hE ?_))
  rw [hx]; exact Ev.now _
theorem parse_good {s : List UInt8} {L : List S48} {z : Int} {n : S27} {y : S48} {u : List S48} {m d : Int} (hL : Ev (fun k => lex_All.f k (bA s)) (L, z, 0)) (hE : Ev (fun k => pExpr k 0 0 L) ⟨n, none, y :: u, m, d⟩) (hy : y.f0 = 9) : Ev (fun k => parse_Parse.f k (bA s)) (n.f0, n.f1.f0, n.f1.f1, n.f1.f2, n.f1.f3, n.f2, n.f3, n.f4, z, 0) := by
  unfold parse_Parse.f
  exact Ev.bind hL (Ev.ift rfl (Ev.bind hE (Ev.ift hy (Ev.now _))))
theorem first13 : Ev (fun k => parse_Parse.f k (⟨#[91, 49, 57, 56, 52, 126, 63, 44, 32, 46, 46, 47, 49, 57, 88, 52, 93]⟩ : ByteArray)) (l13.f0, l13.f1.f0, l13.f1.f1, l13.f1.f2, l13.f1.f3, l13.f2, l13.f3, l13.f4, 17, 0) := by
  have hL := lex_f [.s 4 91, .w [49, 57, 56, 52], .s 8 126, .s 7 63, .s 6 44, .b, .d, .s 1 47, .w [49, 57, 88, 52], .s 5 93] (by simp [okI, stopI]; decide) (by decide)
  refine parse_good hL (n := l13) (y := endT 17) (u := []) (m := 5) (d := 0) ?_ rfl
  refine list_go (m := 0) (d := 0) rfl (by omega) (by omega) ?_
  have h1 : Ev (fun k => pExpr k 1 1 [⟨0, 1, ⟨#[49, 57, 56, 52]⟩⟩, ⟨8, 5, e0⟩, ⟨7, 6, e0⟩, ⟨6, 7, e0⟩, ⟨2, 9, e0⟩, ⟨1, 11, e0⟩, ⟨0, 12, ⟨#[49, 57, 88, 52]⟩⟩, ⟨5, 16, e0⟩, endT 17]) ⟨p11, none, [⟨6, 7, e0⟩, ⟨2, 9, e0⟩, ⟨1, 11, e0⟩, ⟨0, 12, ⟨#[49, 57, 88, 52]⟩⟩, ⟨5, 16, e0⟩, endT 17], 2, 1⟩ := by
    refine span_go (by simp) ?_
    unfold pSpan
    exact Ev.bind (end_1984 1 1 1 _ _ true true (by omega) rfl) (Ev.iff_ (by simp) (Ev.ift rfl (Ev.now _)))
  refine items_step h1 (by decide) (.inl ⟨rfl, ?_⟩)
  have h2 : Ev (fun k => pExpr k 2 1 [⟨2, 9, e0⟩, ⟨1, 11, e0⟩, ⟨0, 12, ⟨#[49, 57, 88, 52]⟩⟩, ⟨5, 16, e0⟩, endT 17]) ⟨s13, none, [⟨5, 16, e0⟩, endT 17], 5, 1⟩ := by
    have h := expr_back 3 s13 (by simp [s13, b13, oN, nd, ndL]) rt_s13 9 2 1 [⟨5, 16, e0⟩, endT 17] ⟨_, _, rfl, by simp, by simp, by simp⟩ (by simp [s13, b13, oN, nd, ndL]) (by simp [s13, b13, oN, dp, dpL])
    have e : nd s13 = 3 := by simp [s13, b13, oN, nd, ndL]
    have e2 : toks 9 (it s13) ++ [⟨5, 16, e0⟩, endT 17] = [⟨2, 9, e0⟩, ⟨1, 11, e0⟩, ⟨0, 12, ⟨#[49, 57, 88, 52]⟩⟩, ⟨5, 16, e0⟩, endT 17] := by
      have ei : it s13 = [.d, .s 1 47, .w [49, 57, 88, 52]] := by
        have eb : it b13 = [.w [49, 57, 88, 52]] := by
          rw [it_eq]
          show [It.w (ptTxt b13.f1)] = _
          unfold ptTxt
          rw [pv_b13]; rfl
        rw [it_eq]
        show spanI (itL [oN, b13]) = _
        rw [itL, itL, itL, eb, it_eq]; rfl
      rw [ei]; rfl
    rw [e, e2] at h
    exact h
  exact items_step h2 (by decide) (.inr ⟨rfl, by rw [w64 (by omega) (by omega)]; rfl, by decide⟩)
theorem second13 : Ev (fun k => parse_Parse.f k (⟨#[49, 57, 56, 52, 47, 91]⟩ : ByteArray)) (0, 0, e0, e0, e0, false, false, [], 5, 3) := by
  have hL := lex_f [.w [49, 57, 56, 52], .s 1 47, .s 4 91] (by simp [okI, stopI]; decide) (by decide)
  refine parse_bad hL (R := ⟨⟨1, ⟨0, e0, e0, e0⟩, false, false, [⟨0, ⟨3, ⟨#[49, 57, 56, 52]⟩, e0, e0⟩, false, false, []⟩, pz]⟩, some (5, 3), [⟨4, 5, e0⟩, endT 6], 2, 0⟩) ?_ rfl
  refine span_go (by simp) ?_
  unfold pSpan
  refine Ev.bind (end_1984 0 0 0 _ _ false false (by omega) rfl) (Ev.ift rfl (Ev.iff_ (by simp) ?_))
  refine Ev.bind (a := ⟨pz, some (5, 3), [⟨4, 5, e0⟩, endT 6], 2, 0⟩) ?_ ?_
  · show Ev (fun k => pEnd k (wrap64 (((0 + 1 : Nat) : Int) + 1)) 0 [⟨4, 5, e0⟩, endT 6]) _
    rw [up1 (by omega)]
    unfold pEnd
    exact Ev.iff_ (by simp) (Ev.iff_ (by simp) (Ev.iff_ (by simp) (Ev.eq (Ev.now _) rfl)))
  · exact Ev.now _
theorem third13 : Ev (fun k => parse_Parse.f k (⟨#[91, 49, 57, 56, 52]⟩ : ByteArray)) (0, 0, e0, e0, e0, false, false, [], 5, 4) := by
  have hL := lex_f [.s 4 91, .w [49, 57, 56, 52]] (by simp [okI, stopI]; decide) (by decide)
  refine parse_bad hL (R := ⟨⟨0, ⟨3, ⟨#[49, 57, 56, 52]⟩, e0, e0⟩, false, false, []⟩, some (5, 4), [endT 5], 2, 1⟩) ?_ rfl
  refine list_go (m := 0) (d := 0) rfl (by omega) (by omega) ?_
  refine Ev.step (fun k => pItems_one k _ _ _ _ []) ?_
  refine Ev.bind (a := ⟨⟨0, ⟨3, ⟨#[49, 57, 56, 52]⟩, e0, e0⟩, false, false, []⟩, none, [endT 5], 2, 1⟩) ?_ ?_
  · refine span_go (by simp) ?_
    unfold pSpan
    exact Ev.bind (end_1984 1 1 1 _ _ false false (by omega) rfl) (Ev.iff_ (by simp [endT]) (Ev.ift rfl (Ev.now _)))
  · exact Ev.ift (by decide) (Ev.iff_ (by simp [endT]) (Ev.iff_ (by simp [endT]) (Ev.now _)))
theorem awake13 : Ev (fun k => lustrumlaw13_awake.f k) true := by
  have hT := pTx_f l13 wf_l13 (by have := (sane_rt sane_l13).1; omega)
  have e : txV l13 = [91, 49, 57, 56, 52, 63, 126, 44, 32, 46, 46, 47, 49, 57, 88, 52, 93] := by unfold txV; rw [if_pos sane_l13, tx_l13]
  rw [e] at hT
  exact Ev.bind first13 (Ev.bind second13 (Ev.bind third13 (Ev.ift rfl (Ev.ift rfl (Ev.bind hT (Ev.ift (bA_toList _) (Ev.ift rfl (Ev.ift rfl (Ev.ift rfl (Ev.now _))))))))))
end Go.Proofs.Ytjgjhekpiijniaa.A
namespace Go.Proofs.Ytjgjhekpiijniaa.A
open Go.RowKit Go.Proofs.YtjgjhekpiijniaaW.PrintWords Go.Proofs.YtjgjhekpiijniaaW.PrintLast Go.Proofs.YtjgjhekpiijniaaW.PrintMore
attribute [local go_sem] max2_int min2_int max_two min_two max_three min_three max_four min_four
attribute [local go_sem high] eqA23
attribute [local go_sem] isSome_setCell
set_option maxHeartbeats 8000000 in
set_option maxRecDepth 100000 in
theorem tree_bare.calls (a0_0 a0_1 : Int) (a0_2 a0_3 a0_4 : ByteArray) (a0_5 a0_6 : Bool) (A0_7 : Option Addr) (c0_7 : Nat) (l0_7 : List (S27)) (r : Bool) (w : World) (hr0_7 : Kd.C k27 w A0_7 l0_7.length l0_7) (hc0_7 : l0_7.length ≤ c0_7) (h : tree_bare.f a0_0 a0_1 a0_2 a0_3 a0_4 a0_5 a0_6 l0_7 = some r) :
  Calls Try.prog 30 #[.agg #[.int .i64 a0_0, .int .i64 a0_1, .string a0_2, .string a0_3, .string a0_4, .bool a0_5, .bool a0_6, .slice A0_7 l0_7.length c0_7]] w fun e w' => e = .returned (.bool r) ∧ Below w.heap.size w w' := by
 have hu27 := Try.underlying27; have hu24 := Try.underlying24; have HR0_7 := A_ hr0_7; have HC0_7 := A_ hc0_7; clear hr0_7 hc0_7; have HB := A_ (Below.refl w.heap.size w); have H : (if (a0_1 == 0 && (a0_2.toList == ([] : List UInt8) && (a0_3.toList == ([] : List UInt8) && (a0_4.toList == ([] : List UInt8))))) = true then (if a0_5 = true then (some false) else (some (!a0_6))) else (some false)) = some r := h; clear h
 by_cases c2 : (a0_1 == 0 && (a0_2.toList == ([] : List UInt8) && (a0_3.toList == ([] : List UInt8) && (a0_4.toList == ([] : List UInt8))))) = true
 ·rw [if_pos c2] at H
  have c2b0 : (a0_1 == 0 && (a0_2.toList == ([] : List UInt8) && (a0_3.toList == ([] : List UInt8) && (a0_4.toList == ([] : List UInt8))))) = true := c2; (try (have c2b9 : (a0_1 == 0 && (a0_2.toList.isEmpty && (a0_3.toList.isEmpty && (a0_4.toList.isEmpty)))) = true := by simpa using c2b0)); (try (have c2b1 : decide (a0_1 = 0 && (a0_2.toList == ([] : List UInt8) && (a0_3.toList == ([] : List UInt8) && (a0_4.toList == ([] : List UInt8))))) = true := by simpa using c2)); (try (have c2b2 : (a0_1 == 0 && (a0_2.toList == ([] : List UInt8) && (a0_3.toList == ([] : List UInt8) && (a0_4.toList == ([] : List UInt8))))) = true := by simpa using c2)); clear c2
  by_cases c3 : a0_5 = true
  ·subst c3
   replace H := iP_ H; obtain rfl := Option.some.inj H; go_enter Try.func30, Try.ntmps30; go_wp2_with (first | (refine gx_ w 1 (n8_ a0_0 a0_1 a0_2 a0_3 a0_4 true a0_6 (.slice A0_7 l0_7.length c0_7)) 27 ?_; clear HB; intro gb151 w4 BK151 GE151 HB; have GW151 := GE151; have Z5 := bz8_ BK151)); go_ret; exact ⟨re_, hs_⟩
  ·replace c3 := Bool.eq_false_iff.mpr c3
   subst c3; replace H := iN_ H; obtain rfl := Option.some.inj H; go_enter Try.func30, Try.ntmps30; go_wp2_with (first | (refine gx_ w 1 (n8_ a0_0 a0_1 a0_2 a0_3 a0_4 false a0_6 (.slice A0_7 l0_7.length c0_7)) 27 ?_; clear HB; intro gb151 w6 BK151 GE151 HB; have GW151 := GE151; have Z7 := bz8_ BK151)); go_ret; exact ⟨re_, hs_⟩
 ·rw [if_neg c2] at H
  (have c2b0 : (a0_1 == 0 && (a0_2.toList == ([] : List UInt8) && (a0_3.toList == ([] : List UInt8) && (a0_4.toList == ([] : List UInt8))))) = false := by simpa using c2); (try (have c2b9 : (a0_1 == 0 && (a0_2.toList.isEmpty && (a0_3.toList.isEmpty && (a0_4.toList.isEmpty)))) = false := by simpa using c2b0)); (try (have c2b1 : decide (a0_1 = 0 && (a0_2.toList == ([] : List UInt8) && (a0_3.toList == ([] : List UInt8) && (a0_4.toList == ([] : List UInt8))))) = false := by simpa using c2)); (try (have c2b2 : (a0_1 == 0 && (a0_2.toList == ([] : List UInt8) && (a0_3.toList == ([] : List UInt8) && (a0_4.toList == ([] : List UInt8))))) = false := by simpa using c2)); (try (have c2b3 : ¬ (a0_1 = 0 && (a0_2.toList == ([] : List UInt8) && (a0_3.toList == ([] : List UInt8) && (a0_4.toList == ([] : List UInt8))))) := by simpa using c2)); clear c2; obtain rfl := Option.some.inj H; go_enter Try.func30, Try.ntmps30; go_wp2_with (first | (refine gx_ w 1 (n8_ a0_0 a0_1 a0_2 a0_3 a0_4 a0_5 a0_6 (.slice A0_7 l0_7.length c0_7)) 27 ?_; clear HB; intro gb151 w8 BK151 GE151 HB; have GW151 := GE151; have Z9 := bz8_ BK151)); go_ret; exact ⟨re_, hs_⟩
set_option maxHeartbeats 8000000 in
set_option maxRecDepth 100000 in
theorem tree_End.calls (k : Nat) (a0_0 a0_1 : Int) (a0_2 a0_3 a0_4 : ByteArray) (a0_5 a0_6 : Bool) (A0_7 : Option Addr) (c0_7 : Nat) (l0_7 : List (S27)) (r : Bool) (w : World) (hr0_7 : Kd.C k27 w A0_7 l0_7.length l0_7) (hc0_7 : l0_7.length ≤ c0_7) (h : tree_End.f k a0_0 a0_1 a0_2 a0_3 a0_4 a0_5 a0_6 l0_7 = some r) :
  Calls Try.prog 29 #[.agg #[.int .i64 a0_0, .int .i64 a0_1, .string a0_2, .string a0_3, .string a0_4, .bool a0_5, .bool a0_6, .slice A0_7 l0_7.length c0_7]] w fun e w' => e = .returned (.bool r) ∧ Below w.heap.size w w' := by
 have hu27 := Try.underlying27; have hu24 := Try.underlying24; have HR0_7 := A_ hr0_7; have HC0_7 := A_ hc0_7; clear hr0_7 hc0_7; have HB := A_ (Below.refl w.heap.size w); have H : (if a0_0 = 0 then (if (l0_7.length : Int) = 0 then ((point_Sane.f k a0_1 a0_2 a0_3 a0_4).bind fun t153 => (some t153)) else (some false)) else (if a0_0 = 3 then (if (l0_7.length : Int) = 0 then ((tree_bare.f a0_0 a0_1 a0_2 a0_3 a0_4 a0_5 a0_6 l0_7).bind fun t154 => (some t154)) else (some false)) else (if a0_0 = 4 then (if (l0_7.length : Int) = 0 then ((tree_bare.f a0_0 a0_1 a0_2 a0_3 a0_4 a0_5 a0_6 l0_7).bind fun t155 => (some t155)) else (some false)) else (some false)))) = some r := h; clear h
 by_cases c2 : a0_0 = 0
 ·rw [if_pos c2] at H
  have c2b0 : (a0_0 == 0) = true := beq_iff_eq.mpr c2; have c2b1 : (a0_0 != 0) = false := bne_eq_false_iff_eq.mpr c2; clear c2
  by_cases c3 : (l0_7.length : Int) = 0
  ·rw [if_pos c3] at H
   have c3b0 : ((l0_7.length : Int) == 0) = true := beq_iff_eq.mpr c3; have c3b1 : ((l0_7.length : Int) != 0) = false := bne_eq_false_iff_eq.mpr c3; clear c3; obtain ⟨t153, A4, H⟩ := bi_ H; obtain rfl := Option.some.inj H; go_enter Try.func29, Try.ntmps29; go_wp2_with (first | (refine gx_ w 1 (n8_ a0_0 a0_1 a0_2 a0_3 a0_4 a0_5 a0_6 (.slice A0_7 l0_7.length c0_7)) 27 ?_; clear HB; intro gb152 w5 BK152 GE152 HB; have GW152 := GE152; have Z6 := bz8_ BK152) | (go_at_call 43; (with_reducible refine (point_Sane.calls k a0_1 a0_2 a0_3 a0_4 t153 _ A4.out).mono ?_); rintro e w7 ⟨rfl, hb⟩; replace BK152 := bb_ BK152 hb; replace HB := bs_ hb; (try clear hb))); go_ret; exact ⟨re_, hs_⟩
  ·rw [if_neg c3] at H
   have c3b0 : ((l0_7.length : Int) == 0) = false := beq_eq_false_iff_ne.mpr c3; have c3b1 : ((l0_7.length : Int) != 0) = true := bne_iff_ne.mpr c3; (have c3b2 : ¬ (l0_7 = []) := fun h_ => c3 (by rw [h_]; rfl)); obtain rfl := Option.some.inj H; go_enter Try.func29, Try.ntmps29; go_wp2_with (first | (refine gx_ w 1 (n8_ a0_0 a0_1 a0_2 a0_3 a0_4 a0_5 a0_6 (.slice A0_7 l0_7.length c0_7)) 27 ?_; clear HB; intro gb152 w8 BK152 GE152 HB; have GW152 := GE152; have Z9 := bz8_ BK152)); go_ret; exact ⟨re_, hs_⟩
 ·rw [if_neg c2] at H
  have c2b0 : (a0_0 == 0) = false := beq_eq_false_iff_ne.mpr c2; have c2b1 : (a0_0 != 0) = true := bne_iff_ne.mpr c2
  by_cases c10 : a0_0 = 3
  ·rw [if_pos c10] at H
   have c10b0 : (a0_0 == 3) = true := beq_iff_eq.mpr c10; have c10b1 : (a0_0 != 3) = false := bne_eq_false_iff_eq.mpr c10; clear c10
   by_cases c11 : (l0_7.length : Int) = 0
   ·rw [if_pos c11] at H
    have c11b0 : ((l0_7.length : Int) == 0) = true := beq_iff_eq.mpr c11; have c11b1 : ((l0_7.length : Int) != 0) = false := bne_eq_false_iff_eq.mpr c11; clear c11; obtain ⟨t154, A12, H⟩ := bi_ H; obtain rfl := Option.some.inj H; go_enter Try.func29, Try.ntmps29; go_wp2_with (first | (refine gx_ w 1 (n8_ a0_0 a0_1 a0_2 a0_3 a0_4 a0_5 a0_6 (.slice A0_7 l0_7.length c0_7)) 27 ?_; clear HB; intro gb152 w13 BK152 GE152 HB; have GW152 := GE152; have Z14 := bz8_ BK152) | (go_at_call 30; (with_reducible refine (tree_bare.calls a0_0 a0_1 a0_2 a0_3 a0_4 a0_5 a0_6 _ _ l0_7 t154 _ ?side1 ?side2 A12.out).mono ?_); (case side1 => exact cb_ HR0_7); (case side2 => exact HC0_7.out); rintro e w15 ⟨rfl, hb⟩; replace BK152 := bb_ BK152 hb; replace HB := bs_ hb; (try clear hb))); go_ret; exact ⟨re_, hs_⟩
   ·rw [if_neg c11] at H
    have c11b0 : ((l0_7.length : Int) == 0) = false := beq_eq_false_iff_ne.mpr c11; have c11b1 : ((l0_7.length : Int) != 0) = true := bne_iff_ne.mpr c11; (have c11b2 : ¬ (l0_7 = []) := fun h_ => c11 (by rw [h_]; rfl)); obtain rfl := Option.some.inj H; go_enter Try.func29, Try.ntmps29; go_wp2_with (first | (refine gx_ w 1 (n8_ a0_0 a0_1 a0_2 a0_3 a0_4 a0_5 a0_6 (.slice A0_7 l0_7.length c0_7)) 27 ?_; clear HB; intro gb152 w16 BK152 GE152 HB; have GW152 := GE152; have Z17 := bz8_ BK152)); go_ret; exact ⟨re_, hs_⟩
  ·rw [if_neg c10] at H
   have c10b0 : (a0_0 == 3) = false := beq_eq_false_iff_ne.mpr c10; have c10b1 : (a0_0 != 3) = true := bne_iff_ne.mpr c10
   by_cases c18 : a0_0 = 4
   ·rw [if_pos c18] at H
    have c18b0 : (a0_0 == 4) = true := beq_iff_eq.mpr c18; have c18b1 : (a0_0 != 4) = false := bne_eq_false_iff_eq.mpr c18; clear c18
    by_cases c19 : (l0_7.length : Int) = 0
    ·rw [if_pos c19] at H
     have c19b0 : ((l0_7.length : Int) == 0) = true := beq_iff_eq.mpr c19; have c19b1 : ((l0_7.length : Int) != 0) = false := bne_eq_false_iff_eq.mpr c19; clear c19; obtain ⟨t155, A20, H⟩ := bi_ H; obtain rfl := Option.some.inj H; go_enter Try.func29, Try.ntmps29; go_wp2_with (first | (refine gx_ w 1 (n8_ a0_0 a0_1 a0_2 a0_3 a0_4 a0_5 a0_6 (.slice A0_7 l0_7.length c0_7)) 27 ?_; clear HB; intro gb152 w21 BK152 GE152 HB; have GW152 := GE152; have Z22 := bz8_ BK152) | (go_at_call 30; (with_reducible refine (tree_bare.calls a0_0 a0_1 a0_2 a0_3 a0_4 a0_5 a0_6 _ _ l0_7 t155 _ ?side1 ?side2 A20.out).mono ?_); (case side1 => exact cb_ HR0_7); (case side2 => exact HC0_7.out); rintro e w23 ⟨rfl, hb⟩; replace BK152 := bb_ BK152 hb; replace HB := bs_ hb; (try clear hb))); go_ret; exact ⟨re_, hs_⟩
    ·rw [if_neg c19] at H
     have c19b0 : ((l0_7.length : Int) == 0) = false := beq_eq_false_iff_ne.mpr c19; have c19b1 : ((l0_7.length : Int) != 0) = true := bne_iff_ne.mpr c19; (have c19b2 : ¬ (l0_7 = []) := fun h_ => c19 (by rw [h_]; rfl)); obtain rfl := Option.some.inj H; go_enter Try.func29, Try.ntmps29; go_wp2_with (first | (refine gx_ w 1 (n8_ a0_0 a0_1 a0_2 a0_3 a0_4 a0_5 a0_6 (.slice A0_7 l0_7.length c0_7)) 27 ?_; clear HB; intro gb152 w24 BK152 GE152 HB; have GW152 := GE152; have Z25 := bz8_ BK152)); go_ret; exact ⟨re_, hs_⟩
   ·rw [if_neg c18] at H
    have c18b0 : (a0_0 == 4) = false := beq_eq_false_iff_ne.mpr c18; have c18b1 : (a0_0 != 4) = true := bne_iff_ne.mpr c18; obtain rfl := Option.some.inj H; go_enter Try.func29, Try.ntmps29; go_wp2_with (first | (refine gx_ w 1 (n8_ a0_0 a0_1 a0_2 a0_3 a0_4 a0_5 a0_6 (.slice A0_7 l0_7.length c0_7)) 27 ?_; clear HB; intro gb152 w26 BK152 GE152 HB; have GW152 := GE152; have Z27 := bz8_ BK152)); go_ret; exact ⟨re_, hs_⟩
end Go.Proofs.Ytjgjhekpiijniaa.A
namespace Go.Proofs.Ytjgjhekpiijniaa.A
open Go.RowKit Go.Proofs.YtjgjhekpiijniaaW.PrintWords Go.Proofs.YtjgjhekpiijniaaW.PrintLast Go.Proofs.YtjgjhekpiijniaaW.PrintMore
attribute [local go_sem] max2_int min2_int max_two min_two max_three min_three max_four min_four isSome_setCell
abbrev RightAt (k : Nat) : Prop := ∀ (a0_0 a0_1 : Int) (a0_2 a0_3 a0_4 : ByteArray) (a0_5 a0_6 : Bool) (A0_7 : Option Addr) (c0_7 : Nat) (l0_7 : List (S27)) (r : Bool) (w : World) (hr0_7 : Kd.C k27 w A0_7 l0_7.length l0_7) (hc0_7 : l0_7.length ≤ c0_7) (h : tree_right.f k a0_0 a0_1 a0_2 a0_3 a0_4 a0_5 a0_6 l0_7 = some r),
    Calls Try.prog 19 #[.agg #[.int .i64 a0_0, .int .i64 a0_1, .string a0_2, .string a0_3, .string a0_4, .bool a0_5, .bool a0_6, .slice A0_7 l0_7.length c0_7]] w fun e w' => e = .returned (.bool r) ∧ Below w.heap.size w w'
set_option maxHeartbeats 8000000 in
set_option maxRecDepth 100000 in
theorem tree_right_1.calls (k : Nat) (ihk : RightAt k) (a0_0 a0_1 : Int) (a0_2 a0_3 a0_4 : ByteArray) (a0_5 a0_6 : Bool) (A0_7 : Option Addr) (c0_7 : Nat) (l0_7 : List (S27)) (r : Bool) (w : World) (hr0_7 : Kd.C k27 w A0_7 l0_7.length l0_7) (hc0_7 : l0_7.length ≤ c0_7) (h : tree_right_1.f k a0_0 a0_1 a0_2 a0_3 a0_4 a0_5 a0_6 l0_7 = some r) :
  Calls Try.prog 32 #[.agg #[.int .i64 a0_0, .int .i64 a0_1, .string a0_2, .string a0_3, .string a0_4, .bool a0_5, .bool a0_6, .slice A0_7 l0_7.length c0_7]] w fun e w' => e = .returned (.bool r) ∧ Below w.heap.size w w' := by
 have hu27 := Try.underlying27; have HR0_7 := A_ hr0_7; have HC0_7 := A_ hc0_7; clear hr0_7 hc0_7; have HB := A_ (Below.refl w.heap.size w); have H : ((tree_right.f k a0_0 a0_1 a0_2 a0_3 a0_4 a0_5 a0_6 l0_7).bind fun t102 => (some (!t102))) = some r := h; clear h; obtain ⟨t102, A2, H⟩ := bi_ H; obtain rfl := Option.some.inj H; go_enter Try.func32, Try.ntmps32; go_wp2_with (first | (refine gx_ w 1 (n8_ a0_0 a0_1 a0_2 a0_3 a0_4 a0_5 a0_6 (.slice A0_7 l0_7.length c0_7)) 27 ?_; clear HB; intro gb101 w3 BK101 GE101 HB; have GW101 := GE101; have Z4 := bz8_ BK101) | (refine gC 19 ?_; refine gL 4 Try.func19 #[.agg (n8_ a0_0 a0_1 a0_2 a0_3 a0_4 a0_5 a0_6 (.slice A0_7 l0_7.length c0_7))] ?_; (with_reducible refine (ihk a0_0 a0_1 a0_2 a0_3 a0_4 a0_5 a0_6 _ _ l0_7 t102 _ ?side1 ?side2 A2.out).mono ?_); (case side1 => exact cb_ HR0_7); (case side2 => exact HC0_7.out); rintro e w5 ⟨rfl, hb⟩; refine ⟨_, rfl, ?_⟩; replace BK101 := bb_ BK101 hb; replace HB := bs_ hb; (try clear hb))); go_ret; exact ⟨re_, hs_⟩
set_option maxHeartbeats 8000000 in
set_option maxRecDepth 100000 in
theorem slices_IndexFunc.calls (k : Nat) (ihS : ∀ j, j < k → RightAt j) (A0 : Option Addr) (c0 : Nat) (l0 : List (S27))  (r : Int) (w : World) (hr0 : Kd.C k27 w A0 l0.length l0) (hc0 : l0.length ≤ c0) (h : slices_IndexFunc.f k l0 = some r) :
  Calls Try.prog 44 #[.slice A0 l0.length c0, .func (.func 32) #[] #[]] w fun e w' => e = .returned (.int .i64 r) ∧ Below w.heap.size w w' := by
 have hu27 := Try.underlying27; have HR0 := A_ hr0; have HC0 := A_ hc0; clear hr0 hc0; have HB := A_ (Below.refl w.heap.size w); have H : (slices_IndexFunc.l0 k l0 (l0.length : Int) 0) = some r := h; clear h; have H' := A_ H; clear H; go_enter Try.func44, Try.ntmps44; go_wp2; go_loopg [8] k (fun kq v8 w' => ∃ (x8_1 : Int), v8 = .int .i64 x8_1 ∧ Aside0 (slices_IndexFunc.l0 kq l0 (l0.length : Int) x8_1 = some r) ∧ Aside0 (kq ≤ k) ∧ Aside0 (Below w.heap.size w w'))
 case atStart => exact ⟨(0), rf_, H', ⟨Nat.le_refl _⟩, ⟨hs_⟩⟩
 case round =>
  clear H'; (try clear p2); obtain ⟨x8_1, rfl, HA, HK1, HB⟩ := hrel
  cases gk with
  | zero => exact absurd HA.out (by simp [slices_IndexFunc.l0])
  | succ k1 =>
   have H := HA.out; clear HA; rw [slices_IndexFunc.l0_succ] at H
   by_cases c3 : x8_1 < (l0.length : Int)
   ·rw [if_pos c3] at H
    have c3b0 := decide_eq_true c3; clear c3
    by_cases c4 : 0 ≤ x8_1
    ·rw [if_pos c4] at H
     have c4b0 := decide_eq_true c4; clear c4
     by_cases c5 : x8_1 < (l0.length : Int)
     ·rw [if_pos c5] at H
      have c5b0 := decide_eq_true c5; clear c5; obtain ⟨t102, A6, H⟩ := bi_ H
      by_cases c7 : t102 = true
      ·subst c7
       replace H := iP_ H; obtain rfl := Option.some.inj H; have p101 : 0 ≤ (x8_1 : Int) := od_; have q101 : x8_1 < (l0.length : Int) := od_; obtain ⟨ad101, A101_7, c101_7, e101, hx101_0, hx101_1, hx101_2, hx101_3, hx101_4, hx101_5, hx101_6, hx101_7, hl101_7, hi101_7⟩ := at_T27 HR0.out x8_1 p101 q101
       cases e101
       replace hx101_0 := cl_ HB hx101_0; replace hx101_1 := cl_ HB hx101_1; replace hx101_2 := cl_ HB hx101_2; replace hx101_3 := cl_ HB hx101_3; replace hx101_4 := cl_ HB hx101_4; replace hx101_5 := cl_ HB hx101_5; replace hx101_6 := cl_ HB hx101_6; replace hx101_7 := cl_ HB hx101_7; have HR101_7 := A_ hi101_7; have HC101_7 := A_ hl101_7; clear hi101_7 hl101_7; replace p101 := eq_true p101; replace q101 := eq_true q101; go_wp2_with (first | (go_at_call 32; (refine (tree_right_1.calls k1 (ihS k1 (by have := HK1.out; omega)) ((rd_T27 l0 x8_1).f0) ((rd_T27 l0 x8_1).f1.f0) ((rd_T27 l0 x8_1).f1.f1) ((rd_T27 l0 x8_1).f1.f2) ((rd_T27 l0 x8_1).f1.f3) ((rd_T27 l0 x8_1).f2) ((rd_T27 l0 x8_1).f3) _ _ ((rd_T27 l0 x8_1).f4) true _ ?side1 ?side2 A6.out).mono ?_); (case side1 => exact cb_ HR101_7); (case side2 => exact HC101_7.out); rintro e w8 ⟨rfl, hb⟩; replace HB := bs_ hb; (try clear hb))); go_ret; exact ⟨re_, hs_⟩
      ·replace c7 := Bool.eq_false_iff.mpr c7
       subst c7; replace H := iN_ H; have H' := A_ H; clear H; have p101 : 0 ≤ (x8_1 : Int) := od_; have q101 : x8_1 < (l0.length : Int) := od_; obtain ⟨ad101, A101_7, c101_7, e101, hx101_0, hx101_1, hx101_2, hx101_3, hx101_4, hx101_5, hx101_6, hx101_7, hl101_7, hi101_7⟩ := at_T27 HR0.out x8_1 p101 q101
       cases e101
       replace hx101_0 := cl_ HB hx101_0; replace hx101_1 := cl_ HB hx101_1; replace hx101_2 := cl_ HB hx101_2; replace hx101_3 := cl_ HB hx101_3; replace hx101_4 := cl_ HB hx101_4; replace hx101_5 := cl_ HB hx101_5; replace hx101_6 := cl_ HB hx101_6; replace hx101_7 := cl_ HB hx101_7; have HR101_7 := A_ hi101_7; have HC101_7 := A_ hl101_7; clear hi101_7 hl101_7; replace p101 := eq_true p101; replace q101 := eq_true q101; go_wp2_with (first | (go_at_call 32; (refine (tree_right_1.calls k1 (ihS k1 (by have := HK1.out; omega)) ((rd_T27 l0 x8_1).f0) ((rd_T27 l0 x8_1).f1.f0) ((rd_T27 l0 x8_1).f1.f1) ((rd_T27 l0 x8_1).f1.f2) ((rd_T27 l0 x8_1).f1.f3) ((rd_T27 l0 x8_1).f2) ((rd_T27 l0 x8_1).f3) _ _ ((rd_T27 l0 x8_1).f4) false _ ?side1 ?side2 A6.out).mono ?_); (case side1 => exact cb_ HR101_7); (case side2 => exact HC101_7.out); rintro e w9 ⟨rfl, hb⟩; replace HB := bs_ hb; (try clear hb))); go_roundg k1
       case measure => have := HK1.out; omega
       case rel => exact ⟨(wrap64 (x8_1 + 1)), rf_, H', ⟨by have := HK1.out; omega⟩, ⟨hs_⟩⟩
     ·rw [if_neg c5] at H
      exact absurd H (by simp)
    ·rw [if_neg c4] at H
     exact absurd H (by simp)
   ·rw [if_neg c3] at H
    have c3b0 := decide_eq_false c3; clear c3; obtain rfl := Option.some.inj H; go_wp2; go_ret; exact ⟨re_, hs_⟩
set_option maxHeartbeats 8000000 in
set_option maxRecDepth 100000 in
theorem slices_ContainsFunc.calls (k : Nat) (ihS : ∀ j, j < k → RightAt j) (A0 : Option Addr) (c0 : Nat) (l0 : List (S27))  (r : Bool) (w : World) (hr0 : Kd.C k27 w A0 l0.length l0) (hc0 : l0.length ≤ c0) (h : slices_ContainsFunc.f k l0 = some r) :
  Calls Try.prog 31 #[.slice A0 l0.length c0, .func (.func 32) #[] #[]] w fun e w' => e = .returned (.bool r) ∧ Below w.heap.size w w' := by
 have HR0 := A_ hr0; have HC0 := A_ hc0; clear hr0 hc0; have HB := A_ (Below.refl w.heap.size w); have H : ((slices_IndexFunc.f k l0).bind fun t103 => (some (decide (t103 ≥ 0)))) = some r := h; clear h; obtain ⟨t103, A3, H⟩ := bi_ H; obtain rfl := Option.some.inj H; go_enter Try.func31, Try.ntmps31; go_wp2_with (first | (refine gC 44 ?_; refine gL 7 Try.func44 #[.slice A0 l0.length c0, .func (.func 32) #[] #[]] ?_; (with_reducible refine (slices_IndexFunc.calls k ihS _ _ l0  t103 _ ?side1 ?side2 A3.out).mono ?_); (case side1 => exact cr_ HR0.out); (case side2 => exact HC0.out); rintro e w4 ⟨rfl, hb⟩; refine ⟨_, rfl, ?_⟩; replace HB := bs_ hb; (try clear hb))); go_ret; exact ⟨re_, hs_⟩
set_option maxHeartbeats 8000000 in
set_option maxRecDepth 100000 in
theorem tree_rightR.calls (k : Nat) (ihS : ∀ j, j < k → RightAt j) (a0_0 a0_1 : Int) (a0_2 a0_3 a0_4 : ByteArray) (a0_5 a0_6 : Bool) (A0_7 : Option Addr) (c0_7 : Nat) (l0_7 : List (S27)) (r : Bool) (w : World) (hr0_7 : Kd.C k27 w A0_7 l0_7.length l0_7) (hc0_7 : l0_7.length ≤ c0_7) (h : tree_rightR.f k a0_0 a0_1 a0_2 a0_3 a0_4 a0_5 a0_6 l0_7 = some r) :
  Calls Try.prog 19 #[.agg #[.int .i64 a0_0, .int .i64 a0_1, .string a0_2, .string a0_3, .string a0_4, .bool a0_5, .bool a0_6, .slice A0_7 l0_7.length c0_7]] w fun e w' => e = .returned (.bool r) ∧ Below w.heap.size w w' := by
 have hu27 := Try.underlying27; have HR0_7 := A_ hr0_7; have HC0_7 := A_ hc0_7; clear hr0_7 hc0_7; have HB := A_ (Below.refl w.heap.size w); have H : (if a0_0 = 0 then ((tree_End.f k a0_0 a0_1 a0_2 a0_3 a0_4 a0_5 a0_6 l0_7).bind fun t105 => (some t105)) else (if a0_0 = 1 then ((tree_bare.f a0_0 a0_1 a0_2 a0_3 a0_4 a0_5 a0_6 l0_7).bind fun t106 => (if t106 = true then (if (l0_7.length : Int) = 2 then (if 0 < (l0_7.length : Int) then ((tree_End.f k ((rd_T27 l0_7 0).f0) ((rd_T27 l0_7 0).f1.f0) ((rd_T27 l0_7 0).f1.f1) ((rd_T27 l0_7 0).f1.f2) ((rd_T27 l0_7 0).f1.f3) ((rd_T27 l0_7 0).f2) ((rd_T27 l0_7 0).f3) ((rd_T27 l0_7 0).f4)).bind fun t108 => (if t108 = true then (if 1 < (l0_7.length : Int) then ((tree_End.f k ((rd_T27 l0_7 1).f0) ((rd_T27 l0_7 1).f1.f0) ((rd_T27 l0_7 1).f1.f1) ((rd_T27 l0_7 1).f1.f2) ((rd_T27 l0_7 1).f1.f3) ((rd_T27 l0_7 1).f2) ((rd_T27 l0_7 1).f3) ((rd_T27 l0_7 1).f4)).bind fun t110 => (some t110)) else (none)) else (some false))) else (none)) else (some false)) else (some false))) else (if a0_0 = 2 then ((tree_bare.f a0_0 a0_1 a0_2 a0_3 a0_4 a0_5 a0_6 l0_7).bind fun t111 => (if t111 = true then (if (l0_7.length : Int) > 0 then ((slices_ContainsFunc.f k l0_7).bind fun t112 => (some (!t112))) else (some false)) else (some false))) else (some false)))) = some r := h; clear h
 by_cases c2 : a0_0 = 0
 ·rw [if_pos c2] at H
  have c2b0 : (a0_0 == 0) = true := beq_iff_eq.mpr c2; have c2b1 : (a0_0 != 0) = false := bne_eq_false_iff_eq.mpr c2; clear c2; obtain ⟨t105, A3, H⟩ := bi_ H; obtain rfl := Option.some.inj H; go_enter Try.func19, Try.ntmps19; go_wp2_with (first | (refine gD 1 ?_; (try (refine gate_guard (by rfl) ?_; dsimp only)); refine bxe_ 1 (n8_ a0_0 a0_1 a0_2 a0_3 a0_4 a0_5 a0_6 (.slice A0_7 l0_7.length c0_7)) 27 ?_; intro gb104 hg w4 hbox hb; have BK104 := A_ (hbox); have GW104 := gs_ w hg; have GE104 := gs_ w hg; replace HB := bs_ hb; clear hb hbox hg; have Z5 := bz8_ BK104) | (refine gC 29 ?_; refine gL 8 Try.func29 #[.agg (n8_ a0_0 a0_1 a0_2 a0_3 a0_4 a0_5 a0_6 (.slice A0_7 l0_7.length c0_7))] ?_; (with_reducible refine (tree_End.calls k a0_0 a0_1 a0_2 a0_3 a0_4 a0_5 a0_6 _ _ l0_7 t105 _ ?side1 ?side2 A3.out).mono ?_); (case side1 => exact cb_ HR0_7); (case side2 => exact HC0_7.out); rintro e w6 ⟨rfl, hb⟩; refine ⟨_, rfl, ?_⟩; replace BK104 := bb_ BK104 hb; replace HB := bs_ hb; (try clear hb))); go_ret; exact ⟨re_, hs_⟩
 ·rw [if_neg c2] at H
  have c2b0 : (a0_0 == 0) = false := beq_eq_false_iff_ne.mpr c2; have c2b1 : (a0_0 != 0) = true := bne_iff_ne.mpr c2
  by_cases c7 : a0_0 = 1
  ·rw [if_pos c7] at H
   have c7b0 : (a0_0 == 1) = true := beq_iff_eq.mpr c7; have c7b1 : (a0_0 != 1) = false := bne_eq_false_iff_eq.mpr c7; clear c7; obtain ⟨t106, A8, H⟩ := bi_ H
   by_cases c9 : t106 = true
   ·subst c9
    replace H := iP_ H
    by_cases c10 : (l0_7.length : Int) = 2
    ·rw [if_pos c10] at H
     have c10b0 : ((l0_7.length : Int) == 2) = true := beq_iff_eq.mpr c10; have c10b1 : ((l0_7.length : Int) != 2) = false := bne_eq_false_iff_eq.mpr c10; clear c10
     by_cases c11 : 0 < (l0_7.length : Int)
     ·rw [if_pos c11] at H
      have c11b0 := decide_eq_true c11; have c11b1 : decide (0 < l0_7.length) = true := decide_eq_true (by omega); clear c11; obtain ⟨t108, A12, H⟩ := bi_ H
      by_cases c13 : t108 = true
      ·subst c13
       replace H := iP_ H
       by_cases c14 : 1 < (l0_7.length : Int)
       ·rw [if_pos c14] at H
        have c14b0 := decide_eq_true c14; have c14b1 : decide (1 < l0_7.length) = true := decide_eq_true (by omega); clear c14; obtain ⟨t110, A15, H⟩ := bi_ H; obtain rfl := Option.some.inj H; go_enter Try.func19, Try.ntmps19; go_wp2_with (first | (refine gD 1 ?_; (try (refine gate_guard (by rfl) ?_; dsimp only)); refine bxe_ 1 (n8_ a0_0 a0_1 a0_2 a0_3 a0_4 a0_5 a0_6 (.slice A0_7 l0_7.length c0_7)) 27 ?_; intro gb104 hg w16 hbox hb; have BK104 := A_ (hbox); have GW104 := gs_ w hg; have GE104 := gs_ w hg; replace HB := bs_ hb; clear hb hbox hg; have Z17 := bz8_ BK104) | (refine gC 30 ?_; refine gL 12 Try.func30 #[.agg (n8_ a0_0 a0_1 a0_2 a0_3 a0_4 a0_5 a0_6 (.slice A0_7 l0_7.length c0_7))] ?_; (with_reducible refine (tree_bare.calls a0_0 a0_1 a0_2 a0_3 a0_4 a0_5 a0_6 _ _ l0_7 true _ ?side1 ?side2 A8.out).mono ?_); (case side1 => exact cb_ HR0_7); (case side2 => exact HC0_7.out); rintro e w18 ⟨rfl, hb⟩; refine ⟨_, rfl, ?_⟩; replace BK104 := bb_ BK104 hb; replace HB := bs_ hb; (try clear hb); have Z19 := bz8_ BK104; have p107 : 0 ≤ (0 : Int) := (by omega); have q107 : 0 < (l0_7.length : Int) := od_; obtain ⟨ad107, A107_7, c107_7, e107, hx107_0, hx107_1, hx107_2, hx107_3, hx107_4, hx107_5, hx107_6, hx107_7, hl107_7, hi107_7⟩ := at_T27 HR0_7.out 0 p107 q107; cases e107; have qi107 : (0 < l0_7.length) = True := eq_true (by omega); replace hx107_0 := ai_ hx107_0; replace hx107_1 := ai_ hx107_1; replace hx107_2 := ai_ hx107_2; replace hx107_3 := ai_ hx107_3; replace hx107_4 := ai_ hx107_4; replace hx107_5 := ai_ hx107_5; replace hx107_6 := ai_ hx107_6; replace hx107_7 := ai_ hx107_7; replace hx107_0 := cl_ HB hx107_0; replace hx107_1 := cl_ HB hx107_1; replace hx107_2 := cl_ HB hx107_2; replace hx107_3 := cl_ HB hx107_3; replace hx107_4 := cl_ HB hx107_4; replace hx107_5 := cl_ HB hx107_5; replace hx107_6 := cl_ HB hx107_6; replace hx107_7 := cl_ HB hx107_7; have HR107_7 := A_ hi107_7; have HC107_7 := A_ hl107_7; clear hi107_7 hl107_7; replace p107 := eq_true p107; replace q107 := eq_true q107) | (go_at_call 29; (with_reducible refine (tree_End.calls k ((rd_T27 l0_7 0).f0) ((rd_T27 l0_7 0).f1.f0) ((rd_T27 l0_7 0).f1.f1) ((rd_T27 l0_7 0).f1.f2) ((rd_T27 l0_7 0).f1.f3) ((rd_T27 l0_7 0).f2) ((rd_T27 l0_7 0).f3) _ _ ((rd_T27 l0_7 0).f4) true _ ?side1 ?side2 A12.out).mono ?_); (case side1 => exact cb_ HR107_7); (case side2 => exact HC107_7.out); rintro e w20 ⟨rfl, hb⟩; replace BK104 := bb_ BK104 hb; replace HB := bs_ hb; (try clear hb); have Z21 := bz8_ BK104; have p109 : 0 ≤ (1 : Int) := (by omega); have q109 : 1 < (l0_7.length : Int) := od_; obtain ⟨ad109, A109_7, c109_7, e109, hx109_0, hx109_1, hx109_2, hx109_3, hx109_4, hx109_5, hx109_6, hx109_7, hl109_7, hi109_7⟩ := at_T27 HR0_7.out 1 p109 q109; obtain rfl : ad107 = ad109 := (by injection e109); replace hx109_0 := aj_ hx109_0; replace hx109_1 := aj_ hx109_1; replace hx109_2 := aj_ hx109_2; replace hx109_3 := aj_ hx109_3; replace hx109_4 := aj_ hx109_4; replace hx109_5 := aj_ hx109_5; replace hx109_6 := aj_ hx109_6; replace hx109_7 := aj_ hx109_7; have qi109 : (1 < l0_7.length) = True := eq_true (by omega); (try rw [show ((1 : Int)).toNat = 1 from rfl] at hx109_0); (try rw [show 1 * 8 = 8 from rfl] at hx109_0); (try rw [show ((1 : Int)).toNat = 1 from rfl] at hx109_1); (try rw [show 1 * 8 = 8 from rfl] at hx109_1); (try rw [show ((1 : Int)).toNat = 1 from rfl] at hx109_2); (try rw [show 1 * 8 = 8 from rfl] at hx109_2); (try rw [show ((1 : Int)).toNat = 1 from rfl] at hx109_3); (try rw [show 1 * 8 = 8 from rfl] at hx109_3); (try rw [show ((1 : Int)).toNat = 1 from rfl] at hx109_4); (try rw [show 1 * 8 = 8 from rfl] at hx109_4); (try rw [show ((1 : Int)).toNat = 1 from rfl] at hx109_5); (try rw [show 1 * 8 = 8 from rfl] at hx109_5); (try rw [show ((1 : Int)).toNat = 1 from rfl] at hx109_6); (try rw [show 1 * 8 = 8 from rfl] at hx109_6); (try rw [show ((1 : Int)).toNat = 1 from rfl] at hx109_7); (try rw [show 1 * 8 = 8 from rfl] at hx109_7); replace hx109_0 := cl_ HB hx109_0; replace hx109_1 := cl_ HB hx109_1; replace hx109_2 := cl_ HB hx109_2; replace hx109_3 := cl_ HB hx109_3; replace hx109_4 := cl_ HB hx109_4; replace hx109_5 := cl_ HB hx109_5; replace hx109_6 := cl_ HB hx109_6; replace hx109_7 := cl_ HB hx109_7; have HR109_7 := A_ hi109_7; have HC109_7 := A_ hl109_7; clear hi109_7 hl109_7; replace p109 := eq_true p109; replace q109 := eq_true q109) | (go_at_call 29; (with_reducible refine (tree_End.calls k ((rd_T27 l0_7 1).f0) ((rd_T27 l0_7 1).f1.f0) ((rd_T27 l0_7 1).f1.f1) ((rd_T27 l0_7 1).f1.f2) ((rd_T27 l0_7 1).f1.f3) ((rd_T27 l0_7 1).f2) ((rd_T27 l0_7 1).f3) _ _ ((rd_T27 l0_7 1).f4) t110 _ ?side1 ?side2 A15.out).mono ?_); (case side1 => exact cb_ HR109_7); (case side2 => exact HC109_7.out); rintro e w22 ⟨rfl, hb⟩; replace BK104 := bb_ BK104 hb; replace HB := bs_ hb; (try clear hb)))
        go_ret; exact ⟨re_, hs_⟩
       ·rw [if_neg c14] at H
        exact absurd H (by simp)
      ·replace c13 := Bool.eq_false_iff.mpr c13
       subst c13; replace H := iN_ H; obtain rfl := Option.some.inj H; go_enter Try.func19, Try.ntmps19; go_wp2_with (first | (refine gD 1 ?_; (try (refine gate_guard (by rfl) ?_; dsimp only)); refine bxe_ 1 (n8_ a0_0 a0_1 a0_2 a0_3 a0_4 a0_5 a0_6 (.slice A0_7 l0_7.length c0_7)) 27 ?_; intro gb104 hg w23 hbox hb; have BK104 := A_ (hbox); have GW104 := gs_ w hg; have GE104 := gs_ w hg; replace HB := bs_ hb; clear hb hbox hg; have Z24 := bz8_ BK104) | (refine gC 30 ?_; refine gL 12 Try.func30 #[.agg (n8_ a0_0 a0_1 a0_2 a0_3 a0_4 a0_5 a0_6 (.slice A0_7 l0_7.length c0_7))] ?_; (with_reducible refine (tree_bare.calls a0_0 a0_1 a0_2 a0_3 a0_4 a0_5 a0_6 _ _ l0_7 true _ ?side1 ?side2 A8.out).mono ?_); (case side1 => exact cb_ HR0_7); (case side2 => exact HC0_7.out); rintro e w25 ⟨rfl, hb⟩; refine ⟨_, rfl, ?_⟩; replace BK104 := bb_ BK104 hb; replace HB := bs_ hb; (try clear hb); have Z26 := bz8_ BK104; have p107 : 0 ≤ (0 : Int) := (by omega); have q107 : 0 < (l0_7.length : Int) := od_; obtain ⟨ad107, A107_7, c107_7, e107, hx107_0, hx107_1, hx107_2, hx107_3, hx107_4, hx107_5, hx107_6, hx107_7, hl107_7, hi107_7⟩ := at_T27 HR0_7.out 0 p107 q107; cases e107; have qi107 : (0 < l0_7.length) = True := eq_true (by omega); replace hx107_0 := ai_ hx107_0; replace hx107_1 := ai_ hx107_1; replace hx107_2 := ai_ hx107_2; replace hx107_3 := ai_ hx107_3; replace hx107_4 := ai_ hx107_4; replace hx107_5 := ai_ hx107_5; replace hx107_6 := ai_ hx107_6; replace hx107_7 := ai_ hx107_7; replace hx107_0 := cl_ HB hx107_0; replace hx107_1 := cl_ HB hx107_1; replace hx107_2 := cl_ HB hx107_2; replace hx107_3 := cl_ HB hx107_3; replace hx107_4 := cl_ HB hx107_4; replace hx107_5 := cl_ HB hx107_5; replace hx107_6 := cl_ HB hx107_6; replace hx107_7 := cl_ HB hx107_7; have HR107_7 := A_ hi107_7; have HC107_7 := A_ hl107_7; clear hi107_7 hl107_7; replace p107 := eq_true p107; replace q107 := eq_true q107) | (go_at_call 29; (with_reducible refine (tree_End.calls k ((rd_T27 l0_7 0).f0) ((rd_T27 l0_7 0).f1.f0) ((rd_T27 l0_7 0).f1.f1) ((rd_T27 l0_7 0).f1.f2) ((rd_T27 l0_7 0).f1.f3) ((rd_T27 l0_7 0).f2) ((rd_T27 l0_7 0).f3) _ _ ((rd_T27 l0_7 0).f4) false _ ?side1 ?side2 A12.out).mono ?_); (case side1 => exact cb_ HR107_7); (case side2 => exact HC107_7.out); rintro e w27 ⟨rfl, hb⟩; replace BK104 := bb_ BK104 hb; replace HB := bs_ hb; (try clear hb)))
       go_ret; exact ⟨re_, hs_⟩
     ·rw [if_neg c11] at H
      exact absurd H (by simp)
    ·rw [if_neg c10] at H
     have c10b0 : ((l0_7.length : Int) == 2) = false := beq_eq_false_iff_ne.mpr c10; have c10b1 : ((l0_7.length : Int) != 2) = true := bne_iff_ne.mpr c10; obtain rfl := Option.some.inj H; go_enter Try.func19, Try.ntmps19; go_wp2_with (first | (refine gD 1 ?_; (try (refine gate_guard (by rfl) ?_; dsimp only)); refine bxe_ 1 (n8_ a0_0 a0_1 a0_2 a0_3 a0_4 a0_5 a0_6 (.slice A0_7 l0_7.length c0_7)) 27 ?_; intro gb104 hg w28 hbox hb; have BK104 := A_ (hbox); have GW104 := gs_ w hg; have GE104 := gs_ w hg; replace HB := bs_ hb; clear hb hbox hg; have Z29 := bz8_ BK104) | (refine gC 30 ?_; refine gL 12 Try.func30 #[.agg (n8_ a0_0 a0_1 a0_2 a0_3 a0_4 a0_5 a0_6 (.slice A0_7 l0_7.length c0_7))] ?_; (with_reducible refine (tree_bare.calls a0_0 a0_1 a0_2 a0_3 a0_4 a0_5 a0_6 _ _ l0_7 true _ ?side1 ?side2 A8.out).mono ?_); (case side1 => exact cb_ HR0_7); (case side2 => exact HC0_7.out); rintro e w30 ⟨rfl, hb⟩; refine ⟨_, rfl, ?_⟩; replace BK104 := bb_ BK104 hb; replace HB := bs_ hb; (try clear hb); have Z31 := bz8_ BK104))
     go_ret; exact ⟨re_, hs_⟩
   ·replace c9 := Bool.eq_false_iff.mpr c9
    subst c9; replace H := iN_ H; obtain rfl := Option.some.inj H; go_enter Try.func19, Try.ntmps19; go_wp2_with (first | (refine gD 1 ?_; (try (refine gate_guard (by rfl) ?_; dsimp only)); refine bxe_ 1 (n8_ a0_0 a0_1 a0_2 a0_3 a0_4 a0_5 a0_6 (.slice A0_7 l0_7.length c0_7)) 27 ?_; intro gb104 hg w32 hbox hb; have BK104 := A_ (hbox); have GW104 := gs_ w hg; have GE104 := gs_ w hg; replace HB := bs_ hb; clear hb hbox hg; have Z33 := bz8_ BK104) | (refine gC 30 ?_; refine gL 12 Try.func30 #[.agg (n8_ a0_0 a0_1 a0_2 a0_3 a0_4 a0_5 a0_6 (.slice A0_7 l0_7.length c0_7))] ?_; (with_reducible refine (tree_bare.calls a0_0 a0_1 a0_2 a0_3 a0_4 a0_5 a0_6 _ _ l0_7 false _ ?side1 ?side2 A8.out).mono ?_); (case side1 => exact cb_ HR0_7); (case side2 => exact HC0_7.out); rintro e w34 ⟨rfl, hb⟩; refine ⟨_, rfl, ?_⟩; replace BK104 := bb_ BK104 hb; replace HB := bs_ hb; (try clear hb))); go_ret; exact ⟨re_, hs_⟩
  ·rw [if_neg c7] at H
   have c7b0 : (a0_0 == 1) = false := beq_eq_false_iff_ne.mpr c7; have c7b1 : (a0_0 != 1) = true := bne_iff_ne.mpr c7
   by_cases c35 : a0_0 = 2
   ·rw [if_pos c35] at H
    have c35b0 : (a0_0 == 2) = true := beq_iff_eq.mpr c35; have c35b1 : (a0_0 != 2) = false := bne_eq_false_iff_eq.mpr c35; clear c35; obtain ⟨t111, A36, H⟩ := bi_ H
    by_cases c37 : t111 = true
    ·subst c37
     replace H := iP_ H
     by_cases c38 : (l0_7.length : Int) > 0
     ·rw [if_pos c38] at H
      have c38b0 := decide_eq_true c38; have c38b1 : decide (0 < l0_7.length) = true := decide_eq_true (by omega); clear c38; obtain ⟨t112, A39, H⟩ := bi_ H; obtain rfl := Option.some.inj H; go_enter Try.func19, Try.ntmps19; go_wp2_with (first | (refine gD 1 ?_; (try (refine gate_guard (by rfl) ?_; dsimp only)); refine bxe_ 1 (n8_ a0_0 a0_1 a0_2 a0_3 a0_4 a0_5 a0_6 (.slice A0_7 l0_7.length c0_7)) 27 ?_; intro gb104 hg w40 hbox hb; have BK104 := A_ (hbox); have GW104 := gs_ w hg; have GE104 := gs_ w hg; replace HB := bs_ hb; clear hb hbox hg; have Z41 := bz8_ BK104) | (refine gC 30 ?_; refine gL 36 Try.func30 #[.agg (n8_ a0_0 a0_1 a0_2 a0_3 a0_4 a0_5 a0_6 (.slice A0_7 l0_7.length c0_7))] ?_; (with_reducible refine (tree_bare.calls a0_0 a0_1 a0_2 a0_3 a0_4 a0_5 a0_6 _ _ l0_7 true _ ?side1 ?side2 A36.out).mono ?_); (case side1 => exact cb_ HR0_7); (case side2 => exact HC0_7.out); rintro e w42 ⟨rfl, hb⟩; refine ⟨_, rfl, ?_⟩; replace BK104 := bb_ BK104 hb; replace HB := bs_ hb; (try clear hb); have Z43 := bz8_ BK104) | (go_at_call 31; (with_reducible refine (slices_ContainsFunc.calls k ihS _ _ l0_7  t112 _ ?side1 ?side2 A39.out).mono ?_); (case side1 => exact cb_ HR0_7); (case side2 => exact HC0_7.out); rintro e w44 ⟨rfl, hb⟩; replace BK104 := bb_ BK104 hb; replace HB := bs_ hb; (try clear hb)))
      go_ret; exact ⟨re_, hs_⟩
     ·rw [if_neg c38] at H
      have c38b0 := decide_eq_false c38; have c38b1 : decide (0 < l0_7.length) = false := decide_eq_false (by omega); clear c38; obtain rfl := Option.some.inj H; go_enter Try.func19, Try.ntmps19; go_wp2_with (first | (refine gD 1 ?_; (try (refine gate_guard (by rfl) ?_; dsimp only)); refine bxe_ 1 (n8_ a0_0 a0_1 a0_2 a0_3 a0_4 a0_5 a0_6 (.slice A0_7 l0_7.length c0_7)) 27 ?_; intro gb104 hg w45 hbox hb; have BK104 := A_ (hbox); have GW104 := gs_ w hg; have GE104 := gs_ w hg; replace HB := bs_ hb; clear hb hbox hg; have Z46 := bz8_ BK104) | (refine gC 30 ?_; refine gL 36 Try.func30 #[.agg (n8_ a0_0 a0_1 a0_2 a0_3 a0_4 a0_5 a0_6 (.slice A0_7 l0_7.length c0_7))] ?_; (with_reducible refine (tree_bare.calls a0_0 a0_1 a0_2 a0_3 a0_4 a0_5 a0_6 _ _ l0_7 true _ ?side1 ?side2 A36.out).mono ?_); (case side1 => exact cb_ HR0_7); (case side2 => exact HC0_7.out); rintro e w47 ⟨rfl, hb⟩; refine ⟨_, rfl, ?_⟩; replace BK104 := bb_ BK104 hb; replace HB := bs_ hb; (try clear hb); have Z48 := bz8_ BK104))
      go_ret; exact ⟨re_, hs_⟩
    ·replace c37 := Bool.eq_false_iff.mpr c37
     subst c37; replace H := iN_ H; obtain rfl := Option.some.inj H; go_enter Try.func19, Try.ntmps19; go_wp2_with (first | (refine gD 1 ?_; (try (refine gate_guard (by rfl) ?_; dsimp only)); refine bxe_ 1 (n8_ a0_0 a0_1 a0_2 a0_3 a0_4 a0_5 a0_6 (.slice A0_7 l0_7.length c0_7)) 27 ?_; intro gb104 hg w49 hbox hb; have BK104 := A_ (hbox); have GW104 := gs_ w hg; have GE104 := gs_ w hg; replace HB := bs_ hb; clear hb hbox hg; have Z50 := bz8_ BK104) | (refine gC 30 ?_; refine gL 36 Try.func30 #[.agg (n8_ a0_0 a0_1 a0_2 a0_3 a0_4 a0_5 a0_6 (.slice A0_7 l0_7.length c0_7))] ?_; (with_reducible refine (tree_bare.calls a0_0 a0_1 a0_2 a0_3 a0_4 a0_5 a0_6 _ _ l0_7 false _ ?side1 ?side2 A36.out).mono ?_); (case side1 => exact cb_ HR0_7); (case side2 => exact HC0_7.out); rintro e w51 ⟨rfl, hb⟩; refine ⟨_, rfl, ?_⟩; replace BK104 := bb_ BK104 hb; replace HB := bs_ hb; (try clear hb))); go_ret; exact ⟨re_, hs_⟩
   ·rw [if_neg c35] at H
    have c35b0 : (a0_0 == 2) = false := beq_eq_false_iff_ne.mpr c35; have c35b1 : (a0_0 != 2) = true := bne_iff_ne.mpr c35; obtain rfl := Option.some.inj H; go_enter Try.func19, Try.ntmps19; go_wp2_with (first | (refine gD 1 ?_; (try (refine gate_guard (by rfl) ?_; dsimp only)); refine bxe_ 1 (n8_ a0_0 a0_1 a0_2 a0_3 a0_4 a0_5 a0_6 (.slice A0_7 l0_7.length c0_7)) 27 ?_; intro gb104 hg w52 hbox hb; have BK104 := A_ (hbox); have GW104 := gs_ w hg; have GE104 := gs_ w hg; replace HB := bs_ hb; clear hb hbox hg; have Z53 := bz8_ BK104)); go_ret; exact ⟨re_, hs_⟩
theorem tree_right.calls (k : Nat) : ∀ (a0_0 a0_1 : Int) (a0_2 a0_3 a0_4 : ByteArray) (a0_5 a0_6 : Bool) (A0_7 : Option Addr) (c0_7 : Nat) (l0_7 : List (S27)) (r : Bool) (w : World) (hr0_7 : Kd.C k27 w A0_7 l0_7.length l0_7) (hc0_7 : l0_7.length ≤ c0_7) (h : tree_right.f k a0_0 a0_1 a0_2 a0_3 a0_4 a0_5 a0_6 l0_7 = some r),
  Calls Try.prog 19 #[.agg #[.int .i64 a0_0, .int .i64 a0_1, .string a0_2, .string a0_3, .string a0_4, .bool a0_5, .bool a0_6, .slice A0_7 l0_7.length c0_7]] w fun e w' => e = .returned (.bool r) ∧ Below w.heap.size w w' := by
 induction k using Nat.strongRecOn with
 | _ k ih =>
 intro a0_0 a0_1 a0_2 a0_3 a0_4 a0_5 a0_6 A0_7 c0_7 l0_7 r w hr0_7 hc0_7 h
 cases k with
 | zero => exact absurd h (by simp [tree_right.f])
 | succ k =>
 rw [tree_right.f_succ] at h; exact tree_rightR.calls k (fun j hj => ih j (Nat.lt_succ_of_lt hj)) _ _ _ _ _ _ _ _ _ _ _ _ hr0_7 hc0_7 h
end Go.Proofs.Ytjgjhekpiijniaa.A
namespace Go.Proofs.Ytjgjhekpiijniaa.A
open Go.RowKit Go.Proofs.YtjgjhekpiijniaaW.PrintWords Go.Proofs.YtjgjhekpiijniaaW.PrintLast Go.Proofs.YtjgjhekpiijniaaW.PrintMore
attribute [local go_sem] max2_int min2_int max_two min_two max_three min_three max_four min_four isSome_setCell run_store_func_
set_option maxHeartbeats 8000000 in
set_option maxRecDepth 100000 in
theorem tree_Count_1.calls (w0 : World) (gq gf : Nat) (hgk : w0.heap.size ≤ gq) (hgc : w0.heap.size ≤ gf) (hne : gq ≠ gf) (k : Nat) : ∀ (a0_0 a0_1 : Int) (a0_2 a0_3 a0_4 : ByteArray) (a0_5 a0_6 : Bool) (A0_7 : Option Addr) (c0_7 : Nat) (l0_7 : List (S27)) (a1 r : Int) (w : World) (hr0_7 : Kd.C k27 w0 A0_7 l0_7.length l0_7) (hc0_7 : l0_7.length ≤ c0_7)
    (hB : Below w0.heap.size w0 w) (hK : w.heap[gq]? = some (.cells #[.int .i64 a1] 3 (0, 0))) (hC : w.heap[gf]? = some (.cells #[.func (.func 27) #[] #[.pointer (some ⟨gq, 0, none⟩), .pointer (some ⟨gf, 0, none⟩)]] 62 (0, 0)))
    (h : tree_Count_1.f k a0_0 a0_1 a0_2 a0_3 a0_4 a0_5 a0_6 l0_7 a1 = some r),
    Calls Try.prog 27 #[.agg #[.int .i64 a0_0, .int .i64 a0_1, .string a0_2, .string a0_3, .string a0_4, .bool a0_5, .bool a0_6, .slice A0_7 l0_7.length c0_7], .pointer (some ⟨gq, 0, none⟩), .pointer (some ⟨gf, 0, none⟩)] w fun e w' => (∃ v, e = .returned v) ∧ Below w0.heap.size w0 w' ∧ w'.heap[gq]? = some (.cells #[.int .i64 r] 3 (0, 0)) ∧ w'.heap[gf]? = some (.cells #[.func (.func 27) #[] #[.pointer (some ⟨gq, 0, none⟩), .pointer (some ⟨gf, 0, none⟩)]] 62 (0, 0)) := by
  induction k using Nat.strongRecOn with
  | _ k ih =>
  intro a0_0 a0_1 a0_2 a0_3 a0_4 a0_5 a0_6 A0_7 c0_7 l0_7 a1 r w hr0_7 hc0_7 hB hK hC h
  cases k with
  | zero => exact absurd h (by simp [tree_Count_1.f])
  | succ k =>
  simp only [tree_Count_1.f] at h
  have hu27 := Try.underlying27
  have HR0_7 := A_ hr0_7
  have HC0_7 := A_ hc0_7
  clear hr0_7 hc0_7
  have HB := A_ hB
  have HK := A_ hK
  have HC := A_ hC
  have HGK := A_ hgk
  have HGC := A_ hgc
  have hne2 := Ne.symm hne
  clear hB hK hC hgk hgc
  have H : (tree_Count_1.l0 k (wrap64 (a1 + 1)) l0_7 (l0_7.length : Int) 0) = some r := h
  clear h
  have H' := A_ H
  clear H
  go_enter Try.func27, Try.ntmps27
  go_wp2_with (first | (refine gD 3 ?_; refine bxe_ 3 (n8_ a0_0 a0_1 a0_2 a0_3 a0_4 a0_5 a0_6 (.slice A0_7 l0_7.length c0_7)) 27 ?_; intro gb101 hg w3 hbox hb; have n0_ := A_ (below_step HB.out hb); have n1_ := A_ (blk_below HK.out hb); have n2_ := A_ (blk_below HC.out hb); have NB1 : gq ≠ gb101 := Nat.ne_of_lt (Nat.lt_of_lt_of_le (blk_lt HK.out) (Nat.le_of_eq hg.symm)); have NB2 : gb101 ≠ gq := Ne.symm NB1; clear HB HK HC; have HB := n0_; have HK := n1_; have HC := n2_; clear n0_ n1_ n2_; have hcz4_7 : w3.cell? ⟨gb101, 7, none⟩ = some (.slice A0_7 l0_7.length c0_7) := (blk_cell hbox 7).trans rfl; have hfz4_7 := blk_frozen hbox 7; have hkz : w3.cell? ⟨gq, 0, none⟩ = some (.int .i64 a1) := bq_ HK 0; have hkf := blk_frozen HK.out 0; clear hb hbox hg))
  go_loopg [11] k (fun kq v11 w' => ∃ (x1_1 : Int) (x11_1 : Int), v11 = .int .i64 x11_1 ∧ Aside0 (tree_Count_1.l0 kq x1_1 l0_7 (l0_7.length : Int) x11_1 = some r) ∧ Aside0 (kq ≤ k) ∧ Aside0 (w'.heap[gq]? = some (.cells #[.int .i64 x1_1] 3 (0, 0))) ∧ Aside0 (w'.heap[gf]? = some (.cells #[.func (.func 27) #[] #[.pointer (some ⟨gq, 0, none⟩), .pointer (some ⟨gf, 0, none⟩)]] 62 (0, 0))) ∧ Aside0 (Below w0.heap.size w0 w'))
  case atStart => exact ⟨(wrap64 (a1 + 1)), (0), (by first | rfl | (simp; done) | (simp [*]; done)), H', ⟨Nat.le_refl _⟩, ⟨blk_put HK.out 0 _ rfl⟩, ⟨blk_far HC.out hne2 _⟩, ⟨below_set HB.out HGK.out⟩⟩
  case round =>
    clear H' HB HK HC hkz hkf hcz4_7 hfz4_7 NB1 NB2
    obtain ⟨x1_1, x11_1, rfl, HA, HK1, HK, HC, HB⟩ := hrel
    cases gk with
    | zero => exact absurd HA.out (by simp [tree_Count_1.l0])
    | succ k1 =>
      have H := HA.out
      clear HA
      simp only [tree_Count_1.l0] at H
      by_cases c5 : x11_1 < (l0_7.length : Int)
      · rw [if_pos c5] at H
        have c5b0 := decide_eq_true c5
        clear c5
        by_cases c6 : 0 ≤ x11_1
        · rw [if_pos c6] at H
          have c6b0 := decide_eq_true c6
          clear c6
          by_cases c7 : x11_1 < (l0_7.length : Int)
          · rw [if_pos c7] at H
            have c7b0 := decide_eq_true c7
            clear c7
            replace H := Option.bind_eq_some_iff.mp H
            obtain ⟨t104, A80, H⟩ := H
            replace H : (tree_Count_1.l0 k1 t104 l0_7 (l0_7.length : Int) (wrap64 (x11_1 + 1))) = some r := H
            have A8 := A_ A80
            clear A80
            have H' := A_ H
            clear H
            have p102 : 0 ≤ (x11_1 : Int) := of_decide_eq_true (by first | (with_reducible assumption) | assumption)
            have q102 : x11_1 < (l0_7.length : Int) := of_decide_eq_true (by first | (with_reducible assumption) | assumption)
            obtain ⟨ad102, A102_7, c102_7, e102, hx102_0, hx102_1, hx102_2, hx102_3, hx102_4, hx102_5, hx102_6, hx102_7, hl102_7, hi102_7⟩ := at_T27 HR0_7.out x11_1 p102 q102
            cases e102
            replace hx102_0 := cl_ HB hx102_0
            replace hx102_1 := cl_ HB hx102_1
            replace hx102_2 := cl_ HB hx102_2
            replace hx102_3 := cl_ HB hx102_3
            replace hx102_4 := cl_ HB hx102_4
            replace hx102_5 := cl_ HB hx102_5
            replace hx102_6 := cl_ HB hx102_6
            replace hx102_7 := cl_ HB hx102_7
            have HR102_7 := A_ hi102_7
            have HC102_7 := A_ hl102_7
            clear hi102_7 hl102_7
            replace p102 := eq_true p102
            replace q102 := eq_true q102
            go_wp2_with (first | (refine gD 5 ?_; refine bxe_ 5 z8_ 27 ?_; intro gb103 hg w9 hbox hb; have n0_ := A_ (below_step HB.out hb); have n1_ := A_ (blk_below HK.out hb); have n2_ := A_ (blk_below HC.out hb); have NB1 := A_ (Nat.ne_of_lt (Nat.lt_of_lt_of_le (blk_lt HK.out) (Nat.le_of_eq hg.symm)) : gq ≠ gb103); have NB3 := A_ (Nat.ne_of_lt (Nat.lt_of_lt_of_le (blk_lt HC.out) (Nat.le_of_eq hg.symm)) : gf ≠ gb103); have GE103 := A_ (Nat.le_trans HB.out.size (Nat.le_of_eq hg.symm) : w0.heap.size ≤ gb103); clear HB HK HC; have HB := n0_; have HK := n1_; have HC := n2_; clear n0_ n1_ n2_; have nb1 := NB1.out; have nb2 := Ne.symm nb1; have nb3 := NB3.out; have nb4 := Ne.symm nb3; have hcz11_0 : w9.cell? ⟨gb103, 0, none⟩ = some (.int .i64 0) := (blk_cell hbox 0).trans rfl; have hfz11_0 := blk_frozen hbox 0; have hcz11_1 : w9.cell? ⟨gb103, 1, none⟩ = some (.int .i64 0) := (blk_cell hbox 1).trans rfl; have hfz11_1 := blk_frozen hbox 1; have hcz11_2 : w9.cell? ⟨gb103, 2, none⟩ = some (.string ⟨#[]⟩) := (blk_cell hbox 2).trans rfl; have hfz11_2 := blk_frozen hbox 2; have hcz11_3 : w9.cell? ⟨gb103, 3, none⟩ = some (.string ⟨#[]⟩) := (blk_cell hbox 3).trans rfl; have hfz11_3 := blk_frozen hbox 3; have hcz11_4 : w9.cell? ⟨gb103, 4, none⟩ = some (.string ⟨#[]⟩) := (blk_cell hbox 4).trans rfl; have hfz11_4 := blk_frozen hbox 4; have hcz11_5 : w9.cell? ⟨gb103, 5, none⟩ = some (.bool false) := (blk_cell hbox 5).trans rfl; have hfz11_5 := blk_frozen hbox 5; have hcz11_6 : w9.cell? ⟨gb103, 6, none⟩ = some (.bool false) := (blk_cell hbox 6).trans rfl; have hfz11_6 := blk_frozen hbox 6; have hcz11_7 : w9.cell? ⟨gb103, 7, none⟩ = some (.slice none 0 0) := (blk_cell hbox 7).trans rfl; have hfz11_7 := blk_frozen hbox 7; have hcf : w9.cell? ⟨gf, 0, none⟩ = some (.func (.func 27) #[] #[.pointer (some ⟨gq, 0, none⟩), .pointer (some ⟨gf, 0, none⟩)]) := bq_ HC 0; have hff := blk_frozen HC.out 0; clear hb hbox hg) | ((with_reducible refine gate_held rfl ?_); refine goesF_ (some 17) rfl rfl #[.pointer (some ⟨gq, 0, none⟩), .pointer (some ⟨gf, 0, none⟩)] Try.func27 (by kernel_rfl) rfl #[.agg #[.int .i64 ((rd_T27 l0_7 x11_1).f0), .int .i64 ((rd_T27 l0_7 x11_1).f1.f0), .string ((rd_T27 l0_7 x11_1).f1.f1), .string ((rd_T27 l0_7 x11_1).f1.f2), .string ((rd_T27 l0_7 x11_1).f1.f3), .bool ((rd_T27 l0_7 x11_1).f2), .bool ((rd_T27 l0_7 x11_1).f3), .slice A102_7 ((rd_T27 l0_7 x11_1).f4).length c102_7], .pointer (some ⟨gq, 0, none⟩), .pointer (some ⟨gf, 0, none⟩)] rfl rfl (by (simp only [List.map_toArray, List.map_cons, List.map_nil, List.append_toArray, List.cons_append, List.nil_append]); rfl) ?_; (refine (ih k1 (Nat.lt_succ_of_lt HK1.out) ((rd_T27 l0_7 x11_1).f0) ((rd_T27 l0_7 x11_1).f1.f0) ((rd_T27 l0_7 x11_1).f1.f1) ((rd_T27 l0_7 x11_1).f1.f2) ((rd_T27 l0_7 x11_1).f1.f3) ((rd_T27 l0_7 x11_1).f2) ((rd_T27 l0_7 x11_1).f3) _ _ ((rd_T27 l0_7 x11_1).f4) x1_1 t104 _ HR102_7.out HC102_7.out ?sb ?sk ?sc A8.out).mono ?_); (case sb => exact (below_set (below_set (below_set (below_set (below_set (below_set (below_set (below_set HB.out GE103.out) GE103.out) GE103.out) GE103.out) GE103.out) GE103.out) GE103.out) GE103.out)); (case sk => exact (blk_far (blk_far (blk_far (blk_far (blk_far (blk_far (blk_far (blk_far HK.out NB1.out _) NB1.out _) NB1.out _) NB1.out _) NB1.out _) NB1.out _) NB1.out _) NB1.out _)); (case sc => exact (blk_far (blk_far (blk_far (blk_far (blk_far (blk_far (blk_far (blk_far HC.out NB3.out _) NB3.out _) NB3.out _) NB3.out _) NB3.out _) NB3.out _) NB3.out _) NB3.out _)); rintro e w12 ⟨⟨v_, rfl⟩, hb, hk, hc⟩; refine ⟨_, rfl, ?_⟩; clear HB HK HC; have HB := A_ hb; have HK := A_ hk; have HC := A_ hc; clear hb hk hc))
            go_roundg k1
            case measure => have := HK1.out; omega
            case rel => exact ⟨(t104), (wrap64 (x11_1 + 1)), (by first | rfl | (simp; done) | (simp [*]; done)), H', ⟨by have := HK1.out; omega⟩, HK, HC, HB⟩
          · rw [if_neg c7] at H
            exact absurd H (by simp)
        · rw [if_neg c6] at H
          exact absurd H (by simp)
      · rw [if_neg c5] at H
        have c5b0 := decide_eq_false c5
        clear c5
        obtain rfl := Option.some.inj H
        go_wp2
        refine bodyPost_end (results_none rfl _ _ _) rfl ⟨⟨_, rfl⟩, HB.out, HK.out, HC.out⟩
set_option maxHeartbeats 8000000 in
set_option maxRecDepth 100000 in
theorem tree_Count.calls (k : Nat) (a0_0 a0_1 : Int) (a0_2 a0_3 a0_4 : ByteArray) (a0_5 a0_6 : Bool) (A0_7 : Option Addr) (c0_7 : Nat) (l0_7 : List (S27)) (r : Int) (w : World) (hr0_7 : Kd.C k27 w A0_7 l0_7.length l0_7) (hc0_7 : l0_7.length ≤ c0_7) (h : tree_Count.f k a0_0 a0_1 a0_2 a0_3 a0_4 a0_5 a0_6 l0_7 = some r) :
    Calls Try.prog 17 #[.agg #[.int .i64 a0_0, .int .i64 a0_1, .string a0_2, .string a0_3, .string a0_4, .bool a0_5, .bool a0_6, .slice A0_7 l0_7.length c0_7]] w fun e w' => e = .returned (.int .i64 r) ∧ Below w.heap.size w w' := by
  have hu27 := Try.underlying27
  have HR0_7 := A_ hr0_7
  have HC0_7 := A_ hc0_7
  have H' := A_ (show tree_Count_1.f k a0_0 a0_1 a0_2 a0_3 a0_4 a0_5 a0_6 l0_7 0 = some r from h)
  have HB := A_ (Below.refl w.heap.size w)
  clear hr0_7 hc0_7 h
  go_enter Try.func17, Try.ntmps17
  go_wp2_with (first | (refine gD 1 ?_; refine bxe_ 1 (n8_ a0_0 a0_1 a0_2 a0_3 a0_4 a0_5 a0_6 (.slice A0_7 l0_7.length c0_7)) 27 ?_; intro gn hg w1 hbox hb; replace HB := A_ (below_step HB.out hb); have HN := A_ hbox; clear hbox; clear hb hg) | (refine gD 3 ?_; refine bxe_ 3 #[.int .i64 0] 3 ?_; intro gq hg w2 hbox hb; have NE1 := A_ (Nat.ne_of_lt (Nat.lt_of_lt_of_le (blk_lt HN.out) (Nat.le_of_eq hg.symm)) : gn ≠ gq); have n0_ := A_ (below_step HB.out hb); have n1_ := A_ (blk_below HN.out hb); have GQ := A_ (Nat.le_trans HB.out.size (Nat.le_of_eq hg.symm) : w.heap.size ≤ gq); clear HB HN; have HB := n0_; have HN := n1_; clear n0_ n1_; have hq0 : w2.cell? ⟨gq, 0, none⟩ = some (.int .i64 0) := (blk_cell hbox 0).trans rfl; have hq1 := blk_frozen hbox 0; have HQ := A_ hbox; clear hbox; clear hb hg) | (refine gD 4 ?_; refine bxe_ 4 #[.nilFunc] 62 ?_; intro gf hg w3 hbox hb; have HQ2 := A_ (blk_put (cs' := #[.int .i64 0]) HQ.out 0 (.int .i64 0) rfl); have HN2 := A_ (blk_far HN.out NE1.out (p := ⟨gq, 0, none⟩) (.int .i64 0)); have HB2 := A_ (below_set (j := 0) (v := .int .i64 0) HB.out GQ.out); clear HQ HN HB hq0 hq1; have NE2 := A_ (Nat.ne_of_lt (Nat.lt_of_lt_of_le (blk_lt HN2.out) (Nat.le_of_eq hg.symm)) : gn ≠ gf); have NE3 := A_ (Nat.ne_of_lt (Nat.lt_of_lt_of_le (blk_lt HQ2.out) (Nat.le_of_eq hg.symm)) : gq ≠ gf); have HB := A_ (below_step HB2.out hb); have HN := A_ (blk_below HN2.out hb); have HQ := A_ (blk_below HQ2.out hb); have GF := A_ (Nat.le_trans HB2.out.size (Nat.le_of_eq hg.symm) : w.heap.size ≤ gf); clear HB2 HN2 HQ2; have hf0 : w3.cell? ⟨gf, 0, none⟩ = some .nilFunc := (blk_cell hbox 0).trans rfl; have hf1 := blk_frozen hbox 0; have hn0 : w3.cell? ⟨gn, 0, none⟩ = some (.int .i64 a0_0) := bq_ HN 0; have hm0 := blk_frozen HN.out 0; have hn1 : w3.cell? ⟨gn, 1, none⟩ = some (.int .i64 a0_1) := bq_ HN 1; have hm1 := blk_frozen HN.out 1; have hn2 : w3.cell? ⟨gn, 2, none⟩ = some (.string a0_2) := bq_ HN 2; have hm2 := blk_frozen HN.out 2; have hn3 : w3.cell? ⟨gn, 3, none⟩ = some (.string a0_3) := bq_ HN 3; have hm3 := blk_frozen HN.out 3; have hn4 : w3.cell? ⟨gn, 4, none⟩ = some (.string a0_4) := bq_ HN 4; have hm4 := blk_frozen HN.out 4; have hn5 : w3.cell? ⟨gn, 5, none⟩ = some (.bool a0_5) := bq_ HN 5; have hm5 := blk_frozen HN.out 5; have hn6 : w3.cell? ⟨gn, 6, none⟩ = some (.bool a0_6) := bq_ HN 6; have hm6 := blk_frozen HN.out 6; have hn7 : w3.cell? ⟨gn, 7, none⟩ = some (.slice A0_7 l0_7.length c0_7) := bq_ HN 7; have hm7 := blk_frozen HN.out 7; have e1 := NE2.out; have e2 := Ne.symm e1; have HF := A_ hbox; clear hbox; clear hb hg) | ((with_reducible refine gate_held rfl ?_); refine goesF_ (some 8) rfl rfl #[.pointer (some ⟨gq, 0, none⟩), .pointer (some ⟨gf, 0, none⟩)] Try.func27 (by kernel_rfl) rfl #[.agg #[.int .i64 a0_0, .int .i64 a0_1, .string a0_2, .string a0_3, .string a0_4, .bool a0_5, .bool a0_6, .slice A0_7 l0_7.length c0_7], .pointer (some ⟨gq, 0, none⟩), .pointer (some ⟨gf, 0, none⟩)] rfl rfl (by (simp only [List.map_toArray, List.map_cons, List.map_nil, List.append_toArray, List.cons_append, List.nil_append]); rfl) ?_; (refine (tree_Count_1.calls w gq gf GQ.out GF.out NE3.out k a0_0 a0_1 a0_2 a0_3 a0_4 a0_5 a0_6 _ _ l0_7 0 r _ HR0_7.out HC0_7.out (below_set HB.out GF.out) (blk_far HQ.out NE3.out _) (blk_put HF.out 0 _ rfl) H'.out).mono ?_); rintro e w5 ⟨⟨v_, rfl⟩, hb, hk, hc⟩; refine ⟨_, rfl, ?_⟩; have hk0 : w5.cell? ⟨gq, 0, none⟩ = some (.int .i64 r) := (blk_cell hk 0).trans rfl; have hk1 := blk_frozen hk 0; have HB5 := A_ hb; clear hb hk hc))
  go_ret
  exact ⟨rfl, HB5.out⟩
set_option maxHeartbeats 8000000 in
set_option maxRecDepth 100000 in
theorem tree_Deep_1.calls (w0 : World) (gq gf : Nat) (hgq : w0.heap.size ≤ gq) (hgf : w0.heap.size ≤ gf) (hne : gq ≠ gf) (k : Nat) : ∀ (a0_0 a0_1 : Int) (a0_2 a0_3 a0_4 : ByteArray) (a0_5 a0_6 : Bool) (A0_7 : Option Addr) (c0_7 : Nat) (l0_7 : List (S27)) (a1 a2 r : Int) (w : World) (hr0_7 : Kd.C k27 w0 A0_7 l0_7.length l0_7) (hc0_7 : l0_7.length ≤ c0_7)
    (hB : Below w0.heap.size w0 w) (hK : w.heap[gq]? = some (.cells #[.int .i64 a2] 3 (0, 0))) (hC : w.heap[gf]? = some (.cells #[.func (.func 28) #[] #[.pointer (some ⟨gq, 0, none⟩), .pointer (some ⟨gf, 0, none⟩)]] 63 (0, 0)))
    (h : tree_Deep_1.f k a0_0 a0_1 a0_2 a0_3 a0_4 a0_5 a0_6 l0_7 a1 a2 = some r),
    Calls Try.prog 28 #[.agg #[.int .i64 a0_0, .int .i64 a0_1, .string a0_2, .string a0_3, .string a0_4, .bool a0_5, .bool a0_6, .slice A0_7 l0_7.length c0_7], .int .i64 a1, .pointer (some ⟨gq, 0, none⟩), .pointer (some ⟨gf, 0, none⟩)] w fun e w' => (∃ v, e = .returned v) ∧ Below w0.heap.size w0 w' ∧ w'.heap[gq]? = some (.cells #[.int .i64 r] 3 (0, 0)) ∧ w'.heap[gf]? = some (.cells #[.func (.func 28) #[] #[.pointer (some ⟨gq, 0, none⟩), .pointer (some ⟨gf, 0, none⟩)]] 63 (0, 0)) := by
  induction k using Nat.strongRecOn with
  | _ k ih =>
  intro a0_0 a0_1 a0_2 a0_3 a0_4 a0_5 a0_6 A0_7 c0_7 l0_7 a1 a2 r w hr0_7 hc0_7 hB hK hC h
  cases k with
  | zero => exact absurd h (by simp [tree_Deep_1.f])
  | succ k =>
  simp only [tree_Deep_1.f] at h
  have hu27 := Try.underlying27
  have HR0_7 := A_ hr0_7
  have HC0_7 := A_ hc0_7
  clear hr0_7 hc0_7
  have HB := A_ hB
  have HK := A_ hK
  have HC := A_ hC
  have HGK := A_ hgq
  have HGC := A_ hgf
  have hne2 := Ne.symm hne
  clear hB hK hC hgq hgf
  have HC4 := A_ h
  clear h
  go_enter Try.func28, Try.ntmps28
  go_upto_if 10 with (first | (refine gD 4 ?_; refine bxe_ 4 (n8_ a0_0 a0_1 a0_2 a0_3 a0_4 a0_5 a0_6 (.slice A0_7 l0_7.length c0_7)) 27 ?_; intro gb105 hg w3 hbox hb; have n0_ := A_ (below_step HB.out hb); have n1_ := A_ (blk_below HK.out hb); have n2_ := A_ (blk_below HC.out hb); have NB1 := A_ (Nat.ne_of_lt (Nat.lt_of_lt_of_le (blk_lt HK.out) (Nat.le_of_eq hg.symm)) : gq ≠ gb105); clear HB HK HC; have HB := n0_; have HK := n1_; have HC := n2_; clear n0_ n1_ n2_; have BK105 := A_ hbox; have hcz4_0 : w3.cell? ⟨gb105, 0, none⟩ = some (.int .i64 a0_0) := (blk_cell hbox 0).trans rfl; have hfz4_0 := blk_frozen hbox 0; clear hb hbox hg))
  (try simp only [Act.put, List.setIfInBounds_toArray, List.set_cons_zero, List.set_cons_succ])
  go_cut [1] (fun v1 wc => ∃ (kq : Nat) (x1_3 : Int), v1 = .int .i64 x1_3 ∧ Aside0 (tree_Deep_1.j0 kq x1_3 a2 a0_0 a0_1 a0_2 a0_3 a0_4 a0_5 a0_6 l0_7 = some r) ∧ Aside0 (kq ≤ k) ∧ Aside0 (wc.heap[gb105]? = some (.cells (n8_ a0_0 a0_1 a0_2 a0_3 a0_4 a0_5 a0_6 (.slice A0_7 l0_7.length c0_7)) 27 (0, 0))) ∧ Aside0 (wc.heap[gq]? = some (.cells #[.int .i64 a2] 3 (0, 0))) ∧ Aside0 (wc.heap[gf]? = some (.cells #[.func (.func 28) #[] #[.pointer (some ⟨gq, 0, none⟩), .pointer (some ⟨gf, 0, none⟩)]] 63 (0, 0))) ∧ Aside0 (Below w0.heap.size w0 wc))
  case first =>
    have H := HC4.out
    clear HC4
    by_cases c7 : a0_0 = 2
    · rw [if_pos c7] at H
      have c7b0 : (a0_0 == 2) = true := beq_iff_eq.mpr c7
      have c7b1 : (a0_0 != 2) = false := bne_eq_false_iff_eq.mpr c7
      clear c7
      (first | rw [c7b0] | (simp only [i64_w, i32_w]; rw [c7b0]) | skip)
      have H' := A_ H
      clear H
      go_wp2
      go_meet
      case rel => exact ⟨_, (wrap64 (a1 + 1)), (by first | rfl | (simp; done) | (simp [*]; done)), H', ⟨by first | omega | exact Nat.le_refl _⟩, BK105, HK, HC, HB⟩
    · rw [if_neg c7] at H
      have c7b0 : (a0_0 == 2) = false := beq_eq_false_iff_ne.mpr c7
      have c7b1 : (a0_0 != 2) = true := bne_iff_ne.mpr c7
      (first | rw [c7b0] | (simp only [i64_w, i32_w]; rw [c7b0]) | skip)
      have H' := A_ H
      clear H
      go_wp2
      go_meet
      case rel => exact ⟨_, (a1), (by first | rfl | (simp; done) | (simp [*]; done)), H', ⟨by first | omega | exact Nat.le_refl _⟩, BK105, HK, HC, HB⟩
  case rest =>
    clear HC4 HB HK HC BK105
    obtain ⟨kq, x1_3, rfl, HA, HJ3, BK105, HK, HC, HB⟩ := hcut
    cases kq with
    | zero => exact absurd HA.out (by simp [tree_Deep_1.j0])
    | succ kj3 =>
      have H' := A_ (show (tree_Deep_1.l0 kj3 x1_3 (mx a2 x1_3) l0_7 (l0_7.length : Int) 0) = some r by have H := HA.out; simp only [tree_Deep_1.j0] at H; exact H)
      clear HA
      obtain ⟨ji8, hji8⟩ : ∃ j_ : Int, (mx a2 x1_3) = j_ := ⟨_, rfl⟩
      rw [hji8] at H'
      have hji8_ : (if a2 < x1_3 then x1_3 else a2) = ji8 := hji8
      have nb1 := NB1.out
      have nb2 := Ne.symm nb1
      have hkz : wc.cell? ⟨gq, 0, none⟩ = some (.int .i64 a2) := bq_ HK 0
      have hkf := blk_frozen HK.out 0
      have hbz : wc.cell? ⟨gb105, 7, none⟩ = some (.slice A0_7 l0_7.length c0_7) := bq_ BK105 7
      have hbf := blk_frozen BK105.out 7
      go_wp2
      go_loopg [19] kj3 (fun kq v19 w' => ∃ (x1_1 : Int) (x11_1 : Int), v19 = .int .i64 x11_1 ∧ Aside0 (tree_Deep_1.l0 kq x1_3 x1_1 l0_7 (l0_7.length : Int) x11_1 = some r) ∧ Aside0 (kq ≤ kj3) ∧ Aside0 (w'.heap[gq]? = some (.cells #[.int .i64 x1_1] 3 (0, 0))) ∧ Aside0 (w'.heap[gf]? = some (.cells #[.func (.func 28) #[] #[.pointer (some ⟨gq, 0, none⟩), .pointer (some ⟨gf, 0, none⟩)]] 63 (0, 0))) ∧ Aside0 (Below w0.heap.size w0 w'))
      case atStart => exact ⟨ji8, 0, (by first | rfl | (simp; done) | (simp [*]; done)), H', ⟨Nat.le_refl _⟩, ⟨blk_put HK.out 0 _ rfl⟩, ⟨blk_far HC.out hne2 _⟩, ⟨below_set HB.out HGK.out⟩⟩
      case round =>
        clear H' HB HK HC hkz hkf hbz hbf nb1 nb2 NB1 BK105
        obtain ⟨x1_1, x11_1, rfl, HA, HK1, HK, HC, HB⟩ := hrel
        cases gk with
        | zero => exact absurd HA.out (by simp [tree_Deep_1.l0])
        | succ k1 =>
          have H := HA.out
          clear HA
          simp only [tree_Deep_1.l0] at H
          by_cases c5 : x11_1 < (l0_7.length : Int)
          · rw [if_pos c5] at H
            have c5b0 := decide_eq_true c5
            clear c5
            by_cases c6 : 0 ≤ x11_1
            · rw [if_pos c6] at H
              have c6b0 := decide_eq_true c6
              clear c6
              by_cases c7 : x11_1 < (l0_7.length : Int)
              · rw [if_pos c7] at H
                have c7b0 := decide_eq_true c7
                clear c7
                replace H := Option.bind_eq_some_iff.mp H
                obtain ⟨t104, A80, H⟩ := H
                have A8 := A_ A80
                clear A80
                have H' := A_ (show (tree_Deep_1.l0 k1 x1_3 t104 l0_7 (l0_7.length : Int) (wrap64 (x11_1 + 1))) = some r from H)
                clear H
                have p102 : 0 ≤ (x11_1 : Int) := of_decide_eq_true (by first | (with_reducible assumption) | assumption)
                have q102 : x11_1 < (l0_7.length : Int) := of_decide_eq_true (by first | (with_reducible assumption) | assumption)
                obtain ⟨ad102, A102_7, c102_7, e102, hx102_0, hx102_1, hx102_2, hx102_3, hx102_4, hx102_5, hx102_6, hx102_7, hl102_7, hi102_7⟩ := at_T27 HR0_7.out x11_1 p102 q102
                cases e102
                replace hx102_0 := cl_ HB hx102_0
                replace hx102_1 := cl_ HB hx102_1
                replace hx102_2 := cl_ HB hx102_2
                replace hx102_3 := cl_ HB hx102_3
                replace hx102_4 := cl_ HB hx102_4
                replace hx102_5 := cl_ HB hx102_5
                replace hx102_6 := cl_ HB hx102_6
                replace hx102_7 := cl_ HB hx102_7
                have HR102_7 := A_ hi102_7
                have HC102_7 := A_ hl102_7
                clear hi102_7 hl102_7
                replace p102 := eq_true p102
                replace q102 := eq_true q102
                have HLT := A_ (show k1 < k + 1 from Nat.lt_succ_of_lt (Nat.lt_of_lt_of_le (Nat.lt_of_lt_of_le (Nat.lt_succ_self k1) HK1.out) (Nat.le_trans (Nat.le_succ _) HJ3.out)))
                go_wp2_with (first | (refine gD 7 ?_; refine bxe_ 7 z8_ 27 ?_; intro gb103 hg w9 hbox hb; have n0_ := A_ (below_step HB.out hb); have n1_ := A_ (blk_below HK.out hb); have n2_ := A_ (blk_below HC.out hb); have NB1 := A_ (Nat.ne_of_lt (Nat.lt_of_lt_of_le (blk_lt HK.out) (Nat.le_of_eq hg.symm)) : gq ≠ gb103); have NB3 := A_ (Nat.ne_of_lt (Nat.lt_of_lt_of_le (blk_lt HC.out) (Nat.le_of_eq hg.symm)) : gf ≠ gb103); have GE103 := A_ (Nat.le_trans HB.out.size (Nat.le_of_eq hg.symm) : w0.heap.size ≤ gb103); clear HB HK HC; have HB := n0_; have HK := n1_; have HC := n2_; clear n0_ n1_ n2_; have nb1 := NB1.out; have nb2 := Ne.symm nb1; have nb3 := NB3.out; have nb4 := Ne.symm nb3; have hcz11_0 : w9.cell? ⟨gb103, 0, none⟩ = some (.int .i64 0) := (blk_cell hbox 0).trans rfl; have hfz11_0 := blk_frozen hbox 0; have hcz11_1 : w9.cell? ⟨gb103, 1, none⟩ = some (.int .i64 0) := (blk_cell hbox 1).trans rfl; have hfz11_1 := blk_frozen hbox 1; have hcz11_2 : w9.cell? ⟨gb103, 2, none⟩ = some (.string ⟨#[]⟩) := (blk_cell hbox 2).trans rfl; have hfz11_2 := blk_frozen hbox 2; have hcz11_3 : w9.cell? ⟨gb103, 3, none⟩ = some (.string ⟨#[]⟩) := (blk_cell hbox 3).trans rfl; have hfz11_3 := blk_frozen hbox 3; have hcz11_4 : w9.cell? ⟨gb103, 4, none⟩ = some (.string ⟨#[]⟩) := (blk_cell hbox 4).trans rfl; have hfz11_4 := blk_frozen hbox 4; have hcz11_5 : w9.cell? ⟨gb103, 5, none⟩ = some (.bool false) := (blk_cell hbox 5).trans rfl; have hfz11_5 := blk_frozen hbox 5; have hcz11_6 : w9.cell? ⟨gb103, 6, none⟩ = some (.bool false) := (blk_cell hbox 6).trans rfl; have hfz11_6 := blk_frozen hbox 6; have hcz11_7 : w9.cell? ⟨gb103, 7, none⟩ = some (.slice none 0 0) := (blk_cell hbox 7).trans rfl; have hfz11_7 := blk_frozen hbox 7; have hcf : w9.cell? ⟨gf, 0, none⟩ = some (.func (.func 28) #[] #[.pointer (some ⟨gq, 0, none⟩), .pointer (some ⟨gf, 0, none⟩)]) := bq_ HC 0; have hff := blk_frozen HC.out 0; clear hb hbox hg) | ((with_reducible refine gate_held rfl ?_); refine goesF_ (some 26) rfl rfl #[.pointer (some ⟨gq, 0, none⟩), .pointer (some ⟨gf, 0, none⟩)] Try.func28 (by kernel_rfl) rfl #[.agg #[.int .i64 ((rd_T27 l0_7 x11_1).f0), .int .i64 ((rd_T27 l0_7 x11_1).f1.f0), .string ((rd_T27 l0_7 x11_1).f1.f1), .string ((rd_T27 l0_7 x11_1).f1.f2), .string ((rd_T27 l0_7 x11_1).f1.f3), .bool ((rd_T27 l0_7 x11_1).f2), .bool ((rd_T27 l0_7 x11_1).f3), .slice A102_7 ((rd_T27 l0_7 x11_1).f4).length c102_7], .int .i64 x1_3, .pointer (some ⟨gq, 0, none⟩), .pointer (some ⟨gf, 0, none⟩)] rfl rfl (by (simp only [List.map_toArray, List.map_cons, List.map_nil, List.append_toArray, List.cons_append, List.nil_append]); rfl) ?_; (refine (ih k1 HLT.out ((rd_T27 l0_7 x11_1).f0) ((rd_T27 l0_7 x11_1).f1.f0) ((rd_T27 l0_7 x11_1).f1.f1) ((rd_T27 l0_7 x11_1).f1.f2) ((rd_T27 l0_7 x11_1).f1.f3) ((rd_T27 l0_7 x11_1).f2) ((rd_T27 l0_7 x11_1).f3) _ _ ((rd_T27 l0_7 x11_1).f4) x1_3 x1_1 t104 _ HR102_7.out HC102_7.out (below_set (below_set (below_set (below_set (below_set (below_set (below_set (below_set HB.out GE103.out) GE103.out) GE103.out) GE103.out) GE103.out) GE103.out) GE103.out) GE103.out) (blk_far (blk_far (blk_far (blk_far (blk_far (blk_far (blk_far (blk_far HK.out NB1.out _) NB1.out _) NB1.out _) NB1.out _) NB1.out _) NB1.out _) NB1.out _) NB1.out _) (blk_far (blk_far (blk_far (blk_far (blk_far (blk_far (blk_far (blk_far HC.out NB3.out _) NB3.out _) NB3.out _) NB3.out _) NB3.out _) NB3.out _) NB3.out _) NB3.out _) A8.out).mono ?_); rintro e w12 ⟨⟨v_, rfl⟩, hb, hk, hc⟩; refine ⟨_, rfl, ?_⟩; clear HB HK HC; have HB := A_ hb; have HK := A_ hk; have HC := A_ hc; clear hb hk hc))
                go_roundg k1
                case measure => have := HK1.out; omega
                case rel => exact ⟨(t104), (wrap64 (x11_1 + 1)), (by first | rfl | (simp; done) | (simp [*]; done)), H', ⟨by have := HK1.out; omega⟩, HK, HC, HB⟩
              · rw [if_neg c7] at H
                exact absurd H (by simp)
            · rw [if_neg c6] at H
              exact absurd H (by simp)
          · rw [if_neg c5] at H
            have c5b0 := decide_eq_false c5
            clear c5
            obtain rfl := Option.some.inj H
            go_wp2
            refine bodyPost_end (results_none rfl _ _ _) rfl ⟨⟨_, rfl⟩, HB.out, HK.out, HC.out⟩
set_option maxHeartbeats 8000000 in
set_option maxRecDepth 100000 in
theorem tree_Deep.calls (k : Nat) (a0_0 a0_1 : Int) (a0_2 a0_3 a0_4 : ByteArray) (a0_5 a0_6 : Bool) (A0_7 : Option Addr) (c0_7 : Nat) (l0_7 : List (S27)) (r : Int) (w : World) (hr0_7 : Kd.C k27 w A0_7 l0_7.length l0_7) (hc0_7 : l0_7.length ≤ c0_7) (h : tree_Deep.f k a0_0 a0_1 a0_2 a0_3 a0_4 a0_5 a0_6 l0_7 = some r) :
    Calls Try.prog 18 #[.agg #[.int .i64 a0_0, .int .i64 a0_1, .string a0_2, .string a0_3, .string a0_4, .bool a0_5, .bool a0_6, .slice A0_7 l0_7.length c0_7]] w fun e w' => e = .returned (.int .i64 r) ∧ Below w.heap.size w w' := by
  have hu27 := Try.underlying27
  have HR0_7 := A_ hr0_7
  have HC0_7 := A_ hc0_7
  have H' := A_ (show tree_Deep_1.f k a0_0 a0_1 a0_2 a0_3 a0_4 a0_5 a0_6 l0_7 0 0 = some r from h)
  have HB := A_ (Below.refl w.heap.size w)
  clear hr0_7 hc0_7 h
  go_enter Try.func18, Try.ntmps18
  go_wp2_with (first | (refine gD 1 ?_; refine bxe_ 1 (n8_ a0_0 a0_1 a0_2 a0_3 a0_4 a0_5 a0_6 (.slice A0_7 l0_7.length c0_7)) 27 ?_; intro gn hg w1 hbox hb; replace HB := A_ (below_step HB.out hb); have HN := A_ hbox; clear hbox; clear hb hg) | (refine gD 3 ?_; refine bxe_ 3 #[.int .i64 0] 3 ?_; intro gq hg w2 hbox hb; have NE1 := A_ (Nat.ne_of_lt (Nat.lt_of_lt_of_le (blk_lt HN.out) (Nat.le_of_eq hg.symm)) : gn ≠ gq); have n0_ := A_ (below_step HB.out hb); have n1_ := A_ (blk_below HN.out hb); have GQ := A_ (Nat.le_trans HB.out.size (Nat.le_of_eq hg.symm) : w.heap.size ≤ gq); clear HB HN; have HB := n0_; have HN := n1_; clear n0_ n1_; have hq0 : w2.cell? ⟨gq, 0, none⟩ = some (.int .i64 0) := (blk_cell hbox 0).trans rfl; have hq1 := blk_frozen hbox 0; have HQ := A_ hbox; clear hbox; clear hb hg) | (refine gD 4 ?_; refine bxe_ 4 #[.nilFunc] 63 ?_; intro gf hg w3 hbox hb; have HQ2 := A_ (blk_put (cs' := #[.int .i64 0]) HQ.out 0 (.int .i64 0) rfl); have HN2 := A_ (blk_far HN.out NE1.out (p := ⟨gq, 0, none⟩) (.int .i64 0)); have HB2 := A_ (below_set (j := 0) (v := .int .i64 0) HB.out GQ.out); clear HQ HN HB hq0 hq1; have NE2 := A_ (Nat.ne_of_lt (Nat.lt_of_lt_of_le (blk_lt HN2.out) (Nat.le_of_eq hg.symm)) : gn ≠ gf); have NE3 := A_ (Nat.ne_of_lt (Nat.lt_of_lt_of_le (blk_lt HQ2.out) (Nat.le_of_eq hg.symm)) : gq ≠ gf); have HB := A_ (below_step HB2.out hb); have HN := A_ (blk_below HN2.out hb); have HQ := A_ (blk_below HQ2.out hb); have GF := A_ (Nat.le_trans HB2.out.size (Nat.le_of_eq hg.symm) : w.heap.size ≤ gf); clear HB2 HN2 HQ2; have hf0 : w3.cell? ⟨gf, 0, none⟩ = some .nilFunc := (blk_cell hbox 0).trans rfl; have hf1 := blk_frozen hbox 0; have hn0 : w3.cell? ⟨gn, 0, none⟩ = some (.int .i64 a0_0) := bq_ HN 0; have hm0 := blk_frozen HN.out 0; have hn1 : w3.cell? ⟨gn, 1, none⟩ = some (.int .i64 a0_1) := bq_ HN 1; have hm1 := blk_frozen HN.out 1; have hn2 : w3.cell? ⟨gn, 2, none⟩ = some (.string a0_2) := bq_ HN 2; have hm2 := blk_frozen HN.out 2; have hn3 : w3.cell? ⟨gn, 3, none⟩ = some (.string a0_3) := bq_ HN 3; have hm3 := blk_frozen HN.out 3; have hn4 : w3.cell? ⟨gn, 4, none⟩ = some (.string a0_4) := bq_ HN 4; have hm4 := blk_frozen HN.out 4; have hn5 : w3.cell? ⟨gn, 5, none⟩ = some (.bool a0_5) := bq_ HN 5; have hm5 := blk_frozen HN.out 5; have hn6 : w3.cell? ⟨gn, 6, none⟩ = some (.bool a0_6) := bq_ HN 6; have hm6 := blk_frozen HN.out 6; have hn7 : w3.cell? ⟨gn, 7, none⟩ = some (.slice A0_7 l0_7.length c0_7) := bq_ HN 7; have hm7 := blk_frozen HN.out 7; have e1 := NE2.out; have e2 := Ne.symm e1; have HF := A_ hbox; clear hbox; clear hb hg) | ((with_reducible refine gate_held rfl ?_); refine goesF_ (some 8) rfl rfl #[.pointer (some ⟨gq, 0, none⟩), .pointer (some ⟨gf, 0, none⟩)] Try.func28 (by kernel_rfl) rfl #[.agg #[.int .i64 a0_0, .int .i64 a0_1, .string a0_2, .string a0_3, .string a0_4, .bool a0_5, .bool a0_6, .slice A0_7 l0_7.length c0_7], .int .i64 0, .pointer (some ⟨gq, 0, none⟩), .pointer (some ⟨gf, 0, none⟩)] rfl rfl (by (simp only [List.map_toArray, List.map_cons, List.map_nil, List.append_toArray, List.cons_append, List.nil_append]); rfl) ?_; (refine (tree_Deep_1.calls w gq gf GQ.out GF.out NE3.out k a0_0 a0_1 a0_2 a0_3 a0_4 a0_5 a0_6 _ _ l0_7 0 0 r _ HR0_7.out HC0_7.out (below_set HB.out GF.out) (blk_far HQ.out NE3.out _) (blk_put HF.out 0 _ rfl) H'.out).mono ?_); rintro e w5 ⟨⟨v_, rfl⟩, hb, hk, hc⟩; refine ⟨_, rfl, ?_⟩; have hk0 : w5.cell? ⟨gq, 0, none⟩ = some (.int .i64 r) := (blk_cell hk 0).trans rfl; have hk1 := blk_frozen hk 0; have HB5 := A_ hb; clear hb hk hc))
  go_ret
  exact ⟨rfl, HB5.out⟩
end Go.Proofs.Ytjgjhekpiijniaa.A
namespace Go.Proofs.Ytjgjhekpiijniaa.A
open Go.RowKit Go.Proofs.YtjgjhekpiijniaaW.PrintWords Go.Proofs.YtjgjhekpiijniaaW.PrintLast Go.Proofs.YtjgjhekpiijniaaW.PrintMore
attribute [local go_sem] max2_int min2_int max_two min_two max_three min_three max_four min_four
attribute [local go_sem] isSome_setCell
set_option maxHeartbeats 8000000 in
set_option maxRecDepth 100000 in
theorem tree_Sane.calls (k : Nat) (a0_0 a0_1 : Int) (a0_2 a0_3 a0_4 : ByteArray) (a0_5 a0_6 : Bool) (A0_7 : Option Addr) (c0_7 : Nat) (l0_7 : List (S27)) (r : Bool) (w : World) (hr0_7 : Kd.C k27 w A0_7 l0_7.length l0_7) (hc0_7 : l0_7.length ≤ c0_7) (h : tree_Sane.f k a0_0 a0_1 a0_2 a0_3 a0_4 a0_5 a0_6 l0_7 = some r) :
  Calls Try.prog 8 #[.agg #[.int .i64 a0_0, .int .i64 a0_1, .string a0_2, .string a0_3, .string a0_4, .bool a0_5, .bool a0_6, .slice A0_7 l0_7.length c0_7]] w fun e w' => e = .returned (.bool r) ∧ Below w.heap.size w w' := by
 have hu27 := Try.underlying27; have HR0_7 := A_ hr0_7; have HC0_7 := A_ hc0_7; clear hr0_7 hc0_7; have HB := A_ (Below.refl w.heap.size w); have H : ((tree_Count.f k a0_0 a0_1 a0_2 a0_3 a0_4 a0_5 a0_6 l0_7).bind fun t157 => (if t157 ≤ 64 then ((tree_Deep.f k a0_0 a0_1 a0_2 a0_3 a0_4 a0_5 a0_6 l0_7).bind fun t158 => (if t158 ≤ 8 then ((tree_right.f k a0_0 a0_1 a0_2 a0_3 a0_4 a0_5 a0_6 l0_7).bind fun t159 => (some t159)) else (some false))) else (some false))) = some r := h; clear h; obtain ⟨t157, A2, H⟩ := bi_ H
 by_cases c3 : t157 ≤ 64
 ·rw [if_pos c3] at H
  have c3b0 := decide_eq_true c3; clear c3; obtain ⟨t158, A4, H⟩ := bi_ H
  by_cases c5 : t158 ≤ 8
  ·rw [if_pos c5] at H
   have c5b0 := decide_eq_true c5; clear c5; obtain ⟨t159, A6, H⟩ := bi_ H; obtain rfl := Option.some.inj H; go_enter Try.func8, Try.ntmps8; go_wp2_with (first | (refine gx_ w 1 (n8_ a0_0 a0_1 a0_2 a0_3 a0_4 a0_5 a0_6 (.slice A0_7 l0_7.length c0_7)) 27 ?_; clear HB; intro gb156 w7 BK156 GE156 HB; have GW156 := GE156; have Z8 := bz8_ BK156) | (refine gC 17 ?_; refine gL 4 Try.func17 #[.agg (n8_ a0_0 a0_1 a0_2 a0_3 a0_4 a0_5 a0_6 (.slice A0_7 l0_7.length c0_7))] ?_; (with_reducible refine (tree_Count.calls k a0_0 a0_1 a0_2 a0_3 a0_4 a0_5 a0_6 _ _ l0_7 t157 _ ?side1 ?side2 A2.out).mono ?_); (case side1 => exact cb_ HR0_7); (case side2 => exact HC0_7.out); rintro e w9 ⟨rfl, hb⟩; refine ⟨_, rfl, ?_⟩; replace BK156 := bb_ BK156 hb; replace HB := bs_ hb; (try clear hb); have Z10 := bz8_ BK156) | (go_at_call 18; (with_reducible refine (tree_Deep.calls k a0_0 a0_1 a0_2 a0_3 a0_4 a0_5 a0_6 _ _ l0_7 t158 _ ?side1 ?side2 A4.out).mono ?_); (case side1 => exact cb_ HR0_7); (case side2 => exact HC0_7.out); rintro e w11 ⟨rfl, hb⟩; replace BK156 := bb_ BK156 hb; replace HB := bs_ hb; (try clear hb); have Z12 := bz8_ BK156) | (go_at_call 19; (with_reducible refine (tree_right.calls k a0_0 a0_1 a0_2 a0_3 a0_4 a0_5 a0_6 _ _ l0_7 t159 _ ?side1 ?side2 A6.out).mono ?_); (case side1 => exact cb_ HR0_7); (case side2 => exact HC0_7.out); rintro e w13 ⟨rfl, hb⟩; replace BK156 := bb_ BK156 hb; replace HB := bs_ hb; (try clear hb)))
   go_ret; exact ⟨re_, hs_⟩
  ·rw [if_neg c5] at H
   have c5b0 := decide_eq_false c5; clear c5; obtain rfl := Option.some.inj H; go_enter Try.func8, Try.ntmps8; go_wp2_with (first | (refine gx_ w 1 (n8_ a0_0 a0_1 a0_2 a0_3 a0_4 a0_5 a0_6 (.slice A0_7 l0_7.length c0_7)) 27 ?_; clear HB; intro gb156 w14 BK156 GE156 HB; have GW156 := GE156; have Z15 := bz8_ BK156) | (refine gC 17 ?_; refine gL 4 Try.func17 #[.agg (n8_ a0_0 a0_1 a0_2 a0_3 a0_4 a0_5 a0_6 (.slice A0_7 l0_7.length c0_7))] ?_; (with_reducible refine (tree_Count.calls k a0_0 a0_1 a0_2 a0_3 a0_4 a0_5 a0_6 _ _ l0_7 t157 _ ?side1 ?side2 A2.out).mono ?_); (case side1 => exact cb_ HR0_7); (case side2 => exact HC0_7.out); rintro e w16 ⟨rfl, hb⟩; refine ⟨_, rfl, ?_⟩; replace BK156 := bb_ BK156 hb; replace HB := bs_ hb; (try clear hb); have Z17 := bz8_ BK156) | (go_at_call 18; (with_reducible refine (tree_Deep.calls k a0_0 a0_1 a0_2 a0_3 a0_4 a0_5 a0_6 _ _ l0_7 t158 _ ?side1 ?side2 A4.out).mono ?_); (case side1 => exact cb_ HR0_7); (case side2 => exact HC0_7.out); rintro e w18 ⟨rfl, hb⟩; replace BK156 := bb_ BK156 hb; replace HB := bs_ hb; (try clear hb)))
   go_ret; exact ⟨re_, hs_⟩
 ·rw [if_neg c3] at H
  have c3b0 := decide_eq_false c3; clear c3; obtain rfl := Option.some.inj H; go_enter Try.func8, Try.ntmps8; go_wp2_with (first | (refine gx_ w 1 (n8_ a0_0 a0_1 a0_2 a0_3 a0_4 a0_5 a0_6 (.slice A0_7 l0_7.length c0_7)) 27 ?_; clear HB; intro gb156 w19 BK156 GE156 HB; have GW156 := GE156; have Z20 := bz8_ BK156) | (refine gC 17 ?_; refine gL 4 Try.func17 #[.agg (n8_ a0_0 a0_1 a0_2 a0_3 a0_4 a0_5 a0_6 (.slice A0_7 l0_7.length c0_7))] ?_; (with_reducible refine (tree_Count.calls k a0_0 a0_1 a0_2 a0_3 a0_4 a0_5 a0_6 _ _ l0_7 t157 _ ?side1 ?side2 A2.out).mono ?_); (case side1 => exact cb_ HR0_7); (case side2 => exact HC0_7.out); rintro e w21 ⟨rfl, hb⟩; refine ⟨_, rfl, ?_⟩; replace BK156 := bb_ BK156 hb; replace HB := bs_ hb; (try clear hb))); go_ret; exact ⟨re_, hs_⟩
set_option maxHeartbeats 8000000 in
set_option maxRecDepth 100000 in
theorem point_Text.calls (k : Nat) (a0_0 : Int) (a0_1 a0_2 a0_3 r : ByteArray) (w : World) (h : point_Text.f k a0_0 a0_1 a0_2 a0_3 = some r) :
  Calls Try.prog 37 #[.agg #[.int .i64 a0_0, .string a0_1, .string a0_2, .string a0_3]] w fun e w' => e = .returned (.string r) ∧ Below w.heap.size w w' := by
 have hu24 := Try.underlying24; have HB := A_ (Below.refl w.heap.size w); have H : ((point_Sane.f k a0_0 a0_1 a0_2 a0_3).bind fun t188 => (if t188 = true then (if a0_0 = 0 then (if 1 + a0_3.size ≤ 9223372036854775807 then (if 1 + a0_2.size ≤ 9223372036854775807 then (if ((⟨#[45]⟩ : ByteArray) ++ a0_2).size + ((⟨#[45]⟩ : ByteArray) ++ a0_3).size ≤ 9223372036854775807 then (if a0_1.size + (((⟨#[45]⟩ : ByteArray) ++ a0_2) ++ ((⟨#[45]⟩ : ByteArray) ++ a0_3)).size ≤ 9223372036854775807 then (some (a0_1 ++ (((⟨#[45]⟩ : ByteArray) ++ a0_2) ++ ((⟨#[45]⟩ : ByteArray) ++ a0_3)))) else (none)) else (none)) else (none)) else (none)) else (if a0_0 = 1 then (if 1 + a0_2.size ≤ 9223372036854775807 then (if ((⟨#[45]⟩ : ByteArray) ++ a0_2).size + 0 ≤ 9223372036854775807 then (if a0_1.size + (((⟨#[45]⟩ : ByteArray) ++ a0_2) ++ (⟨#[]⟩ : ByteArray)).size ≤ 9223372036854775807 then (some (a0_1 ++ (((⟨#[45]⟩ : ByteArray) ++ a0_2) ++ (⟨#[]⟩ : ByteArray)))) else (none)) else (none)) else (none)) else (if a0_0 = 2 then (if 1 + a0_2.size ≤ 9223372036854775807 then (if a0_1.size + ((⟨#[115]⟩ : ByteArray) ++ a0_2).size ≤ 9223372036854775807 then (some (a0_1 ++ ((⟨#[115]⟩ : ByteArray) ++ a0_2))) else (none)) else (none)) else (if a0_0 = 4 then (if a0_1.size + 1 ≤ 9223372036854775807 then (some (a0_1 ++ (⟨#[100]⟩ : ByteArray))) else (none)) else (if a0_0 = 5 then (if a0_1.size + 1 ≤ 9223372036854775807 then (some (a0_1 ++ (⟨#[99]⟩ : ByteArray))) else (none)) else (if a0_1.size + 0 ≤ 9223372036854775807 then (some (a0_1 ++ (⟨#[]⟩ : ByteArray))) else (none))))))) else (some (⟨#[]⟩ : ByteArray)))) = some r := h; clear h; obtain ⟨t188, A2, H⟩ := bi_ H
 by_cases c3 : t188 = true
 ·subst c3
  replace H := iP_ H
  by_cases c4 : a0_0 = 0
  ·rw [if_pos c4] at H
   have c4b0 : (a0_0 == 0) = true := beq_iff_eq.mpr c4; have c4b1 : (a0_0 != 0) = false := bne_eq_false_iff_eq.mpr c4; clear c4
   by_cases c5 : 1 + a0_3.size ≤ 9223372036854775807
   ·rw [if_pos c5] at H
    have c5b0 := eq_true c5; have c5b1 := decide_eq_true c5; (try have c5b2 : (9223372036854775807 < 1 + a0_3.size) = False := eq_false (Nat.not_lt.2 c5))
    by_cases c6 : 1 + a0_2.size ≤ 9223372036854775807
    ·rw [if_pos c6] at H
     have c6b0 := eq_true c6; have c6b1 := decide_eq_true c6; (try have c6b2 : (9223372036854775807 < 1 + a0_2.size) = False := eq_false (Nat.not_lt.2 c6))
     by_cases c7 : ((⟨#[45]⟩ : ByteArray) ++ a0_2).size + ((⟨#[45]⟩ : ByteArray) ++ a0_3).size ≤ 9223372036854775807
     ·rw [if_pos c7] at H
      have c7b0 := eq_true c7; have c7b1 := decide_eq_true c7; (try have c7b2 : (9223372036854775807 < ((⟨#[45]⟩ : ByteArray) ++ a0_2).size + ((⟨#[45]⟩ : ByteArray) ++ a0_3).size) = False := eq_false (Nat.not_lt.2 c7)); (try have c7b3 : (9223372036854775807 < 1 + a0_2.size + (1 + a0_3.size)) = False := eq_false (Nat.not_lt.2 (by have h_ := c7; simp only [ByteArray.size_append] at h_; exact h_)))
      by_cases c8 : a0_1.size + (((⟨#[45]⟩ : ByteArray) ++ a0_2) ++ ((⟨#[45]⟩ : ByteArray) ++ a0_3)).size ≤ 9223372036854775807
      ·rw [if_pos c8] at H
       have c8b0 := eq_true c8; have c8b1 := decide_eq_true c8; (try have c8b2 : (9223372036854775807 < a0_1.size + (((⟨#[45]⟩ : ByteArray) ++ a0_2) ++ ((⟨#[45]⟩ : ByteArray) ++ a0_3)).size) = False := eq_false (Nat.not_lt.2 c8)); (try have c8b3 : (9223372036854775807 < a0_1.size + (1 + a0_2.size + (1 + a0_3.size))) = False := eq_false (Nat.not_lt.2 (by have h_ := c8; simp only [ByteArray.size_append] at h_; exact h_))); obtain rfl := Option.some.inj H; go_enter Try.func37, Try.ntmps37; go_wp2_with (first | (refine gx_ w 1 (n4_ a0_0 a0_1 a0_2 a0_3) 24 ?_; clear HB; intro gb187 w9 BK187 GE187 HB; have GW187 := GE187; have Z10 := bz4_ BK187) | (refine gC 43 ?_; refine gL 5 Try.func43 #[.agg (n4_ a0_0 a0_1 a0_2 a0_3)] ?_; (with_reducible refine (point_Sane.calls k a0_0 a0_1 a0_2 a0_3 true _ A2.out).mono ?_); rintro e w11 ⟨rfl, hb⟩; refine ⟨_, rfl, ?_⟩; replace BK187 := bb_ BK187 hb; replace HB := bs_ hb; (try clear hb); have Z12 := bz4_ BK187)); go_ret; exact ⟨re_, hs_⟩
      ·rw [if_neg c8] at H
       exact absurd H (by simp)
     ·rw [if_neg c7] at H
      exact absurd H (by simp)
    ·rw [if_neg c6] at H
     exact absurd H (by simp)
   ·rw [if_neg c5] at H
    exact absurd H (by simp)
  ·rw [if_neg c4] at H
   have c4b0 : (a0_0 == 0) = false := beq_eq_false_iff_ne.mpr c4; have c4b1 : (a0_0 != 0) = true := bne_iff_ne.mpr c4
   by_cases c13 : a0_0 = 1
   ·rw [if_pos c13] at H
    have c13b0 : (a0_0 == 1) = true := beq_iff_eq.mpr c13; have c13b1 : (a0_0 != 1) = false := bne_eq_false_iff_eq.mpr c13; clear c13
    by_cases c14 : 1 + a0_2.size ≤ 9223372036854775807
    ·rw [if_pos c14] at H
     have c14b0 := eq_true c14; have c14b1 := decide_eq_true c14; (try have c14b2 : (9223372036854775807 < 1 + a0_2.size) = False := eq_false (Nat.not_lt.2 c14))
     by_cases c15 : ((⟨#[45]⟩ : ByteArray) ++ a0_2).size + 0 ≤ 9223372036854775807
     ·rw [if_pos c15] at H
      have c15b0 := eq_true c15; have c15b1 := decide_eq_true c15; (try have c15b2 : (9223372036854775807 < ((⟨#[45]⟩ : ByteArray) ++ a0_2).size + 0) = False := eq_false (Nat.not_lt.2 c15)); (try have c15b3 : (9223372036854775807 < 1 + a0_2.size + 0) = False := eq_false (Nat.not_lt.2 (by have h_ := c15; simp only [ByteArray.size_append] at h_; exact h_)))
      by_cases c16 : a0_1.size + (((⟨#[45]⟩ : ByteArray) ++ a0_2) ++ (⟨#[]⟩ : ByteArray)).size ≤ 9223372036854775807
      ·rw [if_pos c16] at H
       have c16b0 := eq_true c16; have c16b1 := decide_eq_true c16; (try have c16b2 : (9223372036854775807 < a0_1.size + (((⟨#[45]⟩ : ByteArray) ++ a0_2) ++ (⟨#[]⟩ : ByteArray)).size) = False := eq_false (Nat.not_lt.2 c16)); (try have c16b3 : (9223372036854775807 < a0_1.size + (1 + a0_2.size + 0)) = False := eq_false (Nat.not_lt.2 (by have h_ := c16; simp only [ByteArray.size_append] at h_; exact h_))); obtain rfl := Option.some.inj H; go_enter Try.func37, Try.ntmps37; go_wp2_with (first | (refine gx_ w 1 (n4_ a0_0 a0_1 a0_2 a0_3) 24 ?_; clear HB; intro gb187 w17 BK187 GE187 HB; have GW187 := GE187; have Z18 := bz4_ BK187) | (refine gC 43 ?_; refine gL 5 Try.func43 #[.agg (n4_ a0_0 a0_1 a0_2 a0_3)] ?_; (with_reducible refine (point_Sane.calls k a0_0 a0_1 a0_2 a0_3 true _ A2.out).mono ?_); rintro e w19 ⟨rfl, hb⟩; refine ⟨_, rfl, ?_⟩; replace BK187 := bb_ BK187 hb; replace HB := bs_ hb; (try clear hb); have Z20 := bz4_ BK187)); go_ret; exact ⟨re_, hs_⟩
      ·rw [if_neg c16] at H
       exact absurd H (by simp)
     ·rw [if_neg c15] at H
      exact absurd H (by simp)
    ·rw [if_neg c14] at H
     exact absurd H (by simp)
   ·rw [if_neg c13] at H
    have c13b0 : (a0_0 == 1) = false := beq_eq_false_iff_ne.mpr c13; have c13b1 : (a0_0 != 1) = true := bne_iff_ne.mpr c13
    by_cases c21 : a0_0 = 2
    ·rw [if_pos c21] at H
     have c21b0 : (a0_0 == 2) = true := beq_iff_eq.mpr c21; have c21b1 : (a0_0 != 2) = false := bne_eq_false_iff_eq.mpr c21; clear c21
     by_cases c22 : 1 + a0_2.size ≤ 9223372036854775807
     ·rw [if_pos c22] at H
      have c22b0 := eq_true c22; have c22b1 := decide_eq_true c22; (try have c22b2 : (9223372036854775807 < 1 + a0_2.size) = False := eq_false (Nat.not_lt.2 c22))
      by_cases c23 : a0_1.size + ((⟨#[115]⟩ : ByteArray) ++ a0_2).size ≤ 9223372036854775807
      ·rw [if_pos c23] at H
       have c23b0 := eq_true c23; have c23b1 := decide_eq_true c23; (try have c23b2 : (9223372036854775807 < a0_1.size + ((⟨#[115]⟩ : ByteArray) ++ a0_2).size) = False := eq_false (Nat.not_lt.2 c23)); (try have c23b3 : (9223372036854775807 < a0_1.size + (1 + a0_2.size)) = False := eq_false (Nat.not_lt.2 (by have h_ := c23; simp only [ByteArray.size_append] at h_; exact h_))); obtain rfl := Option.some.inj H; go_enter Try.func37, Try.ntmps37; go_wp2_with (first | (refine gx_ w 1 (n4_ a0_0 a0_1 a0_2 a0_3) 24 ?_; clear HB; intro gb187 w24 BK187 GE187 HB; have GW187 := GE187; have Z25 := bz4_ BK187) | (refine gC 43 ?_; refine gL 5 Try.func43 #[.agg (n4_ a0_0 a0_1 a0_2 a0_3)] ?_; (with_reducible refine (point_Sane.calls k a0_0 a0_1 a0_2 a0_3 true _ A2.out).mono ?_); rintro e w26 ⟨rfl, hb⟩; refine ⟨_, rfl, ?_⟩; replace BK187 := bb_ BK187 hb; replace HB := bs_ hb; (try clear hb); have Z27 := bz4_ BK187)); go_ret; exact ⟨re_, hs_⟩
      ·rw [if_neg c23] at H
       exact absurd H (by simp)
     ·rw [if_neg c22] at H
      exact absurd H (by simp)
    ·rw [if_neg c21] at H
     have c21b0 : (a0_0 == 2) = false := beq_eq_false_iff_ne.mpr c21; have c21b1 : (a0_0 != 2) = true := bne_iff_ne.mpr c21
     by_cases c28 : a0_0 = 4
     ·rw [if_pos c28] at H
      have c28b0 : (a0_0 == 4) = true := beq_iff_eq.mpr c28; have c28b1 : (a0_0 != 4) = false := bne_eq_false_iff_eq.mpr c28; clear c28
      by_cases c29 : a0_1.size + 1 ≤ 9223372036854775807
      ·rw [if_pos c29] at H
       have c29b0 := eq_true c29; have c29b1 := decide_eq_true c29; (try have c29b2 : (9223372036854775807 < a0_1.size + 1) = False := eq_false (Nat.not_lt.2 c29)); obtain rfl := Option.some.inj H; go_enter Try.func37, Try.ntmps37; go_wp2_with (first | (refine gx_ w 1 (n4_ a0_0 a0_1 a0_2 a0_3) 24 ?_; clear HB; intro gb187 w30 BK187 GE187 HB; have GW187 := GE187; have Z31 := bz4_ BK187) | (refine gC 43 ?_; refine gL 5 Try.func43 #[.agg (n4_ a0_0 a0_1 a0_2 a0_3)] ?_; (with_reducible refine (point_Sane.calls k a0_0 a0_1 a0_2 a0_3 true _ A2.out).mono ?_); rintro e w32 ⟨rfl, hb⟩; refine ⟨_, rfl, ?_⟩; replace BK187 := bb_ BK187 hb; replace HB := bs_ hb; (try clear hb); have Z33 := bz4_ BK187)); go_ret; exact ⟨re_, hs_⟩
      ·rw [if_neg c29] at H
       exact absurd H (by simp)
     ·rw [if_neg c28] at H
      have c28b0 : (a0_0 == 4) = false := beq_eq_false_iff_ne.mpr c28; have c28b1 : (a0_0 != 4) = true := bne_iff_ne.mpr c28
      by_cases c34 : a0_0 = 5
      ·rw [if_pos c34] at H
       have c34b0 : (a0_0 == 5) = true := beq_iff_eq.mpr c34; have c34b1 : (a0_0 != 5) = false := bne_eq_false_iff_eq.mpr c34; clear c34
       by_cases c35 : a0_1.size + 1 ≤ 9223372036854775807
       ·rw [if_pos c35] at H
        have c35b0 := eq_true c35; have c35b1 := decide_eq_true c35; (try have c35b2 : (9223372036854775807 < a0_1.size + 1) = False := eq_false (Nat.not_lt.2 c35)); obtain rfl := Option.some.inj H; go_enter Try.func37, Try.ntmps37; go_wp2_with (first | (refine gx_ w 1 (n4_ a0_0 a0_1 a0_2 a0_3) 24 ?_; clear HB; intro gb187 w36 BK187 GE187 HB; have GW187 := GE187; have Z37 := bz4_ BK187) | (refine gC 43 ?_; refine gL 5 Try.func43 #[.agg (n4_ a0_0 a0_1 a0_2 a0_3)] ?_; (with_reducible refine (point_Sane.calls k a0_0 a0_1 a0_2 a0_3 true _ A2.out).mono ?_); rintro e w38 ⟨rfl, hb⟩; refine ⟨_, rfl, ?_⟩; replace BK187 := bb_ BK187 hb; replace HB := bs_ hb; (try clear hb); have Z39 := bz4_ BK187)); go_ret; exact ⟨re_, hs_⟩
       ·rw [if_neg c35] at H
        exact absurd H (by simp)
      ·rw [if_neg c34] at H
       have c34b0 : (a0_0 == 5) = false := beq_eq_false_iff_ne.mpr c34; have c34b1 : (a0_0 != 5) = true := bne_iff_ne.mpr c34
       by_cases c40 : a0_1.size + 0 ≤ 9223372036854775807
       ·rw [if_pos c40] at H
        have c40b0 := eq_true c40; have c40b1 := decide_eq_true c40; (try have c40b2 : (9223372036854775807 < a0_1.size + 0) = False := eq_false (Nat.not_lt.2 c40)); obtain rfl := Option.some.inj H; go_enter Try.func37, Try.ntmps37; go_wp2_with (first | (refine gx_ w 1 (n4_ a0_0 a0_1 a0_2 a0_3) 24 ?_; clear HB; intro gb187 w41 BK187 GE187 HB; have GW187 := GE187; have Z42 := bz4_ BK187) | (refine gC 43 ?_; refine gL 5 Try.func43 #[.agg (n4_ a0_0 a0_1 a0_2 a0_3)] ?_; (with_reducible refine (point_Sane.calls k a0_0 a0_1 a0_2 a0_3 true _ A2.out).mono ?_); rintro e w43 ⟨rfl, hb⟩; refine ⟨_, rfl, ?_⟩; replace BK187 := bb_ BK187 hb; replace HB := bs_ hb; (try clear hb); have Z44 := bz4_ BK187)); go_ret; exact ⟨re_, hs_⟩
       ·rw [if_neg c40] at H
        exact absurd H (by simp)
 ·replace c3 := Bool.eq_false_iff.mpr c3
  subst c3; replace H := iN_ H; obtain rfl := Option.some.inj H; go_enter Try.func37, Try.ntmps37; go_wp2_with (first | (refine gx_ w 1 (n4_ a0_0 a0_1 a0_2 a0_3) 24 ?_; clear HB; intro gb187 w45 BK187 GE187 HB; have GW187 := GE187; have Z46 := bz4_ BK187) | (refine gC 43 ?_; refine gL 5 Try.func43 #[.agg (n4_ a0_0 a0_1 a0_2 a0_3)] ?_; (with_reducible refine (point_Sane.calls k a0_0 a0_1 a0_2 a0_3 false _ A2.out).mono ?_); rintro e w47 ⟨rfl, hb⟩; refine ⟨_, rfl, ?_⟩; replace BK187 := bb_ BK187 hb; replace HB := bs_ hb; (try clear hb))); go_ret; exact ⟨re_, hs_⟩
theorem spot_none {w : World} {a : Addr} {v : Value} (h : w.cell? a = some v) : a = ⟨a.block, a.off, none⟩ := by
  obtain ⟨b, o, s⟩ := a
  cases s with
  | none => rfl
  | some s =>
    exfalso
    unfold World.cell? at h
    simp only at h
    split at h
    · simp at h
    · simp at h
theorem strings_Join.calls (A0 : Option Addr) (c0 : Nat) (l0 : List ByteArray) (a1 r : ByteArray) (w : World) (hr0 : Kd.C Kd.string w A0 l0.length l0) (hc0 : l0.length ≤ c0) (h : strings_Join.f l0 a1 = some r) :
    Calls Try.prog 36 #[.slice A0 l0.length c0, .string a1] w fun e w' => e = .returned (.string r) ∧ Below w.heap.size w w' := by
  unfold strings_Join.f at h
  by_cases c1 : l0.length ≤ 140737488355328
  · rw [if_pos c1] at h
    by_cases c2 : (Lib.join (l0.map (·.data.toList)) a1.data.toList).length ≤ 140737488355328
    · rw [if_pos c2] at h
      obtain rfl := Option.some.inj h
      by_cases c3 : l0 = []
      · subst c3
        refine (Try.strings_Join_none A0 c0 a1 w).mono fun e w' ⟨he, hw⟩ => ⟨?_, hw ▸ Below.refl _ _⟩
        rw [he]; rfl
      · have hp : 0 < l0.length := List.length_pos_iff.2 c3
        obtain ⟨ad, rfl, h0⟩ := Kd.at_string hr0 0 (by omega) (by omega)
        have hs : ad = ⟨ad.block, ad.off, none⟩ := spot_none h0
        have hcells : ∀ (j : Nat) x, l0[j]? = some x → w.cell? ⟨ad.block, ad.off + j, none⟩ = some (.string x) := fun j x hj => by
          have hlt := (List.getElem?_eq_some_iff.1 hj).1
          obtain ⟨ad', e', h1⟩ := Kd.at_string hr0 (j : Int) (by omega) (by omega)
          obtain rfl := Option.some.inj e'
          have hg : rdOf ByteArray.empty l0 (j : Int) = x := by
            unfold rdOf
            rw [List.getD_eq_getElem?_getD, Int.toNat_natCast, hj]; rfl
          rw [hg, Int.toNat_natCast] at h1
          rw [hs] at h1
          unfold Addr.add at h1
          by_cases hj0 : j = 0
          · subst hj0
            simpa using h1
          · simpa [hj0] using h1
        have hb : ad.block < w.heap.size := World.block_lt_of_cell? w _ h0
        have := Try.strings_Join ad.block ad.off c0 l0 a1 w hcells hb c1 hc0 c2
        rw [← hs] at this
        exact this
    · rw [if_neg c2] at h; cases h
  · rw [if_neg c1] at h; cases h
set_option maxHeartbeats 8000000 in
set_option maxRecDepth 100000 in
theorem print_join.calls (A0 : Option Addr) (c0 : Nat) (l0 : List ByteArray) (r : ByteArray) (w : World) (hr0 : Kd.C Kd.string w A0 l0.length l0) (hc0 : l0.length ≤ c0) (h : print_join.f l0 = some r) :
  Calls Try.prog 35 #[.slice A0 l0.length c0] w fun e w' => e = .returned (.string r) ∧ Below w.heap.size w w' := by
 have HR0 := A_ hr0; have HC0 := A_ hc0; clear hr0 hc0; have HB := A_ (Below.refl w.heap.size w); have H : ((strings_Join.f l0 (⟨#[]⟩ : ByteArray)).bind fun t189 => (some t189)) = some r := h; clear h; obtain ⟨t189, A2, H⟩ := bi_ H; obtain rfl := Option.some.inj H; go_enter Try.func35, Try.ntmps35; go_wp2_with (first | (refine gC 36 ?_; refine gL 4 Try.func36 #[.slice A0 l0.length c0, .string ⟨#[]⟩] ?_; (with_reducible refine (strings_Join.calls _ _ l0 (⟨#[]⟩ : ByteArray) t189 _ ?side1 ?side2 A2.out).mono ?_); (case side1 => exact cr_ HR0.out); (case side2 => exact HC0.out); rintro e w3 ⟨rfl, hb⟩; refine ⟨_, rfl, ?_⟩; replace HB := bs_ hb; (try clear hb))); go_ret; exact ⟨re_, hs_⟩
set_option maxHeartbeats 8000000 in
set_option maxRecDepth 100000 in
theorem print_mark.calls (a0 : Bool) (a1 r : ByteArray) (w : World) (h : print_mark.f a0 a1 = some r) :
  Calls Try.prog 38 #[.bool a0, .string a1] w fun e w' => e = .returned (.string r) ∧ Drawn0 w w' := by
 have H : (if a0 = true then (some a1) else (some (⟨#[]⟩ : ByteArray))) = some r := h; clear h
 by_cases c3 : a0 = true
 ·subst c3
  replace H := iP_ H; obtain rfl := Option.some.inj H; go_enter Try.func38, Try.ntmps38; go_wp2; go_ret; exact ⟨by first | rfl | (simp; done) | (simp [*]; done), by repeat (first | exact Drawn0.refl _ | apply Drawn0.step)⟩
 ·replace c3 := Bool.eq_false_iff.mpr c3
  subst c3; replace H := iN_ H; obtain rfl := Option.some.inj H; go_enter Try.func38, Try.ntmps38; go_wp2; go_ret; exact ⟨by first | rfl | (simp; done) | (simp [*]; done), by repeat (first | exact Drawn0.refl _ | apply Drawn0.step)⟩
theorem info9_printtext : (Try.prog.info? 9).map (fun i => (i.zero, i.size, i.bytes)) = some (some (.string ⟨#[]⟩), 1, 16) := by kernel_rfl
def print_text.T3 : Bool × List (List Nat × List Nat) := (true, [([], []), ([0], [0]), ([1], [1]), ([2], [2]), ([3], [3]), ([], []), ([5], [5]), ([6], [6]), ([7], [7]), ([8, 4], [8]), ([4, 9], [4, 9]), ([10, 9], [10]), ([11, 11, 0, 1, 2, 3, 4, 5, 6, 7, 8, 9, 10, 11], [11])])
def print_text.B3 : List Nat := [0, 1, 3, 7, 15, 0, 32, 96, 224, 511, 1023, 2047, 4095]
theorem print_text.tab3 : rtab .any (opsOf Try.f24 3) = print_text.T3 := by kernel_rfl
theorem print_text.bits3 : waitsOk print_text.T3.2 print_text.B3 = true := by kernel_rfl
def print_text.T16 : Bool × List (List Nat × List Nat) := (true, [([], []), ([0], [0]), ([1], [1]), ([], []), ([3], [3]), ([4, 2], [4]), ([], []), ([6], [6]), ([7, 5], [7]), ([2, 5, 8], [2, 5, 8]), ([9, 8], [9]), ([10, 10, 0, 1, 2, 3, 4, 5, 6, 7, 8, 9, 10], [10])])
def print_text.B16 : List Nat := [0, 1, 3, 0, 8, 31, 0, 64, 255, 511, 1023, 2047]
theorem print_text.tab16 : rtab .any (opsOf Try.f24 16) = print_text.T16 := by kernel_rfl
theorem print_text.bits16 : waitsOk print_text.T16.2 print_text.B16 = true := by kernel_rfl
set_option maxHeartbeats 8000000 in
set_option maxRecDepth 100000 in
theorem print_text.calls (k : Nat) : ∀ (a0_0 a0_1 : Int) (a0_2 a0_3 a0_4 : ByteArray) (a0_5 a0_6 : Bool) (A0_7 : Option Addr) (c0_7 : Nat) (l0_7 : List (S27)) (r : ByteArray) (w : World) (hr0_7 : Kd.C k27 w A0_7 l0_7.length l0_7) (hc0_7 : l0_7.length ≤ c0_7) (h : print_text.f k a0_0 a0_1 a0_2 a0_3 a0_4 a0_5 a0_6 l0_7 = some r),
  Calls Try.prog 24 #[.agg #[.int .i64 a0_0, .int .i64 a0_1, .string a0_2, .string a0_3, .string a0_4, .bool a0_5, .bool a0_6, .slice A0_7 l0_7.length c0_7]] w fun e w' => e = .returned (.string r) ∧ Below w.heap.size w w' := by
 induction k using Nat.strongRecOn with
 | _ k ih =>
 intro a0_0 a0_1 a0_2 a0_3 a0_4 a0_5 a0_6 A0_7 c0_7 l0_7 r w hr0_7 hc0_7 h
 cases k with
 | zero => exact absurd h (by simp [print_text.f])
 | succ k =>
 simp only [print_text.f] at h; have hu27 := Try.underlying27; have hu24 := Try.underlying24; have HR0_7 := A_ hr0_7; have HC0_7 := A_ hc0_7; clear hr0_7 hc0_7; have HB := A_ (Below.refl w.heap.size w); have H : (if a0_0 = 1 then (if 0 < (l0_7.length : Int) then ((print_text.f k ((rd_T27 l0_7 0).f0) ((rd_T27 l0_7 0).f1.f0) ((rd_T27 l0_7 0).f1.f1) ((rd_T27 l0_7 0).f1.f2) ((rd_T27 l0_7 0).f1.f3) ((rd_T27 l0_7 0).f2) ((rd_T27 l0_7 0).f3) ((rd_T27 l0_7 0).f4)).bind fun t192 => (if 1 < (l0_7.length : Int) then ((print_text.f k ((rd_T27 l0_7 1).f0) ((rd_T27 l0_7 1).f1.f0) ((rd_T27 l0_7 1).f1.f1) ((rd_T27 l0_7 1).f1.f2) ((rd_T27 l0_7 1).f1.f3) ((rd_T27 l0_7 1).f2) ((rd_T27 l0_7 1).f3) ((rd_T27 l0_7 1).f4)).bind fun t194 => ((print_join.f (([t192, (⟨#[47]⟩ : ByteArray), t194] : List ByteArray))).bind fun t198 => (some t198))) else (none))) else (none)) else (if a0_0 = 2 then (print_text.l0 k ([] : List ByteArray) l0_7 (l0_7.length : Int) 0) else (if a0_0 = 3 then (some (⟨#[46, 46]⟩ : ByteArray)) else (if a0_0 = 4 then (some (⟨#[42]⟩ : ByteArray)) else ((point_Text.f k a0_1 a0_2 a0_3 a0_4).bind fun t210 => ((print_mark.f a0_5 (⟨#[63]⟩ : ByteArray)).bind fun t211 => ((print_mark.f a0_6 (⟨#[126]⟩ : ByteArray)).bind fun t212 => ((print_join.f (([t210, t211, t212] : List ByteArray))).bind fun t216 => (some t216))))))))) = some r := h; clear h
 by_cases c2 : a0_0 = 1
 ·rw [if_pos c2] at H
  have c2b0 : (a0_0 == 1) = true := beq_iff_eq.mpr c2; have c2b1 : (a0_0 != 1) = false := bne_eq_false_iff_eq.mpr c2; clear c2
  by_cases c3 : 0 < (l0_7.length : Int)
  ·rw [if_pos c3] at H
   have c3b0 := decide_eq_true c3; have c3b1 : decide (0 < l0_7.length) = true := decide_eq_true (by omega); clear c3; obtain ⟨t192, A4, H⟩ := bi_ H
   by_cases c5 : 1 < (l0_7.length : Int)
   ·rw [if_pos c5] at H
    have c5b0 := decide_eq_true c5; have c5b1 : decide (1 < l0_7.length) = true := decide_eq_true (by omega); clear c5; obtain ⟨t194, A6, H⟩ := bi_ H; obtain ⟨y195, hy195⟩ : ∃ y_ : List ByteArray, y_ = (([t192, (⟨#[47]⟩ : ByteArray), t194] : List ByteArray)) := ⟨_, rfl⟩; (replace H : ((print_join.f y195).bind fun t198 => (some t198)) = some r := hy_ hy195 H); have Ny195 := A_ hy195; clear hy195; obtain ⟨t198, A7, H⟩ := bi_ H; obtain rfl := Option.some.inj H; go_enter Try.func24, Try.ntmps24; (try go_wp2_with (first | (refine gx_ w 1 (n8_ a0_0 a0_1 a0_2 a0_3 a0_4 a0_5 a0_6 (.slice A0_7 l0_7.length c0_7)) 27 ?_; clear HB; intro gb190 w8 BK190 GE190 HB; have GW190 := GE190; have Z9 := bz8_ BK190))); replace BK190 := A_ (blk_drew BK190.out); replace HB := A_ (below_drew1 HB.out); have p191 : 0 ≤ (0 : Int) := (by omega); have q191 : 0 < (l0_7.length : Int) := od_; obtain ⟨ad191, A191_7, c191_7, e191, hx191_0, hx191_1, hx191_2, hx191_3, hx191_4, hx191_5, hx191_6, hx191_7, hl191_7, hi191_7⟩ := at_T27 HR0_7.out 0 p191 q191; have hw191_7 := ai_ hx191_7; have hw191_6 := ai_ hx191_6; have hw191_5 := ai_ hx191_5; have hw191_4 := ai_ hx191_4
    have hw191_3 := ai_ hx191_3; have hw191_2 := ai_ hx191_2; have hw191_1 := ai_ hx191_1; have hw191_0 := ai_ hx191_0
    cases e191
    have qi191 : (0 < l0_7.length) = True := eq_true (by omega); replace hx191_0 := ai_ hx191_0; replace hx191_1 := ai_ hx191_1; replace hx191_2 := ai_ hx191_2; replace hx191_3 := ai_ hx191_3; replace hx191_4 := ai_ hx191_4; replace hx191_5 := ai_ hx191_5; replace hx191_6 := ai_ hx191_6; replace hx191_7 := ai_ hx191_7; replace hx191_0 := cl_ HB hx191_0; replace hx191_1 := cl_ HB hx191_1; replace hx191_2 := cl_ HB hx191_2; replace hx191_3 := cl_ HB hx191_3; replace hx191_4 := cl_ HB hx191_4; replace hx191_5 := cl_ HB hx191_5; replace hx191_6 := cl_ HB hx191_6; replace hx191_7 := cl_ HB hx191_7; have HR191_7 := A_ hi191_7; have HC191_7 := A_ hl191_7; clear hi191_7 hl191_7; replace p191 := eq_true p191; replace q191 := eq_true q191; have p193 : 0 ≤ (1 : Int) := (by omega); have q193 : 1 < (l0_7.length : Int) := od_; obtain ⟨ad193, A193_7, c193_7, e193, hx193_0, hx193_1, hx193_2, hx193_3, hx193_4, hx193_5, hx193_6, hx193_7, hl193_7, hi193_7⟩ := at_T27 HR0_7.out 1 p193 q193; have hw193_7 := aj_ hx193_7; have hw193_6 := aj_ hx193_6; have hw193_5 := aj_ hx193_5; have hw193_4 := aj_ hx193_4; have hw193_3 := aj_ hx193_3; have hw193_2 := aj_ hx193_2; have hw193_1 := aj_ hx193_1; have hw193_0 := aj_ hx193_0
    obtain rfl : ad191 = ad193 := (by injection e193); replace hx193_0 := aj_ hx193_0; replace hx193_1 := aj_ hx193_1; replace hx193_2 := aj_ hx193_2; replace hx193_3 := aj_ hx193_3; replace hx193_4 := aj_ hx193_4; replace hx193_5 := aj_ hx193_5; replace hx193_6 := aj_ hx193_6; replace hx193_7 := aj_ hx193_7; have qi193 : (1 < l0_7.length) = True := eq_true (by omega); (try rw [show ((1 : Int)).toNat = 1 from rfl] at hx193_0); (try rw [show 1 * 8 = 8 from rfl] at hx193_0); (try rw [show ((1 : Int)).toNat = 1 from rfl] at hx193_1); (try rw [show 1 * 8 = 8 from rfl] at hx193_1); (try rw [show ((1 : Int)).toNat = 1 from rfl] at hx193_2); (try rw [show 1 * 8 = 8 from rfl] at hx193_2); (try rw [show ((1 : Int)).toNat = 1 from rfl] at hx193_3); (try rw [show 1 * 8 = 8 from rfl] at hx193_3); (try rw [show ((1 : Int)).toNat = 1 from rfl] at hx193_4); (try rw [show 1 * 8 = 8 from rfl] at hx193_4); (try rw [show ((1 : Int)).toNat = 1 from rfl] at hx193_5); (try rw [show 1 * 8 = 8 from rfl] at hx193_5); (try rw [show ((1 : Int)).toNat = 1 from rfl] at hx193_6); (try rw [show 1 * 8 = 8 from rfl] at hx193_6); (try rw [show ((1 : Int)).toNat = 1 from rfl] at hx193_7); (try rw [show 1 * 8 = 8 from rfl] at hx193_7); replace hx193_0 := cl_ HB hx193_0; replace hx193_1 := cl_ HB hx193_1; replace hx193_2 := cl_ HB hx193_2; replace hx193_3 := cl_ HB hx193_3; replace hx193_4 := cl_ HB hx193_4; replace hx193_5 := cl_ HB hx193_5; replace hx193_6 := cl_ HB hx193_6; replace hx193_7 := cl_ HB hx193_7; have HR193_7 := A_ hi193_7; have HC193_7 := A_ hl193_7; clear hi193_7 hl193_7; replace p193 := eq_true p193; replace q193 := eq_true q193; refine start_ (n := 13) (S := fun w' => K8 w' gb190 (.int .i64 a0_0) (.int .i64 a0_1) (.string a0_2) (.string a0_3) (.string a0_4) (.bool a0_5) (.bool a0_6) (.slice (some ad191) l0_7.length c0_7) (w'.cell? ad191 = some (.int .i64 ((rd_T27 l0_7 0).f0)) ∧ w'.cell? ⟨ad191.block, ad191.off + 1, none⟩ = some (.int .i64 ((rd_T27 l0_7 0).f1.f0)) ∧ w'.cell? ⟨ad191.block, ad191.off + 2, none⟩ = some (.string ((rd_T27 l0_7 0).f1.f1)) ∧ w'.cell? ⟨ad191.block, ad191.off + 3, none⟩ = some (.string ((rd_T27 l0_7 0).f1.f2)) ∧ w'.cell? ⟨ad191.block, ad191.off + 4, none⟩ = some (.string ((rd_T27 l0_7 0).f1.f3)) ∧ w'.cell? ⟨ad191.block, ad191.off + 5, none⟩ = some (.bool ((rd_T27 l0_7 0).f2)) ∧ w'.cell? ⟨ad191.block, ad191.off + 6, none⟩ = some (.bool ((rd_T27 l0_7 0).f3)) ∧ w'.cell? ⟨ad191.block, ad191.off + 7, none⟩ = some (.slice A191_7 ((rd_T27 l0_7 0).f4).length c191_7) ∧ w'.cell? ⟨ad191.block, ad191.off + 8, none⟩ = some (.int .i64 ((rd_T27 l0_7 1).f0)) ∧ w'.cell? ⟨ad191.block, ad191.off + 8 + 1, none⟩ = some (.int .i64 ((rd_T27 l0_7 1).f1.f0)) ∧ w'.cell? ⟨ad191.block, ad191.off + 8 + 2, none⟩ = some (.string ((rd_T27 l0_7 1).f1.f1)) ∧ w'.cell? ⟨ad191.block, ad191.off + 8 + 3, none⟩ = some (.string ((rd_T27 l0_7 1).f1.f2)) ∧ w'.cell? ⟨ad191.block, ad191.off + 8 + 4, none⟩ = some (.string ((rd_T27 l0_7 1).f1.f3)) ∧ w'.cell? ⟨ad191.block, ad191.off + 8 + 5, none⟩ = some (.bool ((rd_T27 l0_7 1).f2)) ∧ w'.cell? ⟨ad191.block, ad191.off + 8 + 6, none⟩ = some (.bool ((rd_T27 l0_7 1).f3)) ∧ w'.cell? ⟨ad191.block, ad191.off + 8 + 7, none⟩ = some (.slice A193_7 ((rd_T27 l0_7 1).f4).length c193_7))) (ds := []) (ab 13 0) (by kernel_rfl) rfl rfl (kq8_ BK190 (⟨(cl_ HB hw191_0), (cl_ HB hw191_1), (cl_ HB hw191_2), (cl_ HB hw191_3), (cl_ HB hw191_4), (cl_ HB hw191_5), (cl_ HB hw191_6), (cl_ HB hw191_7), (cl_ HB hw193_0), (cl_ HB hw193_1), (cl_ HB hw193_2), (cl_ HB hw193_3), (cl_ HB hw193_4), (cl_ HB hw193_5), (cl_ HB hw193_6), (cl_ HB hw193_7)⟩)) (fun hHeld => ?_); refine with_tabW print_text.tab3 print_text.bits3 (fun HT_ HW_ => ?_)
    generalize w8.drew = w10 at BK190 HB HR191_7 HR193_7 hx191_0 hx191_1 hx191_2 hx191_3 hx191_4 hx191_5 hx191_6 hx191_7 hx193_0 hx193_1 hx193_2 hx193_3 hx193_4 hx193_5 hx193_6 hx193_7 hHeld ⊢; refine pA 0 10 13 1 ?_; refine pA 5 15 13 33 ?_; refine tB 1 11 13 35 ?_; refine pA 2 12 13 39 ?_; refine tB 3 13 13 47 ?_; refine tB 6 16 13 111 ?_; refine pA 7 17 13 239 ?_; refine tB 8 18 13 495 ?_; refine oA 4 (some 14) 13 511 fun K hK => ?_; refine gS Try.func24 #[.agg #[.int .i64 ((rd_T27 l0_7 0).f0), .int .i64 ((rd_T27 l0_7 0).f1.f0), .string ((rd_T27 l0_7 0).f1.f1), .string ((rd_T27 l0_7 0).f1.f2), .string ((rd_T27 l0_7 0).f1.f3), .bool ((rd_T27 l0_7 0).f2), .bool ((rd_T27 l0_7 0).f3), .slice A191_7 ((rd_T27 l0_7 0).f4).length c191_7]] ?_; (with_reducible refine (ih k (by omega) ((rd_T27 l0_7 0).f0) ((rd_T27 l0_7 0).f1.f0) ((rd_T27 l0_7 0).f1.f1) ((rd_T27 l0_7 0).f1.f2) ((rd_T27 l0_7 0).f1.f3) ((rd_T27 l0_7 0).f2) ((rd_T27 l0_7 0).f3) _ _ ((rd_T27 l0_7 0).f4) t192 _ ?side1 ?side2 A4.out).mono ?_)
    (case side1 => exact cb_ HR191_7)
    (case side2 => exact HC191_7.out)
    rintro e w11 ⟨rfl, hb⟩; refine ⟨_, rfl, ?_⟩; replace BK190 := bb_ BK190 hb; replace HB := bs_ hb; (try clear hb); refine hK.out _ _ (kq8_ BK190 (⟨(cl_ HB hw191_0), (cl_ HB hw191_1), (cl_ HB hw191_2), (cl_ HB hw191_3), (cl_ HB hw191_4), (cl_ HB hw191_5), (cl_ HB hw191_6), (cl_ HB hw191_7), (cl_ HB hw193_0), (cl_ HB hw193_1), (cl_ HB hw193_2), (cl_ HB hw193_3), (cl_ HB hw193_4), (cl_ HB hw193_5), (cl_ HB hw193_6), (cl_ HB hw193_7)⟩)) (fun hHeld => ?_); clear hK K; refine nA ?_; refine oA 9 (some 19) 13 1023 fun K hK => ?_; refine gS Try.func24 #[.agg #[.int .i64 ((rd_T27 l0_7 1).f0), .int .i64 ((rd_T27 l0_7 1).f1.f0), .string ((rd_T27 l0_7 1).f1.f1), .string ((rd_T27 l0_7 1).f1.f2), .string ((rd_T27 l0_7 1).f1.f3), .bool ((rd_T27 l0_7 1).f2), .bool ((rd_T27 l0_7 1).f3), .slice A193_7 ((rd_T27 l0_7 1).f4).length c193_7]] ?_; (with_reducible refine (ih k (by omega) ((rd_T27 l0_7 1).f0) ((rd_T27 l0_7 1).f1.f0) ((rd_T27 l0_7 1).f1.f1) ((rd_T27 l0_7 1).f1.f2) ((rd_T27 l0_7 1).f1.f3) ((rd_T27 l0_7 1).f2) ((rd_T27 l0_7 1).f3) _ _ ((rd_T27 l0_7 1).f4) t194 _ ?side1 ?side2 A6.out).mono ?_)
    (case side1 => exact cb_ HR193_7)
    (case side2 => exact HC193_7.out)
    rintro e w12 ⟨rfl, hb⟩; refine ⟨_, rfl, ?_⟩; replace BK190 := bb_ BK190 hb; replace HB := bs_ hb; (try clear hb); refine hK.out _ _ (kq8_ BK190 (⟨(cl_ HB hw191_0), (cl_ HB hw191_1), (cl_ HB hw191_2), (cl_ HB hw191_3), (cl_ HB hw191_4), (cl_ HB hw191_5), (cl_ HB hw191_6), (cl_ HB hw191_7), (cl_ HB hw193_0), (cl_ HB hw193_1), (cl_ HB hw193_2), (cl_ HB hw193_3), (cl_ HB hw193_4), (cl_ HB hw193_5), (cl_ HB hw193_6), (cl_ HB hw193_7)⟩)) (fun hHeld => ?_); clear hK K; refine nA ?_; refine oA 10 (some 20) 13 2047 fun K hK => ?_; refine Kd.R_lit_step Kd.string _ 9 ?hg (N := 20) ?hd (xs := ([t192, (⟨#[47]⟩ : ByteArray), t194] : List ByteArray)) (inner := [.string t192, .string ⟨#[47]⟩, .string t194]) (ok := fun _ => True) (okp := fun _ => True) ?hr ?hp (fun _ hk => hk) trivial (Below.refl _ _) (Nat.le_refl _) (by simp) ?_; (case hd => rfl); (case hg => rfl); (case hr => first | (go_simp; done) | (go_simp; rfl)); (case hp => exact (Reps.one (show Kd.M Kd.string _ _ _ t192 [.string t192] from rfl) (Reps.one (show Kd.M Kd.string _ _ _ (⟨#[47]⟩ : ByteArray) [.string ⟨#[47]⟩] from rfl) (Reps.one (show Kd.M Kd.string _ _ _ t194 [.string t194] from rfl) (Reps.none _ _))))); intro v196 w13 ho14 hb hg_ hnew_; clear hg_ hnew_; (first | rw [← Ny195.out] at ho14 | (simp only [Int.reduceToNat] at ho14; rw [← Ny195.out] at ho14)); have HO197 := A_ (Kd.R_lower ho14 (below_size hs_)); replace BK190 := bb_ BK190 hb; replace HB := bs_ hb; clear hb ho14; obtain ⟨Ao15, co15, eo15⟩ := Kd.R_slice HO197.out; (first | subst eo15 | (injection eo15 with f1_ f2_ f3_; have f4_ := f1_.symm; have f5_ := f3_.symm; clear f1_ f2_ f3_; subst f4_; subst f5_))
    refine hK.out _ _ (kq8_ BK190 (⟨(cl_ HB hw191_0), (cl_ HB hw191_1), (cl_ HB hw191_2), (cl_ HB hw191_3), (cl_ HB hw191_4), (cl_ HB hw191_5), (cl_ HB hw191_6), (cl_ HB hw191_7), (cl_ HB hw193_0), (cl_ HB hw193_1), (cl_ HB hw193_2), (cl_ HB hw193_3), (cl_ HB hw193_4), (cl_ HB hw193_5), (cl_ HB hw193_6), (cl_ HB hw193_7)⟩)) (fun hHeld => ?_); clear hK K; refine nA ?_; refine oA 11 (some 21) 13 4095 fun K hK => ?_; refine gS Try.func35 #[.slice Ao15 y195.length co15] ?_; (with_reducible refine (print_join.calls _ _ y195 t198 _ ?side1 ?side2 A7.out).mono ?_)
    (case side1 => exact cr_ (Kd.R_reads' HO197.out).2.2)
    (case side2 => exact (Kd.R_reads' HO197.out).2.1)
    rintro e w16 ⟨rfl, hb⟩; refine ⟨_, rfl, ?_⟩; replace HO197 := A_ (Kd.R_below (hrR_ HO197.out) hb); replace BK190 := bb_ BK190 hb; replace HB := bs_ hb; (try clear hb); refine hK.out _ _ (kq8_ BK190 (⟨(cl_ HB hw191_0), (cl_ HB hw191_1), (cl_ HB hw191_2), (cl_ HB hw191_3), (cl_ HB hw191_4), (cl_ HB hw191_5), (cl_ HB hw191_6), (cl_ HB hw191_7), (cl_ HB hw193_0), (cl_ HB hw193_1), (cl_ HB hw193_2), (cl_ HB hw193_3), (cl_ HB hw193_4), (cl_ HB hw193_5), (cl_ HB hw193_6), (cl_ HB hw193_7)⟩)) (fun hHeld => ?_); clear hK K; refine nA ?_; refine pA 12 2 13 8191 ?_; refine done_ (done_of HT_.out (by kernel_rfl)) ?_; (try go_wp2); go_ret; exact ⟨re_, hs_⟩
   ·rw [if_neg c5] at H
    exact absurd H (by simp)
  ·rw [if_neg c3] at H
   exact absurd H (by simp)
 ·rw [if_neg c2] at H
  have c2b0 : (a0_0 == 1) = false := beq_eq_false_iff_ne.mpr c2; have c2b1 : (a0_0 != 1) = true := bne_iff_ne.mpr c2
  by_cases c17 : a0_0 = 2
  ·rw [if_pos c17] at H
   have c17b0 : (a0_0 == 2) = true := beq_iff_eq.mpr c17; have c17b1 : (a0_0 != 2) = false := bne_eq_false_iff_eq.mpr c17; clear c17; have H' := A_ H; clear H; go_enter Try.func24, Try.ntmps24; go_wp2_with (first | (refine gx_ w 1 (n8_ a0_0 a0_1 a0_2 a0_3 a0_4 a0_5 a0_6 (.slice A0_7 l0_7.length c0_7)) 27 ?_; clear HB; intro gb190 w18 BK190 GE190 HB; have GW190 := GE190; have Z19 := bz8_ BK190)); go_loopg [3, 27] k (fun kq v3 v27 w' => ∃ (x3_1 : List ByteArray) (x27_1 : Int), v27 = .int .i64 x27_1 ∧ Aside0 (print_text.l0 kq x3_1 l0_7 (l0_7.length : Int) x27_1 = some r) ∧ Aside0 (kq ≤ k) ∧ Aside0 (Kd.R Kd.string 9 w' w.heap.size (fun _ => True) v3 x3_1) ∧ Aside0 (w'.heap[gb190]? = some (.cells #[.int .i64 a0_0, .int .i64 a0_1, .string a0_2, .string a0_3, .string a0_4, .bool a0_5, .bool a0_6, (.slice A0_7 l0_7.length c0_7)] 27 (0, 0))) ∧ Aside0 (Below w.heap.size w w'))
   case atStart => exact ⟨(([] : List ByteArray)), (0), rf_, H', ⟨Nat.le_refl _⟩, ⟨by first | exact Kd.R_nil _ _ _ _ _ | exact Kd.N_nil _ _ _ _ _ | exact Kd.V_nil _ _ _ _ _ | exact Kd.Q_nil _ _ _ _ _ | exact Kd.S_nil _ _ _ _ _⟩, ⟨bl_ BK190.out⟩, ⟨hs_⟩⟩
   case round =>
    clear H'; (try clear c1); (try clear p1); (try clear q1); (try clear hx1); (try clear qi1); (try clear c2); (try clear c2b0); (try clear c2b1); (try clear p2); (try clear c3); (try clear c3b0); (try clear c3b1); (try clear c5); (try clear c5b0); (try clear c5b1); (try clear c7); (try clear c17); (try clear c17b0); (try clear c17b1); (try clear c19); (try clear p19); (try clear q19); (try clear hx19); (try clear qi19); (try clear Z19); (try clear Z9); (try clear hx191_0); (try clear hx191_1); (try clear hx191_2); (try clear hx191_3); (try clear hx191_4); (try clear hx191_5); (try clear hx191_6); (try clear hx191_7); (try clear hx193_0); (try clear hx193_1); (try clear hx193_2); (try clear hx193_3); (try clear hx193_4); (try clear hx193_5); (try clear hx193_6); (try clear hx193_7); (try clear p191); (try clear p193); (try clear q191); (try clear q193); obtain ⟨x3_1, x27_1, rfl, HA, HK1, HO_3, BK190, HB⟩ := hrel
    cases gk with
    | zero => exact absurd HA.out (by simp [print_text.l0])
    | succ k1 =>
     have H := HA.out; clear HA; simp only [print_text.l0] at H
     by_cases c20 : x27_1 < (l0_7.length : Int)
     ·rw [if_pos c20] at H
      have c20b0 := decide_eq_true c20; clear c20
      by_cases c21 : 0 ≤ x27_1
      ·rw [if_pos c21] at H
       have c21b0 := decide_eq_true c21; clear c21
       by_cases c22 : x27_1 < (l0_7.length : Int)
       ·rw [if_pos c22] at H
        have c22b0 := decide_eq_true c22; clear c22; obtain ⟨t201, A23, H⟩ := bi_ H
        by_cases c24 : x3_1.length < 8796093022208
        ·rw [if_pos c24] at H
         have LMc24 := A_ c24; clear c24; obtain ⟨y202, hy202⟩ : ∃ y_ : List ByteArray, y_ = (x3_1 ++ [t201]) := ⟨_, rfl⟩; (replace H : (print_text.l0 k1 y202 l0_7 (l0_7.length : Int) (wrap64 (x27_1 + 1))) = some r := hy_ hy202 H); have Ny202 := A_ hy202; clear hy202; have H' := A_ H; clear H; have p199 : 0 ≤ (x27_1 : Int) := od_; have q199 : x27_1 < (l0_7.length : Int) := od_; obtain ⟨ad199, A199_7, c199_7, e199, hx199_0, hx199_1, hx199_2, hx199_3, hx199_4, hx199_5, hx199_6, hx199_7, hl199_7, hi199_7⟩ := at_T27 HR0_7.out x27_1 p199 q199
         cases e199
         replace hx199_0 := cl_ HB hx199_0; replace hx199_1 := cl_ HB hx199_1; replace hx199_2 := cl_ HB hx199_2; replace hx199_3 := cl_ HB hx199_3; replace hx199_4 := cl_ HB hx199_4; replace hx199_5 := cl_ HB hx199_5; replace hx199_6 := cl_ HB hx199_6; replace hx199_7 := cl_ HB hx199_7; have HR199_7 := A_ hi199_7; have HC199_7 := A_ hl199_7; clear hi199_7 hl199_7; replace p199 := eq_true p199; replace q199 := eq_true q199; go_wp2_with (first | (refine gD 5 ?_; refine bxe_ 5 z8_ 27 ?_; intro gb200 hg w25 hbox hb; replace HO_3 := A_ (Kd.R_below (hrR_ HO_3.out) hb); have BK200 := A_ (hbox); have GW200 := gs_ w hg; have GE200 := gs_ w hg; replace HB := bs_ hb; have NB190_200 := nl_ BK190 hg; have NB200_190 := ng_ BK190 hg; replace BK190 := bb_ BK190 hb; clear hb hbox hg; have hnb26 := NB200_190.out; have hnc26 := NB190_200.out; have Z27 := bz8_ BK200) | (refine gC 24 ?_; refine gL 33 Try.func24 #[.agg #[.int .i64 ((rd_T27 l0_7 x27_1).f0), .int .i64 ((rd_T27 l0_7 x27_1).f1.f0), .string ((rd_T27 l0_7 x27_1).f1.f1), .string ((rd_T27 l0_7 x27_1).f1.f2), .string ((rd_T27 l0_7 x27_1).f1.f3), .bool ((rd_T27 l0_7 x27_1).f2), .bool ((rd_T27 l0_7 x27_1).f3), .slice A199_7 ((rd_T27 l0_7 x27_1).f4).length c199_7]] ?_; (with_reducible refine (ih k1 (by have := HK1.out; omega) ((rd_T27 l0_7 x27_1).f0) ((rd_T27 l0_7 x27_1).f1.f0) ((rd_T27 l0_7 x27_1).f1.f1) ((rd_T27 l0_7 x27_1).f1.f2) ((rd_T27 l0_7 x27_1).f1.f3) ((rd_T27 l0_7 x27_1).f2) ((rd_T27 l0_7 x27_1).f3) _ _ ((rd_T27 l0_7 x27_1).f4) t201 _ ?side1 ?side2 A23.out).mono ?_); (case side1 => exact Kd.C_below HR199_7.out hs_); (case side2 => exact HC199_7.out); rintro e w28 ⟨rfl, hb⟩; refine ⟨_, rfl, ?_⟩; replace HO_3 := A_ (Kd.R_below (by (with_reducible repeat (first | apply Kd.R_alloc | apply Kd.R_drewN | apply Kd.R_drew)); exact (Kd.R_mono (Kd.R_far (p := ⟨gb200, 7, none⟩) (Kd.R_far (p := ⟨gb200, 6, none⟩) (Kd.R_far (p := ⟨gb200, 5, none⟩) (Kd.R_far (p := ⟨gb200, 4, none⟩) (Kd.R_far (p := ⟨gb200, 3, none⟩) (Kd.R_far (p := ⟨gb200, 2, none⟩) (Kd.R_far (p := ⟨gb200, 1, none⟩) (Kd.R_far (p := ⟨gb200, 0, none⟩) (Kd.R_types HO_3.out BK200.out (by decide)) (fun _ hk => hk.2) (.int .i64 ((rd_T27 l0_7 x27_1).f0))) (fun _ hk => hk.2) (.int .i64 ((rd_T27 l0_7 x27_1).f1.f0))) (fun _ hk => hk.2) (.string ((rd_T27 l0_7 x27_1).f1.f1))) (fun _ hk => hk.2) (.string ((rd_T27 l0_7 x27_1).f1.f2))) (fun _ hk => hk.2) (.string ((rd_T27 l0_7 x27_1).f1.f3))) (fun _ hk => hk.2) (.bool ((rd_T27 l0_7 x27_1).f2))) (fun _ hk => hk.2) (.bool ((rd_T27 l0_7 x27_1).f3))) (fun _ hk => hk.2) (.slice A199_7 ((rd_T27 l0_7 x27_1).f4).length c199_7)) (fun _ h_ => h_.1))) hb); replace BK190 := A_ (blk_below (g := gb190) (o := .cells (n8_ a0_0 a0_1 a0_2 a0_3 a0_4 a0_5 a0_6 (.slice (some ad199) l0_7.length c0_7)) 27 (0, 0)) (pf_ NB190_200 BK190) hb); replace BK200 := bp_ BK200 (.cells #[.int .i64 ((rd_T27 l0_7 x27_1).f0), .int .i64 ((rd_T27 l0_7 x27_1).f1.f0), .string ((rd_T27 l0_7 x27_1).f1.f1), .string ((rd_T27 l0_7 x27_1).f1.f2), .string ((rd_T27 l0_7 x27_1).f1.f3), .bool ((rd_T27 l0_7 x27_1).f2), .bool ((rd_T27 l0_7 x27_1).f3), .slice A199_7 ((rd_T27 l0_7 x27_1).f4).length c199_7] 27 (0, 0)) hb; replace HB := bs_ hb; (try clear hb); (try clear hk)) | ((with_reducible refine gate_builtin (b := .append) (xs := #[.tmp 31, .tmp 34]) rfl ?_); at_builtin; refine Kd.R_append Kd.string (w0 := w) w.heap.size rfl (.tmp 31) (.tmp 34) 67 9 (.string ⟨#[]⟩) 16 rfl Try.underlying67 info9_printtext rfl (by decide) (by omega) u3 x3_1 t201 [.string t201] (fun _ => True) (fun _ => False) rfl rfl ?aP (fun _ hk => hk.elim) ?aF ?aO ?aB ?aS ?aL ?_; (case aP => exact rfl); (case aB => exact hs_); (case aF => exact (fun _ _ => trivial)); (case aO => exact (hrR_ HO_3.out)); (case aS => exact (below_size hs_)); (case aL => have := LMc24.out; omega); intro v203 w29 ho hb hg hat; rw [← Ny202.out] at ho; replace BK190 := A_ (blk_grown (g := gb190) (o := .cells (n8_ a0_0 a0_1 a0_2 a0_3 a0_4 a0_5 a0_6 (.slice (some ad199) l0_7.length c0_7)) 27 (0, 0)) (bl_ BK190.out) hg (Kd.R_ne HO_3.out BK190.out (by decide))); replace BK200 := A_ (blk_grown (g := gb200) (o := .cells #[.int .i64 ((rd_T27 l0_7 x27_1).f0), .int .i64 ((rd_T27 l0_7 x27_1).f1.f0), .string ((rd_T27 l0_7 x27_1).f1.f1), .string ((rd_T27 l0_7 x27_1).f1.f2), .string ((rd_T27 l0_7 x27_1).f1.f3), .bool ((rd_T27 l0_7 x27_1).f2), .bool ((rd_T27 l0_7 x27_1).f3), .slice A199_7 ((rd_T27 l0_7 x27_1).f4).length c199_7] 27 (0, 0)) (bl_ BK200.out) hg (Kd.R_ne HO_3.out BK200.out (by decide))); replace HB := A_ (hb); have HO204 := A_ (ho); clear HO_3; clear ho hb hg hat))
         go_roundg k1
         case measure => have := HK1.out; omega
         case rel => exact ⟨(y202), (wrap64 (x27_1 + 1)), rf_, H', ⟨by have := HK1.out; omega⟩, ⟨fxR_ HO204.out⟩, ⟨bl_ BK190.out⟩, ⟨hs_⟩⟩
        ·rw [if_neg c24] at H
         exact absurd H (by simp)
       ·rw [if_neg c22] at H
        exact absurd H (by simp)
      ·rw [if_neg c21] at H
       exact absurd H (by simp)
     ·rw [if_neg c20] at H
      have c20b0 := decide_eq_false c20; have c20b9 := c20b0; (try simp only [hl191_7] at c20b9); (try simp only [hl193_7] at c20b9); (try simp only [hl199_7] at c20b9); clear c20; obtain ⟨t205, A30, H⟩ := bi_ H; obtain ⟨y206, hy206⟩ : ∃ y_ : List ByteArray, y_ = (([(⟨#[91]⟩ : ByteArray), t205, (⟨#[93]⟩ : ByteArray)] : List ByteArray)) := ⟨_, rfl⟩; (replace H : ((print_join.f y206).bind fun t209 => (some t209)) = some r := hy_ hy206 H); have Ny206 := A_ hy206; clear hy206; obtain ⟨t209, A31, H⟩ := bi_ H; obtain rfl := Option.some.inj H; obtain ⟨Ao32, co32, eo32⟩ := Kd.R_slice HO_3.out; subst eo32; go_wp2_with (first | (refine gC 36 ?_; refine gL 38 Try.func36 #[.slice Ao32 x3_1.length co32, .string ⟨#[44, 32]⟩] ?_; (with_reducible refine (strings_Join.calls _ _ x3_1 (⟨#[44, 32]⟩ : ByteArray) t205 _ ?side1 ?side2 A30.out).mono ?_); (case side1 => exact cr_ (Kd.R_reads' HO_3.out).2.2); (case side2 => exact (Kd.R_reads' HO_3.out).2.1); rintro e w33 ⟨rfl, hb⟩; refine ⟨_, rfl, ?_⟩; replace HO_3 := A_ (Kd.R_below (hrR_ HO_3.out) hb); replace BK190 := bb_ BK190 hb; replace HB := bs_ hb; (try clear hb)) | (refine gD 39 ?_; refine Kd.R_lit Kd.string _ 9 ?hg (N := 39) ?hd (xs := ([(⟨#[91]⟩ : ByteArray), t205, (⟨#[93]⟩ : ByteArray)] : List ByteArray)) (inner := [.string ⟨#[91]⟩, .string t205, .string ⟨#[93]⟩]) (ok := fun _ => True) (okp := fun _ => True) ?hr ?hp (fun _ hk => hk) trivial (Below.refl _ _) (Nat.le_refl _) (by simp) ?_; (case hd => rfl); (case hg => rfl); (case hr => first | (go_simp; done) | (go_simp; rfl)); (case hp => exact (Reps.one (show Kd.M Kd.string _ _ _ (⟨#[91]⟩ : ByteArray) [.string ⟨#[91]⟩] from rfl) (Reps.one (show Kd.M Kd.string _ _ _ t205 [.string t205] from rfl) (Reps.one (show Kd.M Kd.string _ _ _ (⟨#[93]⟩ : ByteArray) [.string ⟨#[93]⟩] from rfl) (Reps.none _ _))))); intro v207 w34 ho35 hb hg_ hnew_; clear hg_ hnew_; (first | rw [← Ny206.out] at ho35 | (simp only [Int.reduceToNat] at ho35; rw [← Ny206.out] at ho35)); have HO208 := A_ (Kd.R_lower (Kd.R_new' ho35 (Kd.R_lt (hrR_ HO_3.out))) (below_size hs_)); replace HO_3 := A_ (Kd.R_elder' (hrR_ HO_3.out) (Kd.R_base ho35) hb); replace BK190 := bb_ BK190 hb; replace HB := bs_ hb; clear hb ho35; obtain ⟨Ao36, co36, eo36⟩ := Kd.R_slice HO208.out; subst eo36) | (refine gC 35 ?_; refine gL 40 Try.func35 #[.slice Ao36 y206.length co36] ?_; (with_reducible refine (print_join.calls _ _ y206 t209 _ ?side1 ?side2 A31.out).mono ?_); (case side1 => exact cr_ (Kd.R_reads' HO208.out).2.2); (case side2 => exact (Kd.R_reads' HO208.out).2.1); rintro e w37 ⟨rfl, hb⟩; refine ⟨_, rfl, ?_⟩; replace HO_3 := A_ (Kd.R_below (hrR_ HO_3.out) hb); replace HO208 := A_ (Kd.R_below (hrR_ HO208.out) hb); replace BK190 := bb_ BK190 hb; replace HB := bs_ hb; (try clear hb)))
      go_ret; exact ⟨re_, hs_⟩
  ·rw [if_neg c17] at H
   have c17b0 : (a0_0 == 2) = false := beq_eq_false_iff_ne.mpr c17; have c17b1 : (a0_0 != 2) = true := bne_iff_ne.mpr c17
   by_cases c38 : a0_0 = 3
   ·rw [if_pos c38] at H
    have c38b0 : (a0_0 == 3) = true := beq_iff_eq.mpr c38; have c38b1 : (a0_0 != 3) = false := bne_eq_false_iff_eq.mpr c38; clear c38; obtain rfl := Option.some.inj H; go_enter Try.func24, Try.ntmps24; go_wp2_with (first | (refine gx_ w 1 (n8_ a0_0 a0_1 a0_2 a0_3 a0_4 a0_5 a0_6 (.slice A0_7 l0_7.length c0_7)) 27 ?_; clear HB; intro gb190 w39 BK190 GE190 HB; have GW190 := GE190; have Z40 := bz8_ BK190)); go_ret; exact ⟨re_, hs_⟩
   ·rw [if_neg c38] at H
    have c38b0 : (a0_0 == 3) = false := beq_eq_false_iff_ne.mpr c38; have c38b1 : (a0_0 != 3) = true := bne_iff_ne.mpr c38
    by_cases c41 : a0_0 = 4
    ·rw [if_pos c41] at H
     have c41b0 : (a0_0 == 4) = true := beq_iff_eq.mpr c41; have c41b1 : (a0_0 != 4) = false := bne_eq_false_iff_eq.mpr c41; clear c41; obtain rfl := Option.some.inj H; go_enter Try.func24, Try.ntmps24; go_wp2_with (first | (refine gx_ w 1 (n8_ a0_0 a0_1 a0_2 a0_3 a0_4 a0_5 a0_6 (.slice A0_7 l0_7.length c0_7)) 27 ?_; clear HB; intro gb190 w42 BK190 GE190 HB; have GW190 := GE190; have Z43 := bz8_ BK190)); go_ret; exact ⟨re_, hs_⟩
    ·rw [if_neg c41] at H
     have c41b0 : (a0_0 == 4) = false := beq_eq_false_iff_ne.mpr c41; have c41b1 : (a0_0 != 4) = true := bne_iff_ne.mpr c41; obtain ⟨t210, A44, H⟩ := bi_ H; obtain ⟨t211, A45, H⟩ := bi_ H; obtain ⟨t212, A46, H⟩ := bi_ H; obtain ⟨y213, hy213⟩ : ∃ y_ : List ByteArray, y_ = (([t210, t211, t212] : List ByteArray)) := ⟨_, rfl⟩; (replace H : ((print_join.f y213).bind fun t216 => (some t216)) = some r := hy_ hy213 H); have Ny213 := A_ hy213; clear hy213; obtain ⟨t216, A47, H⟩ := bi_ H; obtain rfl := Option.some.inj H; go_enter Try.func24, Try.ntmps24; (try go_wp2_with (first | (refine gx_ w 1 (n8_ a0_0 a0_1 a0_2 a0_3 a0_4 a0_5 a0_6 (.slice A0_7 l0_7.length c0_7)) 27 ?_; clear HB; intro gb190 w48 BK190 GE190 HB; have GW190 := GE190; have Z49 := bz8_ BK190))); replace BK190 := A_ (blk_drew BK190.out); replace HB := A_ (below_drew1 HB.out); refine start_ (n := 12) (S := fun w' => C8 w' gb190 (.int .i64 a0_0) (.int .i64 a0_1) (.string a0_2) (.string a0_3) (.string a0_4) (.bool a0_5) (.bool a0_6) (.slice A0_7 l0_7.length c0_7)) (ds := []) (ab 12 0) (by kernel_rfl) rfl rfl (cq8_ BK190) (fun hHeld => ?_); refine with_tabW print_text.tab16 print_text.bits16 (fun HT_ HW_ => ?_)
     generalize w48.drew = w50 at BK190 HB hHeld ⊢; refine pA 0 45 12 1 ?_; refine pA 3 48 12 9 ?_; refine pA 6 51 12 73 ?_; refine tB 1 46 12 75 ?_; refine tB 4 49 12 91 ?_; refine tB 7 52 12 219 ?_; refine oA 2 (some 47) 12 223 fun K hK => ?_; refine gS Try.func37 #[.agg (n4_ a0_1 a0_2 a0_3 a0_4)] ?_; (with_reducible refine (point_Text.calls k a0_1 a0_2 a0_3 a0_4 t210 _ A44.out).mono ?_); rintro e w51 ⟨rfl, hb⟩; refine ⟨_, rfl, ?_⟩; replace BK190 := bb_ BK190 hb; replace HB := bs_ hb; (try clear hb); refine hK.out _ _ (cq8_ BK190) (fun hHeld => ?_); clear hK K; refine nA ?_; refine oA 5 (some 50) 12 255 fun K hK => ?_; refine gS Try.func38 #[.bool a0_5, .string ⟨#[63]⟩] ?_; (with_reducible refine (print_mark.calls a0_5 (⟨#[63]⟩ : ByteArray) t211 _ A45.out).mono ?_); rintro e w' ⟨rfl, ⟨nd, rfl⟩⟩; refine ⟨_, rfl, ?_⟩; refine hK.out _ _ (cq8_ BK190) (fun hHeld => ?_); clear hK K; refine nA ?_; refine oA 8 (some 53) 12 511 fun K hK => ?_; refine gS Try.func38 #[.bool a0_6, .string ⟨#[126]⟩] ?_; (with_reducible refine (print_mark.calls a0_6 (⟨#[126]⟩ : ByteArray) t212 _ A46.out).mono ?_); rintro e w' ⟨rfl, ⟨nd, rfl⟩⟩; refine ⟨_, rfl, ?_⟩; refine hK.out _ _ (cq8_ BK190) (fun hHeld => ?_); clear hK K; refine nA ?_; refine oA 9 (some 54) 12 1023 fun K hK => ?_; refine Kd.R_lit_step Kd.string _ 9 ?hg (N := 54) ?hd (xs := ([t210, t211, t212] : List ByteArray)) (inner := [.string t210, .string t211, .string t212]) (ok := fun _ => True) (okp := fun _ => True) ?hr ?hp (fun _ hk => hk) trivial (Below.refl _ _) (Nat.le_refl _) (by simp) ?_; (case hd => rfl); (case hg => rfl); (case hr => first | (go_simp; done) | (go_simp; rfl)); (case hp => exact (Reps.one (show Kd.M Kd.string _ _ _ t210 [.string t210] from rfl) (Reps.one (show Kd.M Kd.string _ _ _ t211 [.string t211] from rfl) (Reps.one (show Kd.M Kd.string _ _ _ t212 [.string t212] from rfl) (Reps.none _ _)))))
     intro v214 w52 ho53 hb hg_ hnew_; clear hg_ hnew_; (first | rw [← Ny213.out] at ho53 | (simp only [Int.reduceToNat] at ho53; rw [← Ny213.out] at ho53)); have HO215 := A_ (Kd.R_lower ho53 (below_size hs_)); replace BK190 := bb_ BK190 hb; replace HB := bs_ hb; clear hb ho53; obtain ⟨Ao54, co54, eo54⟩ := Kd.R_slice HO215.out; (first | subst eo54 | (injection eo54 with f1_ f2_ f3_; have f4_ := f1_.symm; have f5_ := f3_.symm; clear f1_ f2_ f3_; subst f4_; subst f5_)); refine hK.out _ _ (cq8_ BK190) (fun hHeld => ?_); clear hK K; refine nA ?_; refine oA 10 (some 55) 12 2047 fun K hK => ?_; refine gS Try.func35 #[.slice Ao54 y213.length co54] ?_; (with_reducible refine (print_join.calls _ _ y213 t216 _ ?side1 ?side2 A47.out).mono ?_)
     (case side1 => exact cr_ (Kd.R_reads' HO215.out).2.2)
     (case side2 => exact (Kd.R_reads' HO215.out).2.1)
     rintro e w55 ⟨rfl, hb⟩; refine ⟨_, rfl, ?_⟩; replace HO215 := A_ (Kd.R_below (hrR_ HO215.out) hb); replace BK190 := bb_ BK190 hb; replace HB := bs_ hb; (try clear hb); refine hK.out _ _ (cq8_ BK190) (fun hHeld => ?_); clear hK K; refine nA ?_; refine pA 11 2 12 4095 ?_; refine done_ (done_of HT_.out (by kernel_rfl)) ?_; (try go_wp2); go_ret; exact ⟨re_, hs_⟩
set_option maxHeartbeats 8000000 in
set_option maxRecDepth 100000 in
theorem print_Text.calls (k : Nat) (a0_0 a0_1 : Int) (a0_2 a0_3 a0_4 : ByteArray) (a0_5 a0_6 : Bool) (A0_7 : Option Addr) (c0_7 : Nat) (l0_7 : List (S27)) (r : ByteArray) (w : World) (hr0_7 : Kd.C k27 w A0_7 l0_7.length l0_7) (hc0_7 : l0_7.length ≤ c0_7) (h : print_Text.f k a0_0 a0_1 a0_2 a0_3 a0_4 a0_5 a0_6 l0_7 = some r) :
  Calls Try.prog 12 #[.agg #[.int .i64 a0_0, .int .i64 a0_1, .string a0_2, .string a0_3, .string a0_4, .bool a0_5, .bool a0_6, .slice A0_7 l0_7.length c0_7]] w fun e w' => e = .returned (.string r) ∧ Below w.heap.size w w' := by
 have hu27 := Try.underlying27; have HR0_7 := A_ hr0_7; have HC0_7 := A_ hc0_7; clear hr0_7 hc0_7; have HB := A_ (Below.refl w.heap.size w); have H : ((tree_Sane.f k a0_0 a0_1 a0_2 a0_3 a0_4 a0_5 a0_6 l0_7).bind fun t218 => (if t218 = true then ((print_text.f k a0_0 a0_1 a0_2 a0_3 a0_4 a0_5 a0_6 l0_7).bind fun t219 => (some t219)) else (some (⟨#[]⟩ : ByteArray)))) = some r := h; clear h; obtain ⟨t218, A2, H⟩ := bi_ H
 by_cases c3 : t218 = true
 ·subst c3
  replace H := iP_ H; obtain ⟨t219, A4, H⟩ := bi_ H; obtain rfl := Option.some.inj H; go_enter Try.func12, Try.ntmps12; go_wp2_with (first | (refine gx_ w 1 (n8_ a0_0 a0_1 a0_2 a0_3 a0_4 a0_5 a0_6 (.slice A0_7 l0_7.length c0_7)) 27 ?_; clear HB; intro gb217 w5 BK217 GE217 HB; have GW217 := GE217; have Z6 := bz8_ BK217) | (refine gC 8 ?_; refine gL 4 Try.func8 #[.agg (n8_ a0_0 a0_1 a0_2 a0_3 a0_4 a0_5 a0_6 (.slice A0_7 l0_7.length c0_7))] ?_; (with_reducible refine (tree_Sane.calls k a0_0 a0_1 a0_2 a0_3 a0_4 a0_5 a0_6 _ _ l0_7 true _ ?side1 ?side2 A2.out).mono ?_); (case side1 => exact cb_ HR0_7); (case side2 => exact HC0_7.out); rintro e w7 ⟨rfl, hb⟩; refine ⟨_, rfl, ?_⟩; replace BK217 := bb_ BK217 hb; replace HB := bs_ hb; (try clear hb); have Z8 := bz8_ BK217) | (refine gC 24 ?_; refine gL 7 Try.func24 #[.agg (n8_ a0_0 a0_1 a0_2 a0_3 a0_4 a0_5 a0_6 (.slice A0_7 l0_7.length c0_7))] ?_; (with_reducible refine (print_text.calls k a0_0 a0_1 a0_2 a0_3 a0_4 a0_5 a0_6 _ _ l0_7 t219 _ ?side1 ?side2 A4.out).mono ?_); (case side1 => exact cb_ HR0_7); (case side2 => exact HC0_7.out); rintro e w9 ⟨rfl, hb⟩; refine ⟨_, rfl, ?_⟩; replace BK217 := bb_ BK217 hb; replace HB := bs_ hb; (try clear hb)))
  go_ret; exact ⟨re_, hs_⟩
 ·replace c3 := Bool.eq_false_iff.mpr c3
  subst c3; replace H := iN_ H; obtain rfl := Option.some.inj H; go_enter Try.func12, Try.ntmps12; go_wp2_with (first | (refine gx_ w 1 (n8_ a0_0 a0_1 a0_2 a0_3 a0_4 a0_5 a0_6 (.slice A0_7 l0_7.length c0_7)) 27 ?_; clear HB; intro gb217 w10 BK217 GE217 HB; have GW217 := GE217; have Z11 := bz8_ BK217) | (refine gC 8 ?_; refine gL 4 Try.func8 #[.agg (n8_ a0_0 a0_1 a0_2 a0_3 a0_4 a0_5 a0_6 (.slice A0_7 l0_7.length c0_7))] ?_; (with_reducible refine (tree_Sane.calls k a0_0 a0_1 a0_2 a0_3 a0_4 a0_5 a0_6 _ _ l0_7 false _ ?side1 ?side2 A2.out).mono ?_); (case side1 => exact cb_ HR0_7); (case side2 => exact HC0_7.out); rintro e w12 ⟨rfl, hb⟩; refine ⟨_, rfl, ?_⟩; replace BK217 := bb_ BK217 hb; replace HB := bs_ hb; (try clear hb))); go_ret; exact ⟨re_, hs_⟩
set_option maxHeartbeats 8000000 in
set_option maxRecDepth 100000 in
theorem lustrumlaw13_awake.callsT (k : Nat)  (r : Bool) (w : World) (hrT_ : r = true) (h : lustrumlaw13_awake.f k  = some r) :
  Calls Try.prog 5 #[] w fun e w' => e = .returned (.bool r) ∧ Below w.heap.size w w' := by
 have hu27 := Try.underlying27; have HB := A_ (Below.refl w.heap.size w); have H : ((parse_Parse.f k (⟨#[91, 49, 57, 56, 52, 126, 63, 44, 32, 46, 46, 47, 49, 57, 88, 52, 93]⟩ : ByteArray)).bind fun bt101 => ((parse_Parse.f k (⟨#[49, 57, 56, 52, 47, 91]⟩ : ByteArray)).bind fun bt114 => ((parse_Parse.f k (⟨#[91, 49, 57, 56, 52]⟩ : ByteArray)).bind fun bt127 => (if bt101.2.2.2.2.2.2.2.2.2 = 0 then (if bt101.2.2.2.2.2.2.2.2.1 = 17 then ((print_Text.f k bt101.1 bt101.2.1 bt101.2.2.1 bt101.2.2.2.1 bt101.2.2.2.2.1 bt101.2.2.2.2.2.1 bt101.2.2.2.2.2.2.1 bt101.2.2.2.2.2.2.2.1).bind fun t140 => (if t140.toList = ([91, 49, 57, 56, 52, 63, 126, 44, 32, 46, 46, 47, 49, 57, 88, 52, 93] : List UInt8) then (if bt114.2.2.2.2.2.2.2.2.1 = 5 then (if bt114.2.2.2.2.2.2.2.2.2 = 3 then (if bt127.2.2.2.2.2.2.2.2.1 = 5 then (some (bt127.2.2.2.2.2.2.2.2.2 == 4)) else (some false)) else (some false)) else (some false)) else (some false))) else (some false)) else (some false))))) = some r := h; clear h; obtain ⟨⟨t101, t102, t103, t104, t105, t106, t107, t108, t111, t112⟩, A1, H⟩ := bi_ H; obtain ⟨⟨t114, t115, t116, t117, t118, t119, t120, t121, t124, t125⟩, A2, H⟩ := bi_ H; obtain ⟨⟨t127, t128, t129, t130, t131, t132, t133, t134, t137, t138⟩, A3, H⟩ := bi_ H
 by_cases c4 : t112 = 0
 ·rw [if_pos c4] at H
  have c4b0 : (t112 == 0) = true := beq_iff_eq.mpr c4; have c4b1 : (t112 != 0) = false := bne_eq_false_iff_eq.mpr c4; clear c4
  by_cases c5 : t111 = 17
  ·rw [if_pos c5] at H
   have c5b0 : (t111 == 17) = true := beq_iff_eq.mpr c5; have c5b1 : (t111 != 17) = false := bne_eq_false_iff_eq.mpr c5; clear c5; obtain ⟨t140, A6, H⟩ := bi_ H
   by_cases c7 : t140.toList = ([91, 49, 57, 56, 52, 63, 126, 44, 32, 46, 46, 47, 49, 57, 88, 52, 93] : List UInt8)
   ·rw [if_pos c7] at H
    have c7b0 : (t140.toList == ([91, 49, 57, 56, 52, 63, 126, 44, 32, 46, 46, 47, 49, 57, 88, 52, 93] : List UInt8)) = true := beq_iff_eq.mpr c7; have c7b1 : (t140.toList != ([91, 49, 57, 56, 52, 63, 126, 44, 32, 46, 46, 47, 49, 57, 88, 52, 93] : List UInt8)) = false := bne_eq_false_iff_eq.mpr c7; clear c7
    by_cases c8 : t124 = 5
    ·rw [if_pos c8] at H
     have c8b0 : (t124 == 5) = true := beq_iff_eq.mpr c8; have c8b1 : (t124 != 5) = false := bne_eq_false_iff_eq.mpr c8; clear c8
     by_cases c9 : t125 = 3
     ·rw [if_pos c9] at H
      have c9b0 : (t125 == 3) = true := beq_iff_eq.mpr c9; have c9b1 : (t125 != 3) = false := bne_eq_false_iff_eq.mpr c9; clear c9
      by_cases c10 : t137 = 5
      ·rw [if_pos c10] at H
       have c10b0 : (t137 == 5) = true := beq_iff_eq.mpr c10; have c10b1 : (t137 != 5) = false := bne_eq_false_iff_eq.mpr c10; clear c10; obtain rfl := Option.some.inj H; clear hrT_; go_enter Try.func5, Try.ntmps5; go_wp2_with (first | ((with_reducible refine gC 6 ?_); refine goesL_ (some 11) rfl rfl Try.func6 (by kernel_rfl) rfl #[.string ⟨#[91, 49, 57, 56, 52, 126, 63, 44, 32, 46, 46, 47, 49, 57, 88, 52, 93]⟩] rfl ml_ ?_; (with_reducible refine (parse_Parse.calls k (⟨#[91, 49, 57, 56, 52, 126, 63, 44, 32, 46, 46, 47, 49, 57, 88, 52, 93]⟩ : ByteArray) t101 t102 t103 t104 t105 t106 t107 t108 t111 t112 _ A1.out).mono ?_); rintro e w11 ⟨v109, rfl, ho0, hb⟩; refine ⟨_, rfl, ?_⟩; have HO110 := A_ (Kd.V_lower (Kd.V_mono (ok' := fun k_ => True) ho0 (fun k_ hk_ => trivial)) (below_size hs_)); replace HB := bs_ hb; (try clear hb); (try clear ho0)) | ((with_reducible refine gD 1 ?_); refine bxe_ 1 z8_ 27 ?_; intro gb113 hg w12 hbox hb; replace HO110 := eV_ HO110 hg hb; have BK113 := A_ (hbox); have GW113 := gs_ w hg; have GE113 := gs_ w hg; replace HB := bs_ hb; clear hb hbox hg; have Z13 := bz8_ BK113; obtain ⟨Ao14, co14, eo14⟩ := Kd.V_slice HO110.out; subst eo14) | ((with_reducible refine gC 6 ?_); refine goesL_ (some 16) rfl rfl Try.func6 (by kernel_rfl) rfl #[.string ⟨#[49, 57, 56, 52, 47, 91]⟩] rfl ml_ ?_; (with_reducible refine (parse_Parse.calls k (⟨#[49, 57, 56, 52, 47, 91]⟩ : ByteArray) t114 t115 t116 t117 t118 t119 t120 t121 t124 t125 _ A2.out).mono ?_); rintro e w15 ⟨v122, rfl, ho0, hb⟩; refine ⟨_, rfl, ?_⟩; replace HO110 := bV_ HO110 hb; have HO123 := A_ (Kd.V_lower (Kd.V_mono (ok' := fun k_ => k_ ≠ gb113) ho0 (fun k_ hk_ => (fb_ BK113 k_ hk_))) (below_size hs_)); replace BK113 := bp_ BK113 (.cells (n8_ t101 t102 t103 t104 t105 t106 t107 (.slice Ao14 t108.length co14)) 27 (0, 0)) hb; replace HB := bs_ hb; (try clear hb); (try clear ho0)) | ((with_reducible refine gD 4 ?_); refine bxe_ 4 z8_ 27 ?_; intro gb126 hg w16 hbox hb; replace HO110 := eV_ HO110 hg hb; replace HO123 := eV_ HO123 hg hb; have BK126 := A_ (hbox); have GW126 := gs_ w hg; have GE126 := gs_ w hg; replace HB := bs_ hb; have NB113_126 := nl_ BK113 hg; have NB126_113 := ng_ BK113 hg; replace BK113 := bb_ BK113 hb; clear hb hbox hg; have hnb17 := NB126_113.out; have hnc17 := NB113_126.out; have Z18 := bz8_ BK126; obtain ⟨Ao19, co19, eo19⟩ := Kd.V_slice HO123.out; subst eo19) | ((with_reducible refine gC 6 ?_); refine goesL_ (some 21) rfl rfl Try.func6 (by kernel_rfl) rfl #[.string ⟨#[91, 49, 57, 56, 52]⟩] rfl ml_ ?_; (with_reducible refine (parse_Parse.calls k (⟨#[91, 49, 57, 56, 52]⟩ : ByteArray) t127 t128 t129 t130 t131 t132 t133 t134 t137 t138 _ A3.out).mono ?_); rintro e w20 ⟨v135, rfl, ho0, hb⟩; refine ⟨_, rfl, ?_⟩; replace HO110 := bV_ HO110 hb; replace HO123 := bV_ HO123 hb; have HO136 := A_ (Kd.V_lower (Kd.V_mono (ok' := fun k_ => k_ ≠ gb113 ∧ k_ ≠ gb126) ho0 (fun k_ hk_ => ⟨(Kd.freshB (g := gb113) (o := .cells (n8_ t101 t102 t103 t104 t105 t106 t107 (.slice Ao14 t108.length co14)) 27 (0, 0)) (pf_ NB113_126 BK113) k_ hk_), (fb_ BK126 k_ hk_)⟩)) (below_size hs_)); replace BK113 := A_ (blk_below (g := gb113) (o := .cells (n8_ t101 t102 t103 t104 t105 t106 t107 (.slice Ao14 t108.length co14)) 27 (0, 0)) (pf_ NB113_126 BK113) hb); replace BK126 := bp_ BK126 (.cells (n8_ t114 t115 t116 t117 t118 t119 t120 (.slice Ao19 t121.length co19)) 27 (0, 0)) hb; replace HB := bs_ hb; (try clear hb); (try clear ho0)) | ((with_reducible refine gD 7 ?_); refine bxe_ 7 z8_ 27 ?_; intro gb139 hg w21 hbox hb; replace HO110 := eV_ HO110 hg hb; replace HO123 := eV_ HO123 hg hb; replace HO136 := eV_ HO136 hg hb; have BK139 := A_ (hbox); have GW139 := gs_ w hg; have GE139 := gs_ w hg; replace HB := bs_ hb; have NB113_139 := nl_ BK113 hg; have NB139_113 := ng_ BK113 hg; replace BK113 := bb_ BK113 hb; have NB126_139 := nl_ BK126 hg; have NB139_126 := ng_ BK126 hg; replace BK126 := bb_ BK126 hb; clear hb hbox hg; have hnb22 := NB139_113.out; have hnc22 := NB113_139.out; have hnb23 := NB139_126.out; have hnc23 := NB126_139.out; have Z24 := bz8_ BK139; obtain ⟨Ao25, co25, eo25⟩ := Kd.V_slice HO136.out; subst eo25; have Z26 := bz8_ BK113) | (go_at_call 12; (with_reducible refine (print_Text.calls k t101 t102 t103 t104 t105 t106 t107 _ _ t108 t140 _ ?side1 ?side2 A6.out).mono ?_); (case side1 => refine (Kd.V_reads' (e := 27) (base := w.heap.size) (ok := fun k_ => (((True ∧ k_ ≠ gb113) ∧ k_ ≠ gb126) ∧ k_ ≠ gb139)) (n := t108.length) (c := co14) ?_).2.2; exact (fxV_ HO110.out)); (case side2 => exact (Kd.V_reads' HO110.out).2.1); rintro e w27 ⟨rfl, hb⟩; replace HO110 := bV_ HO110 hb; replace HO123 := bV_ HO123 hb; replace HO136 := bV_ HO136 hb; replace BK113 := A_ (blk_below (g := gb113) (o := .cells (n8_ t101 t102 t103 t104 t105 t106 t107 (.slice Ao14 t108.length co14)) 27 (0, 0)) (pf_ NB113_139 BK113) hb); replace BK126 := A_ (blk_below (g := gb126) (o := .cells (n8_ t114 t115 t116 t117 t118 t119 t120 (.slice Ao19 t121.length co19)) 27 (0, 0)) (pf_ NB126_139 BK126) hb); replace BK139 := bp_ BK139 (.cells (n8_ t127 t128 t129 t130 t131 t132 t133 (.slice Ao25 t134.length co25)) 27 (0, 0)) hb; replace HB := bs_ hb; (try clear hb)))
       go_ret; exact ⟨re_, hs_⟩
      ·rw [if_neg c10] at H
       have c10b0 : (t137 == 5) = false := beq_eq_false_iff_ne.mpr c10; have c10b1 : (t137 != 5) = true := bne_iff_ne.mpr c10; exact absurd ((Option.some.inj H).trans hrT_) (by decide)
     ·rw [if_neg c9] at H
      have c9b0 : (t125 == 3) = false := beq_eq_false_iff_ne.mpr c9; have c9b1 : (t125 != 3) = true := bne_iff_ne.mpr c9; exact absurd ((Option.some.inj H).trans hrT_) (by decide)
    ·rw [if_neg c8] at H
     have c8b0 : (t124 == 5) = false := beq_eq_false_iff_ne.mpr c8; have c8b1 : (t124 != 5) = true := bne_iff_ne.mpr c8; exact absurd ((Option.some.inj H).trans hrT_) (by decide)
   ·rw [if_neg c7] at H
    have c7b0 : (t140.toList == ([91, 49, 57, 56, 52, 63, 126, 44, 32, 46, 46, 47, 49, 57, 88, 52, 93] : List UInt8)) = false := beq_eq_false_iff_ne.mpr c7; have c7b1 : (t140.toList != ([91, 49, 57, 56, 52, 63, 126, 44, 32, 46, 46, 47, 49, 57, 88, 52, 93] : List UInt8)) = true := bne_iff_ne.mpr c7; exact absurd ((Option.some.inj H).trans hrT_) (by decide)
  ·rw [if_neg c5] at H
   have c5b0 : (t111 == 17) = false := beq_eq_false_iff_ne.mpr c5; have c5b1 : (t111 != 17) = true := bne_iff_ne.mpr c5; exact absurd ((Option.some.inj H).trans hrT_) (by decide)
 ·rw [if_neg c4] at H
  have c4b0 : (t112 == 0) = false := beq_eq_false_iff_ne.mpr c4; have c4b1 : (t112 != 0) = true := bne_iff_ne.mpr c4; exact absurd ((Option.some.inj H).trans hrT_) (by decide)
theorem Ev.only13 {α : Type} {f : Nat → Option α} {r q : α} (hm : ∀ k, LeO (f k) (f (k + 1))) (h : Ev f r) {k : Nat} (hk : f k = some q) : q = r := by
  obtain ⟨K, hK⟩ := h
  have up : ∀ j, f (k + j) = some q := fun j => by
    induction j with
    | zero => exact hk
    | succ j ih => exact hm (k + j) q ih
  exact Option.some.inj ((up K).symm.trans (hK (k + K) (by omega)))
theorem lustrumlaw13_awake.calls (k : Nat) (r : Bool) (w : World) (h : lustrumlaw13_awake.f k = some r) :
    Calls Try.prog 5 #[] w fun e w' => e = .returned (.bool r) ∧ Below w.heap.size w w' := lustrumlaw13_awake.callsT k r w (Ev.only13 lustrumlaw13_awake.mono awake13 h) h
set_option maxHeartbeats 8000000 in
set_option maxRecDepth 100000 in
theorem lustrumlaw13_ParseWhite.calls (k : Nat) (a0 : ByteArray) (r : Bool) (w : World) (hrT_ : r = true) (h : lustrumlaw13_ParseWhite.f k a0 = some r) :
  Calls Try.prog 4 #[.string a0] w fun e w' => e = .returned (.bool r) ∧ Below w.heap.size w w' := by
 have hu27 := Try.underlying27; have HB := A_ (Below.refl w.heap.size w); have H : ((lustrumlaw13_awake.f k).bind fun t197 => (if (a0.size : Int) > 400 then (some t197) else ((lex_All.f k a0).bind fun bt198 => (if bt198.2.2 = 0 then (lustrumlaw13_ParseWhite.l0 k a0 t197 bt198.1 (⟨#[]⟩ : ByteArray) 0) else ((parse_Parse.f k a0).bind fun bt203 => ((lex_All.f k a0).bind fun bt216 => (if t197 = true then (if bt203.2.2.2.2.2.2.2.2.2 = bt198.2.2 then (some (bt203.2.2.2.2.2.2.2.2.1 == bt216.2.1)) else (some false)) else (some false)))))))) = some r := h; clear h; obtain ⟨t197, A2, H⟩ := bi_ H
 by_cases c3 : (a0.size : Int) > 400
 ·rw [if_pos c3] at H
  have c3b0 := decide_eq_true c3; have c3b1 : decide (400 < a0.size) = true := decide_eq_true (by omega); clear c3; obtain rfl := Option.some.inj H; clear hrT_; go_enter Try.func4, Try.ntmps4; go_wp2_with (first | ((with_reducible refine gC 5 ?_); refine gL 21 Try.func5 #[] ?_; (with_reducible refine (lustrumlaw13_awake.calls k  t197 _ A2.out).mono ?_); rintro e w4 ⟨rfl, hb⟩; refine ⟨_, rfl, ?_⟩; replace HB := bs_ hb; (try clear hb))); go_ret; exact ⟨re_, hs_⟩
 ·rw [if_neg c3] at H
  have c3b0 := decide_eq_false c3; have c3b1 : decide (400 < a0.size) = false := decide_eq_false (by omega); clear c3; obtain ⟨⟨t198, t199, t200⟩, A5, H⟩ := bi_ H
  by_cases c6 : t200 = 0
  ·rw [if_pos c6] at H
   have c6b0 : (t200 == 0) = true := beq_iff_eq.mpr c6; have c6b1 : (t200 != 0) = false := bne_eq_false_iff_eq.mpr c6; clear c6; have H' := A_ H; clear H; go_enter Try.func4, Try.ntmps4; go_wp2_with (first | ((with_reducible refine gC 5 ?_); refine gL 21 Try.func5 #[] ?_; (with_reducible refine (lustrumlaw13_awake.calls k  t197 _ A2.out).mono ?_); rintro e w7 ⟨rfl, hb⟩; refine ⟨_, rfl, ?_⟩; replace HB := bs_ hb; (try clear hb)) | ((with_reducible refine gC 10 ?_); refine gL 28 Try.func10 #[.string a0] ?_; (with_reducible refine (lex_All.calls k a0 t198 t199 t200 _ A5.out).mono ?_); rintro e w8 ⟨v201, rfl, ho0, hb⟩; refine ⟨_, rfl, ?_⟩; have HO202 := A_ (Kd.R_lower ho0 (below_size hs_)); replace HB := bs_ hb; (try clear hb); (try clear ho0))); go_loopg [13, 14] k (fun kq v13 v14 w' => ∃ (x13_1 : ByteArray) (x14_1 : Int), v13 = .string x13_1 ∧ v14 = .int .i64 x14_1 ∧ Aside0 (lustrumlaw13_ParseWhite.l0 kq a0 t197 t198 x13_1 x14_1 = some r) ∧ Aside0 (kq ≤ k) ∧ Aside0 (Kd.R k48 48 w' w.heap.size (fun _ => True) v201 t198) ∧ Aside0 (Below w.heap.size w w'))
   case atStart => exact ⟨((⟨#[]⟩ : ByteArray)), (0), rf_, rf_, H', ⟨Nat.le_refl _⟩, ⟨fxR_ HO202.out⟩, ⟨hs_⟩⟩
   case round =>
    clear H'; (try clear c1); (try clear p2); (try clear c3); (try clear c3b0); (try clear c3b1); (try clear c4); (try clear c5); (try clear c6); (try clear c6b0); (try clear c6b1); obtain ⟨x13_1, x14_1, rfl, rfl, HA, HK1, HO_4, HB⟩ := hrel
    cases gk with
    | zero => exact absurd HA.out (by simp [lustrumlaw13_ParseWhite.l0])
    | succ k1 =>
     have H := HA.out; clear HA; simp only [lustrumlaw13_ParseWhite.l0] at H
     by_cases c9 : x14_1 < (t198.length : Int)
     ·rw [if_pos c9] at H
      have c9b0 := decide_eq_true c9; clear c9
      by_cases c10 : x13_1.size + 1 ≤ 9223372036854775807
      ·rw [if_pos c10] at H
       have c10b0 := eq_true c10; have c10b1 := decide_eq_true c10; (try have c10b2 : (9223372036854775807 < x13_1.size + 1) = False := eq_false (Nat.not_lt.2 c10))
       by_cases c11 : 0 ≤ x14_1
       ·rw [if_pos c11] at H
        have c11b0 := eq_true c11; have c11b1 := decide_eq_true c11; clear c11
        by_cases c12 : x14_1 ≤ (wrap64 (x14_1 + 1))
        ·rw [if_pos c12] at H
         have c12b0 := eq_true c12; have c12b1 := decide_eq_true c12
         by_cases c13 : (wrap64 (x14_1 + 1)) ≤ (t198.length : Int)
         ·rw [if_pos c13] at H
          have c13b0 := eq_true c13; have c13b1 := decide_eq_true c13; obtain ⟨y221, hy221⟩ : ∃ y_ : List (S48), y_ = ((t198.take ((wrap64 (x14_1 + 1)) : Int).toNat).drop (x14_1 : Int).toNat) := ⟨_, rfl⟩; (replace H : ((lex_Show.f k1 y221).bind fun t225 => (if (x13_1 ++ (⟨#[32]⟩ : ByteArray)).size + t225.size ≤ 9223372036854775807 then (lustrumlaw13_ParseWhite.l0 k1 a0 t197 t198 ((x13_1 ++ (⟨#[32]⟩ : ByteArray)) ++ t225) (wrap64 (x14_1 + 1))) else (none))) = some r := by first | (rw [hy221]; with_reducible exact H) | (have H2_ := (Option.bind_some _ _).symm.trans H; rw [hy221]; with_reducible exact H2_) | (have H2_ := (Option.bind_some _ _).symm.trans H; with_reducible exact H2_) | with_reducible exact H | (rw [hy221]; exact H) | exact H); have Ny221 := A_ hy221; clear hy221; obtain ⟨t225, A14, H⟩ := bi_ H
          by_cases c15 : (x13_1 ++ (⟨#[32]⟩ : ByteArray)).size + t225.size ≤ 9223372036854775807
          ·rw [if_pos c15] at H
           have c15b0 := eq_true c15; have c15b1 := decide_eq_true c15; (try have c15b2 : (9223372036854775807 < (x13_1 ++ (⟨#[32]⟩ : ByteArray)).size + t225.size) = False := eq_false (Nat.not_lt.2 c15)); (try have c15b3 : (9223372036854775807 < x13_1.size + 1 + t225.size) = False := eq_false (Nat.not_lt.2 (by have h_ := c15; simp only [ByteArray.size_append] at h_; exact h_))); have H' := A_ H; clear H; obtain ⟨Ao16, co16, eo16⟩ := Kd.R_slice HO_4.out; subst eo16; have q17 : ((wrap64 (x14_1 + 1)) : Int) ≤ ((t198.length : Int) : Int) := od_; obtain ⟨i017, hi017, _, hsz17, _⟩ := info_parts info48; have hroom17 : t198.length ≤ co16 := (Kd.R_reads' HO_4.out).2.1; have hC17 : Kd.C k48 _ Ao16 t198.length t198 := (Kd.R_reads' HO_4.out).2.2; have ql17 : (x14_1 : Int) ≤ ((wrap64 (x14_1 + 1)) : Int) := od_; have q017 : (0 : Int) ≤ (x14_1 : Int) := od_; have hcut17 := cut_mid (P := Try.prog) 35 48 .i64 .i64 Try.underlying35 hi017 3 hsz17 Ao16 t198.length co16 x14_1 (wrap64 (x14_1 + 1)) q017 ql17 q17 hroom17; have hr17 := Kd.C_mid (lo := (x14_1 : Int).toNat) (hi := ((wrap64 (x14_1 + 1)) : Int).toNat) (c := co16) hC17 (by omega) (by omega) hroom17; obtain ⟨A17, hA17⟩ : ∃ A1, A1 = (if co16 = (x14_1 : Int).toNat then Ao16 else (Ao16 : Option Addr).map (·.add ((x14_1 : Int).toNat * 3))) := ⟨_, rfl⟩; obtain ⟨c17, hc17⟩ : ∃ c1, c1 = co16 - (x14_1 : Int).toNat := ⟨_, rfl⟩; have hy17 : y221.length = ((wrap64 (x14_1 + 1)) : Int).toNat - (x14_1 : Int).toNat := (by rw [Ny221.out, List.length_drop, List.length_take] <;> omega); rw [show ((t198).take ((wrap64 (x14_1 + 1)) : Int).toNat).drop (x14_1 : Int).toNat = y221 from Ny221.out.symm] at hr17; replace hr17 : Kd.C k48 _ A17 y221.length y221 := (by rw [hA17]; exact hr17); rw [← hy17, ← hA17, ← hc17] at hcut17; have HR224 := A_ hr17; have HC224 := A_ (show y221.length ≤ c17 from by rw [hy17, hc17]; exact Nat.sub_le_sub_right (Nat.le_trans (by omega) hroom17) _); clear hr17 hC17 hroom17 hi017 hsz17 hc17; have KY17 := A_ hy17; have KA17 := A_ hA17; clear hy17 hA17; have KL17 := A_ (show ((wrap64 (x14_1 + 1)) : Int).toNat ≤ t198.length from by omega); have KM17 := A_ (show (x14_1 : Int).toNat ≤ ((wrap64 (x14_1 + 1)) : Int).toNat from by omega); replace q17 := eq_true q17; go_wp2_with (first | ((with_reducible refine gC 11 ?_); refine gL 70 Try.func11 #[.slice A17 y221.length c17] ?_; (with_reducible refine (lex_Show.calls k1 _ _ y221 t225 _ ?side1 ?side2 A14.out).mono ?_); (case side1 => repeat (first | exact (by repeat (first | (with_reducible exact HR224.out) | (with_reducible refine Kd.C_alloc ?_ _) | (with_reducible refine Kd.C_drewN ?_ _) | (with_reducible refine Kd.C_drew ?_) | exact HR224.out)) | (with_reducible refine Kd.C_alloc ?_ _) | (with_reducible refine Kd.C_drewN ?_ _) | (with_reducible refine Kd.C_drew ?_))); (case side2 => exact HC224.out); rintro e w18 ⟨rfl, hb⟩; refine ⟨_, rfl, ?_⟩; replace HO_4 := A_ (Kd.R_below (fxR_ HO_4.out) hb); replace HR224 := bC_ HR224 hb; replace HB := bs_ hb; (try clear hb))); go_roundg k1
           case measure => have := HK1.out; omega
           case rel => exact ⟨((x13_1 ++ (⟨#[32]⟩ : ByteArray)) ++ t225), (wrap64 (x14_1 + 1)), rf_, rf_, H', ⟨by have := HK1.out; omega⟩, ⟨fxR_ HO_4.out⟩, ⟨hs_⟩⟩
          ·rw [if_neg c15] at H
           exact absurd H (by simp)
         ·rw [if_neg c13] at H
          exact absurd H (by simp)
        ·rw [if_neg c12] at H
         exact absurd H (by simp)
       ·rw [if_neg c11] at H
        exact absurd H (by simp)
      ·rw [if_neg c10] at H
       exact absurd H (by simp)
     ·rw [if_neg c9] at H
      have c9b0 := decide_eq_false c9; clear c9; obtain ⟨⟨t226, t227, t228, t229, t230, t231, t232, t233, t236, t237⟩, A19, H⟩ := bi_ H; obtain ⟨⟨t239, t240, t241, t242, t243, t244, t245, t246, t249, t250⟩, A20, H⟩ := bi_ H
      by_cases c21 : t197 = true
      ·subst c21
       replace H := iP_ H
       by_cases c22 : t237 = t250
       ·rw [if_pos c22] at H
        have c22b0 : (t237 == t250) = true := beq_iff_eq.mpr c22; have c22b1 : (t237 != t250) = false := bne_eq_false_iff_eq.mpr c22; clear c22; obtain ⟨t252, A23, H⟩ := bi_ H; obtain rfl := Option.some.inj H; clear hrT_; obtain ⟨Ao24, co24, eo24⟩ := Kd.R_slice HO_4.out; subst eo24; go_wp2_with (first | ((with_reducible refine gC 6 ?_); refine gL 74 Try.func6 #[.string a0] ?_; (with_reducible refine (parse_Parse.calls k1 a0 t226 t227 t228 t229 t230 t231 t232 t233 t236 t237 _ A19.out).mono ?_); rintro e w25 ⟨v234, rfl, ho0, hb⟩; refine ⟨_, rfl, ?_⟩; have HO235 := A_ (Kd.V_lower (Kd.V_mono (ok' := fun k_ => nv_ k_ (.slice Ao24 t198.length co24)) ho0 (fun k_ hk_ => (Kd.fresh' (Kd.R_lt (fxR_ HO_4.out)) k_ hk_))) (below_size hs_)); replace HO_4 := A_ (Kd.R_below (fxR_ HO_4.out) hb); replace HB := bs_ hb; (try clear hb); (try clear ho0)) | ((with_reducible refine gD 15 ?_); refine bxe_ 15 z8_ 27 ?_; intro gb238 hg w26 hbox hb; replace HO_4 := A_ (Kd.R_below (fxR_ HO_4.out) hb); replace HO235 := eV_ HO235 hg hb; have BK238 := A_ (hbox); have GW238 := gs_ w hg; have GE238 := gs_ w hg; replace HB := bs_ hb; clear hb hbox hg; have Z27 := bz8_ BK238; obtain ⟨Ao28, co28, eo28⟩ := Kd.V_slice HO235.out; subst eo28) | ((with_reducible refine gC 6 ?_); refine gL 80 Try.func6 #[.string x13_1] ?_; (with_reducible refine (parse_Parse.calls k1 x13_1 t239 t240 t241 t242 t243 t244 t245 t246 t249 t250 _ A20.out).mono ?_); rintro e w29 ⟨v247, rfl, ho0, hb⟩; refine ⟨_, rfl, ?_⟩; replace HO235 := bV_ HO235 hb; have HO248 := A_ (Kd.V_lower (Kd.V_mono (ok' := fun k_ => nv_ k_ (.slice Ao24 t198.length co24) ∧ k_ ≠ gb238) ho0 (fun k_ hk_ => ⟨(Kd.fresh' (Kd.R_lt (by (with_reducible repeat (first | apply Kd.R_alloc | apply Kd.R_drewN | apply Kd.R_drew)); exact (Kd.R_mono (Kd.R_far (p := ⟨gb238, 7, none⟩) (Kd.R_far (p := ⟨gb238, 6, none⟩) (Kd.R_far (p := ⟨gb238, 5, none⟩) (Kd.R_far (p := ⟨gb238, 4, none⟩) (Kd.R_far (p := ⟨gb238, 3, none⟩) (Kd.R_far (p := ⟨gb238, 2, none⟩) (Kd.R_far (p := ⟨gb238, 1, none⟩) (Kd.R_far (p := ⟨gb238, 0, none⟩) (Kd.R_types HO_4.out BK238.out (by decide)) (fun _ hk => hk.2) (.int .i64 t226)) (fun _ hk => hk.2) (.int .i64 t227)) (fun _ hk => hk.2) (.string t228)) (fun _ hk => hk.2) (.string t229)) (fun _ hk => hk.2) (.string t230)) (fun _ hk => hk.2) (.bool t231)) (fun _ hk => hk.2) (.bool t232)) (fun _ hk => hk.2) (.slice Ao28 t233.length co28)) (fun _ h_ => h_.1)))) k_ hk_), (fb_ BK238 k_ hk_)⟩)) (below_size hs_)); replace HO_4 := A_ (Kd.R_below (by (with_reducible repeat (first | apply Kd.R_alloc | apply Kd.R_drewN | apply Kd.R_drew)); exact (Kd.R_mono (Kd.R_far (p := ⟨gb238, 7, none⟩) (Kd.R_far (p := ⟨gb238, 6, none⟩) (Kd.R_far (p := ⟨gb238, 5, none⟩) (Kd.R_far (p := ⟨gb238, 4, none⟩) (Kd.R_far (p := ⟨gb238, 3, none⟩) (Kd.R_far (p := ⟨gb238, 2, none⟩) (Kd.R_far (p := ⟨gb238, 1, none⟩) (Kd.R_far (p := ⟨gb238, 0, none⟩) (Kd.R_types HO_4.out BK238.out (by decide)) (fun _ hk => hk.2) (.int .i64 t226)) (fun _ hk => hk.2) (.int .i64 t227)) (fun _ hk => hk.2) (.string t228)) (fun _ hk => hk.2) (.string t229)) (fun _ hk => hk.2) (.string t230)) (fun _ hk => hk.2) (.bool t231)) (fun _ hk => hk.2) (.bool t232)) (fun _ hk => hk.2) (.slice Ao28 t233.length co28)) (fun _ h_ => h_.1))) hb); replace BK238 := bp_ BK238 (.cells (n8_ t226 t227 t228 t229 t230 t231 t232 (.slice Ao28 t233.length co28)) 27 (0, 0)) hb; replace HB := bs_ hb; (try clear hb); (try clear hk); (try clear ho0)) | ((with_reducible refine gD 18 ?_); refine bxe_ 18 z8_ 27 ?_; intro gb251 hg w30 hbox hb; replace HO_4 := A_ (Kd.R_below (fxR_ HO_4.out) hb); replace HO235 := eV_ HO235 hg hb; replace HO248 := eV_ HO248 hg hb; have BK251 := A_ (hbox); have GW251 := gs_ w hg; have GE251 := gs_ w hg; replace HB := bs_ hb; have NB238_251 := nl_ BK238 hg; have NB251_238 := ng_ BK238 hg; replace BK238 := bb_ BK238 hb; clear hb hbox hg; have hnb31 := NB251_238.out; have hnc31 := NB238_251.out; have Z32 := bz8_ BK251; obtain ⟨Ao33, co33, eo33⟩ := Kd.V_slice HO248.out; subst eo33; have Z34 := bz8_ BK238) | (go_at_call 9; (with_reducible refine (tree_Same.calls k1 t226 t227 t228 t229 t230 t231 t232 _ _ t233 t239 t240 t241 t242 t243 t244 t245 _ _ t246 t252 _ ?side1 ?side2 ?side3 ?side4 A23.out).mono ?_); (case side1 => refine (Kd.V_reads' (e := 27) (base := w.heap.size) (ok := fun k_ => ((nv_ k_ (.slice Ao24 t198.length co24) ∧ k_ ≠ gb238) ∧ k_ ≠ gb251)) (n := t233.length) (c := co28) ?_).2.2; exact (fxV_ HO235.out)); (case side2 => exact (Kd.V_reads' HO235.out).2.1); (case side3 => refine (Kd.V_reads' (e := 27) (base := w.heap.size) (ok := fun k_ => ((nv_ k_ (.slice Ao24 t198.length co24) ∧ k_ ≠ gb238) ∧ k_ ≠ gb251)) (n := t246.length) (c := co33) ?_).2.2; exact (fxV_ HO248.out)); (case side4 => exact (Kd.V_reads' HO248.out).2.1); rintro e w35 ⟨rfl, hb⟩; replace HO_4 := A_ (Kd.R_below (by (with_reducible repeat (first | apply Kd.R_alloc | apply Kd.R_drewN | apply Kd.R_drew)); exact (Kd.R_mono (Kd.R_far (p := ⟨gb251, 7, none⟩) (Kd.R_far (p := ⟨gb251, 6, none⟩) (Kd.R_far (p := ⟨gb251, 5, none⟩) (Kd.R_far (p := ⟨gb251, 4, none⟩) (Kd.R_far (p := ⟨gb251, 3, none⟩) (Kd.R_far (p := ⟨gb251, 2, none⟩) (Kd.R_far (p := ⟨gb251, 1, none⟩) (Kd.R_far (p := ⟨gb251, 0, none⟩) (Kd.R_types HO_4.out BK251.out (by decide)) (fun _ hk => hk.2) (.int .i64 t239)) (fun _ hk => hk.2) (.int .i64 t240)) (fun _ hk => hk.2) (.string t241)) (fun _ hk => hk.2) (.string t242)) (fun _ hk => hk.2) (.string t243)) (fun _ hk => hk.2) (.bool t244)) (fun _ hk => hk.2) (.bool t245)) (fun _ hk => hk.2) (.slice Ao33 t246.length co33)) (fun _ h_ => h_.1))) hb); replace HO235 := bV_ HO235 hb; replace HO248 := bV_ HO248 hb; replace BK238 := A_ (blk_below (g := gb238) (o := .cells (n8_ t226 t227 t228 t229 t230 t231 t232 (.slice Ao28 t233.length co28)) 27 (0, 0)) (pf_ NB238_251 BK238) hb); replace BK251 := bp_ BK251 (.cells (n8_ t239 t240 t241 t242 t243 t244 t245 (.slice Ao33 t246.length co33)) 27 (0, 0)) hb; replace HB := bs_ hb; (try clear hb); (try clear hk)))
        go_ret; exact ⟨re_, hs_⟩
       ·rw [if_neg c22] at H
        have c22b0 : (t237 == t250) = false := beq_eq_false_iff_ne.mpr c22; have c22b1 : (t237 != t250) = true := bne_iff_ne.mpr c22; exact absurd ((Option.some.inj H).trans hrT_) (by decide)
      ·replace c21 := Bool.eq_false_iff.mpr c21
       subst c21; replace H := iN_ H; exact absurd ((Option.some.inj H).trans hrT_) (by decide)
  ·rw [if_neg c6] at H
   have c6b0 : (t200 == 0) = false := beq_eq_false_iff_ne.mpr c6; have c6b1 : (t200 != 0) = true := bne_iff_ne.mpr c6; obtain ⟨⟨t203, t204, t205, t206, t207, t208, t209, t210, t213, t214⟩, A56, H⟩ := bi_ H; obtain ⟨⟨t216, t217, t218⟩, A57, H⟩ := bi_ H
   by_cases c58 : t197 = true
   ·subst c58
    replace H := iP_ H
    by_cases c59 : t214 = t200
    ·rw [if_pos c59] at H
     have c59b0 : (t214 == t200) = true := beq_iff_eq.mpr c59; have c59b1 : (t214 != t200) = false := bne_eq_false_iff_eq.mpr c59; clear c59; obtain rfl := Option.some.inj H; clear hrT_; go_enter Try.func4, Try.ntmps4; go_wp2_with (first | ((with_reducible refine gC 5 ?_); refine gL 21 Try.func5 #[] ?_; (with_reducible refine (lustrumlaw13_awake.calls k  true _ A2.out).mono ?_); rintro e w60 ⟨rfl, hb⟩; refine ⟨_, rfl, ?_⟩; replace HB := bs_ hb; (try clear hb)) | ((with_reducible refine gC 10 ?_); refine gL 28 Try.func10 #[.string a0] ?_; (with_reducible refine (lex_All.calls k a0 t198 t199 t200 _ A5.out).mono ?_); rintro e w61 ⟨v201, rfl, ho0, hb⟩; refine ⟨_, rfl, ?_⟩; have HO202 := A_ (Kd.R_lower ho0 (below_size hs_)); replace HB := bs_ hb; (try clear hb); (try clear ho0)) | ((with_reducible refine gC 6 ?_); refine gL 36 Try.func6 #[.string a0] ?_; (with_reducible refine (parse_Parse.calls k a0 t203 t204 t205 t206 t207 t208 t209 t210 t213 t214 _ A56.out).mono ?_); rintro e w62 ⟨v211, rfl, ho0, hb⟩; refine ⟨_, rfl, ?_⟩; have HO212 := A_ (Kd.V_lower (Kd.V_mono (ok' := fun k_ => nv_ k_ v201) ho0 (fun k_ hk_ => (Kd.fresh' (Kd.R_lt (fxR_ HO202.out)) k_ hk_))) (below_size hs_)); replace HO202 := A_ (Kd.R_below (fxR_ HO202.out) hb); replace HB := bs_ hb; (try clear hb); (try clear ho0)) | ((with_reducible refine gD 7 ?_); refine bxe_ 7 z8_ 27 ?_; intro gb215 hg w63 hbox hb; replace HO202 := A_ (Kd.R_below (fxR_ HO202.out) hb); replace HO212 := eV_ HO212 hg hb; have BK215 := A_ (hbox); have GW215 := gs_ w hg; have GE215 := gs_ w hg; replace HB := bs_ hb; clear hb hbox hg; have Z64 := bz8_ BK215; obtain ⟨Ao65, co65, eo65⟩ := Kd.V_slice HO212.out; subst eo65) | ((with_reducible refine gC 10 ?_); refine gL 42 Try.func10 #[.string a0] ?_; (with_reducible refine (lex_All.calls k a0 t216 t217 t218 _ A57.out).mono ?_); rintro e w66 ⟨v219, rfl, ho0, hb⟩; refine ⟨_, rfl, ?_⟩; replace HO212 := A_ (Kd.V_elder' (fxV_ HO212.out) (Kd.R_base ho0) hb); have HO220 := A_ (Kd.R_lower (Kd.R_new' ho0 (Kd.R_lt (by (with_reducible repeat (first | apply Kd.R_alloc | apply Kd.R_drewN | apply Kd.R_drew)); exact (Kd.R_mono (Kd.R_far (p := ⟨gb215, 7, none⟩) (Kd.R_far (p := ⟨gb215, 6, none⟩) (Kd.R_far (p := ⟨gb215, 5, none⟩) (Kd.R_far (p := ⟨gb215, 4, none⟩) (Kd.R_far (p := ⟨gb215, 3, none⟩) (Kd.R_far (p := ⟨gb215, 2, none⟩) (Kd.R_far (p := ⟨gb215, 1, none⟩) (Kd.R_far (p := ⟨gb215, 0, none⟩) (Kd.R_types HO202.out BK215.out (by decide)) (fun _ hk => hk.2) (.int .i64 t203)) (fun _ hk => hk.2) (.int .i64 t204)) (fun _ hk => hk.2) (.string t205)) (fun _ hk => hk.2) (.string t206)) (fun _ hk => hk.2) (.string t207)) (fun _ hk => hk.2) (.bool t208)) (fun _ hk => hk.2) (.bool t209)) (fun _ hk => hk.2) (.slice Ao65 t210.length co65)) (fun _ h_ => h_.1))))) (below_size hs_)); replace HO202 := A_ (Kd.R_elder' (by (with_reducible repeat (first | apply Kd.R_alloc | apply Kd.R_drewN | apply Kd.R_drew)); exact (Kd.R_mono (Kd.R_far (p := ⟨gb215, 7, none⟩) (Kd.R_far (p := ⟨gb215, 6, none⟩) (Kd.R_far (p := ⟨gb215, 5, none⟩) (Kd.R_far (p := ⟨gb215, 4, none⟩) (Kd.R_far (p := ⟨gb215, 3, none⟩) (Kd.R_far (p := ⟨gb215, 2, none⟩) (Kd.R_far (p := ⟨gb215, 1, none⟩) (Kd.R_far (p := ⟨gb215, 0, none⟩) (Kd.R_types HO202.out BK215.out (by decide)) (fun _ hk => hk.2) (.int .i64 t203)) (fun _ hk => hk.2) (.int .i64 t204)) (fun _ hk => hk.2) (.string t205)) (fun _ hk => hk.2) (.string t206)) (fun _ hk => hk.2) (.string t207)) (fun _ hk => hk.2) (.bool t208)) (fun _ hk => hk.2) (.bool t209)) (fun _ hk => hk.2) (.slice Ao65 t210.length co65)) (fun _ h_ => h_.1))) (Kd.R_base ho0) hb); replace BK215 := bp_ BK215 (.cells (n8_ t203 t204 t205 t206 t207 t208 t209 (.slice Ao65 t210.length co65)) 27 (0, 0)) hb; replace HB := bs_ hb; (try clear hb); (try clear hk); (try clear ho0)))
     go_ret; exact ⟨re_, hs_⟩
    ·rw [if_neg c59] at H
     have c59b0 : (t214 == t200) = false := beq_eq_false_iff_ne.mpr c59; have c59b1 : (t214 != t200) = true := bne_iff_ne.mpr c59; exact absurd ((Option.some.inj H).trans hrT_) (by decide)
   ·replace c58 := Bool.eq_false_iff.mpr c58
    subst c58; replace H := iN_ H; exact absurd ((Option.some.inj H).trans hrT_) (by decide)
def Out (v : List S48) (e : S48) (m d : Nat) (R : PR) : Prop :=
  (R.x = none ∧ rt R.n = true ∧ R.m = ((m + nd R.n : Nat) : Int) ∧ m + nd R.n ≤ 64 ∧ R.d = (d : Int) ∧ d + dp R.n ≤ 8 ∧ ∃ v', R.t = v' ++ [e] ∧ v' <:+ v ∧ v'.length < v.length)
  ∨ ∃ a c, R.x = some (a, c) ∧ (∃ x, x ∈ v ++ [e] ∧ a = x.f1) ∧ c ≠ 0
def OutE (v : List S48) (e : S48) (m : Nat) (d : Int) (R : PR) : Prop :=
  (R.x = none ∧ endV R.n = true ∧ R.m = ((m + 1 : Nat) : Int) ∧ m + 1 ≤ 64 ∧ R.d = d ∧ ∃ v', R.t = v' ++ [e] ∧ v' <:+ v ∧ v'.length < v.length)
  ∨ ∃ a c, R.x = some (a, c) ∧ (∃ x, x ∈ v ++ [e] ∧ a = x.f1) ∧ c ≠ 0
def shortW (v : List S48) : Prop := ∀ x, x ∈ v → x.f2.size ≤ 4611686018427387904
theorem eNot_ne (x : S48) (c : Int) (h : c ≠ 0) : eNot x c ≠ 0 := by unfold eNot; split <;> omega
theorem cons_of (v : List S48) (e : S48) : ∃ y u, v ++ [e] = y :: u := by cases v with
  | nil => exact ⟨_, _, rfl⟩
  | cons y u => exact ⟨_, _, rfl⟩
theorem marked_any (e : S48) (he : e.f0 = 9) (p : S24) : ∀ (v : List S48) (a b : Bool), ∃ a' b' v', pMarked (v ++ [e]) p a b = some (⟨0, p, a', b', []⟩, v' ++ [e]) ∧ v' <:+ v
  | [], a, b => ⟨a, b, [], by rw [List.nil_append, pMarked, if_neg (by omega), if_neg (by omega)], List.suffix_refl _⟩
  | x :: v, a, b => by
    rw [List.cons_append, pMarked]
    by_cases c7 : x.f0 = 7
    · rw [if_pos c7]
      by_cases ca : a = false
      · rw [if_pos ca]
        obtain ⟨a', b', v', h, hs⟩ := marked_any e he p v true b
        exact ⟨a', b', v', h, hs.trans (List.suffix_cons _ _)⟩
      · rw [if_neg ca]; exact ⟨a, b, x :: v, rfl, List.suffix_refl _⟩
    · rw [if_neg c7]
      by_cases c8 : x.f0 = 8
      · rw [if_pos c8]
        by_cases cb : b = false
        · rw [if_pos cb]
          obtain ⟨a', b', v', h, hs⟩ := marked_any e he p v a true
          exact ⟨a', b', v', h, hs.trans (List.suffix_cons _ _)⟩
        · rw [if_neg cb]; exact ⟨a, b, x :: v, rfl, List.suffix_refl _⟩
      · rw [if_neg c8]; exact ⟨a, b, x :: v, rfl, List.suffix_refl _⟩
theorem endV_pt (p : S24) (a b : Bool) (h : ptV p = true) : endV ⟨0, p, a, b, []⟩ = true := by
  unfold endV
  rw [if_pos rfl]
  show (decide (([] : List S27) = []) && ptV p) = true
  rw [h]; simp
theorem endV_kz (k : Int) (h : k = 3 ∨ k = 4) : endV (kz k) = true := by
  have hb : bareV (kz k) = true := bare_mk k []
  unfold endV
  rw [hb, if_neg (show ¬ (kz k).f0 = 0 by show ¬ k = 0; omega), if_pos (show (kz k).f0 = 3 ∨ (kz k).f0 = 4 from h)]
  simp [kz]
theorem end_any (e : S48) (he : e.f0 = 9) (v : List S48) (hw : shortW v) (m : Nat) (d : Int) (hm : m ≤ 64) : ∃ R, Ev (fun k => pEnd k (m : Int) d (v ++ [e])) R ∧ OutE v e m d R := by
  cases v with
  | nil =>
    refine ⟨⟨pz, some (e.f1, eNot e 3), [e], (m : Int), d⟩, ?_, .inr ⟨_, _, rfl, ⟨e, by simp, rfl⟩, eNot_ne _ _ (by omega)⟩⟩
    unfold pEnd
    exact Ev.iff_ (by omega) (Ev.iff_ (by omega) (Ev.iff_ (by omega) (Ev.now _)))
  | cons x v =>
    have bad : ∀ c : Int, c ≠ 0 → OutE (x :: v) e m d ⟨pz, some (x.f1, eNot x c), x :: (v ++ [e]), (m : Int), d⟩ := fun c hc => .inr ⟨_, _, rfl, ⟨x, by simp, rfl⟩, eNot_ne _ _ hc⟩
    unfold pEnd
    by_cases c0 : x.f0 = 0
    · by_cases c64 : (m : Int) = 64
      · exact ⟨_, Ev.ift c0 (Ev.ift c64 (Ev.now _)), bad 6 (by omega)⟩
      · have hx := hw x (by simp)
        have hm1 : m + 1 ≤ 64 := by omega
        have hrd := read_any x.f2.data.toList (by rw [← bsize]; exact hx)
        rw [bA_mk] at hrd
        unfold pWord
        rw [up1 (by omega)]
        rcases hrd with ⟨p, hp, _, hr⟩ | ⟨_, hr⟩
        · obtain ⟨a', b', v', hM, hs⟩ := marked_any e he ⟨p.f0, p.f1, p.f2, p.f3⟩ v false false
          refine ⟨⟨⟨0, ⟨p.f0, p.f1, p.f2, p.f3⟩, a', b', []⟩, none, v' ++ [e], ((m + 1 : Nat) : Int), d⟩, Ev.ift c0 (Ev.iff_ c64 (Ev.bind hr (Ev.ift rfl (Ev.bnow hM (Ev.now _))))), .inl ⟨rfl, endV_pt _ _ _ hp, rfl, hm1, rfl, v', rfl, hs.trans (List.suffix_cons _ _), ?_⟩⟩
          have := hs.length_le
          rw [List.length_cons]; omega
        · exact ⟨⟨pz, some (x.f1, eNot x 2), x :: (v ++ [e]), ((m + 1 : Nat) : Int), d⟩, Ev.ift c0 (Ev.iff_ c64 (Ev.bind hr (Ev.iff_ (by simp) (Ev.now _)))), .inr ⟨_, _, rfl, ⟨x, by simp, rfl⟩, eNot_ne _ _ (by omega)⟩⟩
    by_cases c2 : x.f0 = 2
    · by_cases c64 : (m : Int) = 64
      · exact ⟨_, Ev.iff_ c0 (Ev.ift c2 (Ev.ift c64 (Ev.now _))), bad 6 (by omega)⟩
      · rw [up1 (by omega)]
        exact ⟨⟨kz 3, none, v ++ [e], ((m + 1 : Nat) : Int), d⟩, Ev.iff_ c0 (Ev.ift c2 (Ev.iff_ c64 (Ev.now _))), .inl ⟨rfl, endV_kz 3 (.inl rfl), rfl, by omega, rfl, v, rfl, List.suffix_cons _ _, by simp⟩⟩
    by_cases c3 : x.f0 = 3
    · by_cases c64 : (m : Int) = 64
      · exact ⟨_, Ev.iff_ c0 (Ev.iff_ c2 (Ev.ift c3 (Ev.ift c64 (Ev.now _)))), bad 6 (by omega)⟩
      · rw [up1 (by omega)]
        exact ⟨⟨kz 4, none, v ++ [e], ((m + 1 : Nat) : Int), d⟩, Ev.iff_ c0 (Ev.iff_ c2 (Ev.ift c3 (Ev.iff_ c64 (Ev.now _)))), .inl ⟨rfl, endV_kz 4 (.inr rfl), rfl, by omega, rfl, v, rfl, List.suffix_cons _ _, by simp⟩⟩
    · exact ⟨_, Ev.iff_ c0 (Ev.iff_ c2 (Ev.iff_ c3 (Ev.now _))), bad 3 (by omega)⟩
theorem nd_end {n : S27} (h : endV n = true) : nd n = 1 := by rw [nd_eq, (end_kinds h).1]; rfl
theorem dp_end0 {n : S27} (h : endV n = true) : dp n = 0 := by
  obtain ⟨h4, hk⟩ := end_kinds h
  rw [dp_eq, if_neg (by omega), h4]; rfl
theorem shortW.suf {v' v : List S48} (hw : shortW v) (h : v' <:+ v) : shortW v' := fun x hx => hw x (h.subset hx)
theorem span_any (e : S48) (he : e.f0 = 9) (v : List S48) (hw : shortW v) (m d : Nat) (hm : m ≤ 64) (hd : d ≤ 8) : ∃ R, Ev (fun k => pSpan k (m : Int) (d : Int) (v ++ [e])) R ∧ Out v e m d R := by
  obtain ⟨R, hR, hO⟩ := end_any e he v hw m d hm
  unfold pSpan
  rcases hO with ⟨hx, hn, hm', hm1, hd', v', ht, hs, hl⟩ | ⟨a, c, hx, hp, hc⟩
  · obtain ⟨n, x, t, m', d'⟩ := R
    simp only at hx hn hm' hd' ht
    subst hx; subst hm'; subst hd'; subst ht
    have h1 := nd_end hn
    have hdp := dp_end0 hn
    have done : ∀ y u, v' ++ [e] = y :: u → y.f0 ≠ 1 → ∃ R, Ev (fun k => (pEnd k (m : Int) (d : Int) (v ++ [e])).bind fun r => match r.x with
        | some _ => some r
        | none => match r.t with
          | [] => none
          | y :: u => if y.f0 = 1 then (if r.m = 64 then some ⟨r.n, some (y.f1, eNot y 6), y :: u, r.m, r.d⟩ else (pEnd k (wrap64 (r.m + 1)) r.d u).bind fun s => some ⟨⟨1, ⟨0, ⟨#[]⟩, ⟨#[]⟩, ⟨#[]⟩⟩, false, false, [r.n, s.n]⟩, s.x, s.t, s.m, s.d⟩)
            else if r.n.f0 = 0 then some ⟨r.n, none, y :: u, r.m, r.d⟩ else some ⟨r.n, some (y.f1, eNot y 3), y :: u, r.m, r.d⟩) R ∧ Out v e m d R := fun y u hyu hy => by
      rw [hyu] at hR
      have hmem : y ∈ v ++ [e] := by
        have : y ∈ v' ++ [e] := by rw [hyu]; simp
        rcases List.mem_append.1 this with h | h
        · exact List.mem_append.2 (.inl (hs.subset h))
        · exact List.mem_append.2 (.inr h)
      by_cases cn : n.f0 = 0
      · refine ⟨_, Ev.bind hR (Ev.iff_ hy (Ev.ift cn (Ev.now _))), .inl ⟨rfl, by rw [rt_eq, if_pos cn]; exact hn, by rw [h1], (show m + nd n ≤ 64 by omega), rfl, (show d + dp n ≤ 8 by omega), v', hyu.symm, hs, hl⟩⟩
      · exact ⟨_, Ev.bind hR (Ev.iff_ hy (Ev.iff_ cn (Ev.now _))), .inr ⟨_, _, rfl, ⟨y, hmem, rfl⟩, eNot_ne _ _ (by omega)⟩⟩
    cases v' with
    | nil => exact done e [] rfl (by omega)
    | cons y u =>
      by_cases cy : y.f0 = 1
      · have hmem : y ∈ v ++ [e] := List.mem_append.2 (.inl (hs.subset (by simp)))
        by_cases c64 : ((m + 1 : Nat) : Int) = 64
        · exact ⟨_, Ev.bind hR (Ev.ift cy (Ev.ift c64 (Ev.now _))), .inr ⟨_, _, rfl, ⟨y, hmem, rfl⟩, eNot_ne _ _ (by omega)⟩⟩
        · have hu : u <:+ v := (List.suffix_cons y u).trans hs
          obtain ⟨S, hS, hSO⟩ := end_any e he u (hw.suf hu) (m + 2) d (by omega)
          have hE : Ev (fun k => (pEnd k (wrap64 (((m + 1 : Nat) : Int) + 1)) (d : Int) (u ++ [e])).bind fun s => some (⟨⟨1, ⟨0, ⟨#[]⟩, ⟨#[]⟩, ⟨#[]⟩⟩, false, false, [n, s.n]⟩, s.x, s.t, s.m, s.d⟩ : PR)) ⟨⟨1, ⟨0, ⟨#[]⟩, ⟨#[]⟩, ⟨#[]⟩⟩, false, false, [n, S.n]⟩, S.x, S.t, S.m, S.d⟩ := by
            rw [up1 (by omega)]
            exact Ev.bind hS (Ev.now _)
          refine ⟨_, Ev.bind hR (Ev.ift cy (Ev.iff_ c64 hE)), ?_⟩
          rcases hSO with ⟨sx, sn, sm, sm1, sd, w', st, ss, sl⟩ | ⟨a, c, sx, ⟨x, hx, hax⟩, hc⟩
          · have s1 := nd_end sn
            have s2 := dp_end0 sn
            have hnd : nd (⟨1, ⟨0, ⟨#[]⟩, ⟨#[]⟩, ⟨#[]⟩⟩, false, false, [n, S.n]⟩ : S27) = 3 := by rw [nd, ndL, ndL, ndL, h1, s1]
            have hdp2 : dp (⟨1, ⟨0, ⟨#[]⟩, ⟨#[]⟩, ⟨#[]⟩⟩, false, false, [n, S.n]⟩ : S27) = 0 := by rw [dp, if_neg (by decide), dpL, dpL, dpL, hdp, s2]; rfl
            refine .inl ⟨sx, ?_, ?_, by rw [hnd]; omega, sd, by rw [hdp2]; omega, w', st, ss.trans hu, ?_⟩
            · rw [rt_eq, if_neg (show ¬ (1 : Int) = 0 by decide), if_pos rfl]
              show (bareV ⟨1, ⟨0, e0, e0, e0⟩, false, false, [n, S.n]⟩ && two [n, S.n]) = true
              rw [bare_mk, two, hn, sn]; rfl
            · show S.m = _
              rw [sm, hnd]
            · simp only [List.length_cons] at hl; omega
          · refine .inr ⟨a, c, sx, ⟨x, ?_, hax⟩, hc⟩
            rcases List.mem_append.1 hx with h | h
            · exact List.mem_append.2 (.inl (hu.subset h))
            · exact List.mem_append.2 (.inr h)
      · exact done y (u ++ [e]) rfl cy
  · refine ⟨R, Ev.bind hR ?_, .inr ⟨a, c, hx, hp, hc⟩⟩
    rw [hx]; exact Ev.now _
theorem rtL_app : ∀ l u : List S27, rtL (l ++ u) = (rtL l && rtL u)
  | [], u => by simp [rtL]
  | x :: l, u => by rw [List.cons_append, rtL, rtL, rtL_app l u, Bool.and_assoc]
def ExprAny (e : S48) (v : List S48) : Prop := ∀ m d : Nat, m ≤ 64 → d ≤ 8 → ∃ R, Ev (fun k => pExpr k (m : Int) (d : Int) (v ++ [e])) R ∧ Out v e m d R
def ItemsAny (e : S48) (v : List S48) : Prop := ∀ (x : S48) (acc : List S27) (m d : Nat), rtL acc = true → m + 1 + ndL acc ≤ 64 → d + 1 + dpL acc ≤ 8 →
  ∃ R, Ev (fun k => pItems k ((m + 1 + ndL acc : Nat) : Int) ((d + 1 : Nat) : Int) (x :: (v ++ [e])) acc) R ∧ Out v e m d R
theorem expr_of (e : S48) (he : e.f0 = 9) (v : List S48) (hw : shortW v) (ih : ∀ u, u.length < v.length → shortW u → ItemsAny e u) : ExprAny e v := fun m d hm hd => by
  by_cases hv : ∃ x u, v = x :: u ∧ x.f0 = 4
  · obtain ⟨x, u, rfl, h4⟩ := hv
    have mem : x ∈ (x :: u) ++ [e] := by simp
    by_cases c8 : d = 8
    · refine ⟨⟨pz, some (x.f1, eNot x 5), x :: (u ++ [e]), (m : Int), (d : Int)⟩, ?_, .inr ⟨_, _, rfl, ⟨x, mem, rfl⟩, eNot_ne _ _ (by omega)⟩⟩
      refine Ev.step (f := fun k => pList k (m : Int) (d : Int) x (u ++ [e])) (fun k => by rw [List.cons_append, pExpr, if_pos h4]) ?_
      exact Ev.step (fun k => by rw [pList, if_pos (by omega)]) (Ev.now _)
    by_cases c64 : m = 64
    · refine ⟨⟨pz, some (x.f1, eNot x 6), x :: (u ++ [e]), (m : Int), (d : Int)⟩, ?_, .inr ⟨_, _, rfl, ⟨x, mem, rfl⟩, eNot_ne _ _ (by omega)⟩⟩
      refine Ev.step (f := fun k => pList k (m : Int) (d : Int) x (u ++ [e])) (fun k => by rw [List.cons_append, pExpr, if_pos h4]) ?_
      exact Ev.step (fun k => by rw [pList, if_neg (by omega), if_pos (by omega)]) (Ev.now _)
    · obtain ⟨R, hR, hO⟩ := ih u (by simp) (hw.suf (List.suffix_cons x u)) x [] m d rfl (by simp only [ndL]; omega) (by simp only [dpL]; omega)
      simp only [ndL, Nat.add_zero] at hR
      refine ⟨R, ?_, ?_⟩
      · refine Ev.step (f := fun k => pList k (m : Int) (d : Int) x (u ++ [e])) (fun k => by rw [List.cons_append, pExpr, if_pos h4]) ?_
        exact Ev.step (fun k => by rw [pList, if_neg (by omega), if_neg (by omega), up1 (by omega), up1 (by omega)]) hR
      · rcases hO with ⟨h1, h2, h3, h5, h6, h7, v', ht, hs, hl⟩ | ⟨a, c, hx, ⟨y, hy, hay⟩, hc⟩
        · exact .inl ⟨h1, h2, h3, h5, h6, h7, v', ht, hs.trans (List.suffix_cons x u), by rw [List.length_cons]; omega⟩
        · exact .inr ⟨a, c, hx, ⟨y, by rw [List.cons_append]; exact List.mem_cons_of_mem _ hy, hay⟩, hc⟩
  · obtain ⟨R, hR, hO⟩ := span_any e he v hw m d hm hd
    refine ⟨R, ?_, hO⟩
    cases v with
    | nil => exact Ev.step (fun k => by rw [List.nil_append, pExpr, if_neg (by omega)]) hR
    | cons x u => exact Ev.step (fun k => by rw [List.cons_append, pExpr, if_neg (fun h => hv ⟨x, u, rfl, h⟩)]) hR
theorem items_of (e : S48) (he : e.f0 = 9) (v : List S48) (hw : shortW v) (hE : ExprAny e v) (ih : ∀ u, u.length < v.length → shortW u → ItemsAny e u) : ItemsAny e v := fun x acc m d hrt hm hd => by
  obtain ⟨R, hR, hO⟩ := hE (m + 1 + ndL acc) (d + 1) hm (by omega)
  have hlen := len_nd acc
  rcases hO with ⟨h1, h2, h3, h5, h6, h7, v', ht, hs, hl⟩ | ⟨a, c, hx, hp, hc⟩
  · obtain ⟨n, x', t, m', d'⟩ := R
    simp only at h1 h2 h3 h5 h6 h7 ht
    subst h1; subst h3; subst h6
    have e1 : m + 1 + ndL acc + nd n = m + 1 + ndL (acc ++ [n]) := by rw [ndL_app, ndL, ndL]; omega
    have e2 : rtL (acc ++ [n]) = true := by rw [rtL_app, hrt, rtL, h2]; rfl
    have e3 : d + 1 + dpL (acc ++ [n]) ≤ 8 := by rw [dpL_app, dpL, dpL]; omega
    have hl2 : (acc ++ [n]).length ≤ 64 := by have := len_nd (acc ++ [n]); omega
    have other : ∀ y u, v' ++ [e] = y :: u → y.f0 ≠ 6 → y.f0 ≠ 5 → ∃ R, Ev (fun k => pItems k ((m + 1 + ndL acc : Nat) : Int) ((d + 1 : Nat) : Int) (x :: (v ++ [e])) acc) R ∧ Out v e m d R := fun y u hyu c6 c5 => by
      have hmem : y ∈ v ++ [e] := by
        have : y ∈ v' ++ [e] := by rw [hyu]; simp
        rcases List.mem_append.1 this with h | h
        · exact List.mem_append.2 (.inl (hs.subset h))
        · exact List.mem_append.2 (.inr h)
      rw [ht, hyu] at hR
      exact ⟨_, Ev.step (fun k => pItems_one k _ _ x _ acc) (Ev.bind hR (Ev.ift (by omega) (Ev.iff_ c6 (Ev.iff_ c5 (Ev.now _))))), .inr ⟨_, _, rfl, ⟨y, hmem, rfl⟩, eNot_ne _ _ (by omega)⟩⟩
    cases v' with
    | nil => exact other e [] rfl (by omega) (by omega)
    | cons y u =>
      have hu : u <:+ v := (List.suffix_cons y u).trans hs
      simp only [List.length_cons] at hl
      rw [ht, List.cons_append] at hR
      by_cases c6 : y.f0 = 6
      · obtain ⟨S, hS, hSO⟩ := ih u (by omega) (hw.suf hu) y (acc ++ [n]) m d e2 (by omega) e3
        rw [← e1] at hS
        refine ⟨S, items_step hR (by omega) (.inl ⟨c6, hS⟩), ?_⟩
        rcases hSO with ⟨s1, s2, s3, s5, s6, s7, w', st, ss, sl⟩ | ⟨a, c, sx, ⟨z, hz, haz⟩, hc⟩
        · exact .inl ⟨s1, s2, s3, s5, s6, s7, w', st, ss.trans hu, by omega⟩
        · refine .inr ⟨a, c, sx, ⟨z, ?_, haz⟩, hc⟩
          rcases List.mem_append.1 hz with h | h
          · exact List.mem_append.2 (.inl (hu.subset h))
          · exact List.mem_append.2 (.inr h)
      by_cases c5 : y.f0 = 5
      · have hnd : nd (⟨2, ⟨0, e0, e0, e0⟩, false, false, acc ++ [n]⟩ : S27) = 1 + ndL (acc ++ [n]) := by rw [nd]; omega
        have hdp : dp (⟨2, ⟨0, e0, e0, e0⟩, false, false, acc ++ [n]⟩ : S27) = dpL (acc ++ [n]) + 1 := by rw [dp, if_pos rfl]
        refine ⟨⟨⟨2, ⟨0, e0, e0, e0⟩, false, false, acc ++ [n]⟩, none, u ++ [e], ((m + 1 + ndL acc + nd n : Nat) : Int), (d : Int)⟩, items_step hR (by omega) (.inr ⟨c5, ?_, by omega⟩), .inl ⟨rfl, ?_, ?_, by rw [hnd]; omega, rfl, by rw [hdp]; omega, u, rfl, hu, by omega⟩⟩
        · rw [w64 (by omega) (by omega)]
          have : ((d + 1 : Nat) : Int) - 1 = (d : Int) := by omega
          rw [this]
        · rw [rt_eq, if_neg (show ¬ (2 : Int) = 0 by decide), if_neg (show ¬ (2 : Int) = 1 by decide), if_pos rfl, bare_mk]
          show (true && (decide (acc ++ [n] ≠ []) && rtL (acc ++ [n]))) = true
          rw [e2]; simp
        · show ((m + 1 + ndL acc + nd n : Nat) : Int) = _
          rw [hnd, e1]; omega
      · exact other y (u ++ [e]) rfl c6 c5
  · refine ⟨R, Ev.step (fun k => pItems_one k _ _ x _ acc) (Ev.bind hR ?_), .inr ⟨a, c, hx, hp, hc⟩⟩
    rw [hx]; exact Ev.now _
theorem items_any (e : S48) (he : e.f0 = 9) : ∀ (M : Nat) (v : List S48), v.length ≤ M → shortW v → ItemsAny e v
  | 0, v, hl, hw => items_of e he v hw (expr_of e he v hw (fun u h _ => by omega)) (fun u h _ => by omega)
  | M + 1, v, hl, hw => items_of e he v hw (expr_of e he v hw (fun u h hu => items_any e he M u (by omega) hu)) (fun u h hu => items_any e he M u (by omega) hu)
theorem expr_any (e : S48) (he : e.f0 = 9) (v : List S48) (hw : shortW v) : ExprAny e v := expr_of e he v hw (fun u _ hu => items_any e he _ u (Nat.le_refl _) hu)
end Go.Proofs.Ytjgjhekpiijniaa.A