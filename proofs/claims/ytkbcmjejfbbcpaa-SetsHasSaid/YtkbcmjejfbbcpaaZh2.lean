/- Walks of functions, and plain facts about what they compute. No conditions. -/
import Derived.Test.YtkbcmjejfbbcpaaZh1
set_option linter.unusedVariables false
set_option linter.unusedSimpArgs false
namespace Go.Proofs.Ytkbcmjejfbbcpaa.A
open Go.RowKit Go.Proofs.YtkbcmjejfbbcpaaW.PrintWords Go.Proofs.YtkbcmjejfbbcpaaW.PrintLast Go.Proofs.YtkbcmjejfbbcpaaW.PrintMore
set_option linter.unusedVariables false
def IsSet (m : List S25) (p : Int → Prop) : Prop := sane m ∧ ∀ n, mem m n ↔ -lim ≤ n ∧ n ≤ lim ∧ p n
theorem IsSet.eq {m m' : List S25} {p q : Int → Prop} (h : IsSet m p) (h' : IsSet m' q) (e : ∀ n, -lim ≤ n → n ≤ lim → (p n ↔ q n)) : m = m' :=
  same h.1 h'.1 fun n => by
    rw [h.2, h'.2]
    exact ⟨fun ⟨a, b, c⟩ => ⟨a, b, (e n a b).1 c⟩, fun ⟨a, b, c⟩ => ⟨a, b, (e n a b).2 c⟩⟩
theorem IsSet.congr {m : List S25} {p q : Int → Prop} (h : IsSet m p) (e : ∀ n, -lim ≤ n → n ≤ lim → (p n ↔ q n)) : IsSet m q :=
  ⟨h.1, fun n => by rw [h.2]; exact ⟨fun ⟨a, b, c⟩ => ⟨a, b, (e n a b).1 c⟩, fun ⟨a, b, c⟩ => ⟨a, b, (e n a b).2 c⟩⟩⟩
theorem isSet_norm (l : List S25) : IsSet (norm l) (mem l) := ⟨norm_sane l, norm_mem l⟩
theorem mem_one (r : S25) (n : Int) : mem [r] n ↔ r.f0 ≤ n ∧ n ≤ r.f1 := by rw [mem_cons]; simp [mem_nil]
def both (r q : S25) : S25 := ⟨max r.f0 q.f0, min r.f1 q.f1⟩
def meet2 : List S25 → List S25 → List S25
  | [], _ => []
  | _ :: _, [] => []
  | r :: s, q :: t => (if (both r q).f0 ≤ (both r q).f1 then [both r q] else []) ++ (if r.f1 < q.f1 then meet2 s (q :: t) else meet2 (r :: s) t)
termination_by s t => s.length + t.length
theorem meet2_nil (s : List S25) : meet2 s [] = [] := by cases s <;> simp [meet2]
theorem meet2_cons (r : S25) (s : List S25) (q : S25) (t : List S25) : meet2 (r :: s) (q :: t) = (if (both r q).f0 ≤ (both r q).f1 then [both r q] else []) ++ (if r.f1 < q.f1 then meet2 s (q :: t) else meet2 (r :: s) t) := by rw [meet2]
theorem meet2_len : ∀ (m : Nat) (s t : List S25), s.length + t.length = m → (meet2 s t).length ≤ s.length + t.length
  | _, [], t, _ => by simp [meet2]
  | _, s, [], _ => by simp [meet2_nil]
  | m + 1, r :: s, q :: t, e => by
    simp only [List.length_cons] at e
    rw [meet2_cons, List.length_append]
    have h1 : (if (both r q).f0 ≤ (both r q).f1 then [both r q] else []).length ≤ 1 := by split <;> simp
    by_cases c : r.f1 < q.f1
    · rw [if_pos c]
      have := meet2_len m s (q :: t) (by simp only [List.length_cons]; omega)
      simp only [List.length_cons] at this ⊢
      omega
    · rw [if_neg c]
      have := meet2_len m (r :: s) t (by simp only [List.length_cons]; omega)
      simp only [List.length_cons] at this ⊢
      omega
theorem meet2_sane : ∀ (m : Nat) (s t : List S25) (a b : Int), s.length + t.length = m → saneF a s → saneF b t → saneF (max a b) (meet2 s t)
  | _, [], t, _, _, _, _, _ => by simp [meet2, saneF]
  | _, s, [], _, _, _, _, _ => by simp [meet2_nil, saneF]
  | m + 1, r :: s, q :: t, a, b, e, hs, ht => by
    simp only [List.length_cons] at e
    obtain ⟨r1, r2, r3, r4⟩ := hs
    obtain ⟨q1, q2, q3, q4⟩ := ht
    have ht : saneF (if r.f1 < q.f1 then max r.f1 b else max a q.f1) (if r.f1 < q.f1 then meet2 s (q :: t) else meet2 (r :: s) t) := by
      split
      · exact meet2_sane m s (q :: t) _ _ (by simp only [List.length_cons]; omega) r4 ⟨q1, q2, q3, q4⟩
      · exact meet2_sane m (r :: s) t _ _ (by simp only [List.length_cons]; omega) ⟨r1, r2, r3, r4⟩ q4
    rw [meet2_cons]
    by_cases c : (both r q).f0 ≤ (both r q).f1
    · rw [if_pos c]
      simp only [both] at c
      refine ⟨by simp only [both]; omega, by simp only [both]; exact c, by simp only [both]; omega, saneF_le ht ?_⟩
      simp only [both]
      split <;> omega
    · rw [if_neg c, List.nil_append]
      refine saneF_le ht ?_
      split <;> omega
theorem meet2_mem : ∀ (m : Nat) (s t : List S25) (a b : Int), s.length + t.length = m → saneF a s → saneF b t → ∀ n, mem (meet2 s t) n ↔ mem s n ∧ mem t n
  | _, [], t, _, _, _, _, _, n => by simp [meet2, mem_nil]
  | _, s, [], _, _, _, _, _, n => by simp [meet2_nil, mem_nil]
  | m + 1, r :: s, q :: t, a, b, e, hs, ht, n => by
    simp only [List.length_cons] at e
    have hs0 := hs; have ht0 := ht
    obtain ⟨r1, r2, r3, r4⟩ := hs
    obtain ⟨q1, q2, q3, q4⟩ := ht
    have ho : mem (if (both r q).f0 ≤ (both r q).f1 then [both r q] else []) n ↔ (r.f0 ≤ n ∧ n ≤ r.f1) ∧ q.f0 ≤ n ∧ n ≤ q.f1 := by
      by_cases c : (both r q).f0 ≤ (both r q).f1
      · rw [if_pos c, mem_one]; simp only [both]; omega
      · rw [if_neg c]; simp only [both] at c; constructor
        · exact fun h => absurd h (mem_nil _)
        · intro h; omega
    rw [meet2_cons, mem_append, ho]
    by_cases c : r.f1 < q.f1
    · rw [if_pos c, meet2_mem m s (q :: t) _ _ (by simp only [List.length_cons]; omega) r4 ht0 n, mem_cons, mem_cons]
      have h1 : mem t n → q.f1 + 2 ≤ n := fun h => (saneF_mem q4 h).1
      constructor
      · rintro (h | h)
        · exact ⟨.inl h.1, .inl h.2⟩
        · exact ⟨.inr h.1, h.2⟩
      · rintro ⟨h | h, h'⟩
        · rcases h' with h' | h'
          · exact .inl ⟨h, h'⟩
          · have := h1 h'; omega
        · exact .inr ⟨h, h'⟩
    · rw [if_neg c, meet2_mem m (r :: s) t _ _ (by simp only [List.length_cons]; omega) hs0 q4 n, mem_cons, mem_cons]
      have h1 : mem s n → r.f1 + 2 ≤ n := fun h => (saneF_mem r4 h).1
      constructor
      · rintro (h | h)
        · exact ⟨.inl h.1, .inl h.2⟩
        · exact ⟨h.1, .inr h.2⟩
      · rintro ⟨h, h' | h'⟩
        · rcases h with h | h
          · exact .inl ⟨h, h'⟩
          · have := h1 h; omega
        · exact .inr ⟨h, h'⟩
theorem Meet_l0 : ∀ (m : Nat) (s t p q acc : List S25), s.length + t.length = m → (p ++ s).length < 4398046511104 → (q ++ t).length < 4398046511104 → acc.length + s.length + t.length < 8796093022208 →
    Ev (fun k => sets_Meet.l0 k (p ++ s) (q ++ t) acc (p.length : Int) (q.length : Int)) (acc ++ meet2 s t)
  | _, [], t, p, q, acc, _, _, _, _ => by
    refine Ev.step (f := fun k => sets_Meet.j1 k (p ++ []) (q ++ t) acc (p.length : Int) (q.length : Int) false) (fun k => by rw [sets_Meet.l0, if_neg (at_end p)]) ?_
    refine Ev.step (f := fun _ => some (acc ++ meet2 [] t)) (fun k => by rw [sets_Meet.j1, if_neg (by simp)]; simp [meet2]) (Ev.now _)
  | _, r :: s, [], p, q, acc, _, _, _, _ => by
    refine Ev.step (f := fun k => sets_Meet.j1 k (p ++ r :: s) (q ++ []) acc (p.length : Int) (q.length : Int) false) (fun k => by rw [sets_Meet.l0, if_pos (at_lt p r s), decide_eq_false (at_end q)]) ?_
    refine Ev.step (f := fun _ => some (acc ++ meet2 (r :: s) [])) (fun k => by rw [sets_Meet.j1, if_neg (by simp)]; simp [meet2_nil]) (Ev.now _)
  | m + 1, r :: s, x :: t, p, q, acc, e, h1, h2, h3 => by
    simp only [List.length_cons] at e h3
    refine Ev.step (f := fun k => sets_Meet.j1 k (p ++ r :: s) (q ++ x :: t) acc (p.length : Int) (q.length : Int) true) (fun k => by rw [sets_Meet.l0, if_pos (at_lt p r s), decide_eq_true (at_lt q x t)]) ?_
    have hn1 := at_next (p := p) (r := r) (t := s) (by omega)
    have hn2 := at_next (p := q) (r := x) (t := t) (by omega)
    have hgo : ∀ acc' : List S25, acc'.length + (s.length + 1) + (t.length + 1) ≤ acc.length + (s.length + 1) + (t.length + 1) + 1 →
        Ev (fun k => if (r.f1) < (x.f1) then sets_Meet.l0 k (p ++ r :: s) (q ++ x :: t) acc' (wrap64 ((p.length : Int) + 1)) (q.length : Int) else sets_Meet.l0 k (p ++ r :: s) (q ++ x :: t) acc' (p.length : Int) (wrap64 ((q.length : Int) + 1)))
          (acc' ++ (if r.f1 < x.f1 then meet2 s (x :: t) else meet2 (r :: s) t)) := fun acc' ha => by
      by_cases c : r.f1 < x.f1
      · rw [if_pos c]
        refine Ev.ift c ?_
        rw [hn1]
        have := Meet_l0 m s (x :: t) (p ++ [r]) q acc' (by simp only [List.length_cons]; omega) (by rw [← at_app]; exact h1) h2 (by simp only [List.length_cons]; omega)
        rw [← at_app] at this
        exact this
      · rw [if_neg c]
        refine Ev.iff_ c ?_
        rw [hn2]
        have := Meet_l0 m (r :: s) t p (q ++ [x]) acc' (by simp only [List.length_cons]; omega) h1 (by rw [← at_app]; exact h2) (by simp only [List.length_cons]; omega)
        rw [← at_app] at this
        exact this
    rw [meet2_cons]
    by_cases c : (both r x).f0 ≤ (both r x).f1
    · rw [if_pos c, ← List.append_assoc]
      refine Ev.step (fun k => ?_) (hgo (acc ++ [both r x]) (by rw [List.length_append, List.length_singleton]; omega))
      rw [sets_Meet.j1, if_pos rfl, if_pos (at_0 p), if_pos (at_lt p r s), if_pos (at_0 q), if_pos (at_lt q x t), at_rd, at_rd, mx_max, mn_min, if_pos (show max r.f0 x.f0 ≤ min r.f1 x.f1 from c), if_pos (by omega)]
      rfl
    · rw [if_neg c, List.nil_append]
      refine Ev.step (fun k => ?_) (hgo acc (by omega))
      rw [sets_Meet.j1, if_pos rfl, if_pos (at_0 p), if_pos (at_lt p r s), if_pos (at_0 q), if_pos (at_lt q x t), at_rd, at_rd, mx_max, mn_min, if_neg (show ¬ max r.f0 x.f0 ≤ min r.f1 x.f1 from c)]
theorem Meet_f (a b : List S25) (h : a.length + b.length < 4398046511104) : ∃ m, Ev (fun k => sets_Meet.f k a b) m ∧ IsSet m (fun n => mem a n ∧ mem b n) ∧ m.length ≤ a.length + b.length := by
  have h1 := norm_len a
  have h2 := norm_len b
  refine ⟨meet2 (norm a) (norm b), Ev.bind (sknown_f a (by omega)) (Ev.bind (sknown_f b (by omega)) ?_), ⟨?_, fun n => ?_⟩, ?_⟩
  · have := Meet_l0 _ (norm a) (norm b) [] [] [] rfl (by simp; omega) (by simp; omega) (by simp; omega)
    simpa using this
  · have := meet2_sane _ (norm a) (norm b) _ _ rfl (norm_sane a) (norm_sane b)
    rw [Int.max_self] at this
    exact this
  · rw [meet2_mem _ (norm a) (norm b) _ _ rfl (norm_sane a) (norm_sane b), norm_mem, norm_mem]
    exact ⟨fun ⟨⟨u, v, x⟩, _, _, y⟩ => ⟨u, v, x, y⟩, fun ⟨u, v, x, y⟩ => ⟨⟨u, v, x⟩, u, v, y⟩⟩
  · have := meet2_len _ (norm a) (norm b) rfl
    omega
def gaps : Int → List S25 → List S25
  | x, [] => if x ≤ lim then [⟨x, lim⟩] else []
  | x, r :: t => if x < r.f0 then ⟨x, r.f0 - 1⟩ :: gaps (r.f1 + 1) t else gaps (r.f1 + 1) t
theorem gaps_sane : ∀ (s : List S25) (x : Int), saneF (x - 2) s → saneF (x - 2) (gaps x s)
  | [], x, _ => by
    unfold gaps
    split
    · exact ⟨by simp only; omega, by assumption, Int.le_refl _, trivial⟩
    · trivial
  | r :: t, x, ⟨h1, h2, h3, h4⟩ => by
    unfold gaps
    have ih := gaps_sane t (r.f1 + 1) (saneF_le h4 (by omega))
    split
    · exact ⟨by simp only; omega, by simp only; omega, by simp only; omega, saneF_le ih (by simp only; omega)⟩
    · exact saneF_le ih (by omega)
theorem gaps_mem : ∀ (s : List S25) (x : Int), saneF (x - 2) s → ∀ n, mem (gaps x s) n ↔ x ≤ n ∧ n ≤ lim ∧ ¬ mem s n
  | [], x, _, n => by
    unfold gaps
    split
    · rw [mem_one]; simp [mem_nil]
    · simp only [mem_nil]
      constructor
      · exact fun h => h.elim
      · rintro ⟨h1, h2, _⟩; omega
  | r :: t, x, ⟨h1, h2, h3, h4⟩, n => by
    have hs : saneF (r.f1 + 1 - 2) t := saneF_le h4 (by omega)
    have ih := gaps_mem t (r.f1 + 1) hs n
    have ht : mem t n → r.f1 + 2 ≤ n := fun h => (saneF_mem h4 h).1
    unfold gaps
    split
    · rw [mem_cons, mem_cons, ih]
      simp only
      constructor
      · rintro (h | ⟨u, v, z⟩)
        · exact ⟨by omega, by omega, fun h' => h'.elim (fun h' => by omega) (fun h' => by have := ht h'; omega)⟩
        · exact ⟨by omega, v, fun h' => h'.elim (fun h' => by omega) z⟩
      · rintro ⟨u, v, z⟩
        by_cases c : n < r.f0
        · exact .inl (by omega)
        · refine .inr ⟨?_, v, fun h' => z (.inr h')⟩
          have : ¬ (r.f0 ≤ n ∧ n ≤ r.f1) := fun h' => z (.inl h')
          omega
    · rw [mem_cons, ih]
      constructor
      · rintro ⟨u, v, z⟩
        exact ⟨by omega, v, fun h' => h'.elim (fun h' => by omega) z⟩
      · rintro ⟨u, v, z⟩
        refine ⟨?_, v, fun h' => z (.inr h')⟩
        have : ¬ (r.f0 ≤ n ∧ n ≤ r.f1) := fun h' => z (.inl h')
        omega
theorem gaps_len : ∀ (s : List S25) (x : Int), (gaps x s).length ≤ s.length + 1
  | [], x => by unfold gaps; split <;> simp
  | r :: t, x => by
    have := gaps_len t (r.f1 + 1)
    unfold gaps
    split <;> simp only [List.length_cons] <;> omega
theorem Minus_l0 (a : List S25) (z : List S25) : ∀ (t p acc : List S25) (x b : Int), saneF b t → -lim ≤ x → x ≤ lim + 1 → -lim - 2 ≤ b → (p ++ t).length < 4398046511104 → acc.length + t.length < 4398046511104 → acc ++ gaps x t = z → (∀ m, Ev (fun k => sets_Meet.f k a z) m →
    Ev (fun k => sets_Minus.l0 k a acc x (p ++ t) ((p ++ t).length : Int) (p.length : Int)) m)
  | [], p, acc, x, b, _, h1, h2, _, h3, h4, hz, m, hm => by
    simp only [List.length_nil] at h4
    by_cases c : x ≤ lim
    · simp only [gaps, if_pos c] at hz
      refine Ev.step (f := fun k => (sets_Meet.f k a z).bind fun t => some t) (fun k => ?_) (Ev.bind hm (Ev.now _))
      rw [sets_Minus.l0, if_neg (at_end p), if_pos (by unfold lim at c; omega), if_pos (by omega), ← hz]
      rfl
    · simp only [gaps, if_neg c, List.append_nil] at hz
      refine Ev.step (f := fun k => (sets_Meet.f k a z).bind fun t => some t) (fun k => ?_) (Ev.bind hm (Ev.now _))
      rw [sets_Minus.l0, if_neg (at_end p), if_neg (by unfold lim at c; omega), ← hz]
  | r :: t, p, acc, x, b, ⟨r1, r2, r3, r4⟩, h1, h2, h0, h3, h4, hz, m, hm => by
    simp only [List.length_cons] at h4
    have hn := at_next (p := p) (r := r) (t := t) (by omega)
    have w1 : wrap64 (r.f1 + 1) = r.f1 + 1 := w64 (by unfold lim at *; omega) (by unfold lim at *; omega)
    have w2 : wrap64 (r.f0 - 1) = r.f0 - 1 := w64 (by unfold lim at *; omega) (by unfold lim at *; omega)
    by_cases c : x < r.f0
    · simp only [gaps, if_pos c] at hz
      have := Minus_l0 a z t (p ++ [r]) (acc ++ [⟨x, r.f0 - 1⟩]) (r.f1 + 1) r.f1 r4 (by omega) (by omega) (by omega) (by rw [← at_app]; exact h3) (by rw [List.length_append, List.length_singleton]; omega) (by rw [← hz]; simp) m hm
      rw [← at_app] at this
      refine Ev.step (fun k => ?_) this
      rw [sets_Minus.l0, if_pos (at_lt p r t), if_pos (at_0 p), if_pos (at_lt p r t), at_rd, if_pos c, if_pos (by omega), w1, w2, hn]
    · simp only [gaps, if_neg c] at hz
      have := Minus_l0 a z t (p ++ [r]) acc (r.f1 + 1) r.f1 r4 (by omega) (by omega) (by omega) (by rw [← at_app]; exact h3) (by omega) hz m hm
      rw [← at_app] at this
      refine Ev.step (fun k => ?_) this
      rw [sets_Minus.l0, if_pos (at_lt p r t), if_pos (at_0 p), if_pos (at_lt p r t), at_rd, if_neg c, w1, hn]
theorem Minus_f (a b : List S25) (h : a.length + b.length < 4398046511100) : ∃ m, Ev (fun k => sets_Minus.f k a b) m ∧ IsSet m (fun n => mem a n ∧ ¬ mem b n) ∧ m.length ≤ a.length + b.length + 1 := by
  have h2 := norm_len b
  have hl := gaps_len (norm b) (-lim)
  have hs := gaps_sane (norm b) (-lim) (norm_sane b)
  obtain ⟨m, hm, hi, hk⟩ := Meet_f a (gaps (-lim) (norm b)) (by omega)
  refine ⟨m, Ev.bind (sknown_f b (by omega)) ?_, hi.congr fun n h3 h4 => ?_, by omega⟩
  · have := Minus_l0 a _ (norm b) [] [] (-lim) _ (norm_sane b) (Int.le_refl _) (by unfold lim; omega) (Int.le_refl _) (by simp; omega) (by simp; omega) rfl m (by simpa using hm)
    simp only [List.nil_append, List.length_nil] at this
    exact this
  · rw [gaps_mem _ _ (norm_sane b), norm_mem]
    constructor
    · rintro ⟨u, _, _, v⟩
      exact ⟨u, fun hb => v ⟨h3, h4, hb⟩⟩
    · rintro ⟨u, v⟩
      exact ⟨u, h3, h4, fun hb => v hb.2.2⟩
end Go.Proofs.Ytkbcmjejfbbcpaa.A

namespace Go.Proofs.Ytkbcmjejfbbcpaa.A
open Go.RowKit Go.Proofs.YtkbcmjejfbbcpaaW.PrintWords Go.Proofs.YtkbcmjejfbbcpaaW.PrintLast Go.Proofs.YtkbcmjejfbbcpaaW.PrintMore
set_option linter.unusedVariables false
def shifted (lo hi : Int) (r : S25) : S25 := ⟨r.f0 + lo, r.f1 + hi⟩
theorem mem_grow {l : List S25} (hs : ∀ r, r ∈ l → r.f0 ≤ r.f1) (k n : Int) (hk : 0 ≤ k) : mem (l.map (shifted (-k) k)) n ↔ ∃ x, mem l x ∧ x - k ≤ n ∧ n ≤ x + k := by
  constructor
  · rintro ⟨r, hr, h1, h2⟩
    obtain ⟨q, hq, rfl⟩ := List.mem_map.1 hr
    simp only [shifted] at h1 h2
    have := hs q hq
    exact ⟨max q.f0 (min q.f1 n), ⟨q, hq, by omega, by omega⟩, by omega, by omega⟩
  · rintro ⟨x, ⟨q, hq, h1, h2⟩, h3, h4⟩
    exact ⟨_, List.mem_map.2 ⟨q, hq, rfl⟩, by simp only [shifted]; omega, by simp only [shifted]; omega⟩
theorem norm_runs (l : List S25) : ∀ r, r ∈ norm l → r.f0 ≤ r.f1 := fun r hr => (saneF_all (norm_sane l) r hr).2.1
def near (k : Int) : Int := max 0 (min k 2199023255552)
theorem grown (l : List S25) (k : Int) : IsSet (norm ((norm l).map (shifted (-(near k)) (near k)))) (fun n => ∃ x, mem (norm l) x ∧ x - near k ≤ n ∧ n ≤ x + near k) :=
  (isSet_norm _).congr fun n _ _ => mem_grow (norm_runs l) _ _ (by unfold near; omega)
theorem Union_f (a b : List S25) (h : a.length + b.length < 4398046511104) : Ev (fun _ => sets_Union.f a b) (norm (a ++ b)) := ⟨0, fun _ _ => by unfold sets_Union.f; rw [if_pos h]⟩
theorem isSet_union (a b : List S25) : IsSet (norm (a ++ b)) (fun n => mem a n ∨ mem b n) := (isSet_norm _).congr fun n _ _ => mem_append _ _ _
def row (r : S25) (t : List S25) : List S25 := t.flatMap fun q => if (both r q).f0 ≤ (both r q).f1 then [both r q] else []
end Go.Proofs.Ytkbcmjejfbbcpaa.A

namespace Go.Proofs.Ytkbcmjejfbbcpaa.A
open Go.RowKit Go.Proofs.YtkbcmjejfbbcpaaW.PrintWords Go.Proofs.YtkbcmjejfbbcpaaW.PrintLast Go.Proofs.YtkbcmjejfbbcpaaW.PrintMore
set_option linter.unusedVariables false
theorem awake5 : Ev (fun k => lustrumlaw05_awake.f k) true := Ev.of lustrumlaw05_awake.mono (k := 12) (by decide +kernel)
theorem has_b {l : List S25} {b : Bool} {p : Int → Prop} {n : Int} (hs : b = true ↔ mem (norm l) n) (h : IsSet l p) : b = true ↔ -lim ≤ n ∧ n ≤ lim ∧ p n := by
  rw [hs, norm_of_sane h.1]; exact h.2 n
theorem sane_true {l : List S25} {b : Bool} (h : b = true ↔ sane l) (hl : sane l) : b = true := h.2 hl
theorem SetsHas_t (a b : List S25) (n : Int) : Ev (fun k => lustrumlaw05_SetsHas.f k a b n) true := by
  refine Ev.bind awake5 ?_
  have hj : ∀ c, (c = false → a.length ≤ 40 ∧ b.length ≤ 40) → Ev (fun k => lustrumlaw05_SetsHas.j0 k a b n true c) true := fun c hc => by
    refine Ev.step (fun k => by rw [lustrumlaw05_SetsHas.j0]) ?_
    cases c with
    | true => exact Ev.ift rfl (Ev.now _)
    | false =>
      obtain ⟨h1, h2⟩ := hc rfl
      obtain ⟨x, hx, sx⟩ := Has_f a (by omega) n
      obtain ⟨y, hy, sy⟩ := Has_f b (by omega) n
      obtain ⟨m, hm, im, lm⟩ := Meet_f a b (by omega)
      obtain ⟨d, hd, id, ld⟩ := Minus_f a b (by omega)
      have iu := isSet_union a b
      have lu := norm_len (a ++ b)
      rw [List.length_append] at lu
      obtain ⟨s1, g1, u1⟩ := Sane_f (norm (a ++ b)) (by omega)
      obtain ⟨s2, g2, u2⟩ := Sane_f m (by omega)
      obtain ⟨s3, g3, u3⟩ := Sane_f d (by omega)
      obtain rfl := sane_true u1 iu.1
      obtain rfl := sane_true u2 im.1
      obtain rfl := sane_true u3 id.1
      obtain ⟨z1, k1, v1⟩ := Has_f (norm (a ++ b)) (by omega) n
      obtain ⟨z2, k2, v2⟩ := Has_f m (by omega) n
      obtain ⟨z3, k3, v3⟩ := Has_f d (by omega) n
      have e1 := has_b v1 iu
      have e2 := has_b v2 im
      have e3 := has_b v3 id
      rw [norm_mem] at sx sy
      refine Ev.iff_ (by simp) (Ev.bind hx (Ev.bind hy (Ev.bind (Union_f a b (by omega)) (Ev.bind hm (Ev.bind hd (Ev.ift rfl (Ev.bind g1 (Ev.ift rfl (Ev.bind g2 (Ev.ift rfl (Ev.bind g3 (Ev.ift rfl (Ev.bind k1 ?_)))))))))))))
      have t1 : z1 = (x || y) := by
        rw [Bool.eq_iff_iff, Bool.or_eq_true, e1, sx, sy]
        constructor
        · rintro ⟨p, q, r | r⟩
          · exact .inl ⟨p, q, r⟩
          · exact .inr ⟨p, q, r⟩
        · rintro (⟨p, q, r⟩ | ⟨p, q, r⟩)
          · exact ⟨p, q, .inl r⟩
          · exact ⟨p, q, .inr r⟩
      have t2 : z2 = (x && y) := by
        rw [Bool.eq_iff_iff, Bool.and_eq_true, e2, sx, sy]
        exact ⟨fun ⟨p, q, r, s⟩ => ⟨⟨p, q, r⟩, p, q, s⟩, fun ⟨⟨p, q, r⟩, _, _, s⟩ => ⟨p, q, r, s⟩⟩
      have t3 : z3 = (x && !y) := by
        have ey : (!y) = true ↔ ¬ y = true := by cases y <;> simp
        rw [Bool.eq_iff_iff, Bool.and_eq_true, e3, ey, sx, sy]
        constructor
        · rintro ⟨p, q, r, s⟩; exact ⟨⟨p, q, r⟩, fun h => s h.2.2⟩
        · rintro ⟨⟨p, q, r⟩, s⟩; exact ⟨p, q, r, fun h => s ⟨p, q, h⟩⟩
      subst t1; subst t2; subst t3
      cases x with
      | true => exact Ev.ift rfl (Ev.ift (by simp) (Ev.bind k2 (Ev.ift (by simp) (Ev.bind k3 (Ev.eq (Ev.now _) (by simp))))))
      | false => exact Ev.iff_ (by simp) (Ev.ift (by simp) (Ev.bind k2 (Ev.ift (by simp) (Ev.bind k3 (Ev.eq (Ev.now _) (by simp))))))
  by_cases c : a.length ≤ 40
  · refine Ev.iff_ (by omega) (hj _ fun h => ⟨c, ?_⟩)
    have := of_decide_eq_false h
    omega
  · exact Ev.ift (by omega) (hj true (by simp))
end Go.Proofs.Ytkbcmjejfbbcpaa.A
