/- Walks of functions, and plain facts about what they compute. No conditions. -/
import Derived.Test.YtfehdlkklfcnpaaDoorZi0
set_option linter.unusedVariables false
set_option linter.unusedSimpArgs false
namespace Go.Proofs.YtfehdlkklfcnpaaDoor.A
open Go.RowKit Go.Proofs.YtfehdlkklfcnpaaDoorW.PrintWords Go.Proofs.YtfehdlkklfcnpaaDoorW.PrintLast Go.Proofs.YtfehdlkklfcnpaaDoorW.PrintMore
theorem saneF_app : ∀ {u : List S37} {a c : Int} {v : List S37}, saneF a u → (∀ x, x ∈ u → x.f1 ≤ c) → a ≤ c → saneF c v → saneF a (u ++ v)
  | [], a, c, v, _, _, hc, hv => saneF_le hv hc
  | x :: u, a, c, v, ⟨h1, h2, h3, h4⟩, hu, hc, hv => ⟨h1, h2, h3, saneF_app h4 (fun y hy => hu y (List.mem_cons_of_mem _ hy)) (hu x List.mem_cons_self) hv⟩
def gap : Int → List S37 → Prop
  | _, [] => True
  | a, r :: t => a + 2 ≤ r.f0 ∧ r.f0 ≤ r.f1 ∧ gap r.f1 t
theorem gap_le {a b : Int} {l : List S37} (h : gap a l) (hb : b ≤ a) : gap b l := by
  cases l with
  | nil => trivial
  | cons r t => exact ⟨by have := h.1; omega, h.2.1, h.2.2⟩
theorem gap_app : ∀ {u : List S37} {a c : Int} {v : List S37}, gap a u → (∀ x, x ∈ u → x.f1 ≤ c) → a ≤ c → gap c v → gap a (u ++ v)
  | [], a, c, v, _, _, hc, hv => gap_le hv hc
  | x :: u, a, c, v, ⟨h1, h2, h3⟩, hu, hc, hv => ⟨h1, h2, gap_app h3 (fun y hy => hu y (List.mem_cons_of_mem _ hy)) (hu x List.mem_cons_self) hv⟩
theorem gap_sane : ∀ {l : List S37} {a : Int}, gap a l → (∀ x, x ∈ l → x.f1 ≤ lim) → saneF a l
  | [], _, _, _ => trivial
  | x :: l, a, ⟨h1, h2, h3⟩, h => ⟨h1, h2, h x List.mem_cons_self, gap_sane h3 (fun y hy => h y (List.mem_cons_of_mem _ hy))⟩
theorem gap_ones (c : Int) : ∀ (m : Nat) (lo a : Int), a + 2 ≤ lo * 10 + (c - 48) → gap a ((upto lo m).map (one c))
  | 0, _, _, _ => trivial
  | m + 1, lo, a, h => ⟨h, Int.le_refl _, gap_ones c m (lo + 1) _ (by simp only [one]; omega)⟩
theorem gap_step (c : UInt8) (hc : 48 ≤ c.toNat ∧ c.toNat ≤ 57 ∨ c.toNat = 88) : ∀ (l : List S37) (a : Int), gap a l → gap (10 * a + 9) (l.flatMap (stepR c))
  | [], _, _ => trivial
  | q :: l, a, ⟨h1, h2, h3⟩ => by
    rw [List.flatMap_cons]
    refine gap_app (c := 10 * q.f1 + 9) ?_ ?_ (by omega) (gap_step c hc l q.f1 h3)
    · unfold stepR
      split
      · exact ⟨by simp only; omega, by simp only; omega, trivial⟩
      · exact gap_ones (c.toNat : Int) _ q.f0 _ (by omega)
    · intro x hx
      unfold stepR at hx
      split at hx
      · obtain rfl := List.mem_singleton.1 hx
        simp only; omega
      · obtain ⟨n, hn, rfl⟩ := List.mem_map.1 hx
        have := (upto_mem _ _ _).1 hn
        simp only; omega
theorem gap_set : ∀ (r : List UInt8), (∀ c, c ∈ r → 48 ≤ c.toNat ∧ c.toNat ≤ 57 ∨ c.toNat = 88) → gap (-((10 ^ r.length : Nat) : Int) - 1) (setL r.reverse [(⟨0, 0⟩ : S37)])
  | [], _ => ⟨by decide, Int.le_refl _, trivial⟩
  | c :: r, h => by
    have ih := gap_step c (h c List.mem_cons_self) _ _ (gap_set r (fun x hx => h x (List.mem_cons_of_mem _ hx)))
    rw [List.reverse_cons, setL_snoc, List.length_cons, Nat.pow_succ]
    refine gap_le ih ?_
    rw [Int.natCast_mul]
    generalize ((10 ^ r.length : Nat) : Int) = q
    omega
theorem mem_step (c : UInt8) (hc : 48 ≤ c.toNat ∧ c.toNat ≤ 57 ∨ c.toNat = 88) (l : List S37) (n : Int) : mem (l.flatMap (stepR c)) n ↔ mem l (n / 10) ∧ (c.toNat = 88 ∨ (c.toNat : Int) = 48 + n % 10) := by
  constructor
  · rintro ⟨x, hx, h1, h2⟩
    obtain ⟨q, hq, hx⟩ := List.mem_flatMap.1 hx
    unfold stepR at hx
    by_cases h : c.toNat = 88
    · rw [if_pos h] at hx
      obtain rfl := List.mem_singleton.1 hx
      simp only at h1 h2
      exact ⟨⟨q, hq, by omega, by omega⟩, .inl h⟩
    · rw [if_neg h] at hx
      obtain ⟨m, hm, rfl⟩ := List.mem_map.1 hx
      have hm := (upto_mem _ _ _).1 hm
      simp only at h1 h2
      exact ⟨⟨q, hq, by omega, by omega⟩, .inr (by omega)⟩
  · rintro ⟨⟨q, hq, h1, h2⟩, h⟩
    by_cases h8 : c.toNat = 88
    · exact ⟨⟨q.f0 * 10, q.f1 * 10 + 9⟩, List.mem_flatMap.2 ⟨q, hq, by unfold stepR; rw [if_pos h8]; exact List.mem_singleton.2 rfl⟩, by simp only; omega, by simp only; omega⟩
    · have h9 := h.resolve_left h8
      refine ⟨⟨(n / 10) * 10 + ((c.toNat : Int) - 48), (n / 10) * 10 + ((c.toNat : Int) - 48)⟩, List.mem_flatMap.2 ⟨q, hq, ?_⟩, by simp only; omega, by simp only; omega⟩
      unfold stepR
      rw [if_neg h8]
      exact List.mem_map.2 ⟨n / 10, (upto_mem _ _ _).2 ⟨h1, by omega⟩, rfl⟩
theorem mem_set : ∀ (r : List UInt8), (∀ c, c ∈ r → 48 ≤ c.toNat ∧ c.toNat ≤ 57 ∨ c.toNat = 88) → ∀ n : Int, mem (setL r.reverse [(⟨0, 0⟩ : S37)]) n ↔ 0 ≤ n ∧ n < ((10 ^ r.length : Nat) : Int) ∧ refR r n.toNat = true
  | [], _, n => by
    rw [List.reverse_nil, setL, mem_cons]
    simp [mem_nil, refR]; omega
  | c :: r, h, n => by
    have ih := mem_set r (fun x hx => h x (List.mem_cons_of_mem _ hx)) (n / 10)
    rw [List.reverse_cons, setL_snoc, mem_step c (h c List.mem_cons_self), ih, List.length_cons, Nat.pow_succ, Int.natCast_mul, refR, Bool.and_eq_true, Bool.or_eq_true, decide_eq_true_eq, decide_eq_true_eq]
    generalize ((10 ^ r.length : Nat) : Int) = q
    constructor
    · rintro ⟨⟨h1, h2, h3⟩, h4⟩
      have e : (n / 10).toNat = n.toNat / 10 := by omega
      rw [e] at h3
      exact ⟨by omega, by show n < q * 10; omega, by omega, h3⟩
    · rintro ⟨h1, h2, h4, h3⟩
      have e : (n / 10).toNat = n.toNat / 10 := by omega
      have h2 : n < q * 10 := h2
      rw [e]
      exact ⟨⟨by omega, by omega, h3⟩, by omega⟩
theorem sane_ok {l : List UInt8} (hs : saneL l = true) : ∀ c, c ∈ l.reverse → 48 ≤ c.toNat ∧ c.toNat ≤ 57 ∨ c.toNat = 88 := fun c hc => of_decide_eq_true (List.all_eq_true.1 (sane_all hs).1 c (List.mem_reverse.1 hc))
theorem set_is (s : ByteArray) (hs : saneL s.data.toList = true) : sane (setL s.data.toList [⟨0, 0⟩]) ∧ ∀ n, mem (setL s.data.toList [⟨0, 0⟩]) n ↔ refV s.data.toList n = true := by
  have h1 := gap_set s.data.toList.reverse (sane_ok hs)
  have h2 := mem_set s.data.toList.reverse (sane_ok hs)
  have hf := setL_fine s hs
  rw [List.reverse_reverse, List.length_reverse] at h1 h2
  have hp := pow_small (m := s.data.toList.length) (n := 4) (sane_all hs).2.2 (by omega)
  refine ⟨saneF_le (gap_sane h1 (fun x hx => by have := (hf x hx).2.2; unfold lim; omega)) (by unfold lim; omega), fun n => ?_⟩
  rw [h2 n]
  unfold refV
  rw [hs, Bool.true_and, Bool.and_eq_true, Bool.and_eq_true, decide_eq_true_eq, decide_eq_true_eq, and_assoc]
theorem saneF_mem_f1 {a : Int} : ∀ {l : List S37}, saneF a l → ∀ r, r ∈ l → mem l r.f1 := fun {l} h r hr => by
  have : ∀ {l : List S37} {a : Int}, saneF a l → ∀ r, r ∈ l → r.f0 ≤ r.f1 := fun {l} => by
    induction l with
    | nil => intro _ _ r hr; simp at hr
    | cons x l ih =>
      intro a h r hr
      rcases List.mem_cons.1 hr with rfl | hr
      · exact h.2.1
      · exact ih h.2.2.2 r hr
  exact ⟨r, hr, this h r hr, Int.le_refl _⟩
theorem saneF_last : ∀ {p : List S37} {a : Int} {r : S37} {y : Int}, saneF a (p ++ [r]) → r.f1 ≤ y → y ≤ lim → saneF a (p ++ [⟨r.f0, y⟩])
  | [], a, r, y, ⟨h1, h2, h3, _⟩, hy, hl => ⟨h1, by simp only; omega, hl, trivial⟩
  | x :: p, a, r, y, ⟨h1, h2, h3, h4⟩, hy, hl => ⟨h1, h2, h3, saneF_last h4 hy hl⟩
theorem saneF_top : ∀ {p : List S37} {a : Int} {r : S37}, saneF a (p ++ [r]) → ∀ x, x ∈ p ++ [r] → x.f1 ≤ r.f1
  | [], a, r, _, x, hx => by
    obtain rfl := List.mem_singleton.1 hx
    exact Int.le_refl _
  | y :: p, a, r, ⟨h1, h2, h3, h4⟩, x, hx => by
    rcases List.mem_cons.1 hx with rfl | hx
    · have := (saneF_mem h4 (saneF_mem_f1 h4 r (by simp))).1
      omega
    · exact saneF_top h4 x hx
theorem rSet_l0 (s : ByteArray) (hz : s.size ≤ 9223372036854775807) (hs : saneL s.data.toList = true) : ∀ (m n : Nat) (out : List S37), n + m = 10 ^ s.data.toList.length → sane out → out.length ≤ n → (∀ x : Int, mem out x ↔ x < n ∧ refV s.data.toList x = true) →
    ∃ z, Ev (fun k => lustrumref06_Set.l0 k s out (n : Int)) z ∧ sane z ∧ ∀ x : Int, mem z x ↔ refV s.data.toList x = true := fun m n out e ho hl hm => by
  have h4 := (sane_all hs).2.2
  have hp := pow_small (m := s.data.toList.length) (n := 4) h4 (by omega)
  have hmost : Ev (fun k => lustrumref06_most.f k (s.size : Int)) ((10 ^ s.data.toList.length : Nat) : Int) := by rw [bsize]; exact most_f _ h4
  match m, e with
  | 0, e =>
    refine ⟨out, Ev.step (fun k => by rw [lustrumref06_Set.l0]) ?_, ho, fun x => ?_⟩
    · exact Ev.bind hmost (Ev.iff_ (by omega) (Ev.now _))
    rw [hm x]
    constructor
    · exact fun h => h.2
    · intro h
      have h2 := h
      unfold refV at h2
      simp only [Bool.and_eq_true, decide_eq_true_eq] at h2
      exact ⟨by omega, h⟩
  | m + 1, e =>
    have hM : Ev (fun k => lustrumref06_Match.f k s (n : Int)) (refV s.data.toList n) := rMatch_f s hz n (by omega)
    have hw : wrap64 ((n : Int) + 1) = ((n + 1 : Nat) : Int) := by rw [w64 (by omega) (by omega)]; rfl
    have hw1 : wrap64 ((n : Int) - 1) = (n : Int) - 1 := w64 (by omega) (by omega)
    have lt : (n : Int) < ((10 ^ s.data.toList.length : Nat) : Int) := by omega
    cases hr : refV s.data.toList n with
    | false =>
      rw [hr] at hM
      obtain ⟨z, h1, h2, h3⟩ := rSet_l0 s hz hs m (n + 1) out (by omega) ho (by omega) (fun x => by
        rw [hm x]
        constructor
        · rintro ⟨a, b⟩; exact ⟨by omega, b⟩
        · rintro ⟨a, b⟩
          refine ⟨?_, b⟩
          rcases (by omega : x < n ∨ x = n) with h | rfl
          · exact h
          · rw [hr] at b; exact absurd b (by simp))
      refine ⟨z, Ev.step (fun k => by rw [lustrumref06_Set.l0]) ?_, h2, h3⟩
      refine Ev.bind hmost (Ev.ift lt (Ev.bind hM (Ev.iff_ (by simp) ?_)))
      rw [hw]; exact h1
    | true =>
      rw [hr] at hM
      have fin : ∀ out' : List S37, sane out' → out'.length ≤ n + 1 → (∀ x, mem out' x ↔ mem out x ∨ x = n) → ∃ z, Ev (fun k => lustrumref06_Set.l0 k s out' ((n + 1 : Nat) : Int)) z ∧ sane z ∧ ∀ x : Int, mem z x ↔ refV s.data.toList x = true := fun out' o1 o2 o3 =>
        rSet_l0 s hz hs m (n + 1) out' (by omega) o1 o2 (fun x => by
          rw [o3 x, hm x]
          constructor
          · rintro (⟨a, b⟩ | rfl)
            · exact ⟨by omega, b⟩
            · exact ⟨by omega, hr⟩
          · rintro ⟨a, b⟩
            rcases (by omega : x < n ∨ x = n) with h | h
            · exact .inl ⟨h, b⟩
            · exact .inr h)
      have mpush : ∀ x, mem (out ++ [⟨n, n⟩]) x ↔ mem out x ∨ x = n := fun x => by
        rw [mem_append, mem_cons]
        constructor
        · rintro (h | h | h)
          · exact .inl h
          · exact .inr (by simp only at h; omega)
          · exact absurd h (mem_nil x)
        · rintro (h | rfl)
          · exact .inl h
          · exact .inr (.inl ⟨Int.le_refl _, Int.le_refl _⟩)
      have hlt : out.length < 8796093022208 := by omega
      rcases List.eq_nil_or_concat out with rfl | ⟨p, r, rfl⟩
      · obtain ⟨z, h1, h2, h3⟩ := fin [(⟨(n : Int), (n : Int)⟩ : S37)] (show saneF (-lim - 2) [(⟨(n : Int), (n : Int)⟩ : S37)] from ⟨by unfold lim; simp only; omega, Int.le_refl _, by unfold lim; simp only; omega, trivial⟩) (by simp) (fun x => by have := mpush x; rwa [List.nil_append] at this)
        refine ⟨z, Ev.step (fun k => by rw [lustrumref06_Set.l0]) ?_, h2, h3⟩
        refine Ev.bind hmost (Ev.ift lt (Ev.bind hM (Ev.ift rfl (Ev.iff_ ?_ (Ev.ift hlt ?_)))))
        · show ¬ wrap64 ((0 : Int) - 1) ≥ 0
          rw [w64 (by omega) (by omega)]; omega
        · rw [hw, List.nil_append]; exact h1
      · rw [List.concat_eq_append] at *
        have hlen : wrap64 (((p ++ [r]).length : Int) - 1) = (p.length : Int) := by
          rw [List.length_append, List.length_singleton] at hl ⊢
          rw [w64 (by omega) (by omega)]; omega
        have hrn := (hm r.f1).1 (saneF_mem_f1 ho r (by simp))
        have htop := saneF_top ho
        by_cases hc : r.f1 = (n : Int) - 1
        · have hle : r.f0 ≤ r.f1 := by
            obtain ⟨q, hq, q1, q2⟩ := saneF_mem_f1 ho r (by simp)
            have aux : ∀ {l : List S37} {a : Int}, saneF a l → ∀ r, r ∈ l → r.f0 ≤ r.f1 := fun {l} => by
              induction l with
              | nil => intro _ _ r hr; simp at hr
              | cons x l ih =>
                intro a h r hr
                rcases List.mem_cons.1 hr with rfl | hr
                · exact h.2.1
                · exact ih h.2.2.2 r hr
            exact aux ho r (by simp)
          obtain ⟨z, h1, h2, h3⟩ := fin (p ++ [(⟨r.f0, (n : Int)⟩ : S37)]) (show saneF (-lim - 2) (p ++ [(⟨r.f0, (n : Int)⟩ : S37)]) from saneF_last ho (by omega) (by unfold lim; omega)) (by rw [List.length_append, List.length_singleton] at hl ⊢; omega) (fun x => by
            rw [mem_append, mem_append, mem_cons, mem_cons]
            constructor
            · rintro (h | h | h)
              · exact .inl (.inl h)
              · by_cases hx : x = n
                · exact .inr hx
                · exact .inl (.inr (.inl ⟨h.1, by have := h.2; simp only at this; omega⟩))
              · exact absurd h (mem_nil x)
            · rintro ((h | h | h) | rfl)
              · exact .inl h
              · exact .inr (.inl ⟨h.1, by simp only; omega⟩)
              · exact absurd h (mem_nil x)
              · exact .inr (.inl ⟨by simp only; omega, Int.le_refl _⟩))
          refine ⟨z, Ev.step (fun k => by rw [lustrumref06_Set.l0]) ?_, h2, h3⟩
          refine Ev.bind hmost (Ev.ift lt (Ev.bind hM (Ev.ift rfl ?_)))
          rw [hlen, at_rd p r [], hw1, hw]
          have hset : (p ++ [r]).set ((p.length : Int)).toNat (⟨r.f0, (n : Int)⟩ : S37) = p ++ [⟨r.f0, (n : Int)⟩] := by rw [Int.toNat_natCast, List.set_append_right _ _ (Nat.le_refl _), Nat.sub_self]; rfl
          rw [hset]
          exact Ev.ift (at_0 p) (Ev.ift (at_0 p) (Ev.ift (at_lt p r []) (Ev.ift hc h1)))
        · obtain ⟨z, h1, h2, h3⟩ := fin (p ++ [r] ++ [(⟨(n : Int), (n : Int)⟩ : S37)]) (show saneF (-lim - 2) (p ++ [r] ++ [(⟨(n : Int), (n : Int)⟩ : S37)]) from saneF_app (c := (n : Int) - 2) ho (fun x hx => by have := htop x hx; omega) (by unfold lim; omega) ⟨by simp only; omega, Int.le_refl _, by unfold lim; simp only; omega, trivial⟩) (by simpa using hl) mpush
          refine ⟨z, Ev.step (fun k => by rw [lustrumref06_Set.l0]) ?_, h2, h3⟩
          refine Ev.bind hmost (Ev.ift lt (Ev.bind hM (Ev.ift rfl ?_)))
          rw [hlen, at_rd p r [], hw1, hw]
          exact Ev.ift (at_0 p) (Ev.ift (at_0 p) (Ev.ift (at_lt p r []) (Ev.iff_ hc (Ev.ift hlt h1))))
termination_by m => m
def setV (s : ByteArray) : List S37 := if saneL s.data.toList = true then setL s.data.toList [⟨0, 0⟩] else []
theorem rSet_f (s : ByteArray) (hz : s.size ≤ 9223372036854775807) : Ev (fun k => lustrumref06_Set.f k s) (setV s) := by
  refine Ev.bind (rSane_f s hz) ?_
  unfold setV
  by_cases hs : saneL s.data.toList = true
  · rw [if_pos hs, hs]
    obtain ⟨z, h1, h2, h3⟩ := rSet_l0 s hz hs (10 ^ s.data.toList.length) 0 [] (by omega) trivial (Nat.le_refl _) (fun x => by
      constructor
      · exact fun h => absurd h (mem_nil x)
      · rintro ⟨a, b⟩
        unfold refV at b
        simp only [Bool.and_eq_true, decide_eq_true_eq] at b
        omega)
    obtain ⟨g1, g2⟩ := set_is s hs
    have e : z = setL s.data.toList [⟨0, 0⟩] := same h2 g1 (fun n => (h3 n).trans (g2 n).symm)
    rw [e] at h1
    exact Ev.ift rfl h1
  · rw [if_neg hs, Bool.eq_false_iff.mpr hs]
    exact Ev.iff_ (by simp) (Ev.now _)
theorem Same_l0 : ∀ (t u p q : List S37), (p ++ t).length ≤ 4611686018427387904 → p.length = q.length → t.length = u.length →
    ∃ b, Ev (fun k => lustrumref04_Same.l0 k (p ++ t) (q ++ u) (p.length : Int)) b ∧ (b = true ↔ t = u)
  | [], [], p, q, _, _, _ => ⟨true, Ev.step (f := fun _ => some true) (fun k => by simp only [lustrumref04_Same.l0]; rw [if_neg (at_end p)]) (Ev.now _), by simp⟩
  | [], y :: u, _, _, _, _, h => by simp at h
  | x :: t, [], _, _, _, _, h => by simp at h
  | x :: t, y :: u, p, q, hn, hl, h => by
    by_cases c : x.f0 = y.f0 ∧ x.f1 = y.f1
    · obtain ⟨b, hb, hs⟩ := Same_l0 t u (p ++ [x]) (q ++ [y]) (by rw [← at_app]; exact hn) (by simp [hl]) (by simpa using h)
      rw [← at_app, ← at_app] at hb
      refine ⟨b, Ev.step (fun k => ?_) hb, ?_⟩
      · simp only [lustrumref04_Same.l0]
        rw [if_pos (at_lt p x t), if_pos (at_0 p), if_pos (by rw [hl]; exact at_lt q y u), at_rd, show rd_T37 (q ++ y :: u) (p.length : Int) = y by rw [hl]; exact at_rd q y u, if_neg (by simp [c.1, c.2]), at_next hn]
      · rw [hs, show x = y from S37.ext2 c.1 c.2]; simp
    · refine ⟨false, Ev.step (f := fun _ => some false) (fun k => ?_) (Ev.now _), ?_⟩
      · simp only [lustrumref04_Same.l0]
        rw [if_pos (at_lt p x t), if_pos (at_0 p), if_pos (by rw [hl]; exact at_lt q y u), at_rd, show rd_T37 (q ++ y :: u) (p.length : Int) = y by rw [hl]; exact at_rd q y u, if_pos]
        by_cases h0 : x.f0 = y.f0
        · simp [h0]; exact fun h1 => c ⟨h0, h1⟩
        · simp [h0]
      · constructor
        · intro h; simp at h
        · intro h
          obtain ⟨rfl, _⟩ := List.cons.inj h
          exact absurd ⟨rfl, rfl⟩ c
theorem Same_f (s t : List S37) (hn : s.length ≤ 4611686018427387904) : ∃ b, Ev (fun k => lustrumref04_Same.f k s t) b ∧ (b = true ↔ s = t) := by
  by_cases c : s.length = t.length
  · obtain ⟨b, hb, hs⟩ := Same_l0 s t [] [] (by simpa using hn) rfl c
    exact ⟨b, Ev.congr (fun k => by unfold lustrumref04_Same.f; rw [if_pos (by rw [c])]; rfl) hb, hs⟩
  · exact ⟨false, Ev.congr (fun k => by unfold lustrumref04_Same.f; rw [if_neg (by omega)]) (Ev.now _), by simp; intro h; exact c (by rw [h])⟩
theorem Same_t {s t : List S37} (hn : s.length ≤ 4611686018427387904) (h : s = t) : Ev (fun k => lustrumref04_Same.f k s t) true := by
  obtain ⟨b, hb, hs⟩ := Same_f s t hn
  rwa [hs.2 h] at hb
theorem setV_len (s : ByteArray) (hs : saneL s.data.toList = true) : (setV s).length = 10 ^ headR s.data.toList.reverse := by
  unfold setV
  rw [if_pos hs]
  have := (runs_of s.data.toList.reverse (sane_ok hs)).1
  rwa [List.reverse_reverse] at this
theorem headR_le (s : ByteArray) (hs : saneL s.data.toList = true) : headR s.data.toList.reverse ≤ 4 := by
  have h2 := headTail s.data.toList.reverse
  have h4 := xs_len s.data.toList.reverse
  rw [List.length_reverse] at h4
  have h5 := (sane_all hs).2.2
  omega
theorem setV_short (s : ByteArray) : (setV s).length ≤ 10000 := by
  by_cases hs : saneL s.data.toList = true
  · rw [setV_len s hs]; exact pow_small (headR_le s hs) (Nat.le_refl 4)
  · unfold setV; rw [if_neg hs]; exact Nat.zero_le _
def onlyV (s : ByteArray) : Int × Bool := if countV s = 1 then ((rd_T37 (setV s) 0).f0, true) else (0, false)
theorem setV_pos {s : ByteArray} (h : countV s = 1) : 0 < ((setV s).length : Int) := by
  unfold countV at h
  by_cases hs : saneL s.data.toList = true
  · rw [setV_len s hs]
    exact Int.ofNat_lt.2 (Nat.pow_pos (by decide))
  · rw [if_neg hs] at h; exact absurd h (by decide)
theorem Only_f (s : ByteArray) : Ev (fun k => mask_Only.f k s) (onlyV s) := by
  refine Ev.bind (Count_f s) ?_
  by_cases h : countV s = 1
  · have e : onlyV s = ((rd_T37 (setV s) 0).f0, true) := by unfold onlyV; rw [if_pos h]
    exact Ev.ift h (Ev.bnow (x := setV s) rfl (Ev.ift (setV_pos h) (Ev.eq (Ev.now _) e.symm)))
  · have e : onlyV s = (0, false) := by unfold onlyV; rw [if_neg h]
    exact Ev.iff_ h (Ev.eq (Ev.now _) e.symm)
theorem rOnly_f (s : ByteArray) (hz : s.size ≤ 9223372036854775807) : Ev (fun k => lustrumref06_Only.f k s) (onlyV s) := by
  refine Ev.bind (rCount_f s hz) ?_
  unfold onlyV
  by_cases h : countV s = 1
  · rw [if_pos h]
    exact Ev.ift h (Ev.bind (rSet_f s hz) (Ev.ift (setV_pos h) (Ev.now _)))
  · rw [if_neg h]
    exact Ev.iff_ h (Ev.now _)
def meetV (a b : ByteArray) : ByteArray × Bool := match meetS a.data.toList b.data.toList with
  | some l => (⟨l.toArray⟩, true)
  | none => (⟨#[]⟩, false)
theorem meet_fV (a b : ByteArray) : mask_Meet.f a b = some (meetV a b) := by
  unfold mask_Meet.f meetV
  cases meetS a.data.toList b.data.toList <;> rfl
theorem str_one (c : UInt8) : strOfNums [(c.toNat : Int)] = ⟨#[c]⟩ := by
  unfold strOfNums
  simp
theorem rMeet_l0 (a b : ByteArray) (h4 : a.data.toList.length ≤ 4) (hab : a.data.toList.length = b.data.toList.length) : ∀ (m i : Nat) (out : ByteArray), i + m = a.data.toList.length → out.data.toList.length = i →
    Ev (fun k => lustrumref06_Meet.l0 k a b out (i : Int)) (match meetL (a.data.toList.drop i) (b.data.toList.drop i) with
      | some l => (⟨(out.data.toList ++ l).toArray⟩, true)
      | none => (⟨#[]⟩, false))
  | 0, i, out, e, ho => by
    rw [List.drop_eq_nil_of_le (by omega), List.drop_eq_nil_of_le (by omega)]
    refine Ev.step (fun k => by rw [lustrumref06_Meet.l0]) ?_
    refine Ev.iff_ (by rw [bsize]; omega) (Ev.eq (Ev.now _) ?_)
    simp [meetL]
  | m + 1, i, out, e, ho => by
    have hi : i < a.data.toList.length := by omega
    have hj : i < b.data.toList.length := by omega
    have ha := bt_list a i hi
    have hb := bt_list b i hj
    have za := bsize a
    have zb := bsize b
    have zo := bsize out
    have hw : wrap64 ((i : Int) + 1) = ((i + 1 : Nat) : Int) := by rw [w64 (by omega) (by omega)]; rfl
    rw [List.drop_eq_getElem_cons hi, List.drop_eq_getElem_cons hj]
    generalize a.data.toList[i] = x at ha ⊢
    generalize b.data.toList[i] = c at hb ⊢
    have next : ∀ d : UInt8, Ev (fun k => if out.size + (strOfNums [(d.toNat : Int)]).size ≤ 9223372036854775807 then lustrumref06_Meet.l0 k a b (out ++ strOfNums [(d.toNat : Int)]) (wrap64 ((i : Int) + 1)) else none)
        (match (meetL (a.data.toList.drop (i + 1)) (b.data.toList.drop (i + 1))).map (d :: ·) with
          | some l => (⟨(out.data.toList ++ l).toArray⟩, true)
          | none => (⟨#[]⟩, false)) := fun d => by
      rw [str_one, hw]
      refine Ev.ift (by rw [zo, ho]; show i + 1 ≤ _; omega) (Ev.eq (rMeet_l0 a b h4 hab m (i + 1) (out ++ ⟨#[d]⟩) (by omega) (by simp [ho])) ?_)
      cases meetL (a.data.toList.drop (i + 1)) (b.data.toList.drop (i + 1)) <;> simp
    have no : Ev (fun k => lustrumref06_Meet.j2 k a b out (i : Int) true) (⟨#[]⟩, false) := Ev.step (f := fun _ => some (⟨#[]⟩, false)) (fun k => by rw [lustrumref06_Meet.j2, if_pos rfl]) (Ev.now _)
    have yes : Ev (fun k => lustrumref06_Meet.j2 k a b out (i : Int) false) (match (meetL (a.data.toList.drop (i + 1)) (b.data.toList.drop (i + 1))).map ((if x.toNat = 88 then c else x) :: ·) with
          | some l => (⟨(out.data.toList ++ l).toArray⟩, true)
          | none => (⟨#[]⟩, false)) := by
      refine Ev.step (fun k => by rw [lustrumref06_Meet.j2]) ?_
      refine Ev.iff_ (by simp) (Ev.ift (by omega) (Ev.ift (by omega) ?_))
      rw [ha, hb]
      by_cases h : x.toNat = 88
      · rw [if_pos h]
        exact Ev.ift (by omega) (Ev.ift (by omega) (Ev.bnow rfl (next c)))
      · rw [if_neg h]
        exact Ev.iff_ (by omega) (Ev.bnow rfl (next x))
    refine Ev.step (fun k => by rw [lustrumref06_Meet.l0]) ?_
    refine Ev.ift (by omega) (Ev.ift (by omega) (Ev.ift (by omega) ?_))
    rw [ha, hb]
    simp only [meetL]
    by_cases h1 : x.toNat = 88
    · rw [if_pos h1] at yes ⊢
      by_cases h2 : x.toNat = c.toNat
      · exact Ev.ift (by omega) yes
      · exact Ev.iff_ (by omega) (Ev.ift (by omega) yes)
    · rw [if_neg h1] at yes ⊢
      by_cases h2 : x.toNat = c.toNat
      · rw [if_neg (by omega)]
        exact Ev.ift (by omega) yes
      · by_cases h3 : c.toNat = 88
        · rw [if_neg (by omega)]
          have e : ((c.toNat : Int) != 88) = false := by rw [bne_eq_false_iff_eq]; omega
          rw [e]
          exact Ev.iff_ (by omega) (Ev.iff_ (by omega) yes)
        · rw [if_pos (by omega)]
          have e : ((c.toNat : Int) != 88) = true := by rw [bne_iff_ne]; omega
          rw [e]
          exact Ev.iff_ (by omega) (Ev.iff_ (by omega) no)
theorem rMeet_f (a b : ByteArray) (ha : a.size ≤ 9223372036854775807) (hb : b.size ≤ 9223372036854775807) : Ev (fun k => lustrumref06_Meet.f k a b) (meetV a b) := by
  refine Ev.bind (rSane_f a ha) ?_
  have out : Ev (fun k => lustrumref06_Meet.j0 k a b true) (⟨#[]⟩, false) := Ev.step (f := fun _ => some (⟨#[]⟩, false)) (fun k => by rw [lustrumref06_Meet.j0, if_pos rfl]) (Ev.now _)
  unfold meetV meetS
  by_cases h1 : saneL a.data.toList = true
  · rw [h1]
    refine Ev.ift rfl (Ev.bind (rSane_f b hb) ?_)
    by_cases h2 : saneL b.data.toList = true
    · rw [h2]
      refine Ev.ift rfl ?_
      by_cases h3 : a.data.toList.length = b.data.toList.length
      · have e : ((a.size : Int) != (b.size : Int)) = false := by rw [bne_eq_false_iff_eq, bsize, bsize]; omega
        rw [e, if_pos ⟨rfl, rfl, h3⟩]
        refine Ev.step (fun k => by rw [lustrumref06_Meet.j0]) ?_
        refine Ev.iff_ (by simp) ?_
        have h := rMeet_l0 a b (sane_all h1).2.2 h3 a.data.toList.length 0 ⟨#[]⟩ (by omega) rfl
        rw [List.drop_zero, List.drop_zero] at h
        refine Ev.eq h ?_
        cases meetL a.data.toList b.data.toList <;> simp
      · have e : ((a.size : Int) != (b.size : Int)) = true := by rw [bne_iff_ne, bsize, bsize]; omega
        rw [e, if_neg (fun h => h3 h.2.2)]
        exact out
    · rw [if_neg (fun h => h2 h.2.1)]
      exact Ev.iff_ h2 out
  · rw [if_neg (fun h => h1 h.1)]
    exact Ev.iff_ h1 out
theorem MaskIs_t (a b : ByteArray) (n : Int) (ha : a.size ≤ 9223372036854775807) (hb : b.size ≤ 9223372036854775807) (hn : -9223372036854775808 ≤ n ∧ n ≤ 9223372036854775807) : Ev (fun k => lustrumlaw06_MaskIs.f k a b n) true := by
  refine Ev.bind awake6 (Ev.bnow (meet_fV a b) (Ev.bind (rMeet_f a b ha hb) (Ev.bind (Only_f a) (Ev.bind (rOnly_f a ha) ?_))))
  refine Ev.ift rfl ?_
  have e1 : ((meetV a b).2 != (meetV a b).2) = false := by simp
  have e2 : ((onlyV a).2 != (onlyV a).2) = false := by simp
  rw [e1, e2]
  refine Ev.iff_ (by simp) (Ev.ift rfl ?_)
  refine Ev.step (fun k => by rw [lustrumlaw06_MaskIs.j0]) ?_
  refine Ev.iff_ (by simp) (Ev.ift rfl (Ev.bnow (x := saneL a.data.toList) rfl (Ev.bind (rSane_f a ha) (Ev.ift (by simp) (Ev.bnow (match_f a n hn) (Ev.bind (rMatch_f a ha n hn.2) (Ev.ift (by rw [match_ref]; simp) ?_)))))))
  refine Ev.bnow (x := setV a) rfl (Ev.bind (rSet_f a ha) (Ev.bind (Same_t (by have := setV_short a; omega) rfl) (Ev.ift rfl (Ev.bind (Count_f a) (Ev.bind (rCount_f a ha) (Ev.eq (Ev.now _) (by simp)))))))
end Go.Proofs.YtfehdlkklfcnpaaDoor.A