/- Walks of functions, and plain facts about what they compute. No conditions. -/
import Derived.Test.YtjgjhekpiijniaaPp1
set_option linter.unusedVariables false
set_option linter.unusedSimpArgs false
namespace Go.Proofs.Ytjgjhekpiijniaa.A
open Go.RowKit Go.Proofs.YtjgjhekpiijniaaW.PrintWords Go.Proofs.YtjgjhekpiijniaaW.PrintLast Go.Proofs.YtjgjhekpiijniaaW.PrintMore
theorem setL_snoc (c : UInt8) : ∀ (l : List UInt8) (out : List S100), setL (l ++ [c]) out = (setL l out).flatMap (stepR c)
  | [], out => rfl
  | x :: l, out => by simp only [List.cons_append, setL]; exact setL_snoc c l _
theorem setL_fine (s : ByteArray) (h : saneL s.data.toList = true) : fine (setL s.data.toList [⟨0, 0⟩]) 10000 := by
  have ho := ok_of (s := s) (congrArg some h)
  have step : ∀ p, p ≤ s.size → ∃ out, setInv s p out := fun p => by
    induction p with
    | zero => exact fun _ => ⟨_, setInv_0 s⟩
    | succ p ih =>
      intro hp
      obtain ⟨out, hi⟩ := ih (by omega)
      exact ⟨_, setInv_step (by omega) (ho p (by omega)) hi⟩
  obtain ⟨out, h1, h2, h3⟩ := step s.size (Nat.le_refl _)
  have hd : setL (s.data.toList.drop s.size) out = out := by rw [List.drop_eq_nil_of_le (by rw [bsize]; exact Nat.le_refl _)]; rfl
  rw [hd] at h1
  rw [← h1]
  have h4 : s.size ≤ 4 := by rw [bsize]; exact (sane_all h).2.2
  have h10 : (10 ^ s.size : Nat) ≤ 10000 := Nat.pow_le_pow_right (n := 10) (by decide) h4
  have : ((10 ^ s.size : Nat) : Int) ≤ 10000 := Int.ofNat_le.2 h10
  exact fun q hq => by obtain ⟨a, b, c⟩ := h2 q hq; exact ⟨a, b, by omega⟩
theorem bt_list (s : ByteArray) (i : Nat) (h : i < s.data.toList.length) : bt s (i : Int) = ((s.data.toList[i]).toNat : Int) := by
  unfold bt
  rw [Int.toNat_natCast, dif_pos (by rw [bsize]; exact h)]
  simp [ByteArray.getElem_eq_getElem_data]
theorem pow_small {m n : Nat} (h : m ≤ n) (hn : n ≤ 4) : (10 ^ m : Nat) ≤ 10000 := Nat.pow_le_pow_right (n := 10) (by decide) (Nat.le_trans h hn)
def refR : List UInt8 → Nat → Bool
  | [], _ => true
  | c :: r, u => (decide (c.toNat = 88) || decide (c.toNat = 48 + u % 10)) && refR r (u / 10)
def refV (s : List UInt8) (n : Int) : Bool := saneL s && decide (0 ≤ n) && decide (n < ((10 ^ s.length : Nat) : Int)) && refR s.reverse n.toNat
def gap : Int → List S100 → Prop
  | _, [] => True
  | a, r :: t => a + 2 ≤ r.f0 ∧ r.f0 ≤ r.f1 ∧ gap r.f1 t
theorem gap_le {a b : Int} {l : List S100} (h : gap a l) (hb : b ≤ a) : gap b l := by
  cases l with
  | nil => trivial
  | cons r t => exact ⟨by have := h.1; omega, h.2.1, h.2.2⟩
theorem gap_app : ∀ {u : List S100} {a c : Int} {v : List S100}, gap a u → (∀ x, x ∈ u → x.f1 ≤ c) → a ≤ c → gap c v → gap a (u ++ v)
  | [], a, c, v, _, _, hc, hv => gap_le hv hc
  | x :: u, a, c, v, ⟨h1, h2, h3⟩, hu, hc, hv => ⟨h1, h2, gap_app h3 (fun y hy => hu y (List.mem_cons_of_mem _ hy)) (hu x List.mem_cons_self) hv⟩
theorem gap_sane : ∀ {l : List S100} {a : Int}, gap a l → (∀ x, x ∈ l → x.f1 ≤ lim) → saneF a l
  | [], _, _, _ => trivial
  | x :: l, a, ⟨h1, h2, h3⟩, h => ⟨h1, h2, h x List.mem_cons_self, gap_sane h3 (fun y hy => h y (List.mem_cons_of_mem _ hy))⟩
theorem gap_ones (c : Int) : ∀ (m : Nat) (lo a : Int), a + 2 ≤ lo * 10 + (c - 48) → gap a ((upto lo m).map (one c))
  | 0, _, _, _ => trivial
  | m + 1, lo, a, h => ⟨h, Int.le_refl _, gap_ones c m (lo + 1) _ (by simp only [one]; omega)⟩
theorem gap_step (c : UInt8) (hc : 48 ≤ c.toNat ∧ c.toNat ≤ 57 ∨ c.toNat = 88) : ∀ (l : List S100) (a : Int), gap a l → gap (10 * a + 9) (l.flatMap (stepR c))
  | [], _, _ => trivial
  | q :: l, a, ⟨h1, h2, h3⟩ => by
    rw [List.flatMap_cons]
    refine gap_app (c := 10 * q.f1 + 9) ?_ ?_ (by omega) (gap_step c hc l q.f1 h3)
    · unfold stepR
      split
      · exact ⟨by simp only; omega, by simp only; omega, trivial⟩
      · exact gap_ones (c.toNat : Int) _ q.f0 _ (by omega)
    · intro x hx
      unfold stepR at hx
      split at hx
      · obtain rfl := List.mem_singleton.1 hx
        simp only; omega
      · obtain ⟨n, hn, rfl⟩ := List.mem_map.1 hx
        have := (upto_mem _ _ _).1 hn
        simp only; omega
theorem gap_set : ∀ (r : List UInt8), (∀ c, c ∈ r → 48 ≤ c.toNat ∧ c.toNat ≤ 57 ∨ c.toNat = 88) → gap (-((10 ^ r.length : Nat) : Int) - 1) (setL r.reverse [(⟨0, 0⟩ : S100)])
  | [], _ => ⟨by decide, Int.le_refl _, trivial⟩
  | c :: r, h => by
    have ih := gap_step c (h c List.mem_cons_self) _ _ (gap_set r (fun x hx => h x (List.mem_cons_of_mem _ hx)))
    rw [List.reverse_cons, setL_snoc, List.length_cons, Nat.pow_succ]
    refine gap_le ih ?_
    rw [Int.natCast_mul]
    generalize ((10 ^ r.length : Nat) : Int) = q
    omega
theorem mem_step (c : UInt8) (hc : 48 ≤ c.toNat ∧ c.toNat ≤ 57 ∨ c.toNat = 88) (l : List S100) (n : Int) : mem (l.flatMap (stepR c)) n ↔ mem l (n / 10) ∧ (c.toNat = 88 ∨ (c.toNat : Int) = 48 + n % 10) := by
  constructor
  · rintro ⟨x, hx, h1, h2⟩
    obtain ⟨q, hq, hx⟩ := List.mem_flatMap.1 hx
    unfold stepR at hx
    by_cases h : c.toNat = 88
    · rw [if_pos h] at hx
      obtain rfl := List.mem_singleton.1 hx
      simp only at h1 h2
      exact ⟨⟨q, hq, by omega, by omega⟩, .inl h⟩
    · rw [if_neg h] at hx
      obtain ⟨m, hm, rfl⟩ := List.mem_map.1 hx
      have hm := (upto_mem _ _ _).1 hm
      simp only at h1 h2
      exact ⟨⟨q, hq, by omega, by omega⟩, .inr (by omega)⟩
  · rintro ⟨⟨q, hq, h1, h2⟩, h⟩
    by_cases h8 : c.toNat = 88
    · exact ⟨⟨q.f0 * 10, q.f1 * 10 + 9⟩, List.mem_flatMap.2 ⟨q, hq, by unfold stepR; rw [if_pos h8]; exact List.mem_singleton.2 rfl⟩, by simp only; omega, by simp only; omega⟩
    · have h9 := h.resolve_left h8
      refine ⟨⟨(n / 10) * 10 + ((c.toNat : Int) - 48), (n / 10) * 10 + ((c.toNat : Int) - 48)⟩, List.mem_flatMap.2 ⟨q, hq, ?_⟩, by simp only; omega, by simp only; omega⟩
      unfold stepR
      rw [if_neg h8]
      exact List.mem_map.2 ⟨n / 10, (upto_mem _ _ _).2 ⟨h1, by omega⟩, rfl⟩
theorem mem_set : ∀ (r : List UInt8), (∀ c, c ∈ r → 48 ≤ c.toNat ∧ c.toNat ≤ 57 ∨ c.toNat = 88) → ∀ n : Int, mem (setL r.reverse [(⟨0, 0⟩ : S100)]) n ↔ 0 ≤ n ∧ n < ((10 ^ r.length : Nat) : Int) ∧ refR r n.toNat = true
  | [], _, n => by
    rw [List.reverse_nil, setL, mem_cons]
    simp [mem_nil, refR]; omega
  | c :: r, h, n => by
    have ih := mem_set r (fun x hx => h x (List.mem_cons_of_mem _ hx)) (n / 10)
    rw [List.reverse_cons, setL_snoc, mem_step c (h c List.mem_cons_self), ih, List.length_cons, Nat.pow_succ, Int.natCast_mul, refR, Bool.and_eq_true, Bool.or_eq_true, decide_eq_true_eq, decide_eq_true_eq]
    generalize ((10 ^ r.length : Nat) : Int) = q
    constructor
    · rintro ⟨⟨h1, h2, h3⟩, h4⟩
      have e : (n / 10).toNat = n.toNat / 10 := by omega
      rw [e] at h3
      exact ⟨by omega, by show n < q * 10; omega, by omega, h3⟩
    · rintro ⟨h1, h2, h4, h3⟩
      have e : (n / 10).toNat = n.toNat / 10 := by omega
      have h2 : n < q * 10 := h2
      rw [e]
      exact ⟨⟨by omega, by omega, h3⟩, by omega⟩
theorem sane_ok {l : List UInt8} (hs : saneL l = true) : ∀ c, c ∈ l.reverse → 48 ≤ c.toNat ∧ c.toNat ≤ 57 ∨ c.toNat = 88 := fun c hc => of_decide_eq_true (List.all_eq_true.1 (sane_all hs).1 c (List.mem_reverse.1 hc))
theorem set_is (s : ByteArray) (hs : saneL s.data.toList = true) : sane (setL s.data.toList [⟨0, 0⟩]) ∧ ∀ n, mem (setL s.data.toList [⟨0, 0⟩]) n ↔ refV s.data.toList n = true := by
  have h1 := gap_set s.data.toList.reverse (sane_ok hs)
  have h2 := mem_set s.data.toList.reverse (sane_ok hs)
  have hf := setL_fine s hs
  rw [List.reverse_reverse, List.length_reverse] at h1 h2
  have hp := pow_small (m := s.data.toList.length) (n := 4) (sane_all hs).2.2 (by omega)
  refine ⟨saneF_le (gap_sane h1 (fun x hx => by have := (hf x hx).2.2; unfold lim; omega)) (by unfold lim; omega), fun n => ?_⟩
  rw [h2 n]
  unfold refV
  rw [hs, Bool.true_and, Bool.and_eq_true, Bool.and_eq_true, decide_eq_true_eq, decide_eq_true_eq, and_assoc]
def setV (s : ByteArray) : List S100 := if saneL s.data.toList = true then setL s.data.toList [⟨0, 0⟩] else []
theorem setL_len (s : ByteArray) (h : saneL s.data.toList = true) : (setL s.data.toList [⟨0, 0⟩]).length ≤ 1000000 := by
  have ho := ok_of (s := s) (congrArg some h)
  have step : ∀ p, p ≤ s.size → ∃ out, setInv s p out := fun p => by
    induction p with
    | zero => exact fun _ => ⟨_, setInv_0 s⟩
    | succ p ih =>
      intro hp
      obtain ⟨out, hi⟩ := ih (by omega)
      exact ⟨_, setInv_step (by omega) (ho p (by omega)) hi⟩
  obtain ⟨out, h1, h2, h3⟩ := step s.size (Nat.le_refl _)
  have hd : setL (s.data.toList.drop s.size) out = out := by rw [List.drop_eq_nil_of_le (by rw [bsize]; exact Nat.le_refl _)]; rfl
  rw [hd] at h1
  rw [← h1]
  have h4 : s.size ≤ 4 := by rw [bsize]; exact (sane_all h).2.2
  have hl : lenB s.size ≤ 1000000 := by
    rcases (by omega : s.size = 0 ∨ s.size = 1 ∨ s.size = 2 ∨ s.size = 3 ∨ s.size = 4) with e | e | e | e | e <;> rw [e] <;> decide
  omega
theorem refV_sane {l : List UInt8} {n : Int} (h : saneL l = false) : refV l n = false := by unfold refV; rw [h]; rfl
theorem setV_is (s : ByteArray) : sane (setV s) ∧ (setV s).length ≤ 1000000 ∧ ∀ n, mem (setV s) n ↔ refV s.data.toList n = true := by
  unfold setV
  by_cases h : saneL s.data.toList = true
  · rw [if_pos h]
    exact ⟨(set_is s h).1, setL_len s h, (set_is s h).2⟩
  · rw [if_neg h]
    refine ⟨trivial, by simp, fun n => ?_⟩
    rw [refV_sane (Bool.eq_false_iff.2 h)]
    simp [mem_nil]
def numsR (r : S100) : List Int := upto r.f0 (r.f1 + 1 - r.f0).toNat
theorem nums_l1 (s : List S100) (i lo hi R' : Int) (hh : hi ≤ 1000) {R : List Int} : ∀ (m : Nat) (x : Int) (acc : List Int), 0 ≤ x → x + m = hi + 1 ∨ (m = 0 ∧ hi < x) → acc.length + m < 17592186044416 →
    Ev (fun k => point_numbers.l0 k (acc ++ upto x m) s (s.length : Int) (wrap64 (i + 1))) R → Ev (fun k => point_numbers.l1 k acc x s (s.length : Int) i lo hi) R
  | 0, x, acc, h0, hx, hl, h => by
    refine Ev.step (f := fun k => point_numbers.l0 k acc s (s.length : Int) (wrap64 (i + 1))) (fun k => by rw [point_numbers.l1, if_neg (by omega)]) ?_
    simpa [upto] using h
  | m + 1, x, acc, h0, hx, hl, h => by
    refine Ev.step (f := fun k => point_numbers.l1 k (acc ++ [x]) (x + 1) s (s.length : Int) i lo hi) (fun k => by rw [point_numbers.l1, if_pos (by omega), if_pos (by omega), w64 (by omega) (by omega)]) ?_
    refine nums_l1 s i lo hi R' hh m (x + 1) (acc ++ [x]) (by omega) (by omega) (by rw [List.length_append, List.length_singleton]; omega) ?_
    rw [List.append_assoc, List.singleton_append]
    exact h
theorem nums_l0 : ∀ (t p : List S100) (acc : List Int), (∀ r, r ∈ t → 1 ≤ r.f0 ∧ r.f1 ≤ 31) → acc.length + 32 * t.length < 17592186044416 → (p ++ t).length ≤ 4611686018427387904 →
    Ev (fun k => point_numbers.l0 k acc (p ++ t) ((p ++ t).length : Int) (p.length : Int)) (acc ++ t.flatMap numsR)
  | [], p, acc, _, _, _ => Ev.step (f := fun _ => some (acc ++ [])) (fun k => by rw [point_numbers.l0, if_neg (at_end p), List.append_nil]) (Ev.now _)
  | r :: t, p, acc, hr, hl, hp => by
    have h1 := hr r List.mem_cons_self
    refine Ev.step (f := fun k => point_numbers.l1 k acc r.f0 (p ++ r :: t) ((p ++ r :: t).length : Int) (p.length : Int) r.f0 r.f1) (fun k => by rw [point_numbers.l0, if_pos (at_lt p r t), if_pos (at_0 p), if_pos (at_lt p r t), at_rd]) ?_
    have hm : (r.f1 + 1 - r.f0).toNat ≤ 31 := by omega
    rw [List.length_cons] at hl
    refine nums_l1 (p ++ r :: t) (p.length : Int) r.f0 r.f1 0 (by omega) (r.f1 + 1 - r.f0).toNat r.f0 acc (by omega) (by omega) (by omega) ?_
    rw [at_next hp]
    have := nums_l0 t (p ++ [r]) (acc ++ numsR r) (fun q hq => hr q (List.mem_cons_of_mem _ hq)) (by rw [List.length_append]; unfold numsR; rw [upto_len]; omega) (by rw [← at_app]; exact hp)
    rw [← at_app] at this
    rw [List.flatMap_cons, ← List.append_assoc]
    exact this
def anyV (l : List UInt8) (i : Int) : Nat → Bool
  | 0 => false
  | m + 1 => refV l i || anyV l (i + 1) m
theorem anyV_iff (l : List UInt8) : ∀ (m : Nat) (i : Int), anyV l i m = true ↔ ∃ n, i ≤ n ∧ n < i + m ∧ refV l n = true
  | 0, i => by
    simp only [anyV]
    exact ⟨fun h => absurd h (by simp), fun ⟨n, h1, h2, _⟩ => by omega⟩
  | m + 1, i => by
    rw [anyV, Bool.or_eq_true, anyV_iff l m (i + 1)]
    constructor
    · rintro (h | ⟨n, h1, h2, h3⟩)
      · exact ⟨i, by omega, by omega, h⟩
      · exact ⟨n, by omega, by omega, h3⟩
    · rintro ⟨n, h1, h2, h3⟩
      rcases (by omega : n = i ∨ i + 1 ≤ n) with rfl | h
      · exact .inl h3
      · exact .inr ⟨n, h, by omega, h3⟩
theorem numbers_f (s : ByteArray) (m : Nat) (hm : 1 ≤ m ∧ m ≤ 31) : ∃ L : List Int, Ev (fun k => point_numbers.f k s (m : Int)) L ∧ (L ≠ [] ↔ anyV s.data.toList 1 m = true) := by
  obtain ⟨h1, h2, h3⟩ := setV_is s
  have hb : sane [(⟨1, (m : Int)⟩ : S100)] := ⟨by show -lim - 2 + 2 ≤ (1 : Int); unfold lim; omega, by show (1 : Int) ≤ (m : Int); omega, by show (m : Int) ≤ lim; unfold lim; omega, trivial⟩
  obtain ⟨e1, e2, e3, e4⟩ := Meet_s h1 hb (by simp; omega)
  have hin : ∀ r, r ∈ meet2 (setV s) [(⟨1, (m : Int)⟩ : S100)] → r.f0 ≤ r.f1 ∧ 1 ≤ r.f0 ∧ r.f1 ≤ (m : Int) := fun r hr => by
    have hle : r.f0 ≤ r.f1 := by
      have : ∀ {a : Int} {l : List S100}, saneF a l → ∀ q, q ∈ l → q.f0 ≤ q.f1 := by
        intro a l
        induction l generalizing a with
        | nil => intro _ q hq; cases hq
        | cons x t ih =>
          intro h q hq
          rcases List.mem_cons.1 hq with rfl | hq
          · exact h.2.1
          · exact ih h.2.2.2 q hq
      exact this e3 r hr
    have ha := (e2 r.f0).1 ⟨r, hr, Int.le_refl _, hle⟩
    have hc := (e2 r.f1).1 ⟨r, hr, hle, Int.le_refl _⟩
    have ha := (mem_one _ _).1 ha.2
    have hc := (mem_one _ _).1 hc.2
    simp only at ha hc
    exact ⟨hle, ha.1, hc.2⟩
  refine ⟨(meet2 (setV s) [(⟨1, (m : Int)⟩ : S100)]).flatMap numsR, ?_, ?_⟩
  · refine Ev.bnow (x := setV s) rfl ?_
    refine Ev.bind (Ev.bind e1 (Ev.now _)) ?_
    have := nums_l0 (meet2 (setV s) [(⟨1, (m : Int)⟩ : S100)]) [] [] (fun r hr => ⟨(hin r hr).2.1, by have := (hin r hr).2.2; omega⟩) (by simp at e4 ⊢; omega) (by simp at e4 ⊢; omega)
    simpa using this
  · rw [anyV_iff]
    constructor
    · intro h
      obtain ⟨n, hn⟩ := List.exists_mem_of_ne_nil _ h
      obtain ⟨r, hr, hn⟩ := List.mem_flatMap.1 hn
      have hn := (upto_mem _ _ _).1 hn
      obtain ⟨a, b, c⟩ := hin r hr
      have hmem := (e2 n).1 ⟨r, hr, hn.1, by omega⟩
      exact ⟨n, by omega, by omega, (h3 n).1 hmem.1⟩
    · rintro ⟨n, ha, hc, hv⟩
      obtain ⟨r, hr, hn1, hn2⟩ := (e2 n).2 ⟨(h3 n).2 hv, (mem_one _ _).2 ⟨by simp only; omega, by simp only; omega⟩⟩
      intro he
      have : n ∈ (meet2 (setV s) [(⟨1, (m : Int)⟩ : S100)]).flatMap numsR := List.mem_flatMap.2 ⟨r, hr, (upto_mem _ _ _).2 ⟨hn1, by omega⟩⟩
      rw [he] at this
      cases this
def someV (s : ByteArray) (n : Int) (m : Nat) : Bool := decide ((s.size : Int) = n) && anyV s.data.toList 1 m
theorem some_f (s : ByteArray) (n : Int) (m : Nat) (hm : 1 ≤ m ∧ m ≤ 31) : Ev (fun k => point_some.f k s n (m : Int)) (someV s n m) := by
  unfold someV
  by_cases h : (s.size : Int) = n
  · rw [decide_eq_true h, Bool.true_and]
    refine Ev.ift h ?_
    obtain ⟨L, h1, h2⟩ := numbers_f s m hm
    refine Ev.bind h1 (Ev.eq (Ev.now _) ?_)
    cases hv : anyV s.data.toList 1 m with
    | true =>
      have := h2.2 hv
      cases L with
      | nil => exact absurd rfl this
      | cons x t => exact decide_eq_true (by simp)
    | false =>
      cases L with
      | nil => rfl
      | cons x t => exact absurd (h2.1 (by simp)) (by rw [hv]; simp)
  · rw [decide_eq_false h, Bool.false_and]
    exact Ev.iff_ h (Ev.now _)
def emptyV (s : ByteArray) : Bool := s.toList == ([] : List UInt8)
def ptV (p : S24) : Bool := saneL p.f1.data.toList && (
  if p.f0 = 0 then decide ((p.f1.size : Int) = 4) && (someV p.f2 2 12 && someV p.f3 2 31)
  else if p.f0 = 1 then decide ((p.f1.size : Int) = 4) && (someV p.f2 2 12 && emptyV p.f3)
  else if p.f0 = 2 then decide ((p.f1.size : Int) = 4) && (someV p.f2 1 4 && emptyV p.f3)
  else if p.f0 = 3 then decide ((p.f1.size : Int) = 4) && (emptyV p.f2 && emptyV p.f3)
  else if p.f0 = 4 then decide ((p.f1.size : Int) = 3) && (emptyV p.f2 && emptyV p.f3)
  else if p.f0 = 5 then decide ((p.f1.size : Int) = 2) && (emptyV p.f2 && emptyV p.f3)
  else false)
theorem Ev.cond {c : Prop} [Decidable c] {g : Nat → Option Bool} {r : Bool} (h : c → Ev g r) : Ev (fun k => if c then g k else some false) (decide c && r) := by
  by_cases hc : c
  · rw [decide_eq_true hc, Bool.true_and]; exact Ev.ift hc (h hc)
  · rw [decide_eq_false hc, Bool.false_and]; exact Ev.iff_ hc (Ev.now _)
theorem Ev.andb {a : Nat → Option Bool} {g : Nat → Option Bool} {x r : Bool} (h1 : Ev a x) (h2 : Ev g r) : Ev (fun k => (a k).bind fun t => if t = true then g k else some false) (x && r) := by
  refine Ev.bind h1 ?_
  cases x with
  | true => rw [Bool.true_and]; exact Ev.ift rfl h2
  | false => exact Ev.iff_ (by simp) (Ev.now _)
theorem Ev.pick {c : Prop} [Decidable c] {g f : Nat → Option Bool} {r q : Bool} (h1 : Ev g r) (h2 : Ev f q) : Ev (fun k => if c then g k else f k) (if c then r else q) := by
  by_cases hc : c
  · rw [if_pos hc]; exact Ev.ift hc h1
  · rw [if_neg hc]; exact Ev.iff_ hc h2
theorem Ev.self {a : Nat → Option Bool} {x : Bool} (h : Ev a x) : Ev (fun k => (a k).bind fun t => some t) x := Ev.bind h (Ev.now _)
theorem bare_and (a b : ByteArray) : (if a.toList = ([] : List UInt8) then emptyV b else false) = (emptyV a && emptyV b) := by
  unfold emptyV
  by_cases h : a.toList = []
  · rw [if_pos h, h]; rfl
  · rw [if_neg h]
    have : (a.toList == ([] : List UInt8)) = false := by cases hl : a.toList with
      | nil => exact absurd hl h
      | cons x t => rfl
    rw [this]; rfl
theorem ptSane_f (p : S24) : Ev (fun k => point_Sane.f k p.f0 p.f1 p.f2 p.f3) (ptV p) := by
  unfold ptV
  refine Ev.bnow (x := saneL p.f1.data.toList) rfl ?_
  have hj : ∀ b : Bool, b = (emptyV p.f2 && emptyV p.f3) → Ev (fun k => point_Sane.j0 k b p.f0 p.f1 p.f2 p.f3) (
      if p.f0 = 0 then decide ((p.f1.size : Int) = 4) && (someV p.f2 2 12 && someV p.f3 2 31)
      else if p.f0 = 1 then decide ((p.f1.size : Int) = 4) && (someV p.f2 2 12 && emptyV p.f3)
      else if p.f0 = 2 then decide ((p.f1.size : Int) = 4) && (someV p.f2 1 4 && emptyV p.f3)
      else if p.f0 = 3 then decide ((p.f1.size : Int) = 4) && (emptyV p.f2 && emptyV p.f3)
      else if p.f0 = 4 then decide ((p.f1.size : Int) = 3) && (emptyV p.f2 && emptyV p.f3)
      else if p.f0 = 5 then decide ((p.f1.size : Int) = 2) && (emptyV p.f2 && emptyV p.f3)
      else false) := fun b hb => by
    subst hb
    refine Ev.step (fun k => by rw [point_Sane.j0]) ?_
    refine Ev.pick (Ev.cond fun _ => Ev.andb (some_f p.f2 2 12 (by omega)) (Ev.self (some_f p.f3 2 31 (by omega)))) ?_
    refine Ev.pick (Ev.cond fun _ => Ev.andb (some_f p.f2 2 12 (by omega)) (Ev.now _)) ?_
    refine Ev.pick (Ev.cond fun _ => Ev.andb (some_f p.f2 1 4 (by omega)) (Ev.now _)) ?_
    refine Ev.pick (Ev.cond fun _ => Ev.now _) ?_
    refine Ev.pick (Ev.cond fun _ => Ev.now _) ?_
    exact Ev.pick (Ev.cond fun _ => Ev.now _) (Ev.now _)
  cases hs : saneL p.f1.data.toList with
  | false => exact Ev.iff_ (by simp) (Ev.now _)
  | true =>
    rw [Bool.true_and]
    refine Ev.ift rfl ?_
    have hb := bare_and p.f2 p.f3
    by_cases h : p.f2.toList = ([] : List UInt8)
    · rw [if_pos h] at hb
      exact Ev.ift h (hj _ hb)
    · rw [if_neg h] at hb
      exact Ev.iff_ h (hj _ hb)
mutual
def nd : S27 → Nat
  | ⟨_, _, _, _, l⟩ => ndL l + 1
def ndL : List S27 → Nat
  | [] => 0
  | x :: l => nd x + ndL l
end
mutual
def dp : S27 → Nat
  | ⟨k, _, _, _, l⟩ => if k = 2 then dpL l + 1 else dpL l
def dpL : List S27 → Nat
  | [] => 0
  | x :: l => max (dp x) (dpL l)
end
mutual
def sm : S27 → S27 → Bool
  | ⟨k, p, a, t, l⟩, n => decide (k = n.f0) && (decide (p.f0 = n.f1.f0) && (decide (p.f1.toList = n.f1.f1.toList) && (decide (p.f2.toList = n.f1.f2.toList) && decide (p.f3.toList = n.f1.f3.toList)))) && (a == n.f2) && (t == n.f3) && smL l n.f4
def smL : List S27 → List S27 → Bool
  | [], [] => true
  | x :: l, y :: m => sm x y && smL l m
  | _, _ => false
end
def bareV (n : S27) : Bool := decide (n.f1.f0 = 0) && (emptyV n.f1.f1 && (emptyV n.f1.f2 && emptyV n.f1.f3)) && !n.f2 && !n.f3
def endV (n : S27) : Bool := decide (n.f4 = []) && (if n.f0 = 0 then ptV n.f1 else if n.f0 = 3 ∨ n.f0 = 4 then bareV n else false)
def two : List S27 → Bool
  | [x, y] => endV x && endV y
  | _ => false
mutual
def rt : S27 → Bool
  | ⟨k, p, a, t, l⟩ => if k = 0 then endV ⟨k, p, a, t, l⟩ else if k = 1 then bareV ⟨k, p, a, t, l⟩ && two l else if k = 2 then bareV ⟨k, p, a, t, l⟩ && (decide (l ≠ []) && rtL l) else false
def rtL : List S27 → Bool
  | [] => true
  | x :: l => rt x && rtL l
end
theorem nd_eq (n : S27) : nd n = ndL n.f4 + 1 := by cases n; rw [nd]
theorem dp_eq (n : S27) : dp n = if n.f0 = 2 then dpL n.f4 + 1 else dpL n.f4 := by cases n; rw [dp]
theorem sm_eq (a n : S27) : sm a n = (decide (a.f0 = n.f0) && (decide (a.f1.f0 = n.f1.f0) && (decide (a.f1.f1.toList = n.f1.f1.toList) && (decide (a.f1.f2.toList = n.f1.f2.toList) && decide (a.f1.f3.toList = n.f1.f3.toList)))) && (a.f2 == n.f2) && (a.f3 == n.f3) && smL a.f4 n.f4) := by cases a; rw [sm]
theorem rt_eq (n : S27) : rt n = if n.f0 = 0 then endV n else if n.f0 = 1 then bareV n && two n.f4 else if n.f0 = 2 then bareV n && (decide (n.f4 ≠ []) && rtL n.f4) else false := by cases n; rw [rt]
theorem nd_pos (n : S27) : 1 ≤ nd n := by rw [nd_eq]; omega
theorem len_nd : ∀ l : List S27, l.length ≤ ndL l
  | [] => Nat.le_refl _
  | x :: l => by have h1 := nd_pos x; have h2 := len_nd l; rw [ndL, List.length_cons]; omega
inductive wfN : S27 → Prop
  | mk (n : S27) (h1 : n.f1.f1.size ≤ 140737488351232) (h2 : n.f1.f2.size ≤ 140737488351232) (h3 : n.f1.f3.size ≤ 140737488351232) (hl : n.f4.length ≤ 1466015503711) (hc : ∀ x, x ∈ n.f4 → wfN x) : wfN n
theorem wfN.s1 {n : S27} (h : wfN n) : n.f1.f1.size ≤ 140737488351232 := by cases h; assumption
theorem wfN.s2 {n : S27} (h : wfN n) : n.f1.f2.size ≤ 140737488351232 := by cases h; assumption
theorem wfN.s3 {n : S27} (h : wfN n) : n.f1.f3.size ≤ 140737488351232 := by cases h; assumption
theorem wfN.len {n : S27} (h : wfN n) : n.f4.length ≤ 1466015503711 := by cases h; assumption
theorem wfN.all {n : S27} (h : wfN n) : ∀ x, x ∈ n.f4 → wfN x := by cases h; assumption
theorem at_rd26 (p : List S27) (r : S27) (t : List S27) : rd_T27 (p ++ r :: t) (p.length : Int) = r := by simp [rd_T27]
abbrev cn1 (k : Nat) (n : S27) (c : Int) : Option Int := tree_Count_1.f k n.f0 n.f1.f0 n.f1.f1 n.f1.f2 n.f1.f3 n.f2 n.f3 n.f4 c
abbrev dp1 (k : Nat) (n : S27) (i c : Int) : Option Int := tree_Deep_1.f k n.f0 n.f1.f0 n.f1.f1 n.f1.f2 n.f1.f3 n.f2 n.f3 n.f4 i c
abbrev tCount (k : Nat) (n : S27) : Option Int := tree_Count.f k n.f0 n.f1.f0 n.f1.f1 n.f1.f2 n.f1.f3 n.f2 n.f3 n.f4
abbrev tDeep (k : Nat) (n : S27) : Option Int := tree_Deep.f k n.f0 n.f1.f0 n.f1.f1 n.f1.f2 n.f1.f3 n.f2 n.f3 n.f4
abbrev tEnd (k : Nat) (n : S27) : Option Bool := tree_End.f k n.f0 n.f1.f0 n.f1.f1 n.f1.f2 n.f1.f3 n.f2 n.f3 n.f4
abbrev tBare (n : S27) : Option Bool := tree_bare.f n.f0 n.f1.f0 n.f1.f1 n.f1.f2 n.f1.f3 n.f2 n.f3 n.f4
abbrev tRight (k : Nat) (n : S27) : Option Bool := tree_right.f k n.f0 n.f1.f0 n.f1.f1 n.f1.f2 n.f1.f3 n.f2 n.f3 n.f4
abbrev tSane (k : Nat) (n : S27) : Option Bool := tree_Sane.f k n.f0 n.f1.f0 n.f1.f1 n.f1.f2 n.f1.f3 n.f2 n.f3 n.f4
abbrev tSame (k : Nat) (n m : S27) : Option Bool := tree_Same.f k n.f0 n.f1.f0 n.f1.f1 n.f1.f2 n.f1.f3 n.f2 n.f3 n.f4 m.f0 m.f1.f0 m.f1.f1 m.f1.f2 m.f1.f3 m.f2 m.f3 m.f4
theorem cn_f : ∀ (m : Nat) (n : S27) (c : Int), nd n ≤ m → 0 ≤ c → c + nd n ≤ 4611686018427387904 → Ev (fun k => cn1 k n c) (c + nd n)
  | 0, n, c, h, _, _ => by have := nd_pos n; omega
  | m + 1, n, c, h, h0, hb => by
    have loop : ∀ (t p : List S27) (c : Int), ndL t ≤ m → 0 ≤ c → c + ndL t ≤ 4611686018427387904 → (p ++ t).length ≤ 4611686018427387904 → Ev (fun k => tree_Count_1.l0 k c (p ++ t) ((p ++ t).length : Int) (p.length : Int)) (c + ndL t) := fun t => by
      induction t with
      | nil => exact fun p c _ _ _ _ => Ev.step (f := fun _ => some c) (fun k => by rw [tree_Count_1.l0, if_neg (at_end p)]) (Ev.eq (Ev.now _) (by simp [ndL]))
      | cons x t ih =>
        intro p c hm hc hb hp
        rw [ndL] at hm hb ⊢
        refine Ev.step (f := fun k => (cn1 k x c).bind fun t' => tree_Count_1.l0 k t' (p ++ x :: t) ((p ++ x :: t).length : Int) ((p ++ [x]).length : Int)) (fun k => by rw [tree_Count_1.l0, if_pos (at_lt p x t), if_pos (at_0 p), if_pos (at_lt p x t), at_rd26, at_next hp]) ?_
        refine Ev.bind (cn_f m x c (by omega) hc (by omega)) ?_
        have := ih (p ++ [x]) (c + nd x) (by omega) (by omega) (by omega) (by rw [← at_app]; exact hp)
        rw [← at_app] at this
        exact Ev.eq this (by omega)
    have hn := nd_eq n
    have hl := len_nd n.f4
    refine Ev.step (f := fun k => tree_Count_1.l0 k (c + 1) n.f4 (n.f4.length : Int) 0) (fun k => by show tree_Count_1.f (k + 1) _ _ _ _ _ _ _ _ _ = _; rw [tree_Count_1.f, w64 (by omega) (by omega)]) ?_
    have := loop n.f4 [] (c + 1) (by omega) (by omega) (by omega) (by simp; omega)
    exact Ev.eq this (by omega)
theorem tCount_f (n : S27) (h : nd n ≤ 4611686018427387904) : Ev (fun k => tCount k n) (nd n : Int) := Ev.eq (cn_f _ n 0 (Nat.le_refl _) (Int.le_refl _) (by omega)) (by omega)
theorem dp_f : ∀ (m : Nat) (n : S27) (i c : Int), nd n ≤ m → 0 ≤ i → 0 ≤ c → i + nd n ≤ 4611686018427387904 → Ev (fun k => dp1 k n i c) (max c (i + dp n))
  | 0, n, i, c, h, _, _, _ => by have := nd_pos n; omega
  | m + 1, n, i, c, h, h0, hc, hb => by
    have loop : ∀ (t p : List S27) (i c : Int), ndL t ≤ m → 0 ≤ i → i ≤ c → i + ndL t ≤ 4611686018427387904 → (p ++ t).length ≤ 4611686018427387904 → Ev (fun k => tree_Deep_1.l0 k i c (p ++ t) ((p ++ t).length : Int) (p.length : Int)) (max c (i + dpL t)) := fun t => by
      induction t with
      | nil => exact fun p i c _ _ h _ _ => Ev.step (f := fun _ => some c) (fun k => by rw [tree_Deep_1.l0, if_neg (at_end p)]) (Ev.eq (Ev.now _) (by simp only [dpL]; omega))
      | cons x t ih =>
        intro p i c hm hi hc hb hp
        rw [ndL] at hm hb
        rw [dpL]
        refine Ev.step (f := fun k => (dp1 k x i c).bind fun t' => tree_Deep_1.l0 k i t' (p ++ x :: t) ((p ++ x :: t).length : Int) ((p ++ [x]).length : Int)) (fun k => by rw [tree_Deep_1.l0, if_pos (at_lt p x t), if_pos (at_0 p), if_pos (at_lt p x t), at_rd26, at_next hp]) ?_
        refine Ev.bind (dp_f m x i c (by omega) hi (by omega) (by omega)) ?_
        have := ih (p ++ [x]) i (max c (i + dp x)) (by have := nd_pos x; omega) hi (by omega) (by omega) (by rw [← at_app]; exact hp)
        rw [← at_app] at this
        exact Ev.eq this (by omega)
    have hn := nd_eq n
    have hl := len_nd n.f4
    have hj : ∀ x1 : Int, 0 ≤ x1 → x1 ≤ i + 1 → Ev (fun k => tree_Deep_1.j0 k x1 c n.f0 n.f1.f0 n.f1.f1 n.f1.f2 n.f1.f3 n.f2 n.f3 n.f4) (max c (x1 + dpL n.f4)) := fun x1 h1 h2 => by
      refine Ev.step (f := fun k => tree_Deep_1.l0 k x1 (mx c x1) n.f4 (n.f4.length : Int) 0) (fun k => by rw [tree_Deep_1.j0]) ?_
      have := loop n.f4 [] x1 (mx c x1) (by omega) h1 (by rw [mx_max]; omega) (by omega) (by simp; omega)
      rw [mx_max] at this ⊢
      exact Ev.eq this (by omega)
    rw [dp_eq]
    by_cases h2 : n.f0 = 2
    · rw [if_pos h2]
      refine Ev.step (f := fun k => tree_Deep_1.j0 k (i + 1) c n.f0 n.f1.f0 n.f1.f1 n.f1.f2 n.f1.f3 n.f2 n.f3 n.f4) (fun k => by show tree_Deep_1.f (k + 1) _ _ _ _ _ _ _ _ _ _ = _; rw [tree_Deep_1.f, if_pos h2, w64 (by omega) (by omega)]) ?_
      exact Ev.eq (hj (i + 1) (by omega) (by omega)) (by omega)
    · rw [if_neg h2]
      refine Ev.step (f := fun k => tree_Deep_1.j0 k i c n.f0 n.f1.f0 n.f1.f1 n.f1.f2 n.f1.f3 n.f2 n.f3 n.f4) (fun k => by show tree_Deep_1.f (k + 1) _ _ _ _ _ _ _ _ _ _ = _; rw [tree_Deep_1.f, if_neg h2]) ?_
      exact hj i (by omega) (by omega)
theorem tDeep_f (n : S27) (h : nd n ≤ 4611686018427387904) : Ev (fun k => tDeep k n) (dp n : Int) := Ev.eq (dp_f _ n 0 0 (Nat.le_refl _) (Int.le_refl _) (Int.le_refl _) (by omega)) (by omega)
theorem smL_len : ∀ (l u : List S27), smL l u = true → l.length = u.length
  | [], [], _ => rfl
  | [], y :: u, h => by rw [smL] at h; · cases h
                        all_goals simp
  | x :: l, [], h => by rw [smL] at h; · cases h
                        all_goals simp
  | x :: l, y :: u, h => by
    rw [smL, Bool.and_eq_true] at h
    rw [List.length_cons, List.length_cons, smL_len l u h.2]
theorem at_rd26' (p q : List S27) (r : S27) (t : List S27) (e : p.length = q.length) : rd_T27 (q ++ r :: t) (p.length : Int) = r := by rw [e, at_rd26]
theorem at_lt' (p q : List S27) (r : S27) (t : List S27) (e : p.length = q.length) : (p.length : Int) < ((q ++ r :: t).length : Int) := by rw [e]; exact at_lt q r t
theorem tSame_f : ∀ (m : Nat) (a b : S27), nd a ≤ m → wfN a → Ev (fun k => tSame k a b) (sm a b)
  | 0, a, _, h, _ => by have := nd_pos a; omega
  | m + 1, a, b, h, hw => by
    have loop : ∀ (t u p q : List S27), ndL t ≤ m → (∀ x, x ∈ t → wfN x) → p.length = q.length → t.length = u.length → (p ++ t).length ≤ 4611686018427387904 → Ev (fun k => slices_EqualFunc.l0 k (q ++ u) (p ++ t) ((p ++ t).length : Int) (p.length : Int)) (smL t u) := fun t => by
      induction t with
      | nil =>
        intro u p q _ _ _ hu _
        cases u with
        | nil => exact Ev.step (f := fun _ => some true) (fun k => by rw [slices_EqualFunc.l0, if_neg (at_end p)]) (Ev.eq (Ev.now _) (by rw [smL]))
        | cons y u => simp at hu
      | cons x t ih =>
        intro u p q hm hx hpq hu hp
        cases u with
        | nil => simp at hu
        | cons y u =>
          rw [ndL] at hm
          rw [smL]
          refine Ev.step (f := fun k => (tSame k x y).bind fun t' => if t' = true then slices_EqualFunc.l0 k (q ++ y :: u) (p ++ x :: t) ((p ++ x :: t).length : Int) ((p ++ [x]).length : Int) else some false) (fun k => by rw [slices_EqualFunc.l0, if_pos (at_lt p x t), if_pos (at_0 p), if_pos (at_lt p x t), if_pos (at_lt' p q y u hpq), at_rd26, at_rd26' p q y u hpq, at_next hp]) ?_
          refine Ev.andb (tSame_f m x y (by omega) (hx x List.mem_cons_self)) ?_
          have := ih u (p ++ [x]) (q ++ [y]) (by have := nd_pos x; omega) (fun z hz => hx z (List.mem_cons_of_mem _ hz)) (by simp [hpq]) (by simpa using hu) (by rw [← at_app]; exact hp)
          rw [← at_app, ← at_app] at this
          exact this
    have hn := nd_eq a
    have hl := hw.len
    refine Ev.step (fun k => by show tree_Same.f (k + 1) _ _ _ _ _ _ _ _ _ _ _ _ _ _ _ _ = _; rw [tree_Same.f_succ]) ?_
    have hE : Ev (fun k => slices_EqualFunc.f k a.f4 b.f4) (smL a.f4 b.f4) := by
      by_cases c : (a.f4.length : Int) = (b.f4.length : Int)
      · have := loop a.f4 b.f4 [] [] (by omega) hw.all rfl (by omega) (by simp; omega)
        exact Ev.ift c this
      · refine Ev.iff_ c (Ev.eq (Ev.now _) ?_)
        cases hs : smL a.f4 b.f4 with
        | false => rfl
        | true => exact absurd (smL_len _ _ hs) (by omega)
    refine Ev.eq (Ev.cond fun _ => Ev.cond fun _ => Ev.cond fun _ => Ev.cond fun _ => Ev.self hE) ?_
    rw [sm_eq, Bool.eq_iff_iff]
    simp [and_assoc]
theorem tBare_f (n : S27) : tBare n = some (bareV n) := by
  show tree_bare.f _ _ _ _ _ _ _ _ = _
  unfold tree_bare.f bareV emptyV
  cases h : (n.f1.f0 == 0 && (n.f1.f1.toList == ([] : List UInt8) && (n.f1.f2.toList == ([] : List UInt8) && (n.f1.f3.toList == ([] : List UInt8))))) with
  | true =>
    rw [if_pos rfl]
    cases n.f2 <;> cases n.f3 <;> rfl
  | false =>
    rw [if_neg (by simp)]
    simp
theorem tEnd_f (n : S27) : Ev (fun k => tEnd k n) (endV n) := by
  refine Ev.eq (Ev.pick (Ev.cond fun _ => Ev.self (ptSane_f n.f1)) (Ev.pick (Ev.cond fun _ => Ev.bnow (tBare_f n) (Ev.now _)) (Ev.pick (Ev.cond fun _ => Ev.bnow (tBare_f n) (Ev.now _)) (Ev.now false)))) ?_
  unfold endV
  have e : decide ((n.f4.length : Int) = 0) = decide (n.f4 = []) := by rw [Bool.eq_iff_iff]; simp
  rw [e]
  by_cases c0 : n.f0 = 0
  · rw [if_pos c0, if_pos c0]
  · by_cases c3 : n.f0 = 3
    · rw [if_neg c0, if_pos c3, if_neg c0, if_pos (.inl c3)]
    · by_cases c4 : n.f0 = 4
      · rw [if_neg c0, if_neg c3, if_pos c4, if_neg c0, if_pos (.inr c4)]
      · rw [if_neg c0, if_neg c3, if_neg c4, if_neg c0, if_neg (by rintro (h | h) <;> contradiction)]; simp
theorem two_f (E : Nat → S27 → Option Bool) (l : List S27) (hE : ∀ x, x ∈ l → Ev (fun k => E k x) (endV x)) :
    Ev (fun k => if (l.length : Int) = 2 then (if 0 < (l.length : Int) then ((E k (rd_T27 l 0)).bind fun t108 => (if t108 = true then (if 1 < (l.length : Int) then ((E k (rd_T27 l 1)).bind fun t110 => (some t110)) else (none)) else (some false))) else (none)) else (some false)) (two l) := by
  match l, hE with
  | [], _ => exact Ev.iff_ (by simp) (Ev.now _)
  | [x], _ => exact Ev.iff_ (by simp) (Ev.now _)
  | [x, y], hE =>
    refine Ev.ift (by simp) (Ev.ift (by simp) ?_)
    refine Ev.andb (hE x (by simp)) (Ev.ift (by simp) (Ev.self (hE y (by simp))))
  | x :: y :: z :: l, _ => exact Ev.iff_ (by simp; omega) (Ev.now _)
theorem tRight_f : ∀ (m : Nat) (n : S27), nd n ≤ m → wfN n → Ev (fun k => tRight k n) (rt n)
  | 0, a, h, _ => by have := nd_pos a; omega
  | m + 1, n, h, hw => by
    have loop : ∀ (t p : List S27), ndL t ≤ m → (∀ x, x ∈ t → wfN x) → (p ++ t).length ≤ 4611686018427387904 → ∃ v, Ev (fun k => slices_IndexFunc.l0 k (p ++ t) ((p ++ t).length : Int) (p.length : Int)) v ∧ decide (v ≥ 0) = !rtL t := fun t => by
      induction t with
      | nil => exact fun p _ _ _ => ⟨-1, Ev.step (f := fun _ => some (-1)) (fun k => by rw [slices_IndexFunc.l0_succ, if_neg (at_end p)]) (Ev.now _), by rw [rtL]; rfl⟩
      | cons x t ih =>
        intro p hm hx hp
        rw [ndL] at hm
        rw [rtL]
        have hstep : ∀ k, slices_IndexFunc.l0 (k + 1) (p ++ x :: t) ((p ++ x :: t).length : Int) (p.length : Int) = ((tRight k x).bind fun t_ => some (!t_)).bind fun t' => if t' = true then some (p.length : Int) else slices_IndexFunc.l0 k (p ++ x :: t) ((p ++ x :: t).length : Int) ((p ++ [x]).length : Int) := fun k => by
          rw [slices_IndexFunc.l0_succ, if_pos (at_lt p x t), if_pos (at_0 p), if_pos (at_lt p x t), at_rd26, at_next hp]
          rfl
        have hR := tRight_f m x (by omega) (hx x List.mem_cons_self)
        cases hv : rt x with
        | false =>
          rw [hv] at hR
          exact ⟨(p.length : Int), Ev.step hstep (Ev.bind (Ev.bind hR (Ev.now _)) (Ev.ift rfl (Ev.now _))), by simp⟩
        | true =>
          rw [hv] at hR
          obtain ⟨v, h1, h2⟩ := ih (p ++ [x]) (by have := nd_pos x; omega) (fun z hz => hx z (List.mem_cons_of_mem _ hz)) (by rw [← at_app]; exact hp)
          rw [← at_app] at h1
          exact ⟨v, Ev.step hstep (Ev.bind (Ev.bind hR (Ev.now _)) (Ev.iff_ (by simp) h1)), by rw [h2, Bool.true_and]⟩
    have hn := nd_eq n
    have hl := hw.len
    refine Ev.step (f := fun k => tree_rightR.f k n.f0 n.f1.f0 n.f1.f1 n.f1.f2 n.f1.f3 n.f2 n.f3 n.f4) (fun k => by show tree_right.f (k + 1) _ _ _ _ _ _ _ _ = _; rw [tree_right.f_succ]) ?_
    have h2 := two_f (fun k x => tEnd k x) n.f4 (fun x _ => tEnd_f x)
    have hc : Ev (fun k => (slices_ContainsFunc.f k n.f4).bind fun t112 => some (!t112)) (rtL n.f4) := by
      obtain ⟨v, h1, h3⟩ := loop n.f4 [] (by omega) hw.all (by simp; omega)
      refine Ev.bind (Ev.bind (show Ev (fun k => slices_IndexFunc.f k n.f4) v from h1) (Ev.now _)) (Ev.eq (Ev.now _) ?_)
      rw [h3, Bool.not_not]
    refine Ev.eq (Ev.pick (Ev.self (tEnd_f n)) (Ev.pick (Ev.bnow (tBare_f n) (Ev.cond fun _ => h2)) (Ev.pick (Ev.bnow (tBare_f n) (Ev.cond fun _ => Ev.cond fun _ => hc)) (Ev.now false)))) ?_
    rw [rt_eq]
    have e : decide ((n.f4.length : Int) > 0) = decide (n.f4 ≠ []) := by
      rw [Bool.eq_iff_iff]
      simp only [decide_eq_true_eq]
      cases n.f4 <;> simp
    rw [e, Bool.decide_eq_true]
def saneV (n : S27) : Bool := decide (nd n ≤ 64) && (decide (dp n ≤ 8) && rt n)
theorem le_dec (a b : Nat) : decide ((a : Int) ≤ (b : Int)) = decide (a ≤ b) := by rw [Bool.eq_iff_iff]; simp
theorem tSane_f (n : S27) (hw : wfN n) (h : nd n ≤ 4611686018427387904) : Ev (fun k => tSane k n) (saneV n) := by
  refine Ev.eq (Ev.bind (tCount_f n h) (Ev.cond fun _ => Ev.bind (tDeep_f n h) (Ev.cond fun _ => Ev.self (tRight_f _ n (Nat.le_refl _) hw)))) ?_
  unfold saneV
  rw [← le_dec, ← le_dec]; rfl
theorem sm_refl : ∀ (m : Nat) (n : S27), nd n ≤ m → sm n n = true
  | 0, n, h => by have := nd_pos n; omega
  | m + 1, n, h => by
    have hl : ∀ l : List S27, ndL l ≤ m → smL l l = true := fun l => by
      induction l with
      | nil => intro _; rw [smL]
      | cons x t ih =>
        intro hh
        rw [ndL] at hh
        rw [smL, sm_refl m x (by omega), ih (by omega)]; rfl
    have hn := nd_eq n
    rw [sm_eq, hl n.f4 (by omega)]
    simp
def eP : S24 := ⟨0, ⟨#[]⟩, ⟨#[]⟩, ⟨#[]⟩⟩
def oN : S27 := ⟨3, eP, false, false, []⟩
def lN (l : List S27) : S27 := ⟨2, eP, false, false, l⟩
theorem wf_leaf (k : Int) (p : S24) (a t : Bool) (h1 : p.f1.size ≤ 140737488351232) (h2 : p.f2.size ≤ 140737488351232) (h3 : p.f3.size ≤ 140737488351232) : wfN ⟨k, p, a, t, []⟩ := .mk _ h1 h2 h3 (by simp) (fun x hx => by cases hx)
theorem wf_oN : wfN oN := wf_leaf _ _ _ _ (by decide) (by decide) (by decide)
theorem emptyV_nil : emptyV ⟨#[]⟩ = true := by unfold emptyV; rw [ByteArray.toList_eq]; rfl
theorem endV_o : endV oN = true := by
  show (true && (true && (emptyV ⟨#[]⟩ && (emptyV ⟨#[]⟩ && emptyV ⟨#[]⟩)) && !false && !false)) = true
  rw [emptyV_nil]; decide
theorem ndL_app : ∀ (l u : List S27), ndL (l ++ u) = ndL l + ndL u
  | [], u => by rw [List.nil_append, ndL, Nat.zero_add]
  | x :: l, u => by rw [List.cons_append, ndL, ndL, ndL_app l u]; omega
theorem dpL_app : ∀ (l u : List S27), dpL (l ++ u) = max (dpL l) (dpL u)
  | [], u => by rw [List.nil_append, dpL]; omega
  | x :: l, u => by rw [List.cons_append, dpL, dpL, dpL_app l u]; omega
def bA (l : List UInt8) : ByteArray := ⟨l.toArray⟩
theorem bA_data (l : List UInt8) : (bA l).data.toList = l := rfl
theorem bA_size (l : List UInt8) : (bA l).size = l.length := by rw [bsize, bA_data]
theorem ba_eq {a b : ByteArray} (h : a.data.toList = b.data.toList) : a = b := by
  cases a; cases b
  simp only at h
  rw [Array.toList_inj] at h
  rw [h]
theorem bA_mk (s : ByteArray) : bA s.data.toList = s := ba_eq rfl
theorem ba_app (a b : ByteArray) : (a ++ b).data.toList = a.data.toList ++ b.data.toList := by rw [ByteArray.data_append, Array.toList_append]
theorem bA_app (l u : List UInt8) : bA l ++ bA u = bA (l ++ u) := ba_eq (by rw [ba_app]; rfl)
theorem bA_toList (l : List UInt8) : (bA l).toList = l := by rw [ByteArray.toList_eq]; rfl
theorem ba_toList (s : ByteArray) : s.toList = s.data.toList := ByteArray.toList_eq s
theorem empty_size {s : ByteArray} (h : emptyV s = true) : s.size = 0 := by
  unfold emptyV at h
  rw [ba_toList] at h
  rw [bsize, beq_iff_eq.1 h]; rfl
def ptRaw (p : S24) : List UInt8 :=
  if p.f0 = 0 then p.f1.data.toList ++ 45 :: (p.f2.data.toList ++ 45 :: p.f3.data.toList)
  else if p.f0 = 1 then p.f1.data.toList ++ 45 :: p.f2.data.toList
  else if p.f0 = 2 then p.f1.data.toList ++ 115 :: p.f2.data.toList
  else if p.f0 = 4 then p.f1.data.toList ++ [100]
  else if p.f0 = 5 then p.f1.data.toList ++ [99]
  else p.f1.data.toList
def ptTxt (p : S24) : List UInt8 := if ptV p = true then ptRaw p else []
theorem pt_sizes {p : S24} (h : ptV p = true) : p.f1.size ≤ 4 ∧ p.f2.size ≤ 2 ∧ p.f3.size ≤ 2 := by
  unfold ptV at h
  rw [Bool.and_eq_true] at h
  obtain ⟨h1, h2⟩ := h
  have hy : p.f1.size ≤ 4 := by rw [bsize]; exact (sane_all h1).2.2
  refine ⟨hy, ?_⟩
  by_cases c0 : p.f0 = 0
  · rw [if_pos c0] at h2
    simp only [someV, Bool.and_eq_true, decide_eq_true_eq] at h2
    omega
  rw [if_neg c0] at h2
  by_cases c1 : p.f0 = 1
  · rw [if_pos c1] at h2
    simp only [someV, Bool.and_eq_true, decide_eq_true_eq] at h2
    have := empty_size h2.2.2
    omega
  rw [if_neg c1] at h2
  by_cases c2 : p.f0 = 2
  · rw [if_pos c2] at h2
    simp only [someV, Bool.and_eq_true, decide_eq_true_eq] at h2
    have := empty_size h2.2.2
    omega
  rw [if_neg c2] at h2
  have fin : ∀ n : Int, (decide ((p.f1.size : Int) = n) && (emptyV p.f2 && emptyV p.f3)) = true → p.f2.size ≤ 2 ∧ p.f3.size ≤ 2 := fun n h => by
    simp only [Bool.and_eq_true] at h
    have a := empty_size h.2.1
    have b := empty_size h.2.2
    omega
  by_cases c3 : p.f0 = 3
  · rw [if_pos c3] at h2; exact fin _ h2
  rw [if_neg c3] at h2
  by_cases c4 : p.f0 = 4
  · rw [if_pos c4] at h2; exact fin _ h2
  rw [if_neg c4] at h2
  by_cases c5 : p.f0 = 5
  · rw [if_pos c5] at h2; exact fin _ h2
  rw [if_neg c5] at h2
  cases h2
theorem ptTxt_len (p : S24) : (ptTxt p).length ≤ 10 := by
  unfold ptTxt
  split
  · rename_i h
    obtain ⟨h1, h2, h3⟩ := pt_sizes h
    rw [bsize] at h1 h2 h3
    unfold ptRaw
    repeat' split
    all_goals (first | (simp only [List.length_append, List.length_cons, List.length_nil]; omega) | omega)
  · simp
theorem ptText_f (p : S24) : Ev (fun k => point_Text.f k p.f0 p.f1 p.f2 p.f3) (bA (ptTxt p)) := by
  refine Ev.bind (ptSane_f p) ?_
  unfold ptTxt
  cases hv : ptV p with
  | false => exact Ev.iff_ (by simp) (Ev.eq (Ev.now _) rfl)
  | true =>
    obtain ⟨h1, h2, h3⟩ := pt_sizes hv
    have e1 : (⟨#[45]⟩ : ByteArray).size = 1 := rfl
    have e2 : (⟨#[115]⟩ : ByteArray).size = 1 := rfl
    have e3 : (⟨#[]⟩ : ByteArray).size = 0 := rfl
    refine Ev.ift rfl ?_
    rw [if_pos rfl]
    unfold ptRaw
    by_cases c0 : p.f0 = 0
    · refine Ev.ift c0 ?_
      rw [if_pos c0]
      refine Ev.ift (by omega) (Ev.ift (by omega) (Ev.ift (by simp only [ByteArray.size_append]; omega) (Ev.ift (by simp only [ByteArray.size_append]; omega) (Ev.eq (Ev.now _) (ba_eq ?_)))))
      simp only [ba_app, bA_data]; rfl
    refine Ev.iff_ c0 ?_
    rw [if_neg c0]
    by_cases c1 : p.f0 = 1
    · refine Ev.ift c1 ?_
      rw [if_pos c1]
      refine Ev.ift (by omega) (Ev.ift (by simp only [ByteArray.size_append]; omega) (Ev.ift (by simp only [ByteArray.size_append]; omega) (Ev.eq (Ev.now _) (ba_eq ?_))))
      simp only [ba_app, bA_data, List.append_nil]; rfl
    refine Ev.iff_ c1 ?_
    rw [if_neg c1]
    by_cases c2 : p.f0 = 2
    · refine Ev.ift c2 ?_
      rw [if_pos c2]
      refine Ev.ift (by omega) (Ev.ift (by simp only [ByteArray.size_append]; omega) (Ev.eq (Ev.now _) (ba_eq ?_)))
      simp only [ba_app, bA_data]; rfl
    refine Ev.iff_ c2 ?_
    rw [if_neg c2]
    by_cases c4 : p.f0 = 4
    · refine Ev.ift c4 ?_
      rw [if_pos c4]
      exact Ev.ift (by omega) (Ev.eq (Ev.now _) (ba_eq (by simp only [ba_app, bA_data])))
    refine Ev.iff_ c4 ?_
    rw [if_neg c4]
    by_cases c5 : p.f0 = 5
    · refine Ev.ift c5 ?_
      rw [if_pos c5]
      exact Ev.ift (by omega) (Ev.eq (Ev.now _) (ba_eq (by simp only [ba_app, bA_data])))
    refine Ev.iff_ c5 ?_
    rw [if_neg c5]
    exact Ev.ift (by omega) (Ev.eq (Ev.now _) (ba_eq (by simp only [ba_app, bA_data, List.append_nil])))
def span2 : List (List UInt8) → List UInt8
  | x :: y :: _ => x ++ 47 :: y
  | _ => []
def markV (a : Bool) (c : UInt8) : List UInt8 := if a = true then [c] else []
mutual
def tx : S27 → List UInt8
  | ⟨k, p, a, t, l⟩ => if k = 1 then span2 (txL l) else if k = 2 then 91 :: (Lib.join (txL l) [44, 32] ++ [93]) else if k = 3 then [46, 46] else if k = 4 then [42] else ptTxt p ++ (markV a 63 ++ markV t 126)
def txL : List S27 → List (List UInt8)
  | [] => []
  | x :: l => tx x :: txL l
end
theorem tx_eq (n : S27) : tx n = if n.f0 = 1 then span2 (txL n.f4) else if n.f0 = 2 then 91 :: (Lib.join (txL n.f4) [44, 32] ++ [93]) else if n.f0 = 3 then [46, 46] else if n.f0 = 4 then [42] else ptTxt n.f1 ++ (markV n.f2 63 ++ markV n.f3 126) := by cases n; rw [tx]
theorem txL_app : ∀ (l u : List S27), txL (l ++ u) = txL l ++ txL u
  | [], u => by rw [List.nil_append, txL, List.nil_append]
  | x :: l, u => by rw [List.cons_append, txL, txL, txL_app l u, List.cons_append]
theorem txL_len : ∀ l : List S27, (txL l).length = l.length
  | [] => by rw [txL]; rfl
  | x :: l => by rw [txL, List.length_cons, List.length_cons, txL_len l]
theorem markV_len (a : Bool) (c : UInt8) : (markV a c).length ≤ 1 := by unfold markV; split <;> simp
theorem join_len : ∀ xs : List (List UInt8), (Lib.join xs [44, 32]).length ≤ Lib.lens xs + 2 * xs.length
  | [] => by rw [Lib.join_nil]; simp
  | x :: r => by
    rw [Lib.join_cons, List.length_append, Lib.joinTail_length]
    simp only [Lib.lens, List.map_cons, List.sum_cons, List.length_cons, List.length_nil]
    omega
theorem lens_cons (x : List UInt8) (l : List (List UInt8)) : Lib.lens (x :: l) = x.length + Lib.lens l := by simp [Lib.lens]
theorem tx_len : ∀ (m : Nat) (n : S27), nd n ≤ m → (tx n).length + 2 ≤ 31 * nd n
  | 0, n, h => by have := nd_pos n; omega
  | m + 1, n, h => by
    have hl : ∀ l : List S27, ndL l ≤ m → Lib.lens (txL l) + 2 * l.length ≤ 31 * ndL l := fun l => by
      induction l with
      | nil => intro _; rw [txL]; simp [Lib.lens, ndL]
      | cons x t ih =>
        intro hh
        rw [ndL] at hh ⊢
        rw [txL, lens_cons, List.length_cons]
        have h1 := tx_len m x (by omega)
        have h2 := ih (by omega)
        omega
    have hn := nd_eq n
    have hL := hl n.f4 (by omega)
    have hS : (span2 (txL n.f4)).length ≤ Lib.lens (txL n.f4) + 1 := by
      cases txL n.f4 with
      | nil => simp [span2]
      | cons x t =>
        cases t with
        | nil => simp [span2]
        | cons y t => rw [lens_cons, lens_cons]; simp only [span2, List.length_append, List.length_cons]; omega
    have hJ := join_len (txL n.f4)
    rw [txL_len] at hJ
    have hp := ptTxt_len n.f1
    have ha := markV_len n.f2 63
    have ht := markV_len n.f3 126
    rw [tx_eq]
    repeat' split
    all_goals (first | (simp only [List.length_append, List.length_cons, List.length_nil]; omega) | omega)
theorem join_le (l : List S27) : (Lib.join (txL l) [44, 32]).length ≤ 31 * ndL l := by
  have h1 := join_len (txL l)
  rw [txL_len] at h1
  have hl : ∀ l : List S27, Lib.lens (txL l) + 2 * l.length ≤ 31 * ndL l := fun l => by
    induction l with
    | nil => rw [txL]; simp [Lib.lens, ndL]
    | cons x t ih =>
      rw [ndL, txL, lens_cons, List.length_cons]
      have h1 := tx_len _ x (Nat.le_refl _)
      omega
  have := hl l
  omega
theorem Join_f (l : List ByteArray) (sep : ByteArray) (h1 : l.length ≤ 140737488355328) (h2 : (Lib.join (l.map (·.data.toList)) sep.data.toList).length ≤ 140737488355328) : strings_Join.f l sep = some (bA (Lib.join (l.map (·.data.toList)) sep.data.toList)) := by
  unfold strings_Join.f
  rw [if_pos h1, if_pos h2]; rfl
theorem join3_f (a b c : List UInt8) (h : a.length + b.length + c.length ≤ 140737488355328) : print_join.f [bA a, bA b, bA c] = some (bA (a ++ (b ++ c))) := by
  have e : Lib.join (([bA a, bA b, bA c] : List ByteArray).map (·.data.toList)) ((⟨#[]⟩ : ByteArray).data.toList) = a ++ (b ++ c) := by
    simp only [List.map_cons, List.map_nil, bA_data]
    rw [Lib.join_cons]
    simp [Lib.joinTail]
  unfold print_join.f
  rw [Join_f _ _ (by simp) (by rw [e]; simp only [List.length_append]; omega), e]; rfl
theorem mark_f (a : Bool) (c : ByteArray) (u : UInt8) (hc : c = bA [u]) : print_mark.f a c = some (bA (markV a u)) := by
  subst hc
  unfold print_mark.f markV
  cases a <;> rfl
abbrev pText (k : Nat) (n : S27) : Option ByteArray := print_text.f k n.f0 n.f1.f0 n.f1.f1 n.f1.f2 n.f1.f3 n.f2 n.f3 n.f4
abbrev pTx (k : Nat) (n : S27) : Option ByteArray := print_Text.f k n.f0 n.f1.f0 n.f1.f1 n.f1.f2 n.f1.f3 n.f2 n.f3 n.f4
theorem two_inv {l : List S27} (h : two l = true) : ∃ x y, l = [x, y] ∧ endV x = true ∧ endV y = true := by
  match l, h with
  | [x, y], h => rw [two, Bool.and_eq_true] at h; exact ⟨x, y, rfl, h.1, h.2⟩
def rte (n : S27) : Prop := rt n = true ∨ endV n = true
theorem rte_one {n : S27} (h : rte n) (c : n.f0 = 1) : ∃ x y, n.f4 = [x, y] ∧ endV x = true ∧ endV y = true := by
  rcases h with h | h
  · rw [rt_eq, if_neg (by omega), if_pos c, Bool.and_eq_true] at h
    exact two_inv h.2
  · unfold endV at h
    rw [if_neg (by omega), if_neg (by omega)] at h
    simp at h
theorem rte_two {n : S27} (h : rte n) (c : n.f0 = 2) : rtL n.f4 = true := by
  rcases h with h | h
  · rw [rt_eq, if_neg (by omega), if_neg (by omega), if_pos c] at h
    simp only [Bool.and_eq_true] at h
    exact h.2.2
  · unfold endV at h
    rw [if_neg (by omega), if_neg (by omega)] at h
    simp at h
theorem pText_f : ∀ (m : Nat) (n : S27), nd n ≤ m → nd n ≤ 1048576 → rte n → Ev (fun k => pText k n) (bA (tx n))
  | 0, n, h, _, _ => by have := nd_pos n; omega
  | m + 1, n, h, hb, hr => by
    have hn := nd_eq n
    have hl := len_nd n.f4
    rw [tx_eq]
    by_cases c1 : n.f0 = 1
    · rw [if_pos c1]
      obtain ⟨x, y, e, hx, hy⟩ := rte_one hr c1
      have hxy : ndL n.f4 = nd x + nd y := by rw [e, ndL, ndL, ndL]; omega
      have ht : txL n.f4 = [tx x, tx y] := by rw [e, txL, txL, txL]
      have hX := pText_f m x (by omega) (by omega) (.inr hx)
      have hY := pText_f m y (by omega) (by omega) (.inr hy)
      have lx := tx_len _ x (Nat.le_refl _)
      have ly := tx_len _ y (Nat.le_refl _)
      have hj := join3_f (tx x) [47] (tx y) (by simp only [List.length_cons, List.length_nil]; omega)
      rw [ht]
      refine Ev.step (fun k => by show print_text.f (k + 1) _ _ _ _ _ _ _ _ = _; rw [print_text.f, if_pos c1, e]) ?_
      exact Ev.ift (by simp) (Ev.bind hX (Ev.ift (by simp) (Ev.bind hY (Ev.bnow hj (Ev.now _)))))
    rw [if_neg c1]
    by_cases c2 : n.f0 = 2
    · rw [if_pos c2]
      have hL := rte_two hr c2
      have loop : ∀ (t p : List S27), p ++ t = n.f4 → rtL t = true → Ev (fun k => print_text.l0 k ((txL p).map bA) (p ++ t) ((p ++ t).length : Int) (p.length : Int)) (bA (91 :: (Lib.join (txL n.f4) [44, 32] ++ [93]))) := fun t => by
        induction t with
        | nil =>
          intro p he _
          rw [List.append_nil] at he ⊢
          subst he
          have hj := join_le n.f4
          have em : ((txL n.f4).map bA).map (·.data.toList) = txL n.f4 := by rw [List.map_map]; conv => rhs; rw [← List.map_id (txL n.f4)]
                                                                             rfl
          have h1 := Join_f ((txL n.f4).map bA) ⟨#[44, 32]⟩ (by rw [List.length_map, txL_len]; omega) (by rw [em]; show (Lib.join (txL n.f4) [44, 32]).length ≤ _; omega)
          rw [em] at h1
          have h2 := join3_f [91] (Lib.join (txL n.f4) [44, 32]) [93] (by simp only [List.length_cons, List.length_nil]; omega)
          refine Ev.step (fun k => by rw [print_text.l0, if_neg (by omega)]) ?_
          exact Ev.bnow h1 (Ev.bnow h2 (Ev.now _))
        | cons x t ih =>
          intro p he hrt
          rw [rtL, Bool.and_eq_true] at hrt
          have hxl : nd x + ndL p ≤ ndL n.f4 := by rw [← he, ndL_app, ndL]; omega
          have hp : (p ++ x :: t).length ≤ 4611686018427387904 := by rw [he]; omega
          have hlp : p.length ≤ n.f4.length := by rw [← he]; simp
          refine Ev.step (f := fun k => (pText k x).bind fun t' => if ((txL p).map bA).length < 8796093022208 then print_text.l0 k ((txL p).map bA ++ [t']) (p ++ x :: t) ((p ++ x :: t).length : Int) ((p ++ [x]).length : Int) else none) (fun k => by rw [print_text.l0, if_pos (at_lt p x t), if_pos (at_0 p), if_pos (at_lt p x t), at_rd26, at_next hp]) ?_
          refine Ev.bind (pText_f m x (by omega) (by omega) (.inl hrt.1)) (Ev.ift (by rw [List.length_map, txL_len]; omega) ?_)
          have := ih (p ++ [x]) (by rw [← at_app]; exact he) hrt.2
          rw [← at_app, txL_app, List.map_append] at this
          have e1 : (txL [x]).map bA = [bA (tx x)] := by rw [txL, txL]; rfl
          rw [e1] at this
          exact this
      refine Ev.step (f := fun k => print_text.l0 k [] n.f4 (n.f4.length : Int) 0) (fun k => by show print_text.f (k + 1) _ _ _ _ _ _ _ _ = _; rw [print_text.f, if_neg c1, if_pos c2]) ?_
      have := loop n.f4 [] rfl hL
      rw [txL] at this
      exact this
    rw [if_neg c2]
    by_cases c3 : n.f0 = 3
    · rw [if_pos c3]
      exact Ev.step (f := fun _ => some (bA [46, 46])) (fun k => by show print_text.f (k + 1) _ _ _ _ _ _ _ _ = _; rw [print_text.f, if_neg c1, if_neg c2, if_pos c3]; rfl) (Ev.now _)
    rw [if_neg c3]
    by_cases c4 : n.f0 = 4
    · rw [if_pos c4]
      exact Ev.step (f := fun _ => some (bA [42])) (fun k => by show print_text.f (k + 1) _ _ _ _ _ _ _ _ = _; rw [print_text.f, if_neg c1, if_neg c2, if_neg c3, if_pos c4]; rfl) (Ev.now _)
    rw [if_neg c4]
    have hp := ptTxt_len n.f1
    have ha := markV_len n.f2 63
    have ht := markV_len n.f3 126
    refine Ev.step (fun k => by show print_text.f (k + 1) _ _ _ _ _ _ _ _ = _; rw [print_text.f, if_neg c1, if_neg c2, if_neg c3, if_neg c4]) ?_
    exact Ev.bind (ptText_f n.f1) (Ev.bnow (mark_f _ _ 63 rfl) (Ev.bnow (mark_f _ _ 126 rfl) (Ev.bnow (join3_f _ _ _ (by omega)) (Ev.now _))))
def txV (n : S27) : List UInt8 := if saneV n = true then tx n else []
theorem sane_rt {n : S27} (h : saneV n = true) : nd n ≤ 64 ∧ dp n ≤ 8 ∧ rt n = true := by
  unfold saneV at h
  simp only [Bool.and_eq_true, decide_eq_true_eq] at h
  exact h
theorem pTx_f (n : S27) (hw : wfN n) (hb : nd n ≤ 1048576) : Ev (fun k => pTx k n) (bA (txV n)) := by
  refine Ev.bind (tSane_f n hw (by omega)) ?_
  unfold txV
  cases hv : saneV n with
  | false => exact Ev.iff_ (by simp) (Ev.eq (Ev.now _) rfl)
  | true =>
    refine Ev.ift rfl ?_
    rw [if_pos rfl]
    exact Ev.bind (pText_f _ n (Nat.le_refl _) hb (.inl (sane_rt hv).2.2)) (Ev.now _)
def p11 : S27 := ⟨0, ⟨3, ⟨#[49, 57, 56, 52]⟩, ⟨#[]⟩, ⟨#[]⟩⟩, true, true, []⟩
theorem pv_p11 : ptV p11.f1 = true := by
  show (saneL [49, 57, 56, 52] && (true && (emptyV ⟨#[]⟩ && emptyV ⟨#[]⟩))) = true
  rw [emptyV_nil]; decide
theorem wf_p11 : wfN p11 := wf_leaf _ _ _ _ (by decide) (by decide) (by decide)
theorem endV_p11 : endV p11 = true := by show (true && ptV p11.f1) = true; rw [pv_p11]; rfl
theorem bare_e (k : Int) (l : List S27) : bareV ⟨k, eP, false, false, l⟩ = true := by
  show (true && (emptyV ⟨#[]⟩ && (emptyV ⟨#[]⟩ && emptyV ⟨#[]⟩)) && !false && !false) = true
  rw [emptyV_nil]; decide
theorem ndL_mem {x : S27} : ∀ {l : List S27}, x ∈ l → nd x ≤ ndL l
  | [], h => by cases h
  | y :: l, h => by
    rw [ndL]
    rcases List.mem_cons.1 h with rfl | h
    · omega
    · have := ndL_mem h; omega
def isW (c : UInt8) : Bool := okB c || (c == 45 || (c == 115 || (c == 100 || c == 99)))
def noW : List UInt8 → Prop
  | [] => True
  | c :: _ => isW c = false
theorem any_sane {l : List UInt8} {m : Nat} {i : Int} (h : anyV l i m = true) : l.all okB = true := by
  obtain ⟨n, _, _, hn⟩ := (anyV_iff l m i).1 h
  cases hs : saneL l with
  | true => exact (sane_all hs).1
  | false => rw [refV_sane hs] at hn; cases hn
theorem pt_kinds {p : S24} (h : ptV p = true) : p.f1.data.toList.all okB = true ∧
    (p.f0 = 0 ∧ p.f1.data.toList.length = 4 ∧ p.f2.data.toList.length = 2 ∧ p.f2.data.toList.all okB = true ∧ p.f3.data.toList.length = 2 ∧ p.f3.data.toList.all okB = true
    ∨ p.f0 = 1 ∧ p.f1.data.toList.length = 4 ∧ p.f2.data.toList.length = 2 ∧ p.f2.data.toList.all okB = true ∧ p.f3.data.toList = []
    ∨ p.f0 = 2 ∧ p.f1.data.toList.length = 4 ∧ p.f2.data.toList.length = 1 ∧ p.f2.data.toList.all okB = true ∧ p.f3.data.toList = []
    ∨ p.f0 = 3 ∧ p.f1.data.toList.length = 4 ∧ p.f2.data.toList = [] ∧ p.f3.data.toList = []
    ∨ p.f0 = 4 ∧ p.f1.data.toList.length = 3 ∧ p.f2.data.toList = [] ∧ p.f3.data.toList = []
    ∨ p.f0 = 5 ∧ p.f1.data.toList.length = 2 ∧ p.f2.data.toList = [] ∧ p.f3.data.toList = []) := by
  have em : ∀ {s : ByteArray}, emptyV s = true → s.data.toList = [] := fun {s} h => by
    unfold emptyV at h
    rw [ba_toList] at h
    exact beq_iff_eq.1 h
  unfold ptV at h
  rw [Bool.and_eq_true] at h
  obtain ⟨h1, h2⟩ := h
  refine ⟨(sane_all h1).1, ?_⟩
  by_cases c0 : p.f0 = 0
  · rw [if_pos c0] at h2
    simp only [someV, Bool.and_eq_true, decide_eq_true_eq, bsize] at h2
    exact .inl ⟨c0, by omega, by omega, any_sane h2.2.1.2, by omega, any_sane h2.2.2.2⟩
  rw [if_neg c0] at h2
  by_cases c1 : p.f0 = 1
  · rw [if_pos c1] at h2
    simp only [someV, Bool.and_eq_true, decide_eq_true_eq, bsize] at h2
    exact .inr (.inl ⟨c1, by omega, by omega, any_sane h2.2.1.2, em h2.2.2⟩)
  rw [if_neg c1] at h2
  by_cases c2 : p.f0 = 2
  · rw [if_pos c2] at h2
    simp only [someV, Bool.and_eq_true, decide_eq_true_eq, bsize] at h2
    exact .inr (.inr (.inl ⟨c2, by omega, by omega, any_sane h2.2.1.2, em h2.2.2⟩))
  rw [if_neg c2] at h2
  by_cases c3 : p.f0 = 3
  · rw [if_pos c3] at h2
    simp only [Bool.and_eq_true, decide_eq_true_eq, bsize] at h2
    exact .inr (.inr (.inr (.inl ⟨c3, by omega, em h2.2.1, em h2.2.2⟩)))
  rw [if_neg c3] at h2
  by_cases c4 : p.f0 = 4
  · rw [if_pos c4] at h2
    simp only [Bool.and_eq_true, decide_eq_true_eq, bsize] at h2
    exact .inr (.inr (.inr (.inr (.inl ⟨c4, by omega, em h2.2.1, em h2.2.2⟩))))
  rw [if_neg c4] at h2
  by_cases c5 : p.f0 = 5
  · rw [if_pos c5] at h2
    simp only [Bool.and_eq_true, decide_eq_true_eq, bsize] at h2
    exact .inr (.inr (.inr (.inr (.inr ⟨c5, by omega, em h2.2.1, em h2.2.2⟩))))
  rw [if_neg c5] at h2
  cases h2
theorem S24.ext4 {a b : S24} (h0 : a.f0 = b.f0) (h1 : a.f1.data.toList = b.f1.data.toList) (h2 : a.f2.data.toList = b.f2.data.toList) (h3 : a.f3.data.toList = b.f3.data.toList) : a = b := by
  cases a; cases b
  simp only at h0 h1 h2 h3
  rw [h0, ba_eq h1, ba_eq h2, ba_eq h3]
theorem k0 {p : S24} (h : ptV p = true) (c : p.f0 = 0) : p.f1.data.toList.length = 4 ∧ p.f2.data.toList.length = 2 := by
  obtain ⟨_, hk⟩ := pt_kinds h
  rcases hk with ⟨d, a, b, _⟩ | ⟨d, _⟩ | ⟨d, _⟩ | ⟨d, _⟩ | ⟨d, _⟩ | ⟨d, _⟩ <;> first | exact ⟨a, b⟩ | omega
theorem S27.ext5 {a b : S27} (h0 : a.f0 = b.f0) (h1 : a.f1 = b.f1) (h2 : a.f2 = b.f2) (h3 : a.f3 = b.f3) (h4 : a.f4 = b.f4) : a = b := by
  cases a; cases b
  simp only at h0 h1 h2 h3 h4
  rw [h0, h1, h2, h3, h4]
theorem bare_inj {a b : S27} (ha : bareV a = true) (hb : bareV b = true) (h0 : a.f0 = b.f0) (h4 : a.f4 = b.f4) : a = b := by
  unfold bareV at ha hb
  simp only [Bool.and_eq_true, decide_eq_true_eq, Bool.not_eq_true'] at ha hb
  have em : ∀ {s : ByteArray}, emptyV s = true → s.data.toList = [] := fun {s} h => by
    unfold emptyV at h
    rw [ba_toList] at h
    exact beq_iff_eq.1 h
  obtain ⟨⟨⟨a0, a1, a2, a3⟩, a4⟩, a5⟩ := ha
  obtain ⟨⟨⟨b0, b1, b2, b3⟩, b4⟩, b5⟩ := hb
  have e1 : a.f1 = b.f1 := S24.ext4 (by omega) (by rw [em a1, em b1]) (by rw [em a2, em b2]) (by rw [em a3, em b3])
  exact S27.ext5 h0 e1 (by rw [a4, b4]) (by rw [a5, b5]) h4
theorem end_kinds {n : S27} (h : endV n = true) : n.f4 = [] ∧ (n.f0 = 0 ∧ ptV n.f1 = true ∨ n.f0 = 3 ∧ bareV n = true ∨ n.f0 = 4 ∧ bareV n = true) := by
  unfold endV at h
  rw [Bool.and_eq_true, decide_eq_true_eq] at h
  refine ⟨h.1, ?_⟩
  have h2 := h.2
  by_cases c0 : n.f0 = 0
  · rw [if_pos c0] at h2; exact .inl ⟨c0, h2⟩
  rw [if_neg c0] at h2
  by_cases c3 : n.f0 = 3 ∨ n.f0 = 4
  · rw [if_pos c3] at h2
    rcases c3 with c | c
    · exact .inr (.inl ⟨c, h2⟩)
    · exact .inr (.inr ⟨c, h2⟩)
  · rw [if_neg c3] at h2; cases h2
def sep : List UInt8 → Prop
  | [] => True
  | c :: _ => c = 47 ∨ c = 44 ∨ c = 93
theorem rt_kinds {n : S27} (h : rt n = true) : endV n = true ∧ n.f0 = 0 ∨ (n.f0 = 1 ∧ bareV n = true ∧ ∃ x y, n.f4 = [x, y] ∧ endV x = true ∧ endV y = true ∧ tx n = tx x ++ 47 :: tx y) ∨ (n.f0 = 2 ∧ bareV n = true ∧ n.f4 ≠ [] ∧ rtL n.f4 = true ∧ tx n = 91 :: (Lib.join (txL n.f4) [44, 32] ++ [93])) := by
  rw [rt_eq] at h
  by_cases c0 : n.f0 = 0
  · rw [if_pos c0] at h; exact .inl ⟨h, c0⟩
  rw [if_neg c0] at h
  by_cases c1 : n.f0 = 1
  · rw [if_pos c1, Bool.and_eq_true] at h
    obtain ⟨x, y, e, hx, hy⟩ := two_inv h.2
    exact .inr (.inl ⟨c1, h.1, x, y, e, hx, hy, by rw [tx_eq, if_pos c1, e, txL, txL, txL]; rfl⟩)
  rw [if_neg c1] at h
  by_cases c2 : n.f0 = 2
  · rw [if_pos c2] at h
    simp only [Bool.and_eq_true, decide_eq_true_eq] at h
    exact .inr (.inr ⟨c2, h.1, h.2.1, h.2.2, by rw [tx_eq, if_neg c1, if_pos c2]⟩)
  rw [if_neg c2] at h
  cases h
def nb (l : List UInt8) : List Int := l.map fun b => (b.toNat : Int)
theorem ext_bA (p l r : List UInt8) : (bA (p ++ (l ++ r))).extract p.length (p.length + l.length) = bA l := ba_eq (by
  rw [ByteArray.data_extract, Array.toList_extract, bA_data]
  simp [List.extract]
  rfl)
theorem ext_end (p r : List UInt8) : (bA (p ++ r)).extract p.length (bA (p ++ r)).size = bA r := ba_eq (by
  rw [ByteArray.data_extract, Array.toList_extract, bA_data, bA_size]
  simp [List.extract]
  rfl)
theorem bt_mid (p : List UInt8) (c : UInt8) (r : List UInt8) : bt (bA (p ++ c :: r)) (p.length : Int) = (c.toNat : Int) := by
  rw [bt_list _ _ (by rw [bA_data]; simp)]
  simp [bA_data]
theorem index_mem : ∀ (l : List UInt8) (c : UInt8), (Lib.indexByte l c = -1 ∨ 0 ≤ Lib.indexByte l c) ∧ (0 ≤ Lib.indexByte l c ↔ c ∈ l)
  | [], c => by simp [Lib.indexByte]
  | b :: l, c => by
    obtain ⟨h1, h2⟩ := index_mem l c
    rw [Lib.indexByte]
    by_cases e : b = c
    · subst e; simp
    · have e' : (b == c) = false := by simpa using e
      rw [e', List.mem_cons]
      simp only [Bool.false_eq_true, if_false, beq_iff_eq]
      have e2 : ¬ c = b := fun h => e h.symm
      rcases h1 with h1 | h1
      · rw [if_pos h1]
        have h3 : ¬ c ∈ l := fun hc => by have := h2.2 hc; omega
        exact ⟨.inl rfl, by simp [e2, h3]⟩
      · rw [if_neg (by omega)]
        have h3 : c ∈ l := h2.1 h1
        exact ⟨.inr (by omega), by simp [h3]; omega⟩
def lettersL : List UInt8 := [48, 49, 50, 51, 52, 53, 54, 55, 56, 57, 88, 45, 115, 100, 99]
theorem letters_W (c : UInt8) : c ∈ lettersL ↔ isW c = true := by
  have e : ∀ n : Nat, n < 256 → (UInt8.ofNat n ∈ lettersL ↔ isW (UInt8.ofNat n) = true) := by decide +kernel
  have := e c.toNat c.toNat_lt
  rwa [UInt8.ofNat_toNat] at this
theorem index_W (c : UInt8) : ∃ v, strings_IndexByte.f (⟨#[48, 49, 50, 51, 52, 53, 54, 55, 56, 57, 88, 45, 115, 100, 99]⟩ : ByteArray) (c.toNat : Int) = some v ∧ (v ≥ 0 ↔ isW c = true) := by
  refine ⟨_, rfl, ?_⟩
  have e : ((c.toNat : Int).toNat.toUInt8) = c := u8eq (by simp)
  rw [e]
  have := (index_mem lettersL c).2
  rw [letters_W] at this
  exact this
theorem word_l0 : ∀ (l p : List UInt8), (p ++ l).length ≤ 4611686018427387904 → Ev (fun k => lex_word.l0 k (bA (p ++ l)) (p.length : Int)) (((p.length + (l.takeWhile isW).length : Nat)) : Int)
  | [], p, h => Ev.step (f := fun _ => some ((p.length : Nat) : Int)) (fun k => by rw [lex_word.l0, if_neg (by rw [bA_size]; simp)]) (Ev.eq (Ev.now _) (by simp))
  | c :: l, p, h => by
    obtain ⟨v, hv, hw⟩ := index_W c
    have hlt : (p.length : Int) < ((bA (p ++ c :: l)).size : Int) := by rw [bA_size, List.length_append, List.length_cons]; omega
    refine Ev.step (f := fun k => if v ≥ 0 then lex_word.l0 k (bA (p ++ c :: l)) ((p ++ [c]).length : Int) else some (p.length : Int)) (fun k => by rw [lex_word.l0, if_pos hlt, if_pos (by omega), bt_mid, hv, Option.bind_some, at_next h]) ?_
    by_cases hc : isW c = true
    · refine Ev.ift (hw.2 hc) ?_
      have := word_l0 l (p ++ [c]) (by rw [← at_app]; exact h)
      rw [← at_app] at this
      refine Ev.eq this ?_
      rw [List.takeWhile_cons, if_pos hc, List.length_append, List.length_cons, List.length_cons, List.length_nil]
      omega
    · refine Ev.iff_ (fun h => hc (hw.1 h)) (Ev.eq (Ev.now _) ?_)
      rw [List.takeWhile_cons, if_neg hc]; simp
theorem word_f (l : List UInt8) (h : l.length ≤ 4611686018427387904) : Ev (fun k => lex_word.f k (bA l)) ((l.takeWhile isW).length : Int) := by
  have := word_l0 l [] (by simpa using h)
  rw [List.nil_append] at this
  exact Ev.eq this (by simp)
theorem prefix_f (l u : List UInt8) : strings_HasPrefix.f (bA l) (bA u) = some (u.isPrefixOf l) := by
  unfold strings_HasPrefix.f stringslite_HasPrefix.f
  rw [bA_size, bA_size]
  by_cases c : u.length ≤ l.length
  · rw [if_pos (by omega), if_pos (by omega), if_pos (by omega)]
    simp only [Option.bind_some, Option.some.injEq]
    rw [ba_toList, ByteArray.data_extract, Array.toList_extract, bA_data, bA_toList]
    simp only [Int.toNat_natCast, List.extract, Nat.sub_zero, List.drop_zero]
    rw [Bool.eq_iff_iff, beq_iff_eq, List.isPrefixOf_iff_prefix, List.prefix_iff_eq_take]
    exact ⟨fun h => h.symm, fun h => h.symm⟩
  · rw [if_neg (by omega)]
    simp only [Option.bind_some, Option.some.injEq]
    symm
    rw [Bool.eq_false_iff]
    intro h
    have := (List.isPrefixOf_iff_prefix.1 h).length_le
    omega
inductive It where
  | w (l : List UInt8)
  | s (k : Int) (c : UInt8)
  | d
  | b
def It.tx : It → List UInt8
  | .w l => l
  | .s _ c => [c]
  | .d => [46, 46]
  | .b => [32]
def flatT : List It → List UInt8
  | [] => []
  | i :: r => i.tx ++ flatT r
theorem flatT_app : ∀ l u : List It, flatT (l ++ u) = flatT l ++ flatT u
  | [], u => rfl
  | i :: l, u => by rw [List.cons_append, flatT, flatT, flatT_app l u, List.append_assoc]
def stopI : List It → Prop
  | .w _ :: _ => False
  | .b :: _ => False
  | _ => True
def okI : List It → Prop
  | [] => True
  | .w l :: r => l ≠ [] ∧ l.all isW = true ∧ stopI r ∧ okI r
  | .s k c :: r => signK (c.toNat : Int) = k ∧ signB (c.toNat : Int) = true ∧ okI r
  | .d :: r => okI r
  | .b :: r => okI r
theorem sign_noW {c : UInt8} (h : signB (c.toNat : Int) = true) : isW c = false := by
  have e : ∀ n : Nat, n < 256 → signB ((UInt8.ofNat n).toNat : Int) = true → isW (UInt8.ofNat n) = false := by decide +kernel
  have := e c.toNat c.toNat_lt
  rw [UInt8.ofNat_toNat] at this
  exact this h
theorem stop_noW : ∀ {r : List It}, stopI r → okI r → noW (flatT r)
  | [], _, _ => trivial
  | .w _ :: _, h, _ => h.elim
  | .b :: _, h, _ => h.elim
  | .s k c :: r, _, h => sign_noW h.2.1
  | .d :: r, _, _ => by show isW 46 = false; decide
theorem take_W : ∀ (l r : List UInt8), l.all isW = true → noW r → (l ++ r).takeWhile isW = l
  | [], [], _, _ => rfl
  | [], c :: r, _, h => by rw [List.nil_append, List.takeWhile_cons]; simp only [noW] at h; rw [h]; rfl
  | c :: l, r, hl, h => by
    rw [List.all_cons, Bool.and_eq_true] at hl
    rw [List.cons_append, List.takeWhile_cons, if_pos hl.1, take_W l r hl.2 h]
def e0 : ByteArray := ⟨#[]⟩
def It.tok (p : Nat) : It → List S48
  | .w l => [⟨0, (p : Int), bA l⟩]
  | .s k _ => [⟨k, (p : Int), e0⟩]
  | .d => [⟨2, (p : Int), e0⟩]
  | .b => []
def toks : Nat → List It → List S48
  | _, [] => []
  | p, i :: r => i.tok p ++ toks (p + i.tx.length) r
theorem toks_app : ∀ (p : Nat) (l u : List It), toks p (l ++ u) = toks p l ++ toks (p + (flatT l).length) u
  | p, [], u => by simp [toks, flatT]
  | p, i :: l, u => by rw [List.cons_append, toks, toks, flatT, toks_app, List.append_assoc, List.length_append, Nat.add_assoc]
def endT (n : Nat) : S48 := ⟨9, (n : Int), e0⟩
theorem lex_l0 : ∀ (its : List It) (p : List UInt8) (acc : List S48), okI its → (p ++ flatT its).length ≤ 1000000 → acc.length ≤ p.length →
    Ev (fun k => lex_All.l0 k (bA (p ++ flatT its)) acc (p.length : Int)) (acc ++ toks p.length its ++ [endT (p ++ flatT its).length], ((p ++ flatT its).length : Int), 0)
  | [], p, acc, _, hn, ha => by
    refine Ev.step (f := fun _ => some (acc ++ toks p.length [] ++ [endT (p ++ flatT []).length], ((p ++ flatT []).length : Int), 0)) (fun k => ?_) (Ev.now _)
    rw [lex_All.l0, bA_size, if_neg (by simp [flatT]), if_pos (by simp [flatT] at hn; omega)]
    simp only [toks, List.append_nil]
    rfl
  | i :: r, p, acc, hok, hn, ha => by
    rw [flatT] at hn ⊢
    rw [toks]
    have hlen : p.length + i.tx.length + (flatT r).length ≤ 1000000 := by simp only [List.length_append] at hn; omega
    have hhead : ∃ c l, i.tx ++ flatT r = c :: l := by
      cases i with
      | w l => obtain ⟨h1, _⟩ := hok; cases l with
        | nil => exact absurd rfl h1
        | cons c l => exact ⟨c, _, rfl⟩
      | s k c => exact ⟨c, _, rfl⟩
      | d => exact ⟨46, _, rfl⟩
      | b => exact ⟨32, _, rfl⟩
    obtain ⟨c, l, hcl⟩ := hhead
    have hbt : bt (bA (p ++ (i.tx ++ flatT r))) (p.length : Int) = (c.toNat : Int) := by rw [hcl, bt_mid]
    have hsz : ((bA (p ++ (i.tx ++ flatT r))).size : Int) = ((p ++ (i.tx ++ flatT r)).length : Nat) := by rw [bA_size]
    have hlt : (p.length : Int) < ((bA (p ++ (i.tx ++ flatT r))).size : Int) := by rw [hsz, hcl, List.length_append, List.length_cons]; omega
    have hext : (bA (p ++ (i.tx ++ flatT r))).extract ((p.length : Int)).toNat (bA (p ++ (i.tx ++ flatT r))).size = bA (i.tx ++ flatT r) := by rw [Int.toNat_natCast]; exact ext_end p _
    have next : ∀ (its' : List It) (acc' : List S48), okI r → acc'.length ≤ p.length + i.tx.length → Ev (fun k => lex_All.l0 k (bA (p ++ (i.tx ++ flatT r))) acc' ((p.length : Int) + (i.tx.length : Int))) (acc' ++ toks (p.length + i.tx.length) r ++ [endT (p ++ (i.tx ++ flatT r)).length], ((p ++ (i.tx ++ flatT r)).length : Int), 0) := fun _ acc' hr ha' => by
      have := lex_l0 r (p ++ i.tx) acc' hr (by simp only [List.length_append]; omega) (by rw [List.length_append]; exact ha')
      have e3 : ((p ++ i.tx).length : Int) = (p.length : Int) + (i.tx.length : Int) := by rw [List.length_append]; omega
      rw [e3, List.append_assoc p, List.length_append] at this
      exact this
    have hstep : ∀ k, lex_All.l0 (k + 1) (bA (p ++ (i.tx ++ flatT r))) acc (p.length : Int) = (lex_word.f k (bA (i.tx ++ flatT r))).bind fun t274 => (if t274 > 0 then (if (p.length : Int) ≤ (wrap64 ((p.length : Int) + t274)) then (if (wrap64 ((p.length : Int) + t274)) ≤ ((bA (p ++ (i.tx ++ flatT r))).size : Int) then (if acc.length < 4398046511104 then (lex_All.l0 k (bA (p ++ (i.tx ++ flatT r))) (acc ++ [(⟨0, (p.length : Int), (bA (p ++ (i.tx ++ flatT r))).extract ((p.length : Int)).toNat ((wrap64 ((p.length : Int) + t274)) : Int).toNat⟩ : S48)]) (wrap64 ((p.length : Int) + t274))) else (none)) else (none)) else (none)) else (if signB (c.toNat : Int) = true then (if acc.length < 4398046511104 then (lex_All.l0 k (bA (p ++ (i.tx ++ flatT r))) (acc ++ [(⟨signK (c.toNat : Int), (p.length : Int), (⟨#[]⟩ : ByteArray)⟩ : S48)]) (wrap64 ((p.length : Int) + 1))) else (none)) else (if ([46, 46] : List UInt8).isPrefixOf (i.tx ++ flatT r) = true then (if acc.length < 4398046511104 then (lex_All.l0 k (bA (p ++ (i.tx ++ flatT r))) (acc ++ [(⟨2, (p.length : Int), (⟨#[]⟩ : ByteArray)⟩ : S48)]) (wrap64 ((p.length : Int) + 2))) else (none)) else (if (c.toNat : Int) = 32 then (lex_All.l0 k (bA (p ++ (i.tx ++ flatT r))) acc (wrap64 ((p.length : Int) + 1))) else (some (([] : List S48), (p.length : Int), 1)))))) := fun k => by
      have hp := prefix_f (i.tx ++ flatT r) [46, 46]
      rw [lex_All.l0, if_pos hlt, if_pos (by omega), hbt, hext]
      simp only [lex_signs.f, Option.bind_some]
      rw [if_pos (by omega)]
      have e1 : (⟨#[46, 46]⟩ : ByteArray) = bA [46, 46] := rfl
      rw [e1, hp]
      rfl
    have W : ∀ n : Nat, n ≤ 1000000 → wrap64 ((p.length : Int) + (n : Int)) = (p.length : Int) + (n : Int) := fun n h => w64 (by omega) (by omega)
    have w1 := W 1 (by omega)
    have w2 := W 2 (by omega)
    have n1 := Aside0.mk w1
    have n2 := Aside0.mk w2
    clear w1 w2
    have hword := word_f (i.tx ++ flatT r) (by rw [List.length_append]; omega)
    refine Ev.step hstep (Ev.bind hword ?_)
    cases i with
    | w u =>
      obtain ⟨h1, h2, h3, h4⟩ := hok
      have hu := List.length_pos_iff.2 h1
      have e1 : ((It.w u).tx ++ flatT r).takeWhile isW = u := take_W u _ h2 (stop_noW h3 h4)
      rw [e1]
      rw [W u.length (by simp only [It.tx] at hlen; omega)]
      refine Ev.ift (by omega) (Ev.ift (by omega) (Ev.ift (by rw [bA_size]; simp only [It.tx, List.length_append]; omega) (Ev.ift (by simp only [It.tx] at hlen; omega) ?_)))
      have e2 : (bA (p ++ ((It.w u).tx ++ flatT r))).extract ((p.length : Int)).toNat ((p.length : Int) + (u.length : Int)).toNat = bA u := by
        have : ((p.length : Int) + (u.length : Int)).toNat = p.length + u.length := by omega
        rw [Int.toNat_natCast, this]
        exact ext_bA p u _
      rw [e2]
      have := next [] (acc ++ [⟨0, (p.length : Int), bA u⟩]) h4 (by simp only [It.tx, List.length_append, List.length_cons, List.length_nil]; omega)
      simp only [List.append_assoc] at this ⊢
      exact this
    | s k d =>
      obtain ⟨h1, h2, h3⟩ := hok
      injection hcl with hc _
      subst hc
      have e1 : ((It.s k d).tx ++ flatT r).takeWhile isW = [] := take_W [] _ rfl (sign_noW h2)
      rw [e1]
      refine Ev.iff_ (by simp) (Ev.ift h2 (Ev.ift (by omega) ?_))
      rw [h1]
      rw [show wrap64 ((p.length : Int) + 1) = (p.length : Int) + 1 from n1.out]
      have := next [] (acc ++ [⟨k, (p.length : Int), e0⟩]) h3 (by simp only [It.tx, List.length_append, List.length_cons, List.length_nil]; omega)
      simp only [List.append_assoc] at this ⊢
      exact this
    | d =>
      injection hcl with hc _
      subst hc
      have e1 : (It.d.tx ++ flatT r).takeWhile isW = [] := take_W [] _ rfl (show isW 46 = false by decide)
      rw [e1]
      refine Ev.iff_ (by simp) (Ev.iff_ (by decide) (Ev.ift (by simp [It.tx, List.isPrefixOf]) (Ev.ift (by omega) ?_)))
      rw [show wrap64 ((p.length : Int) + 2) = (p.length : Int) + 2 from n2.out]
      have := next [] (acc ++ [⟨2, (p.length : Int), e0⟩]) hok (by simp only [It.tx, List.length_append, List.length_cons, List.length_nil]; omega)
      simp only [List.append_assoc] at this ⊢
      exact this
    | b =>
      injection hcl with hc _
      subst hc
      have e1 : (It.b.tx ++ flatT r).takeWhile isW = [] := take_W [] _ rfl (show isW 32 = false by decide)
      rw [e1]
      refine Ev.iff_ (by simp) (Ev.iff_ (by decide) (Ev.iff_ (by simp [It.tx, List.isPrefixOf]) (Ev.ift (by decide) ?_)))
      rw [show wrap64 ((p.length : Int) + 1) = (p.length : Int) + 1 from n1.out]
      have := next [] acc hok (by simp only [It.tx, List.length_cons, List.length_nil]; omega)
      exact this
theorem lex_f (its : List It) (h : okI its) (hn : (flatT its).length ≤ 2000) : Ev (fun k => lex_All.f k (bA (flatT its))) (toks 0 its ++ [endT (flatT its).length], ((flatT its).length : Int), 0) := by
  refine Ev.iff_ (by rw [bA_size]; omega) ?_
  have := lex_l0 its [] [] h (by simpa using Nat.le_trans hn (by omega)) (Nat.le_refl _)
  simpa using this
def spanI : List (List It) → List It
  | x :: y :: _ => x ++ .s 1 47 :: y
  | _ => []
def markI (a : Bool) (k : Int) (c : UInt8) : List It := if a = true then [.s k c] else []
def joinI : List (List It) → List It
  | [] => []
  | [x] => x
  | x :: y :: r => x ++ .s 6 44 :: .b :: joinI (y :: r)
mutual
def it : S27 → List It
  | ⟨k, p, a, t, l⟩ => if k = 1 then spanI (itL l) else if k = 2 then .s 4 91 :: (joinI (itL l) ++ [.s 5 93]) else if k = 3 then [.d] else if k = 4 then [.s 3 42] else .w (ptTxt p) :: (markI a 7 63 ++ markI t 8 126)
def itL : List S27 → List (List It)
  | [] => []
  | x :: l => it x :: itL l
end
theorem it_eq (n : S27) : it n = if n.f0 = 1 then spanI (itL n.f4) else if n.f0 = 2 then .s 4 91 :: (joinI (itL n.f4) ++ [.s 5 93]) else if n.f0 = 3 then [.d] else if n.f0 = 4 then [.s 3 42] else .w (ptTxt n.f1) :: (markI n.f2 7 63 ++ markI n.f3 8 126) := by cases n; rw [it]
def lastW (p : List S48) : Bool := match p.getLast? with
  | some t => decide (t.f0 = 0)
  | none => false
theorem index_no : ∀ (l : List UInt8) (c : UInt8), c ∉ l → Lib.indexByte l c = -1
  | [], c, _ => by simp [Lib.indexByte]
  | b :: l, c, h => by
    rw [List.mem_cons, not_or] at h
    have e : (b == c) = false := by simpa using Ne.symm h.1
    rw [Lib.indexByte, e, index_no l c h.2]; rfl
theorem index_yes : ∀ (a b : List UInt8) (c : UInt8), c ∉ a → Lib.indexByte (a ++ c :: b) c = (a.length : Int)
  | [], b, c, _ => by simp [Lib.indexByte]
  | x :: a, b, c, h => by
    rw [List.mem_cons, not_or] at h
    have e : (x == c) = false := by simpa using Ne.symm h.1
    rw [List.cons_append, Lib.indexByte, e, index_yes a b c h.2]
    simp only [Bool.false_eq_true, if_false, List.length_cons, beq_iff_eq]
    rw [if_neg (by omega)]; omega
theorem sep_f (s : ByteArray) (c : UInt8) : stringslite_Index.f s (bA [c]) = some (Lib.indexByte s.data.toList c) := by
  have e : (bt (bA [c]) 0).toNat.toUInt8 = c := by
    have h : bt (bA [c]) 0 = (c.toNat : Int) := bt_mid [] c []
    rw [h]; exact u8eq (by simp)
  unfold stringslite_Index.f
  rw [if_pos (show (bA [c]).size = 1 from bA_size [c]), e]
theorem ext_to (a b : List UInt8) : (bA (a ++ b)).extract 0 a.length = bA a := by have := ext_bA [] a b; simpa using this
theorem Cut_no (l : List UInt8) (c : UInt8) (h : c ∉ l) : strings_Cut.f (bA l) (bA [c]) = some (bA l, e0, false) := by
  have e : stringslite_Cut.f (bA l) (bA [c]) = some (bA l, e0, false) := by
    unfold stringslite_Cut.f
    rw [sep_f, bA_data, index_no l c h]
    rfl
  unfold strings_Cut.f
  rw [e]; rfl
theorem Cut_yes (a b : List UInt8) (c : UInt8) (h : c ∉ a) (hl : (a ++ c :: b).length ≤ 4611686018427387904) : strings_Cut.f (bA (a ++ c :: b)) (bA [c]) = some (bA a, bA b, true) := by
  have e : stringslite_Cut.f (bA (a ++ c :: b)) (bA [c]) = some (bA a, bA b, true) := by
    unfold stringslite_Cut.f
    rw [sep_f, bA_data, index_yes a b c h]
    have hl' : (a ++ c :: b).length = a.length + (b.length + 1) := by simp
    have w : wrap64 ((a.length : Int) + ((bA [c]).size : Int)) = (a.length : Int) + 1 := by rw [bA_size, show (([c] : List UInt8).length : Int) = 1 from rfl]; exact w64 (by omega) (by omega)
    simp only [Option.bind_some]
    rw [w, bA_size (a ++ c :: b), if_pos (by omega), if_pos (by omega), if_pos (by omega), if_pos (by omega), if_pos (by omega), Int.toNat_natCast, ext_to]
    have e2 : ((a.length : Int) + 1).toNat = (a ++ [c]).length := by rw [List.length_append]; simp
    have e3 : (bA (a ++ c :: b)).extract ((a.length : Int) + 1).toNat (a ++ c :: b).length = bA b := by
      have := ext_end (a ++ [c]) b
      rw [bA_size, List.append_assoc] at this
      rw [e2]; exact this
    rw [e3]
  unfold strings_Cut.f
  rw [e]; rfl
theorem HasS_yes (a : List UInt8) (c : UInt8) (hl : (a ++ [c]).length ≤ 4611686018427387904) : stringslite_HasSuffix.f (bA (a ++ [c])) (bA [c]) = some true := by
  have hl' : (a ++ [c]).length = a.length + 1 := by simp
  have w : wrap64 (((bA (a ++ [c])).size : Int) - ((bA [c]).size : Int)) = (a.length : Int) := by rw [bA_size, bA_size, hl', show (([c] : List UInt8).length : Int) = 1 from rfl, w64 (by omega) (by omega)]; omega
  unfold stringslite_HasSuffix.f
  rw [w, if_pos (by rw [bA_size, bA_size]; simp; omega), if_pos (by omega), if_pos (by rw [bA_size]; omega), Int.toNat_natCast, ext_end]
  simp
theorem HasS_no (l : List UInt8) (c : UInt8) (h : ∀ a, l ≠ a ++ [c]) (hl : l.length ≤ 4611686018427387904) : stringslite_HasSuffix.f (bA l) (bA [c]) = some false := by
  unfold stringslite_HasSuffix.f
  by_cases h0 : l = []
  · subst h0; rfl
  · obtain ⟨a, x, rfl⟩ : ∃ a x, l = a ++ [x] := ⟨_, _, (List.dropLast_concat_getLast h0).symm⟩
    have hl' : (a ++ [x]).length = a.length + 1 := by simp
    have w : wrap64 (((bA (a ++ [x])).size : Int) - ((bA [c]).size : Int)) = (a.length : Int) := by rw [bA_size, bA_size, hl', show (([c] : List UInt8).length : Int) = 1 from rfl, w64 (by omega) (by omega)]; omega
    rw [w, if_pos (by rw [bA_size, bA_size]; simp; omega), if_pos (by omega), if_pos (by rw [bA_size]; omega), Int.toNat_natCast, ext_end]
    have hx : ¬ x = c := fun e => h a (by rw [e])
    rw [bA_toList, bA_toList]
    simp [hx]
theorem CutS_yes (a : List UInt8) (c : UInt8) (hl : (a ++ [c]).length ≤ 4611686018427387904) : strings_CutSuffix.f (bA (a ++ [c])) (bA [c]) = some (bA a, true) := by
  have hl' : (a ++ [c]).length = a.length + 1 := by simp
  have w : wrap64 (((bA (a ++ [c])).size : Int) - ((bA [c]).size : Int)) = (a.length : Int) := by rw [bA_size, bA_size, hl', show (([c] : List UInt8).length : Int) = 1 from rfl, w64 (by omega) (by omega)]; omega
  have e : stringslite_CutSuffix.f (bA (a ++ [c])) (bA [c]) = some (bA a, true) := by
    unfold stringslite_CutSuffix.f
    rw [HasS_yes a c hl]
    simp only [Option.bind_some, if_true]
    rw [w, if_pos (by omega), if_pos (by rw [bA_size]; omega), Int.toNat_natCast, ext_to]
  unfold strings_CutSuffix.f
  rw [e]; rfl
theorem CutS_no (l : List UInt8) (c : UInt8) (h : ∀ a, l ≠ a ++ [c]) (hl : l.length ≤ 4611686018427387904) : strings_CutSuffix.f (bA l) (bA [c]) = some (bA l, false) := by
  have e : stringslite_CutSuffix.f (bA l) (bA [c]) = some (bA l, false) := by
    unfold stringslite_CutSuffix.f
    rw [HasS_no l c h hl]; rfl
  unfold strings_CutSuffix.f
  rw [e]; rfl
abbrev gsV (l : List UInt8) : Option (Int × ByteArray × ByteArray × ByteArray) := point_guess.f (bA l)
theorem guess_any (l : List UInt8) (hl : l.length ≤ 4611686018427387904) : ∃ p : S24, gsV l = some (p.f0, p.f1, p.f2, p.f3) ∧ ptRaw p = l := by
  unfold gsV point_guess.f
  rw [show (⟨#[100]⟩ : ByteArray) = bA [100] from rfl, show (⟨#[99]⟩ : ByteArray) = bA [99] from rfl, show (⟨#[115]⟩ : ByteArray) = bA [115] from rfl, show (⟨#[45]⟩ : ByteArray) = bA [45] from rfl]
  by_cases h1 : ∃ a, l = a ++ [100]
  · obtain ⟨a, rfl⟩ := h1
    rw [CutS_yes a 100 hl]
    exact ⟨⟨4, bA a, e0, e0⟩, rfl, rfl⟩
  rw [CutS_no l 100 (fun a h => h1 ⟨a, h⟩) hl]
  by_cases h2 : ∃ a, l = a ++ [99]
  · obtain ⟨a, rfl⟩ := h2
    rw [CutS_yes a 99 hl]
    exact ⟨⟨5, bA a, e0, e0⟩, rfl, rfl⟩
  rw [CutS_no l 99 (fun a h => h2 ⟨a, h⟩) hl]
  by_cases h3 : (115 : UInt8) ∈ l
  · obtain ⟨a, b, rfl, ha⟩ := List.eq_append_cons_of_mem h3
    rw [Cut_yes a b 115 ha hl]
    exact ⟨⟨2, bA a, bA b, e0⟩, rfl, rfl⟩
  rw [Cut_no l 115 h3]
  by_cases h4 : (45 : UInt8) ∈ l
  · obtain ⟨a, b, rfl, ha⟩ := List.eq_append_cons_of_mem h4
    rw [Cut_yes a b 45 ha hl]
    simp only [Option.bind_some, if_true, if_false, Bool.false_eq_true]
    by_cases h5 : (45 : UInt8) ∈ b
    · obtain ⟨c, d, rfl, hc⟩ := List.eq_append_cons_of_mem h5
      rw [Cut_yes c d 45 hc (by simp only [List.length_append, List.length_cons] at hl ⊢; omega)]
      exact ⟨⟨0, bA a, bA c, bA d⟩, rfl, rfl⟩
    · rw [Cut_no b 45 h5]
      exact ⟨⟨1, bA a, bA b, e0⟩, rfl, rfl⟩
  · rw [Cut_no l 45 h4]
    exact ⟨⟨3, bA l, e0, e0⟩, rfl, rfl⟩
theorem ok_not {l : List UInt8} (h : l.all okB = true) (c : UInt8) (hc : okB c = false) : c ∉ l := fun hm => by
  rw [List.all_eq_true] at h
  rw [h c hm] at hc; cases hc
theorem not_end {u v : List UInt8} {c : UInt8} (hv : v ≠ []) (hc : c ∉ v) (a : List UInt8) : u ++ v ≠ a ++ [c] := fun h => by
  obtain ⟨w, x, rfl⟩ : ∃ w x, v = w ++ [x] := ⟨_, _, (List.dropLast_concat_getLast hv).symm⟩
  rw [← List.append_assoc] at h
  have e := (List.append_inj' h rfl).2
  injection e with e _
  exact hc (by rw [e]; simp)
theorem guess_raw (q : S24) (hq : ptV q = true) : gsV (ptRaw q) = some (q.f0, q.f1, q.f2, q.f3) := by
  obtain ⟨hY, hk⟩ := pt_kinds hq
  unfold gsV point_guess.f ptRaw
  rw [show (⟨#[100]⟩ : ByteArray) = bA [100] from rfl, show (⟨#[99]⟩ : ByteArray) = bA [99] from rfl, show (⟨#[115]⟩ : ByteArray) = bA [115] from rfl, show (⟨#[45]⟩ : ByteArray) = bA [45] from rfl]
  obtain ⟨k, y, m, d⟩ := q
  simp only at hY hk ⊢
  have n1 := ok_not hY 100 (by decide)
  have n2 := ok_not hY 99 (by decide)
  have n3 := ok_not hY 115 (by decide)
  have n4 := ok_not hY 45 (by decide)
  have eE : ∀ s : ByteArray, s.data.toList = [] → s = e0 := fun s h => ba_eq (by rw [h]; rfl)
  have L : ∀ l : List UInt8, l.length ≤ 100 → l.length ≤ 4611686018427387904 := fun _ h => by omega
  rcases hk with ⟨rfl, ly, lm, am, ld, ad⟩ | ⟨rfl, ly, lm, am, ld⟩ | ⟨rfl, ly, lm, am, ld⟩ | ⟨rfl, ly, lm, ld⟩ | ⟨rfl, ly, lm, ld⟩ | ⟨rfl, ly, lm, ld⟩
  · rw [if_pos rfl]
    have hd : d.data.toList ≠ [] := fun h => by rw [h] at ld; cases ld
    have S : ∀ c : UInt8, okB c = false → ∀ a, y.data.toList ++ 45 :: (m.data.toList ++ 45 :: d.data.toList) ≠ a ++ [c] := fun c hc a => by
      have := not_end (u := y.data.toList ++ 45 :: (m.data.toList ++ [45])) hd (ok_not ad c hc) a
      simpa using this
    have Ln : (y.data.toList ++ 45 :: (m.data.toList ++ 45 :: d.data.toList)).length ≤ 100 := by simp only [List.length_append, List.length_cons]; omega
    rw [CutS_no _ 100 (S 100 (by decide)) (L _ Ln), Option.bind_some, CutS_no _ 99 (S 99 (by decide)) (L _ Ln), Option.bind_some, Cut_no _ 115 (by simp [n3, ok_not am 115 (by decide), ok_not ad 115 (by decide)]), Option.bind_some, Cut_yes _ _ 45 n4 (L _ Ln), Option.bind_some]
    simp only [if_true, if_false, Bool.false_eq_true]
    rw [Cut_yes _ _ 45 (ok_not am 45 (by decide)) (L _ (by simp only [List.length_append, List.length_cons]; omega))]
    simp only [Option.bind_some, if_true, bA_mk]
  · rw [if_neg (by decide), if_pos rfl]
    have hd : m.data.toList ≠ [] := fun h => by rw [h] at lm; cases lm
    have S : ∀ c : UInt8, okB c = false → ∀ a, y.data.toList ++ 45 :: m.data.toList ≠ a ++ [c] := fun c hc a => by
      have := not_end (u := y.data.toList ++ [45]) hd (ok_not am c hc) a
      simpa using this
    have Ln : (y.data.toList ++ 45 :: m.data.toList).length ≤ 100 := by simp only [List.length_append, List.length_cons]; omega
    rw [CutS_no _ 100 (S 100 (by decide)) (L _ Ln), Option.bind_some, CutS_no _ 99 (S 99 (by decide)) (L _ Ln), Option.bind_some, Cut_no _ 115 (by simp [n3, ok_not am 115 (by decide)]), Option.bind_some, Cut_yes _ _ 45 n4 (L _ Ln), Option.bind_some]
    simp only [if_true, if_false, Bool.false_eq_true]
    rw [Cut_no _ 45 (ok_not am 45 (by decide)), eE d ld]
    simp only [Option.bind_some, if_true, if_false, Bool.false_eq_true, bA_mk]
    rfl
  · rw [if_neg (by decide), if_neg (by decide), if_pos rfl]
    have hd : m.data.toList ≠ [] := fun h => by rw [h] at lm; cases lm
    have S : ∀ c : UInt8, okB c = false → ∀ a, y.data.toList ++ 115 :: m.data.toList ≠ a ++ [c] := fun c hc a => by
      have := not_end (u := y.data.toList ++ [115]) hd (ok_not am c hc) a
      simpa using this
    have Ln : (y.data.toList ++ 115 :: m.data.toList).length ≤ 100 := by simp only [List.length_append, List.length_cons]; omega
    rw [CutS_no _ 100 (S 100 (by decide)) (L _ Ln), Option.bind_some, CutS_no _ 99 (S 99 (by decide)) (L _ Ln), Option.bind_some, Cut_yes _ _ 115 n3 (L _ Ln), Option.bind_some, eE d ld]
    simp only [if_true, if_false, Bool.false_eq_true, bA_mk]
    rfl
  · rw [if_neg (by decide), if_neg (by decide), if_neg (by decide), if_neg (by decide), if_neg (by decide)]
    have hd : y.data.toList ≠ [] := fun h => by rw [h] at ly; cases ly
    have Ln : y.data.toList.length ≤ 100 := by omega
    have S : ∀ c : UInt8, okB c = false → ∀ a, y.data.toList ≠ a ++ [c] := fun c hc a => not_end (u := []) hd (ok_not hY c hc) a
    rw [CutS_no _ 100 (S 100 (by decide)) (L _ Ln), Option.bind_some, CutS_no _ 99 (S 99 (by decide)) (L _ Ln), Option.bind_some, Cut_no _ 115 n3, Option.bind_some, Cut_no _ 45 n4, eE d ld, eE m lm]
    simp only [Option.bind_some, if_true, if_false, Bool.false_eq_true, bA_mk]
    rfl
  · rw [if_neg (by decide), if_neg (by decide), if_neg (by decide), if_pos rfl]
    rw [CutS_yes _ 100 (L _ (by simp only [List.length_append, List.length_cons, List.length_nil]; omega)), eE d ld, eE m lm]
    simp only [Option.bind_some, if_true, bA_mk]
    rfl
  · rw [if_neg (by decide), if_neg (by decide), if_neg (by decide), if_neg (by decide), if_pos rfl]
    have S : ∀ a, y.data.toList ++ [99] ≠ a ++ [100] := fun a => not_end (by simp) (by decide) a
    have Ln : (y.data.toList ++ [99]).length ≤ 100 := by simp only [List.length_append, List.length_cons, List.length_nil]; omega
    rw [CutS_no _ 100 S (L _ Ln), Option.bind_some, CutS_yes _ 99 (L _ Ln), eE d ld, eE m lm]
    simp only [Option.bind_some, if_true, if_false, Bool.false_eq_true, bA_mk]
    rfl
theorem read_any (l : List UInt8) (hl : l.length ≤ 4611686018427387904) : (∃ p : S24, ptV p = true ∧ ptTxt p = l ∧ Ev (fun k => point_Read.f k (bA l)) (p.f0, p.f1, p.f2, p.f3, true)) ∨ (∀ p : S24, ptV p = true → ptTxt p ≠ l) ∧ Ev (fun k => point_Read.f k (bA l)) (0, e0, e0, e0, false) := by
  obtain ⟨p, h1, h2⟩ := guess_any l hl
  have hs := ptSane_f p
  cases hp : ptV p with
  | true =>
    rw [hp] at hs
    exact .inl ⟨p, hp, by unfold ptTxt; rw [if_pos hp]; exact h2, Ev.bnow (x := (p.f0, p.f1, p.f2, p.f3)) h1 (Ev.bind hs (Ev.ift rfl (Ev.now _)))⟩
  | false =>
    rw [hp] at hs
    refine .inr ⟨fun q hq he => ?_, Ev.bnow (x := (p.f0, p.f1, p.f2, p.f3)) h1 (Ev.bind hs (Ev.iff_ (by simp) (Ev.now _)))⟩
    unfold ptTxt at he
    rw [if_pos hq] at he
    have := guess_raw q hq
    rw [he, h1] at this
    simp only [Option.some.injEq, Prod.mk.injEq] at this
    obtain ⟨e1, e2, e3, e4⟩ := this
    have e : p = q := by cases p; cases q; simp only at e1 e2 e3 e4; rw [e1, e2, e3, e4]
    rw [e, hq] at hp; cases hp
theorem read_txt (p : S24) (hp : ptV p = true) : Ev (fun k => point_Read.f k (bA (ptTxt p))) (p.f0, p.f1, p.f2, p.f3, true) := by
  have h1 := guess_raw p hp
  have hs := ptSane_f p
  rw [hp] at hs
  unfold ptTxt
  rw [if_pos hp]
  exact Ev.bnow (x := (p.f0, p.f1, p.f2, p.f3)) h1 (Ev.bind hs (Ev.ift rfl (Ev.now _)))
def free (r : List S48) : Prop := ∃ y u, r = y :: u ∧ y.f0 ≠ 7 ∧ y.f0 ≠ 8
def freeE (r : List S48) : Prop := ∃ y u, r = y :: u ∧ y.f0 ≠ 7 ∧ y.f0 ≠ 8 ∧ y.f0 ≠ 1
theorem up1 {m : Nat} (h : m ≤ 1000) : wrap64 ((m : Int) + 1) = ((m + 1 : Nat) : Int) := by rw [w64 (by omega) (by omega)]; omega
theorem marked_back (a b : Bool) (p : S24) (q : Nat) (r : List S48) (hr : free r) : pMarked (toks q (markI a 7 63 ++ markI b 8 126) ++ r) p false false = some (⟨0, p, a, b, []⟩, r) := by
  obtain ⟨y, u, rfl, h7, h8⟩ := hr
  cases a <;> cases b <;> simp [markI, toks, It.tok, pMarked, h7, h8]
theorem bare_mk (k : Int) (l : List S27) : bareV ⟨k, ⟨0, e0, e0, e0⟩, false, false, l⟩ = true := by
  have e : emptyV e0 = true := by unfold emptyV; rw [ba_toList]; rfl
  simp [bareV, e]
theorem kz_of {n : S27} (h4 : n.f4 = []) (hb : bareV n = true) : n = kz n.f0 := bare_inj hb (bare_mk _ _) rfl h4
theorem end_back (n : S27) (he : endV n = true) (q m : Nat) (d : Int) (r : List S48) (hr : free r) (hm : m + 1 ≤ 64) :
    Ev (fun k => pEnd k (m : Int) d (toks q (it n) ++ r)) ⟨n, none, r, ((m + 1 : Nat) : Int), d⟩ := by
  obtain ⟨h4, hk⟩ := end_kinds he
  rw [it_eq]
  rcases hk with ⟨c, hp⟩ | ⟨c, hb⟩ | ⟨c, hb⟩
  · rw [if_neg (by omega), if_neg (by omega), if_neg (by omega), if_neg (by omega)]
    have e : toks q (It.w (ptTxt n.f1) :: (markI n.f2 7 63 ++ markI n.f3 8 126)) ++ r = (⟨0, (q : Int), bA (ptTxt n.f1)⟩ : S48) :: (toks (q + (It.w (ptTxt n.f1)).tx.length) (markI n.f2 7 63 ++ markI n.f3 8 126) ++ r) := rfl
    rw [e]
    unfold pEnd pWord
    refine Ev.ift rfl (Ev.iff_ (by omega) ?_)
    refine Ev.bind (read_txt n.f1 hp) (Ev.ift rfl (Ev.bnow (marked_back n.f2 n.f3 ⟨n.f1.f0, n.f1.f1, n.f1.f2, n.f1.f3⟩ _ r hr) (Ev.eq (Ev.now _) ?_)))
    rw [up1 (by omega)]
    have e2 : (⟨0, ⟨n.f1.f0, n.f1.f1, n.f1.f2, n.f1.f3⟩, n.f2, n.f3, []⟩ : S27) = n := S27.ext5 c.symm rfl rfl rfl h4.symm
    rw [e2]
  · rw [if_neg (by omega), if_neg (by omega), if_pos c]
    have e : toks q [It.d] ++ r = (⟨2, (q : Int), e0⟩ : S48) :: r := rfl
    rw [e]
    unfold pEnd
    refine Ev.iff_ (by simp) (Ev.ift rfl (Ev.iff_ (by omega) (Ev.eq (Ev.now _) ?_)))
    rw [up1 (by omega), kz_of h4 hb, c]
  · rw [if_neg (by omega), if_neg (by omega), if_neg (by omega), if_pos c]
    have e : toks q [It.s 3 42] ++ r = (⟨3, (q : Int), e0⟩ : S48) :: r := rfl
    rw [e]
    unfold pEnd
    refine Ev.iff_ (by simp) (Ev.iff_ (by simp) (Ev.ift rfl (Ev.iff_ (by omega) (Ev.eq (Ev.now _) ?_))))
    rw [up1 (by omega), kz_of h4 hb, c]
theorem point_back (n : S27) (he : endV n = true) (c0 : n.f0 = 0) (q m : Nat) (d : Int) (r : List S48) (hr : freeE r) (hm : m + 1 ≤ 64) :
    Ev (fun k => pSpan k (m : Int) d (toks q (it n) ++ r)) ⟨n, none, r, ((m + 1 : Nat) : Int), d⟩ := by
  obtain ⟨y, u, rfl, h7, h8, h1⟩ := hr
  unfold pSpan
  exact Ev.bind (end_back n he q m d _ ⟨y, u, rfl, h7, h8⟩ hm) (Ev.iff_ h1 (Ev.ift c0 (Ev.now _)))
theorem span_back (x y : S27) (hx : endV x = true) (hy : endV y = true) (q m : Nat) (d : Int) (r : List S48) (hr : free r) (hm : m + 3 ≤ 64) :
    Ev (fun k => pSpan k (m : Int) d (toks q (it x ++ .s 1 47 :: it y) ++ r)) ⟨⟨1, ⟨0, e0, e0, e0⟩, false, false, [x, y]⟩, none, r, ((m + 3 : Nat) : Int), d⟩ := by
  rw [toks_app, List.append_assoc]
  have e : ∀ p, toks p (.s 1 47 :: it y) ++ r = (⟨1, (p : Int), e0⟩ : S48) :: (toks (p + 1) (it y) ++ r) := fun p => rfl
  rw [e]
  unfold pSpan
  refine Ev.bind (end_back x hx q m d _ ⟨_, _, rfl, by simp, by simp⟩ (by omega)) (Ev.ift rfl (Ev.iff_ (by show ¬ ((m + 1 : Nat) : Int) = 64; omega) ?_))
  refine Ev.bind (f := fun k s => _) (a := ⟨y, none, r, ((m + 3 : Nat) : Int), d⟩) ?_ (Ev.now _)
  show Ev (fun k => pEnd k (wrap64 (((m + 1 : Nat) : Int) + 1)) d (toks (q + (flatT (it x)).length + 1) (it y) ++ r)) _
  rw [up1 (by omega)]
  exact end_back y hy _ (m + 2) d r hr (by omega)
theorem Clone_e (l : List S27) (h : l.length < 1466015503701) : slices_Clone.f l = some l := by rw [slices_Clone.f, if_pos h]
theorem OneOf_e (l : List S27) (h : l.length < 1466015503701) : tree_OneOf.f l = some (2, 0, e0, e0, e0, false, false, l) := by
  unfold tree_OneOf.f
  rw [Clone_e l h]; rfl
theorem pItems_one (k : Nat) (m d : Int) (x : S48) (t : List S48) (l : List S27) : pItems (k + 1) m d (x :: t) l = (pExpr k m d t).bind fun r => match r.x with
    | some _ => some r
    | none => if l.length < 1466015503701 then (match r.t with
      | [] => none
      | y :: u =>
        if y.f0 = 6 then pItems k r.m r.d (y :: u) (l ++ [r.n])
        else if y.f0 = 5 then (tree_OneOf.f (l ++ [r.n])).bind fun o => some ⟨⟨o.1, ⟨o.2.1, o.2.2.1, o.2.2.2.1, o.2.2.2.2.1⟩, o.2.2.2.2.2.1, o.2.2.2.2.2.2.1, o.2.2.2.2.2.2.2⟩, none, u, r.m, wrap64 (r.d - 1)⟩
        else some ⟨r.n, some (y.f1, eNot y 3), y :: u, r.m, r.d⟩) else none := by rw [pItems] <;> rfl
theorem items_step {n : S27} {m m' : Int} {d : Int} {x y : S48} {t u : List S48} {l : List S27} {R : PR} (h1 : Ev (fun k => pExpr k m d t) ⟨n, none, y :: u, m', d⟩) (hl : l.length < 1466015503701)
    (h2 : y.f0 = 6 ∧ Ev (fun k => pItems k m' d (y :: u) (l ++ [n])) R ∨ y.f0 = 5 ∧ R = ⟨⟨2, ⟨0, e0, e0, e0⟩, false, false, l ++ [n]⟩, none, u, m', wrap64 (d - 1)⟩ ∧ l.length + 1 < 1466015503701) :
    Ev (fun k => pItems k m d (x :: t) l) R := by
  refine Ev.step (fun k => pItems_one k m d x t l) (Ev.bind h1 (Ev.ift hl ?_))
  rcases h2 with ⟨c, h⟩ | ⟨c, rfl, h⟩
  · exact Ev.ift c h
  · refine Ev.iff_ (by omega) (Ev.ift c ?_)
    exact Ev.bnow (OneOf_e _ (by rw [List.length_append]; simpa using h)) (Ev.now _)
theorem expr_back : ∀ (M : Nat) (n : S27), nd n ≤ M → rt n = true → ∀ (q m d : Nat) (r : List S48), freeE r → m + nd n ≤ 64 → d + dp n ≤ 8 →
    Ev (fun k => pExpr k (m : Int) (d : Int) (toks q (it n) ++ r)) ⟨n, none, r, ((m + nd n : Nat) : Int), (d : Int)⟩
  | 0, n, h, _ => by have := nd_pos n; omega
  | M + 1, n, hM, hn => by
    intro q m d r hr hm hd
    have span : ∀ (t : List S48) (R : PR), (∃ x u, t = x :: u ∧ x.f0 ≠ 4) → Ev (fun k => pSpan k (m : Int) (d : Int) t) R → Ev (fun k => pExpr k (m : Int) (d : Int) t) R := fun t R ht h => by
      obtain ⟨x, u, rfl, hx⟩ := ht
      exact Ev.step (fun k => by rw [pExpr, if_neg hx]) h
    have hr' : free r := by obtain ⟨y, u, e, h7, h8, _⟩ := hr; exact ⟨y, u, e, h7, h8⟩
    have head : ∀ (x : S27), endV x = true → ∀ (s : List It) (v : List S48), ∃ z u, toks q (it x ++ s) ++ v = z :: u ∧ z.f0 ≠ 4 := fun x hx s v => by
      obtain ⟨_, hk⟩ := end_kinds hx
      rw [it_eq]
      rcases hk with ⟨c, _⟩ | ⟨c, _⟩ | ⟨c, _⟩
      · rw [if_neg (by omega), if_neg (by omega), if_neg (by omega), if_neg (by omega)]; exact ⟨_, _, rfl, by simp [It.tok]⟩
      · rw [if_neg (by omega), if_neg (by omega), if_pos c]; exact ⟨_, _, rfl, by simp [It.tok]⟩
      · rw [if_neg (by omega), if_neg (by omega), if_neg (by omega), if_pos c]; exact ⟨_, _, rfl, by simp [It.tok]⟩
    rcases rt_kinds hn with ⟨he, c⟩ | ⟨c, hb, x, y, h4, hx, hy, _⟩ | ⟨c, hb, hne, hl, _⟩
    · have h1 : nd n = 1 := by rw [nd_eq, (end_kinds he).1]; rfl
      refine span _ _ (by have := head n he [] r; rwa [List.append_nil] at this) ?_
      rw [h1]
      exact point_back n he c q m d r hr (by omega)
    · have h3 : nd n = 3 := by
        have e1 : nd x = 1 := by rw [nd_eq, (end_kinds hx).1]; rfl
        have e2 : nd y = 1 := by rw [nd_eq, (end_kinds hy).1]; rfl
        rw [nd_eq, h4, ndL, ndL, ndL, e1, e2]
      have hi : it n = it x ++ .s 1 47 :: it y := by rw [it_eq, if_pos c, h4]; rfl
      rw [hi, h3]
      refine span _ _ (head x hx _ r) (Ev.eq (span_back x y hx hy q m d r hr' (by omega)) ?_)
      have e : (⟨1, ⟨0, e0, e0, e0⟩, false, false, [x, y]⟩ : S27) = n := bare_inj (bare_mk _ _) hb c.symm h4.symm
      rw [e]
    · have hi : it n = .s 4 91 :: (joinI (itL n.f4) ++ [.s 5 93]) := by rw [it_eq, if_neg (by omega), if_pos c]
      have hnd : nd n = ndL n.f4 + 1 := nd_eq n
      have hdp : dp n = dpL n.f4 + 1 := by rw [dp_eq, if_pos c]
      rw [hi]
      have e : toks q (.s 4 91 :: (joinI (itL n.f4) ++ [.s 5 93])) ++ r = (⟨4, (q : Int), e0⟩ : S48) :: (toks (q + 1) (joinI (itL n.f4) ++ [.s 5 93]) ++ r) := rfl
      rw [e]
      have items : ∀ (l : List S27), l ≠ [] → ndL l ≤ M → rtL l = true → ∀ (acc : List S27) (q m : Nat) (x : S48), m + ndL l ≤ 64 → d + 1 + dpL l ≤ 8 → acc.length + l.length ≤ 64 →
          Ev (fun k => pItems k (m : Int) ((d + 1 : Nat) : Int) (x :: (toks q (joinI (itL l) ++ [.s 5 93]) ++ r)) acc) ⟨⟨2, ⟨0, e0, e0, e0⟩, false, false, acc ++ l⟩, none, r, ((m + ndL l : Nat) : Int), (d : Int)⟩ := fun l => by
        induction l with
        | nil => intro h; exact absurd rfl h
        | cons n1 l ih =>
          intro _ hM1 hrt acc q m x hm1 hd1 hlen
          rw [ndL] at hM1 hm1
          rw [dpL] at hd1
          rw [rtL, Bool.and_eq_true] at hrt
          rw [List.length_cons] at hlen
          cases l with
          | nil =>
            have ei : joinI (itL [n1]) ++ [.s 5 93] = it n1 ++ [.s 5 93] := by rw [itL, itL, joinI]
            rw [ei, toks_app, List.append_assoc]
            have h1 := expr_back M n1 (by omega) hrt.1 q m (d + 1) (toks (q + (flatT (it n1)).length) [.s 5 93] ++ r) ⟨_, _, rfl, by simp [It.tok], by simp [It.tok], by simp [It.tok]⟩ (by omega) (by omega)
            refine items_step (y := ⟨5, ((q + (flatT (it n1)).length : Nat) : Int), e0⟩) (u := r) h1 (by omega) (.inr ⟨rfl, ?_, by omega⟩)
            have e2 : wrap64 (((d + 1 : Nat) : Int) - 1) = (d : Int) := by rw [w64 (by omega) (by omega)]; omega
            rw [e2]; rfl
          | cons n2 l =>
            have ei : joinI (itL (n1 :: n2 :: l)) ++ [.s 5 93] = it n1 ++ (.s 6 44 :: .b :: (joinI (itL (n2 :: l)) ++ [.s 5 93])) := by rw [itL, itL, joinI, List.append_assoc]; rfl
            rw [ei, toks_app, List.append_assoc]
            have h1 := expr_back M n1 (by omega) hrt.1 q m (d + 1) (toks (q + (flatT (it n1)).length) (.s 6 44 :: .b :: (joinI (itL (n2 :: l)) ++ [.s 5 93])) ++ r) ⟨_, _, rfl, by simp [It.tok], by simp [It.tok], by simp [It.tok]⟩ (by omega) (by omega)
            have h2 := ih (by simp) (by omega) hrt.2 (acc ++ [n1]) (q + (flatT (it n1)).length + 1 + 1) (m + nd n1) ⟨6, ((q + (flatT (it n1)).length : Nat) : Int), e0⟩ (by omega) (by omega) (by rw [List.length_append]; simp only [List.length_cons, List.length_nil]; simp only [List.length_cons] at hlen; omega)
            refine items_step (y := ⟨6, ((q + (flatT (it n1)).length : Nat) : Int), e0⟩) (u := toks (q + (flatT (it n1)).length + 1 + 1) (joinI (itL (n2 :: l)) ++ [.s 5 93]) ++ r) h1 (by omega) (.inl ⟨rfl, Ev.eq h2 ?_⟩)
            rw [List.append_assoc, ndL, Nat.add_assoc]; rfl
      have hi2 := items n.f4 hne (by omega) hl [] (q + 1) (m + 1) ⟨4, (q : Int), e0⟩ (by omega) (by omega) (by have := len_nd n.f4; simp only [List.length_nil]; omega)
      have en : (⟨2, ⟨0, e0, e0, e0⟩, false, false, [] ++ n.f4⟩ : S27) = n := bare_inj (bare_mk _ _) hb c.symm rfl
      rw [en] at hi2
      refine Ev.step (f := fun k => pList k (m : Int) (d : Int) ⟨4, (q : Int), e0⟩ (toks (q + 1) (joinI (itL n.f4) ++ [.s 5 93]) ++ r)) (fun k => by rw [pExpr, if_pos rfl]) ?_
      refine Ev.step (fun k => by rw [pList, if_neg (by omega), if_neg (by omega), up1 (by omega), up1 (by omega)]) (Ev.eq hi2 ?_)
      rw [hnd, Nat.add_assoc, Nat.add_comm 1]
def b13 : S27 := ⟨0, ⟨3, ⟨#[49, 57, 88, 52]⟩, ⟨#[]⟩, ⟨#[]⟩⟩, false, false, []⟩
def s13 : S27 := ⟨1, eP, false, false, [oN, b13]⟩
def l13 : S27 := lN [p11, s13]
theorem pv_b13 : ptV b13.f1 = true := by
  show (saneL [49, 57, 88, 52] && (true && (emptyV ⟨#[]⟩ && emptyV ⟨#[]⟩))) = true
  rw [emptyV_nil]; decide
theorem wf_b13 : wfN b13 := wf_leaf _ _ _ _ (by decide) (by decide) (by decide)
theorem wf_s13 : wfN s13 := .mk _ (by decide) (by decide) (by decide) (by simp [s13]) (fun x hx => by
  simp only [s13, List.mem_cons, List.not_mem_nil, or_false] at hx
  rcases hx with rfl | rfl
  · exact wf_oN
  · exact wf_b13)
theorem wf_l13 : wfN l13 := .mk _ (by decide) (by decide) (by decide) (by simp [l13, lN]) (fun x hx => by
  simp only [l13, lN, List.mem_cons, List.not_mem_nil, or_false] at hx
  rcases hx with rfl | rfl
  · exact wf_p11
  · exact wf_s13)
theorem endV_b13 : endV b13 = true := by show (true && ptV b13.f1) = true; rw [pv_b13]; rfl
theorem rt_s13 : rt s13 = true := by
  rw [rt_eq]
  show (bareV ⟨1, eP, false, false, [oN, b13]⟩ && two [oN, b13]) = true
  rw [bare_e, two, endV_b13, endV_o]; rfl
theorem sane_l13 : saneV l13 = true := by
  have h1 : nd l13 = 5 := by simp [l13, lN, s13, b13, p11, oN, nd, ndL]
  have h2 : dp l13 = 1 := by simp [l13, lN, s13, b13, p11, oN, dp, dpL]
  have h4 : rt p11 = true := by rw [rt_eq]; show endV p11 = true; exact endV_p11
  have h3 : rt l13 = true := by
    rw [rt_eq]
    show (bareV ⟨2, eP, false, false, [p11, s13]⟩ && (true && rtL [p11, s13])) = true
    rw [bare_e, rtL, rtL, rtL, rt_s13, h4]; rfl
  unfold saneV
  rw [h1, h2, h3]; rfl
theorem tx_l13 : tx l13 = [91, 49, 57, 56, 52, 63, 126, 44, 32, 46, 46, 47, 49, 57, 88, 52, 93] := by
  have e1 : tx p11 = [49, 57, 56, 52, 63, 126] := by
    rw [tx_eq]
    show ptTxt p11.f1 ++ [63, 126] = _
    unfold ptTxt
    rw [pv_p11]; rfl
  have e2 : tx b13 = [49, 57, 88, 52] := by
    rw [tx_eq]
    show ptTxt b13.f1 ++ [] = _
    unfold ptTxt
    rw [pv_b13]; rfl
  have e3 : tx oN = [46, 46] := by rw [tx_eq]; rfl
  have e4 : tx s13 = [46, 46, 47, 49, 57, 88, 52] := by
    rw [tx_eq]
    show span2 (txL [oN, b13]) = _
    rw [txL, txL, txL, e2, e3]; rfl
  rw [tx_eq]
  show 91 :: (Lib.join (txL [p11, s13]) [44, 32] ++ [93]) = _
  rw [txL, txL, txL, e1, e4]; rfl
theorem ptTxt_p11 : ptTxt p11.f1 = [49, 57, 56, 52] := by unfold ptTxt; rw [pv_p11]; rfl
theorem read_1984 : Ev (fun k => point_Read.f k (⟨#[49, 57, 56, 52]⟩ : ByteArray)) (3, ⟨#[49, 57, 56, 52]⟩, e0, e0, true) := by
  have := read_txt p11.f1 pv_p11
  rw [ptTxt_p11] at this
  exact this
theorem end_1984 (q : Int) (m : Nat) (d : Int) (t r : List S48) (a b : Bool) (hm : m + 1 ≤ 64) (h : pMarked t ⟨3, ⟨#[49, 57, 56, 52]⟩, e0, e0⟩ false false = some (⟨0, ⟨3, ⟨#[49, 57, 56, 52]⟩, e0, e0⟩, a, b, []⟩, r)) :
    Ev (fun k => pEnd k (m : Int) d ((⟨0, q, ⟨#[49, 57, 56, 52]⟩⟩ : S48) :: t)) ⟨⟨0, ⟨3, ⟨#[49, 57, 56, 52]⟩, e0, e0⟩, a, b, []⟩, none, r, ((m + 1 : Nat) : Int), d⟩ := by
  unfold pEnd pWord
  refine Ev.ift rfl (Ev.iff_ (by omega) ?_)
  refine Ev.bind read_1984 (Ev.ift rfl (Ev.bnow h (Ev.eq (Ev.now _) ?_)))
  rw [up1 (by omega)]
theorem list_go {x : S48} {t : List S48} {m d : Nat} {R : PR} (h4 : x.f0 = 4) (hm : m + 1 ≤ 64) (hd : d + 1 ≤ 8) (h : Ev (fun k => pItems k ((m + 1 : Nat) : Int) ((d + 1 : Nat) : Int) (x :: t) []) R) : Ev (fun k => pExpr k (m : Int) (d : Int) (x :: t)) R := by
  refine Ev.step (f := fun k => pList k (m : Int) (d : Int) x t) (fun k => by rw [pExpr, if_pos h4]) ?_
  exact Ev.step (fun k => by rw [pList, if_neg (by omega), if_neg (by omega), up1 (by omega), up1 (by omega)]) h
theorem span_go {x : S48} {t : List S48} {m d : Int} {R : PR} (h4 : x.f0 ≠ 4) (h : Ev (fun k => pSpan k m d (x :: t)) R) : Ev (fun k => pExpr k m d (x :: t)) R := Ev.step (fun k => by rw [pExpr, if_neg h4]) h
theorem parse_bad {s : List UInt8} {L : List S48} {z at_ e : Int} {R : PR} (hL : Ev (fun k => lex_All.f k (bA s)) (L, z, 0)) (hE : Ev (fun k => pExpr k 0 0 L) R) (hx : R.x = some (at_, e)) : Ev (fun k => parse_Parse.f k (bA s)) (0, 0, e0, e0, e0, false, false, [], at_, e) := by
  unfold parse_Parse.f
  refine Ev.bind hL (Ev.ift rfl (Ev.bind hE ?_))
  rw [hx]; exact Ev.now _
theorem parse_good {s : List UInt8} {L : List S48} {z : Int} {n : S27} {y : S48} {u : List S48} {m d : Int} (hL : Ev (fun k => lex_All.f k (bA s)) (L, z, 0)) (hE : Ev (fun k => pExpr k 0 0 L) ⟨n, none, y :: u, m, d⟩) (hy : y.f0 = 9) : Ev (fun k => parse_Parse.f k (bA s)) (n.f0, n.f1.f0, n.f1.f1, n.f1.f2, n.f1.f3, n.f2, n.f3, n.f4, z, 0) := by
  unfold parse_Parse.f
  exact Ev.bind hL (Ev.ift rfl (Ev.bind hE (Ev.ift hy (Ev.now _))))
theorem first13 : Ev (fun k => parse_Parse.f k (⟨#[91, 49, 57, 56, 52, 126, 63, 44, 32, 46, 46, 47, 49, 57, 88, 52, 93]⟩ : ByteArray)) (l13.f0, l13.f1.f0, l13.f1.f1, l13.f1.f2, l13.f1.f3, l13.f2, l13.f3, l13.f4, 17, 0) := by
  have hL := lex_f [.s 4 91, .w [49, 57, 56, 52], .s 8 126, .s 7 63, .s 6 44, .b, .d, .s 1 47, .w [49, 57, 88, 52], .s 5 93] (by simp [okI, stopI]; decide) (by decide)
  refine parse_good hL (n := l13) (y := endT 17) (u := []) (m := 5) (d := 0) ?_ rfl
  refine list_go (m := 0) (d := 0) rfl (by omega) (by omega) ?_
  have h1 : Ev (fun k => pExpr k 1 1 [⟨0, 1, ⟨#[49, 57, 56, 52]⟩⟩, ⟨8, 5, e0⟩, ⟨7, 6, e0⟩, ⟨6, 7, e0⟩, ⟨2, 9, e0⟩, ⟨1, 11, e0⟩, ⟨0, 12, ⟨#[49, 57, 88, 52]⟩⟩, ⟨5, 16, e0⟩, endT 17]) ⟨p11, none, [⟨6, 7, e0⟩, ⟨2, 9, e0⟩, ⟨1, 11, e0⟩, ⟨0, 12, ⟨#[49, 57, 88, 52]⟩⟩, ⟨5, 16, e0⟩, endT 17], 2, 1⟩ := by
    refine span_go (by simp) ?_
    unfold pSpan
    exact Ev.bind (end_1984 1 1 1 _ _ true true (by omega) rfl) (Ev.iff_ (by simp) (Ev.ift rfl (Ev.now _)))
  refine items_step h1 (by decide) (.inl ⟨rfl, ?_⟩)
  have h2 : Ev (fun k => pExpr k 2 1 [⟨2, 9, e0⟩, ⟨1, 11, e0⟩, ⟨0, 12, ⟨#[49, 57, 88, 52]⟩⟩, ⟨5, 16, e0⟩, endT 17]) ⟨s13, none, [⟨5, 16, e0⟩, endT 17], 5, 1⟩ := by
    have h := expr_back 3 s13 (by simp [s13, b13, oN, nd, ndL]) rt_s13 9 2 1 [⟨5, 16, e0⟩, endT 17] ⟨_, _, rfl, by simp, by simp, by simp⟩ (by simp [s13, b13, oN, nd, ndL]) (by simp [s13, b13, oN, dp, dpL])
    have e : nd s13 = 3 := by simp [s13, b13, oN, nd, ndL]
    have e2 : toks 9 (it s13) ++ [⟨5, 16, e0⟩, endT 17] = [⟨2, 9, e0⟩, ⟨1, 11, e0⟩, ⟨0, 12, ⟨#[49, 57, 88, 52]⟩⟩, ⟨5, 16, e0⟩, endT 17] := by
      have ei : it s13 = [.d, .s 1 47, .w [49, 57, 88, 52]] := by
        have eb : it b13 = [.w [49, 57, 88, 52]] := by
          rw [it_eq]
          show [It.w (ptTxt b13.f1)] = _
          unfold ptTxt
          rw [pv_b13]; rfl
        rw [it_eq]
        show spanI (itL [oN, b13]) = _
        rw [itL, itL, itL, eb, it_eq]; rfl
      rw [ei]; rfl
    rw [e, e2] at h
    exact h
  exact items_step h2 (by decide) (.inr ⟨rfl, by rw [w64 (by omega) (by omega)]; rfl, by decide⟩)
theorem second13 : Ev (fun k => parse_Parse.f k (⟨#[49, 57, 56, 52, 47, 91]⟩ : ByteArray)) (0, 0, e0, e0, e0, false, false, [], 5, 3) := by
  have hL := lex_f [.w [49, 57, 56, 52], .s 1 47, .s 4 91] (by simp [okI, stopI]; decide) (by decide)
  refine parse_bad hL (R := ⟨⟨1, ⟨0, e0, e0, e0⟩, false, false, [⟨0, ⟨3, ⟨#[49, 57, 56, 52]⟩, e0, e0⟩, false, false, []⟩, pz]⟩, some (5, 3), [⟨4, 5, e0⟩, endT 6], 2, 0⟩) ?_ rfl
  refine span_go (by simp) ?_
  unfold pSpan
  refine Ev.bind (end_1984 0 0 0 _ _ false false (by omega) rfl) (Ev.ift rfl (Ev.iff_ (by simp) ?_))
  refine Ev.bind (a := ⟨pz, some (5, 3), [⟨4, 5, e0⟩, endT 6], 2, 0⟩) ?_ ?_
  · show Ev (fun k => pEnd k (wrap64 (((0 + 1 : Nat) : Int) + 1)) 0 [⟨4, 5, e0⟩, endT 6]) _
    rw [up1 (by omega)]
    unfold pEnd
    exact Ev.iff_ (by simp) (Ev.iff_ (by simp) (Ev.iff_ (by simp) (Ev.eq (Ev.now _) rfl)))
  · exact Ev.now _
theorem third13 : Ev (fun k => parse_Parse.f k (⟨#[91, 49, 57, 56, 52]⟩ : ByteArray)) (0, 0, e0, e0, e0, false, false, [], 5, 4) := by
  have hL := lex_f [.s 4 91, .w [49, 57, 56, 52]] (by simp [okI, stopI]; decide) (by decide)
  refine parse_bad hL (R := ⟨⟨0, ⟨3, ⟨#[49, 57, 56, 52]⟩, e0, e0⟩, false, false, []⟩, some (5, 4), [endT 5], 2, 1⟩) ?_ rfl
  refine list_go (m := 0) (d := 0) rfl (by omega) (by omega) ?_
  refine Ev.step (fun k => pItems_one k _ _ _ _ []) ?_
  refine Ev.bind (a := ⟨⟨0, ⟨3, ⟨#[49, 57, 56, 52]⟩, e0, e0⟩, false, false, []⟩, none, [endT 5], 2, 1⟩) ?_ ?_
  · refine span_go (by simp) ?_
    unfold pSpan
    exact Ev.bind (end_1984 1 1 1 _ _ false false (by omega) rfl) (Ev.iff_ (by simp [endT]) (Ev.ift rfl (Ev.now _)))
  · exact Ev.ift (by decide) (Ev.iff_ (by simp [endT]) (Ev.iff_ (by simp [endT]) (Ev.now _)))
theorem awake13 : Ev (fun k => lustrumlaw13_awake.f k) true := by
  have hT := pTx_f l13 wf_l13 (by have := (sane_rt sane_l13).1; omega)
  have e : txV l13 = [91, 49, 57, 56, 52, 63, 126, 44, 32, 46, 46, 47, 49, 57, 88, 52, 93] := by unfold txV; rw [if_pos sane_l13, tx_l13]
  rw [e] at hT
  exact Ev.bind first13 (Ev.bind second13 (Ev.bind third13 (Ev.ift rfl (Ev.ift rfl (Ev.bind hT (Ev.ift (bA_toList _) (Ev.ift rfl (Ev.ift rfl (Ev.ift rfl (Ev.now _))))))))))
end Go.Proofs.Ytjgjhekpiijniaa.A
namespace Go.Proofs.Ytjgjhekpiijniaa.A
open Go.RowKit Go.Proofs.YtjgjhekpiijniaaW.PrintWords Go.Proofs.YtjgjhekpiijniaaW.PrintLast Go.Proofs.YtjgjhekpiijniaaW.PrintMore
attribute [local go_sem] max2_int min2_int max_two min_two max_three min_three max_four min_four
attribute [local go_sem] isSome_setCell
set_option maxHeartbeats 8000000 in
set_option maxRecDepth 100000 in
theorem point_Text.calls (k : Nat) (a0_0 : Int) (a0_1 a0_2 a0_3 r : ByteArray) (w : World) (h : point_Text.f k a0_0 a0_1 a0_2 a0_3 = some r) :
  Calls Try.prog 37 #[.agg #[.int .i64 a0_0, .string a0_1, .string a0_2, .string a0_3]] w fun e w' => e = .returned (.string r) ∧ Below w.heap.size w w' := by
 have hu24 := Try.underlying24; have HB := A_ (Below.refl w.heap.size w); have H : ((point_Sane.f k a0_0 a0_1 a0_2 a0_3).bind fun t188 => (if t188 = true then (if a0_0 = 0 then (if 1 + a0_3.size ≤ 9223372036854775807 then (if 1 + a0_2.size ≤ 9223372036854775807 then (if ((⟨#[45]⟩ : ByteArray) ++ a0_2).size + ((⟨#[45]⟩ : ByteArray) ++ a0_3).size ≤ 9223372036854775807 then (if a0_1.size + (((⟨#[45]⟩ : ByteArray) ++ a0_2) ++ ((⟨#[45]⟩ : ByteArray) ++ a0_3)).size ≤ 9223372036854775807 then (some (a0_1 ++ (((⟨#[45]⟩ : ByteArray) ++ a0_2) ++ ((⟨#[45]⟩ : ByteArray) ++ a0_3)))) else (none)) else (none)) else (none)) else (none)) else (if a0_0 = 1 then (if 1 + a0_2.size ≤ 9223372036854775807 then (if ((⟨#[45]⟩ : ByteArray) ++ a0_2).size + 0 ≤ 9223372036854775807 then (if a0_1.size + (((⟨#[45]⟩ : ByteArray) ++ a0_2) ++ (⟨#[]⟩ : ByteArray)).size ≤ 9223372036854775807 then (some (a0_1 ++ (((⟨#[45]⟩ : ByteArray) ++ a0_2) ++ (⟨#[]⟩ : ByteArray)))) else (none)) else (none)) else (none)) else (if a0_0 = 2 then (if 1 + a0_2.size ≤ 9223372036854775807 then (if a0_1.size + ((⟨#[115]⟩ : ByteArray) ++ a0_2).size ≤ 9223372036854775807 then (some (a0_1 ++ ((⟨#[115]⟩ : ByteArray) ++ a0_2))) else (none)) else (none)) else (if a0_0 = 4 then (if a0_1.size + 1 ≤ 9223372036854775807 then (some (a0_1 ++ (⟨#[100]⟩ : ByteArray))) else (none)) else (if a0_0 = 5 then (if a0_1.size + 1 ≤ 9223372036854775807 then (some (a0_1 ++ (⟨#[99]⟩ : ByteArray))) else (none)) else (if a0_1.size + 0 ≤ 9223372036854775807 then (some (a0_1 ++ (⟨#[]⟩ : ByteArray))) else (none))))))) else (some (⟨#[]⟩ : ByteArray)))) = some r := h; clear h; obtain ⟨t188, A2, H⟩ := bi_ H
 by_cases c3 : t188 = true
 ·subst c3
  replace H := iP_ H
  by_cases c4 : a0_0 = 0
  ·rw [if_pos c4] at H
   have c4b0 : (a0_0 == 0) = true := beq_iff_eq.mpr c4; have c4b1 : (a0_0 != 0) = false := bne_eq_false_iff_eq.mpr c4; clear c4
   by_cases c5 : 1 + a0_3.size ≤ 9223372036854775807
   ·rw [if_pos c5] at H
    have c5b0 := eq_true c5; have c5b1 := decide_eq_true c5; (try have c5b2 : (9223372036854775807 < 1 + a0_3.size) = False := eq_false (Nat.not_lt.2 c5))
    by_cases c6 : 1 + a0_2.size ≤ 9223372036854775807
    ·rw [if_pos c6] at H
     have c6b0 := eq_true c6; have c6b1 := decide_eq_true c6; (try have c6b2 : (9223372036854775807 < 1 + a0_2.size) = False := eq_false (Nat.not_lt.2 c6))
     by_cases c7 : ((⟨#[45]⟩ : ByteArray) ++ a0_2).size + ((⟨#[45]⟩ : ByteArray) ++ a0_3).size ≤ 9223372036854775807
     ·rw [if_pos c7] at H
      have c7b0 := eq_true c7; have c7b1 := decide_eq_true c7; (try have c7b2 : (9223372036854775807 < ((⟨#[45]⟩ : ByteArray) ++ a0_2).size + ((⟨#[45]⟩ : ByteArray) ++ a0_3).size) = False := eq_false (Nat.not_lt.2 c7)); (try have c7b3 : (9223372036854775807 < 1 + a0_2.size + (1 + a0_3.size)) = False := eq_false (Nat.not_lt.2 (by have h_ := c7; simp only [ByteArray.size_append] at h_; exact h_)))
      by_cases c8 : a0_1.size + (((⟨#[45]⟩ : ByteArray) ++ a0_2) ++ ((⟨#[45]⟩ : ByteArray) ++ a0_3)).size ≤ 9223372036854775807
      ·rw [if_pos c8] at H
       have c8b0 := eq_true c8; have c8b1 := decide_eq_true c8; (try have c8b2 : (9223372036854775807 < a0_1.size + (((⟨#[45]⟩ : ByteArray) ++ a0_2) ++ ((⟨#[45]⟩ : ByteArray) ++ a0_3)).size) = False := eq_false (Nat.not_lt.2 c8)); (try have c8b3 : (9223372036854775807 < a0_1.size + (1 + a0_2.size + (1 + a0_3.size))) = False := eq_false (Nat.not_lt.2 (by have h_ := c8; simp only [ByteArray.size_append] at h_; exact h_))); obtain rfl := Option.some.inj H; go_enter Try.func37, Try.ntmps37; go_wp2_with (first | (refine gx_ w 1 (n4_ a0_0 a0_1 a0_2 a0_3) 24 ?_; clear HB; intro gb187 w9 BK187 GE187 HB; have GW187 := GE187; have Z10 := bz4_ BK187) | (refine gC 43 ?_; refine gL 5 Try.func43 #[.agg (n4_ a0_0 a0_1 a0_2 a0_3)] ?_; (with_reducible refine (point_Sane.calls k a0_0 a0_1 a0_2 a0_3 true _ A2.out).mono ?_); rintro e w11 ⟨rfl, hb⟩; refine ⟨_, rfl, ?_⟩; replace BK187 := bb_ BK187 hb; replace HB := bs_ hb; (try clear hb); have Z12 := bz4_ BK187)); go_ret; exact ⟨re_, hs_⟩
      ·rw [if_neg c8] at H
       exact absurd H (by simp)
     ·rw [if_neg c7] at H
      exact absurd H (by simp)
    ·rw [if_neg c6] at H
     exact absurd H (by simp)
   ·rw [if_neg c5] at H
    exact absurd H (by simp)
  ·rw [if_neg c4] at H
   have c4b0 : (a0_0 == 0) = false := beq_eq_false_iff_ne.mpr c4; have c4b1 : (a0_0 != 0) = true := bne_iff_ne.mpr c4
   by_cases c13 : a0_0 = 1
   ·rw [if_pos c13] at H
    have c13b0 : (a0_0 == 1) = true := beq_iff_eq.mpr c13; have c13b1 : (a0_0 != 1) = false := bne_eq_false_iff_eq.mpr c13; clear c13
    by_cases c14 : 1 + a0_2.size ≤ 9223372036854775807
    ·rw [if_pos c14] at H
     have c14b0 := eq_true c14; have c14b1 := decide_eq_true c14; (try have c14b2 : (9223372036854775807 < 1 + a0_2.size) = False := eq_false (Nat.not_lt.2 c14))
     by_cases c15 : ((⟨#[45]⟩ : ByteArray) ++ a0_2).size + 0 ≤ 9223372036854775807
     ·rw [if_pos c15] at H
      have c15b0 := eq_true c15; have c15b1 := decide_eq_true c15; (try have c15b2 : (9223372036854775807 < ((⟨#[45]⟩ : ByteArray) ++ a0_2).size + 0) = False := eq_false (Nat.not_lt.2 c15)); (try have c15b3 : (9223372036854775807 < 1 + a0_2.size + 0) = False := eq_false (Nat.not_lt.2 (by have h_ := c15; simp only [ByteArray.size_append] at h_; exact h_)))
      by_cases c16 : a0_1.size + (((⟨#[45]⟩ : ByteArray) ++ a0_2) ++ (⟨#[]⟩ : ByteArray)).size ≤ 9223372036854775807
      ·rw [if_pos c16] at H
       have c16b0 := eq_true c16; have c16b1 := decide_eq_true c16; (try have c16b2 : (9223372036854775807 < a0_1.size + (((⟨#[45]⟩ : ByteArray) ++ a0_2) ++ (⟨#[]⟩ : ByteArray)).size) = False := eq_false (Nat.not_lt.2 c16)); (try have c16b3 : (9223372036854775807 < a0_1.size + (1 + a0_2.size + 0)) = False := eq_false (Nat.not_lt.2 (by have h_ := c16; simp only [ByteArray.size_append] at h_; exact h_))); obtain rfl := Option.some.inj H; go_enter Try.func37, Try.ntmps37; go_wp2_with (first | (refine gx_ w 1 (n4_ a0_0 a0_1 a0_2 a0_3) 24 ?_; clear HB; intro gb187 w17 BK187 GE187 HB; have GW187 := GE187; have Z18 := bz4_ BK187) | (refine gC 43 ?_; refine gL 5 Try.func43 #[.agg (n4_ a0_0 a0_1 a0_2 a0_3)] ?_; (with_reducible refine (point_Sane.calls k a0_0 a0_1 a0_2 a0_3 true _ A2.out).mono ?_); rintro e w19 ⟨rfl, hb⟩; refine ⟨_, rfl, ?_⟩; replace BK187 := bb_ BK187 hb; replace HB := bs_ hb; (try clear hb); have Z20 := bz4_ BK187)); go_ret; exact ⟨re_, hs_⟩
      ·rw [if_neg c16] at H
       exact absurd H (by simp)
     ·rw [if_neg c15] at H
      exact absurd H (by simp)
    ·rw [if_neg c14] at H
     exact absurd H (by simp)
   ·rw [if_neg c13] at H
    have c13b0 : (a0_0 == 1) = false := beq_eq_false_iff_ne.mpr c13; have c13b1 : (a0_0 != 1) = true := bne_iff_ne.mpr c13
    by_cases c21 : a0_0 = 2
    ·rw [if_pos c21] at H
     have c21b0 : (a0_0 == 2) = true := beq_iff_eq.mpr c21; have c21b1 : (a0_0 != 2) = false := bne_eq_false_iff_eq.mpr c21; clear c21
     by_cases c22 : 1 + a0_2.size ≤ 9223372036854775807
     ·rw [if_pos c22] at H
      have c22b0 := eq_true c22; have c22b1 := decide_eq_true c22; (try have c22b2 : (9223372036854775807 < 1 + a0_2.size) = False := eq_false (Nat.not_lt.2 c22))
      by_cases c23 : a0_1.size + ((⟨#[115]⟩ : ByteArray) ++ a0_2).size ≤ 9223372036854775807
      ·rw [if_pos c23] at H
       have c23b0 := eq_true c23; have c23b1 := decide_eq_true c23; (try have c23b2 : (9223372036854775807 < a0_1.size + ((⟨#[115]⟩ : ByteArray) ++ a0_2).size) = False := eq_false (Nat.not_lt.2 c23)); (try have c23b3 : (9223372036854775807 < a0_1.size + (1 + a0_2.size)) = False := eq_false (Nat.not_lt.2 (by have h_ := c23; simp only [ByteArray.size_append] at h_; exact h_))); obtain rfl := Option.some.inj H; go_enter Try.func37, Try.ntmps37; go_wp2_with (first | (refine gx_ w 1 (n4_ a0_0 a0_1 a0_2 a0_3) 24 ?_; clear HB; intro gb187 w24 BK187 GE187 HB; have GW187 := GE187; have Z25 := bz4_ BK187) | (refine gC 43 ?_; refine gL 5 Try.func43 #[.agg (n4_ a0_0 a0_1 a0_2 a0_3)] ?_; (with_reducible refine (point_Sane.calls k a0_0 a0_1 a0_2 a0_3 true _ A2.out).mono ?_); rintro e w26 ⟨rfl, hb⟩; refine ⟨_, rfl, ?_⟩; replace BK187 := bb_ BK187 hb; replace HB := bs_ hb; (try clear hb); have Z27 := bz4_ BK187)); go_ret; exact ⟨re_, hs_⟩
      ·rw [if_neg c23] at H
       exact absurd H (by simp)
     ·rw [if_neg c22] at H
      exact absurd H (by simp)
    ·rw [if_neg c21] at H
     have c21b0 : (a0_0 == 2) = false := beq_eq_false_iff_ne.mpr c21; have c21b1 : (a0_0 != 2) = true := bne_iff_ne.mpr c21
     by_cases c28 : a0_0 = 4
     ·rw [if_pos c28] at H
      have c28b0 : (a0_0 == 4) = true := beq_iff_eq.mpr c28; have c28b1 : (a0_0 != 4) = false := bne_eq_false_iff_eq.mpr c28; clear c28
      by_cases c29 : a0_1.size + 1 ≤ 9223372036854775807
      ·rw [if_pos c29] at H
       have c29b0 := eq_true c29; have c29b1 := decide_eq_true c29; (try have c29b2 : (9223372036854775807 < a0_1.size + 1) = False := eq_false (Nat.not_lt.2 c29)); obtain rfl := Option.some.inj H; go_enter Try.func37, Try.ntmps37; go_wp2_with (first | (refine gx_ w 1 (n4_ a0_0 a0_1 a0_2 a0_3) 24 ?_; clear HB; intro gb187 w30 BK187 GE187 HB; have GW187 := GE187; have Z31 := bz4_ BK187) | (refine gC 43 ?_; refine gL 5 Try.func43 #[.agg (n4_ a0_0 a0_1 a0_2 a0_3)] ?_; (with_reducible refine (point_Sane.calls k a0_0 a0_1 a0_2 a0_3 true _ A2.out).mono ?_); rintro e w32 ⟨rfl, hb⟩; refine ⟨_, rfl, ?_⟩; replace BK187 := bb_ BK187 hb; replace HB := bs_ hb; (try clear hb); have Z33 := bz4_ BK187)); go_ret; exact ⟨re_, hs_⟩
      ·rw [if_neg c29] at H
       exact absurd H (by simp)
     ·rw [if_neg c28] at H
      have c28b0 : (a0_0 == 4) = false := beq_eq_false_iff_ne.mpr c28; have c28b1 : (a0_0 != 4) = true := bne_iff_ne.mpr c28
      by_cases c34 : a0_0 = 5
      ·rw [if_pos c34] at H
       have c34b0 : (a0_0 == 5) = true := beq_iff_eq.mpr c34; have c34b1 : (a0_0 != 5) = false := bne_eq_false_iff_eq.mpr c34; clear c34
       by_cases c35 : a0_1.size + 1 ≤ 9223372036854775807
       ·rw [if_pos c35] at H
        have c35b0 := eq_true c35; have c35b1 := decide_eq_true c35; (try have c35b2 : (9223372036854775807 < a0_1.size + 1) = False := eq_false (Nat.not_lt.2 c35)); obtain rfl := Option.some.inj H; go_enter Try.func37, Try.ntmps37; go_wp2_with (first | (refine gx_ w 1 (n4_ a0_0 a0_1 a0_2 a0_3) 24 ?_; clear HB; intro gb187 w36 BK187 GE187 HB; have GW187 := GE187; have Z37 := bz4_ BK187) | (refine gC 43 ?_; refine gL 5 Try.func43 #[.agg (n4_ a0_0 a0_1 a0_2 a0_3)] ?_; (with_reducible refine (point_Sane.calls k a0_0 a0_1 a0_2 a0_3 true _ A2.out).mono ?_); rintro e w38 ⟨rfl, hb⟩; refine ⟨_, rfl, ?_⟩; replace BK187 := bb_ BK187 hb; replace HB := bs_ hb; (try clear hb); have Z39 := bz4_ BK187)); go_ret; exact ⟨re_, hs_⟩
       ·rw [if_neg c35] at H
        exact absurd H (by simp)
      ·rw [if_neg c34] at H
       have c34b0 : (a0_0 == 5) = false := beq_eq_false_iff_ne.mpr c34; have c34b1 : (a0_0 != 5) = true := bne_iff_ne.mpr c34
       by_cases c40 : a0_1.size + 0 ≤ 9223372036854775807
       ·rw [if_pos c40] at H
        have c40b0 := eq_true c40; have c40b1 := decide_eq_true c40; (try have c40b2 : (9223372036854775807 < a0_1.size + 0) = False := eq_false (Nat.not_lt.2 c40)); obtain rfl := Option.some.inj H; go_enter Try.func37, Try.ntmps37; go_wp2_with (first | (refine gx_ w 1 (n4_ a0_0 a0_1 a0_2 a0_3) 24 ?_; clear HB; intro gb187 w41 BK187 GE187 HB; have GW187 := GE187; have Z42 := bz4_ BK187) | (refine gC 43 ?_; refine gL 5 Try.func43 #[.agg (n4_ a0_0 a0_1 a0_2 a0_3)] ?_; (with_reducible refine (point_Sane.calls k a0_0 a0_1 a0_2 a0_3 true _ A2.out).mono ?_); rintro e w43 ⟨rfl, hb⟩; refine ⟨_, rfl, ?_⟩; replace BK187 := bb_ BK187 hb; replace HB := bs_ hb; (try clear hb); have Z44 := bz4_ BK187)); go_ret; exact ⟨re_, hs_⟩
       ·rw [if_neg c40] at H
        exact absurd H (by simp)
 ·replace c3 := Bool.eq_false_iff.mpr c3
  subst c3; replace H := iN_ H; obtain rfl := Option.some.inj H; go_enter Try.func37, Try.ntmps37; go_wp2_with (first | (refine gx_ w 1 (n4_ a0_0 a0_1 a0_2 a0_3) 24 ?_; clear HB; intro gb187 w45 BK187 GE187 HB; have GW187 := GE187; have Z46 := bz4_ BK187) | (refine gC 43 ?_; refine gL 5 Try.func43 #[.agg (n4_ a0_0 a0_1 a0_2 a0_3)] ?_; (with_reducible refine (point_Sane.calls k a0_0 a0_1 a0_2 a0_3 false _ A2.out).mono ?_); rintro e w47 ⟨rfl, hb⟩; refine ⟨_, rfl, ?_⟩; replace BK187 := bb_ BK187 hb; replace HB := bs_ hb; (try clear hb))); go_ret; exact ⟨re_, hs_⟩
theorem spot_none {w : World} {a : Addr} {v : Value} (h : w.cell? a = some v) : a = ⟨a.block, a.off, none⟩ := by
  obtain ⟨b, o, s⟩ := a
  cases s with
  | none => rfl
  | some s =>
    exfalso
    unfold World.cell? at h
    simp only at h
    split at h
    · simp at h
    · simp at h
theorem strings_Join.calls (A0 : Option Addr) (c0 : Nat) (l0 : List ByteArray) (a1 r : ByteArray) (w : World) (hr0 : Kd.C Kd.string w A0 l0.length l0) (hc0 : l0.length ≤ c0) (h : strings_Join.f l0 a1 = some r) :
    Calls Try.prog 36 #[.slice A0 l0.length c0, .string a1] w fun e w' => e = .returned (.string r) ∧ Below w.heap.size w w' := by
  unfold strings_Join.f at h
  by_cases c1 : l0.length ≤ 140737488355328
  · rw [if_pos c1] at h
    by_cases c2 : (Lib.join (l0.map (·.data.toList)) a1.data.toList).length ≤ 140737488355328
    · rw [if_pos c2] at h
      obtain rfl := Option.some.inj h
      by_cases c3 : l0 = []
      · subst c3
        refine (Try.strings_Join_none A0 c0 a1 w).mono fun e w' ⟨he, hw⟩ => ⟨?_, hw ▸ Below.refl _ _⟩
        rw [he]; rfl
      · have hp : 0 < l0.length := List.length_pos_iff.2 c3
        obtain ⟨ad, rfl, h0⟩ := Kd.at_string hr0 0 (by omega) (by omega)
        have hs : ad = ⟨ad.block, ad.off, none⟩ := spot_none h0
        have hcells : ∀ (j : Nat) x, l0[j]? = some x → w.cell? ⟨ad.block, ad.off + j, none⟩ = some (.string x) := fun j x hj => by
          have hlt := (List.getElem?_eq_some_iff.1 hj).1
          obtain ⟨ad', e', h1⟩ := Kd.at_string hr0 (j : Int) (by omega) (by omega)
          obtain rfl := Option.some.inj e'
          have hg : rdOf ByteArray.empty l0 (j : Int) = x := by
            unfold rdOf
            rw [List.getD_eq_getElem?_getD, Int.toNat_natCast, hj]; rfl
          rw [hg, Int.toNat_natCast] at h1
          rw [hs] at h1
          unfold Addr.add at h1
          by_cases hj0 : j = 0
          · subst hj0
            simpa using h1
          · simpa [hj0] using h1
        have hb : ad.block < w.heap.size := World.block_lt_of_cell? w _ h0
        have := Try.strings_Join ad.block ad.off c0 l0 a1 w hcells hb c1 hc0 c2
        rw [← hs] at this
        exact this
    · rw [if_neg c2] at h; cases h
  · rw [if_neg c1] at h; cases h
set_option maxHeartbeats 8000000 in
set_option maxRecDepth 100000 in
theorem print_join.calls (A0 : Option Addr) (c0 : Nat) (l0 : List ByteArray) (r : ByteArray) (w : World) (hr0 : Kd.C Kd.string w A0 l0.length l0) (hc0 : l0.length ≤ c0) (h : print_join.f l0 = some r) :
  Calls Try.prog 35 #[.slice A0 l0.length c0] w fun e w' => e = .returned (.string r) ∧ Below w.heap.size w w' := by
 have HR0 := A_ hr0; have HC0 := A_ hc0; clear hr0 hc0; have HB := A_ (Below.refl w.heap.size w); have H : ((strings_Join.f l0 (⟨#[]⟩ : ByteArray)).bind fun t189 => (some t189)) = some r := h; clear h; obtain ⟨t189, A2, H⟩ := bi_ H; obtain rfl := Option.some.inj H; go_enter Try.func35, Try.ntmps35; go_wp2_with (first | (refine gC 36 ?_; refine gL 4 Try.func36 #[.slice A0 l0.length c0, .string ⟨#[]⟩] ?_; (with_reducible refine (strings_Join.calls _ _ l0 (⟨#[]⟩ : ByteArray) t189 _ ?side1 ?side2 A2.out).mono ?_); (case side1 => exact cr_ HR0.out); (case side2 => exact HC0.out); rintro e w3 ⟨rfl, hb⟩; refine ⟨_, rfl, ?_⟩; replace HB := bs_ hb; (try clear hb))); go_ret; exact ⟨re_, hs_⟩
set_option maxHeartbeats 8000000 in
set_option maxRecDepth 100000 in
theorem print_mark.calls (a0 : Bool) (a1 r : ByteArray) (w : World) (h : print_mark.f a0 a1 = some r) :
  Calls Try.prog 38 #[.bool a0, .string a1] w fun e w' => e = .returned (.string r) ∧ Drawn0 w w' := by
 have H : (if a0 = true then (some a1) else (some (⟨#[]⟩ : ByteArray))) = some r := h; clear h
 by_cases c3 : a0 = true
 ·subst c3
  replace H := iP_ H; obtain rfl := Option.some.inj H; go_enter Try.func38, Try.ntmps38; go_wp2; go_ret; exact ⟨by first | rfl | (simp; done) | (simp [*]; done), by repeat (first | exact Drawn0.refl _ | apply Drawn0.step)⟩
 ·replace c3 := Bool.eq_false_iff.mpr c3
  subst c3; replace H := iN_ H; obtain rfl := Option.some.inj H; go_enter Try.func38, Try.ntmps38; go_wp2; go_ret; exact ⟨by first | rfl | (simp; done) | (simp [*]; done), by repeat (first | exact Drawn0.refl _ | apply Drawn0.step)⟩
theorem info9_printtext : (Try.prog.info? 9).map (fun i => (i.zero, i.size, i.bytes)) = some (some (.string ⟨#[]⟩), 1, 16) := by kernel_rfl
def print_text.T3 : Bool × List (List Nat × List Nat) := (true, [([], []), ([0], [0]), ([1], [1]), ([2], [2]), ([3], [3]), ([], []), ([5], [5]), ([6], [6]), ([7], [7]), ([8, 4], [8]), ([4, 9], [4, 9]), ([10, 9], [10]), ([11, 11, 0, 1, 2, 3, 4, 5, 6, 7, 8, 9, 10, 11], [11])])
def print_text.B3 : List Nat := [0, 1, 3, 7, 15, 0, 32, 96, 224, 511, 1023, 2047, 4095]
theorem print_text.tab3 : rtab .any (opsOf Try.f24 3) = print_text.T3 := by kernel_rfl
theorem print_text.bits3 : waitsOk print_text.T3.2 print_text.B3 = true := by kernel_rfl
def print_text.T16 : Bool × List (List Nat × List Nat) := (true, [([], []), ([0], [0]), ([1], [1]), ([], []), ([3], [3]), ([4, 2], [4]), ([], []), ([6], [6]), ([7, 5], [7]), ([2, 5, 8], [2, 5, 8]), ([9, 8], [9]), ([10, 10, 0, 1, 2, 3, 4, 5, 6, 7, 8, 9, 10], [10])])
def print_text.B16 : List Nat := [0, 1, 3, 0, 8, 31, 0, 64, 255, 511, 1023, 2047]
theorem print_text.tab16 : rtab .any (opsOf Try.f24 16) = print_text.T16 := by kernel_rfl
theorem print_text.bits16 : waitsOk print_text.T16.2 print_text.B16 = true := by kernel_rfl
set_option maxHeartbeats 8000000 in
set_option maxRecDepth 100000 in
theorem print_text.calls (k : Nat) : ∀ (a0_0 a0_1 : Int) (a0_2 a0_3 a0_4 : ByteArray) (a0_5 a0_6 : Bool) (A0_7 : Option Addr) (c0_7 : Nat) (l0_7 : List (S27)) (r : ByteArray) (w : World) (hr0_7 : Kd.C k27 w A0_7 l0_7.length l0_7) (hc0_7 : l0_7.length ≤ c0_7) (h : print_text.f k a0_0 a0_1 a0_2 a0_3 a0_4 a0_5 a0_6 l0_7 = some r),
  Calls Try.prog 24 #[.agg #[.int .i64 a0_0, .int .i64 a0_1, .string a0_2, .string a0_3, .string a0_4, .bool a0_5, .bool a0_6, .slice A0_7 l0_7.length c0_7]] w fun e w' => e = .returned (.string r) ∧ Below w.heap.size w w' := by
 induction k using Nat.strongRecOn with
 | _ k ih =>
 intro a0_0 a0_1 a0_2 a0_3 a0_4 a0_5 a0_6 A0_7 c0_7 l0_7 r w hr0_7 hc0_7 h
 cases k with
 | zero => exact absurd h (by simp [print_text.f])
 | succ k =>
 simp only [print_text.f] at h; have hu27 := Try.underlying27; have hu24 := Try.underlying24; have HR0_7 := A_ hr0_7; have HC0_7 := A_ hc0_7; clear hr0_7 hc0_7; have HB := A_ (Below.refl w.heap.size w); have H : (if a0_0 = 1 then (if 0 < (l0_7.length : Int) then ((print_text.f k ((rd_T27 l0_7 0).f0) ((rd_T27 l0_7 0).f1.f0) ((rd_T27 l0_7 0).f1.f1) ((rd_T27 l0_7 0).f1.f2) ((rd_T27 l0_7 0).f1.f3) ((rd_T27 l0_7 0).f2) ((rd_T27 l0_7 0).f3) ((rd_T27 l0_7 0).f4)).bind fun t192 => (if 1 < (l0_7.length : Int) then ((print_text.f k ((rd_T27 l0_7 1).f0) ((rd_T27 l0_7 1).f1.f0) ((rd_T27 l0_7 1).f1.f1) ((rd_T27 l0_7 1).f1.f2) ((rd_T27 l0_7 1).f1.f3) ((rd_T27 l0_7 1).f2) ((rd_T27 l0_7 1).f3) ((rd_T27 l0_7 1).f4)).bind fun t194 => ((print_join.f (([t192, (⟨#[47]⟩ : ByteArray), t194] : List ByteArray))).bind fun t198 => (some t198))) else (none))) else (none)) else (if a0_0 = 2 then (print_text.l0 k ([] : List ByteArray) l0_7 (l0_7.length : Int) 0) else (if a0_0 = 3 then (some (⟨#[46, 46]⟩ : ByteArray)) else (if a0_0 = 4 then (some (⟨#[42]⟩ : ByteArray)) else ((point_Text.f k a0_1 a0_2 a0_3 a0_4).bind fun t210 => ((print_mark.f a0_5 (⟨#[63]⟩ : ByteArray)).bind fun t211 => ((print_mark.f a0_6 (⟨#[126]⟩ : ByteArray)).bind fun t212 => ((print_join.f (([t210, t211, t212] : List ByteArray))).bind fun t216 => (some t216))))))))) = some r := h; clear h
 by_cases c2 : a0_0 = 1
 ·rw [if_pos c2] at H
  have c2b0 : (a0_0 == 1) = true := beq_iff_eq.mpr c2; have c2b1 : (a0_0 != 1) = false := bne_eq_false_iff_eq.mpr c2; clear c2
  by_cases c3 : 0 < (l0_7.length : Int)
  ·rw [if_pos c3] at H
   have c3b0 := decide_eq_true c3; have c3b1 : decide (0 < l0_7.length) = true := decide_eq_true (by omega); clear c3; obtain ⟨t192, A4, H⟩ := bi_ H
   by_cases c5 : 1 < (l0_7.length : Int)
   ·rw [if_pos c5] at H
    have c5b0 := decide_eq_true c5; have c5b1 : decide (1 < l0_7.length) = true := decide_eq_true (by omega); clear c5; obtain ⟨t194, A6, H⟩ := bi_ H; obtain ⟨y195, hy195⟩ : ∃ y_ : List ByteArray, y_ = (([t192, (⟨#[47]⟩ : ByteArray), t194] : List ByteArray)) := ⟨_, rfl⟩; (replace H : ((print_join.f y195).bind fun t198 => (some t198)) = some r := hy_ hy195 H); have Ny195 := A_ hy195; clear hy195; obtain ⟨t198, A7, H⟩ := bi_ H; obtain rfl := Option.some.inj H; go_enter Try.func24, Try.ntmps24; (try go_wp2_with (first | (refine gx_ w 1 (n8_ a0_0 a0_1 a0_2 a0_3 a0_4 a0_5 a0_6 (.slice A0_7 l0_7.length c0_7)) 27 ?_; clear HB; intro gb190 w8 BK190 GE190 HB; have GW190 := GE190; have Z9 := bz8_ BK190))); replace BK190 := A_ (blk_drew BK190.out); replace HB := A_ (below_drew1 HB.out); have p191 : 0 ≤ (0 : Int) := (by omega); have q191 : 0 < (l0_7.length : Int) := od_; obtain ⟨ad191, A191_7, c191_7, e191, hx191_0, hx191_1, hx191_2, hx191_3, hx191_4, hx191_5, hx191_6, hx191_7, hl191_7, hi191_7⟩ := at_T27 HR0_7.out 0 p191 q191; have hw191_7 := ai_ hx191_7; have hw191_6 := ai_ hx191_6; have hw191_5 := ai_ hx191_5; have hw191_4 := ai_ hx191_4
    have hw191_3 := ai_ hx191_3; have hw191_2 := ai_ hx191_2; have hw191_1 := ai_ hx191_1; have hw191_0 := ai_ hx191_0
    cases e191
    have qi191 : (0 < l0_7.length) = True := eq_true (by omega); replace hx191_0 := ai_ hx191_0; replace hx191_1 := ai_ hx191_1; replace hx191_2 := ai_ hx191_2; replace hx191_3 := ai_ hx191_3; replace hx191_4 := ai_ hx191_4; replace hx191_5 := ai_ hx191_5; replace hx191_6 := ai_ hx191_6; replace hx191_7 := ai_ hx191_7; replace hx191_0 := cl_ HB hx191_0; replace hx191_1 := cl_ HB hx191_1; replace hx191_2 := cl_ HB hx191_2; replace hx191_3 := cl_ HB hx191_3; replace hx191_4 := cl_ HB hx191_4; replace hx191_5 := cl_ HB hx191_5; replace hx191_6 := cl_ HB hx191_6; replace hx191_7 := cl_ HB hx191_7; have HR191_7 := A_ hi191_7; have HC191_7 := A_ hl191_7; clear hi191_7 hl191_7; replace p191 := eq_true p191; replace q191 := eq_true q191; have p193 : 0 ≤ (1 : Int) := (by omega); have q193 : 1 < (l0_7.length : Int) := od_; obtain ⟨ad193, A193_7, c193_7, e193, hx193_0, hx193_1, hx193_2, hx193_3, hx193_4, hx193_5, hx193_6, hx193_7, hl193_7, hi193_7⟩ := at_T27 HR0_7.out 1 p193 q193; have hw193_7 := aj_ hx193_7; have hw193_6 := aj_ hx193_6; have hw193_5 := aj_ hx193_5; have hw193_4 := aj_ hx193_4; have hw193_3 := aj_ hx193_3; have hw193_2 := aj_ hx193_2; have hw193_1 := aj_ hx193_1; have hw193_0 := aj_ hx193_0
    obtain rfl : ad191 = ad193 := (by injection e193); replace hx193_0 := aj_ hx193_0; replace hx193_1 := aj_ hx193_1; replace hx193_2 := aj_ hx193_2; replace hx193_3 := aj_ hx193_3; replace hx193_4 := aj_ hx193_4; replace hx193_5 := aj_ hx193_5; replace hx193_6 := aj_ hx193_6; replace hx193_7 := aj_ hx193_7; have qi193 : (1 < l0_7.length) = True := eq_true (by omega); (try rw [show ((1 : Int)).toNat = 1 from rfl] at hx193_0); (try rw [show 1 * 8 = 8 from rfl] at hx193_0); (try rw [show ((1 : Int)).toNat = 1 from rfl] at hx193_1); (try rw [show 1 * 8 = 8 from rfl] at hx193_1); (try rw [show ((1 : Int)).toNat = 1 from rfl] at hx193_2); (try rw [show 1 * 8 = 8 from rfl] at hx193_2); (try rw [show ((1 : Int)).toNat = 1 from rfl] at hx193_3); (try rw [show 1 * 8 = 8 from rfl] at hx193_3); (try rw [show ((1 : Int)).toNat = 1 from rfl] at hx193_4); (try rw [show 1 * 8 = 8 from rfl] at hx193_4); (try rw [show ((1 : Int)).toNat = 1 from rfl] at hx193_5); (try rw [show 1 * 8 = 8 from rfl] at hx193_5); (try rw [show ((1 : Int)).toNat = 1 from rfl] at hx193_6); (try rw [show 1 * 8 = 8 from rfl] at hx193_6); (try rw [show ((1 : Int)).toNat = 1 from rfl] at hx193_7); (try rw [show 1 * 8 = 8 from rfl] at hx193_7); replace hx193_0 := cl_ HB hx193_0; replace hx193_1 := cl_ HB hx193_1; replace hx193_2 := cl_ HB hx193_2; replace hx193_3 := cl_ HB hx193_3; replace hx193_4 := cl_ HB hx193_4; replace hx193_5 := cl_ HB hx193_5; replace hx193_6 := cl_ HB hx193_6; replace hx193_7 := cl_ HB hx193_7; have HR193_7 := A_ hi193_7; have HC193_7 := A_ hl193_7; clear hi193_7 hl193_7; replace p193 := eq_true p193; replace q193 := eq_true q193; refine start_ (n := 13) (S := fun w' => K8 w' gb190 (.int .i64 a0_0) (.int .i64 a0_1) (.string a0_2) (.string a0_3) (.string a0_4) (.bool a0_5) (.bool a0_6) (.slice (some ad191) l0_7.length c0_7) (w'.cell? ad191 = some (.int .i64 ((rd_T27 l0_7 0).f0)) ∧ w'.cell? ⟨ad191.block, ad191.off + 1, none⟩ = some (.int .i64 ((rd_T27 l0_7 0).f1.f0)) ∧ w'.cell? ⟨ad191.block, ad191.off + 2, none⟩ = some (.string ((rd_T27 l0_7 0).f1.f1)) ∧ w'.cell? ⟨ad191.block, ad191.off + 3, none⟩ = some (.string ((rd_T27 l0_7 0).f1.f2)) ∧ w'.cell? ⟨ad191.block, ad191.off + 4, none⟩ = some (.string ((rd_T27 l0_7 0).f1.f3)) ∧ w'.cell? ⟨ad191.block, ad191.off + 5, none⟩ = some (.bool ((rd_T27 l0_7 0).f2)) ∧ w'.cell? ⟨ad191.block, ad191.off + 6, none⟩ = some (.bool ((rd_T27 l0_7 0).f3)) ∧ w'.cell? ⟨ad191.block, ad191.off + 7, none⟩ = some (.slice A191_7 ((rd_T27 l0_7 0).f4).length c191_7) ∧ w'.cell? ⟨ad191.block, ad191.off + 8, none⟩ = some (.int .i64 ((rd_T27 l0_7 1).f0)) ∧ w'.cell? ⟨ad191.block, ad191.off + 8 + 1, none⟩ = some (.int .i64 ((rd_T27 l0_7 1).f1.f0)) ∧ w'.cell? ⟨ad191.block, ad191.off + 8 + 2, none⟩ = some (.string ((rd_T27 l0_7 1).f1.f1)) ∧ w'.cell? ⟨ad191.block, ad191.off + 8 + 3, none⟩ = some (.string ((rd_T27 l0_7 1).f1.f2)) ∧ w'.cell? ⟨ad191.block, ad191.off + 8 + 4, none⟩ = some (.string ((rd_T27 l0_7 1).f1.f3)) ∧ w'.cell? ⟨ad191.block, ad191.off + 8 + 5, none⟩ = some (.bool ((rd_T27 l0_7 1).f2)) ∧ w'.cell? ⟨ad191.block, ad191.off + 8 + 6, none⟩ = some (.bool ((rd_T27 l0_7 1).f3)) ∧ w'.cell? ⟨ad191.block, ad191.off + 8 + 7, none⟩ = some (.slice A193_7 ((rd_T27 l0_7 1).f4).length c193_7))) (ds := []) (ab 13 0) (by kernel_rfl) rfl rfl (kq8_ BK190 (⟨(cl_ HB hw191_0), (cl_ HB hw191_1), (cl_ HB hw191_2), (cl_ HB hw191_3), (cl_ HB hw191_4), (cl_ HB hw191_5), (cl_ HB hw191_6), (cl_ HB hw191_7), (cl_ HB hw193_0), (cl_ HB hw193_1), (cl_ HB hw193_2), (cl_ HB hw193_3), (cl_ HB hw193_4), (cl_ HB hw193_5), (cl_ HB hw193_6), (cl_ HB hw193_7)⟩)) (fun hHeld => ?_); refine with_tabW print_text.tab3 print_text.bits3 (fun HT_ HW_ => ?_)
    generalize w8.drew = w10 at BK190 HB HR191_7 HR193_7 hx191_0 hx191_1 hx191_2 hx191_3 hx191_4 hx191_5 hx191_6 hx191_7 hx193_0 hx193_1 hx193_2 hx193_3 hx193_4 hx193_5 hx193_6 hx193_7 hHeld ⊢; refine pA 0 10 13 1 ?_; refine pA 5 15 13 33 ?_; refine tB 1 11 13 35 ?_; refine pA 2 12 13 39 ?_; refine tB 3 13 13 47 ?_; refine tB 6 16 13 111 ?_; refine pA 7 17 13 239 ?_; refine tB 8 18 13 495 ?_; refine oA 4 (some 14) 13 511 fun K hK => ?_; refine gS Try.func24 #[.agg #[.int .i64 ((rd_T27 l0_7 0).f0), .int .i64 ((rd_T27 l0_7 0).f1.f0), .string ((rd_T27 l0_7 0).f1.f1), .string ((rd_T27 l0_7 0).f1.f2), .string ((rd_T27 l0_7 0).f1.f3), .bool ((rd_T27 l0_7 0).f2), .bool ((rd_T27 l0_7 0).f3), .slice A191_7 ((rd_T27 l0_7 0).f4).length c191_7]] ?_; (with_reducible refine (ih k (by omega) ((rd_T27 l0_7 0).f0) ((rd_T27 l0_7 0).f1.f0) ((rd_T27 l0_7 0).f1.f1) ((rd_T27 l0_7 0).f1.f2) ((rd_T27 l0_7 0).f1.f3) ((rd_T27 l0_7 0).f2) ((rd_T27 l0_7 0).f3) _ _ ((rd_T27 l0_7 0).f4) t192 _ ?side1 ?side2 A4.out).mono ?_)
    (case side1 => exact cb_ HR191_7)
    (case side2 => exact HC191_7.out)
    rintro e w11 ⟨rfl, hb⟩; refine ⟨_, rfl, ?_⟩; replace BK190 := bb_ BK190 hb; replace HB := bs_ hb; (try clear hb); refine hK.out _ _ (kq8_ BK190 (⟨(cl_ HB hw191_0), (cl_ HB hw191_1), (cl_ HB hw191_2), (cl_ HB hw191_3), (cl_ HB hw191_4), (cl_ HB hw191_5), (cl_ HB hw191_6), (cl_ HB hw191_7), (cl_ HB hw193_0), (cl_ HB hw193_1), (cl_ HB hw193_2), (cl_ HB hw193_3), (cl_ HB hw193_4), (cl_ HB hw193_5), (cl_ HB hw193_6), (cl_ HB hw193_7)⟩)) (fun hHeld => ?_); clear hK K; refine nA ?_; refine oA 9 (some 19) 13 1023 fun K hK => ?_; refine gS Try.func24 #[.agg #[.int .i64 ((rd_T27 l0_7 1).f0), .int .i64 ((rd_T27 l0_7 1).f1.f0), .string ((rd_T27 l0_7 1).f1.f1), .string ((rd_T27 l0_7 1).f1.f2), .string ((rd_T27 l0_7 1).f1.f3), .bool ((rd_T27 l0_7 1).f2), .bool ((rd_T27 l0_7 1).f3), .slice A193_7 ((rd_T27 l0_7 1).f4).length c193_7]] ?_; (with_reducible refine (ih k (by omega) ((rd_T27 l0_7 1).f0) ((rd_T27 l0_7 1).f1.f0) ((rd_T27 l0_7 1).f1.f1) ((rd_T27 l0_7 1).f1.f2) ((rd_T27 l0_7 1).f1.f3) ((rd_T27 l0_7 1).f2) ((rd_T27 l0_7 1).f3) _ _ ((rd_T27 l0_7 1).f4) t194 _ ?side1 ?side2 A6.out).mono ?_)
    (case side1 => exact cb_ HR193_7)
    (case side2 => exact HC193_7.out)
    rintro e w12 ⟨rfl, hb⟩; refine ⟨_, rfl, ?_⟩; replace BK190 := bb_ BK190 hb; replace HB := bs_ hb; (try clear hb); refine hK.out _ _ (kq8_ BK190 (⟨(cl_ HB hw191_0), (cl_ HB hw191_1), (cl_ HB hw191_2), (cl_ HB hw191_3), (cl_ HB hw191_4), (cl_ HB hw191_5), (cl_ HB hw191_6), (cl_ HB hw191_7), (cl_ HB hw193_0), (cl_ HB hw193_1), (cl_ HB hw193_2), (cl_ HB hw193_3), (cl_ HB hw193_4), (cl_ HB hw193_5), (cl_ HB hw193_6), (cl_ HB hw193_7)⟩)) (fun hHeld => ?_); clear hK K; refine nA ?_; refine oA 10 (some 20) 13 2047 fun K hK => ?_; refine Kd.R_lit_step Kd.string _ 9 ?hg (N := 20) ?hd (xs := ([t192, (⟨#[47]⟩ : ByteArray), t194] : List ByteArray)) (inner := [.string t192, .string ⟨#[47]⟩, .string t194]) (ok := fun _ => True) (okp := fun _ => True) ?hr ?hp (fun _ hk => hk) trivial (Below.refl _ _) (Nat.le_refl _) (by simp) ?_; (case hd => rfl); (case hg => rfl); (case hr => first | (go_simp; done) | (go_simp; rfl)); (case hp => exact (Reps.one (show Kd.M Kd.string _ _ _ t192 [.string t192] from rfl) (Reps.one (show Kd.M Kd.string _ _ _ (⟨#[47]⟩ : ByteArray) [.string ⟨#[47]⟩] from rfl) (Reps.one (show Kd.M Kd.string _ _ _ t194 [.string t194] from rfl) (Reps.none _ _))))); intro v196 w13 ho14 hb hg_ hnew_; clear hg_ hnew_; (first | rw [← Ny195.out] at ho14 | (simp only [Int.reduceToNat] at ho14; rw [← Ny195.out] at ho14)); have HO197 := A_ (Kd.R_lower ho14 (below_size hs_)); replace BK190 := bb_ BK190 hb; replace HB := bs_ hb; clear hb ho14; obtain ⟨Ao15, co15, eo15⟩ := Kd.R_slice HO197.out; (first | subst eo15 | (injection eo15 with f1_ f2_ f3_; have f4_ := f1_.symm; have f5_ := f3_.symm; clear f1_ f2_ f3_; subst f4_; subst f5_))
    refine hK.out _ _ (kq8_ BK190 (⟨(cl_ HB hw191_0), (cl_ HB hw191_1), (cl_ HB hw191_2), (cl_ HB hw191_3), (cl_ HB hw191_4), (cl_ HB hw191_5), (cl_ HB hw191_6), (cl_ HB hw191_7), (cl_ HB hw193_0), (cl_ HB hw193_1), (cl_ HB hw193_2), (cl_ HB hw193_3), (cl_ HB hw193_4), (cl_ HB hw193_5), (cl_ HB hw193_6), (cl_ HB hw193_7)⟩)) (fun hHeld => ?_); clear hK K; refine nA ?_; refine oA 11 (some 21) 13 4095 fun K hK => ?_; refine gS Try.func35 #[.slice Ao15 y195.length co15] ?_; (with_reducible refine (print_join.calls _ _ y195 t198 _ ?side1 ?side2 A7.out).mono ?_)
    (case side1 => exact cr_ (Kd.R_reads' HO197.out).2.2)
    (case side2 => exact (Kd.R_reads' HO197.out).2.1)
    rintro e w16 ⟨rfl, hb⟩; refine ⟨_, rfl, ?_⟩; replace HO197 := A_ (Kd.R_below (hrR_ HO197.out) hb); replace BK190 := bb_ BK190 hb; replace HB := bs_ hb; (try clear hb); refine hK.out _ _ (kq8_ BK190 (⟨(cl_ HB hw191_0), (cl_ HB hw191_1), (cl_ HB hw191_2), (cl_ HB hw191_3), (cl_ HB hw191_4), (cl_ HB hw191_5), (cl_ HB hw191_6), (cl_ HB hw191_7), (cl_ HB hw193_0), (cl_ HB hw193_1), (cl_ HB hw193_2), (cl_ HB hw193_3), (cl_ HB hw193_4), (cl_ HB hw193_5), (cl_ HB hw193_6), (cl_ HB hw193_7)⟩)) (fun hHeld => ?_); clear hK K; refine nA ?_; refine pA 12 2 13 8191 ?_; refine done_ (done_of HT_.out (by kernel_rfl)) ?_; (try go_wp2); go_ret; exact ⟨re_, hs_⟩
   ·rw [if_neg c5] at H
    exact absurd H (by simp)
  ·rw [if_neg c3] at H
   exact absurd H (by simp)
 ·rw [if_neg c2] at H
  have c2b0 : (a0_0 == 1) = false := beq_eq_false_iff_ne.mpr c2; have c2b1 : (a0_0 != 1) = true := bne_iff_ne.mpr c2
  by_cases c17 : a0_0 = 2
  ·rw [if_pos c17] at H
   have c17b0 : (a0_0 == 2) = true := beq_iff_eq.mpr c17; have c17b1 : (a0_0 != 2) = false := bne_eq_false_iff_eq.mpr c17; clear c17; have H' := A_ H; clear H; go_enter Try.func24, Try.ntmps24; go_wp2_with (first | (refine gx_ w 1 (n8_ a0_0 a0_1 a0_2 a0_3 a0_4 a0_5 a0_6 (.slice A0_7 l0_7.length c0_7)) 27 ?_; clear HB; intro gb190 w18 BK190 GE190 HB; have GW190 := GE190; have Z19 := bz8_ BK190)); go_loopg [3, 27] k (fun kq v3 v27 w' => ∃ (x3_1 : List ByteArray) (x27_1 : Int), v27 = .int .i64 x27_1 ∧ Aside0 (print_text.l0 kq x3_1 l0_7 (l0_7.length : Int) x27_1 = some r) ∧ Aside0 (kq ≤ k) ∧ Aside0 (Kd.R Kd.string 9 w' w.heap.size (fun _ => True) v3 x3_1) ∧ Aside0 (w'.heap[gb190]? = some (.cells #[.int .i64 a0_0, .int .i64 a0_1, .string a0_2, .string a0_3, .string a0_4, .bool a0_5, .bool a0_6, (.slice A0_7 l0_7.length c0_7)] 27 (0, 0))) ∧ Aside0 (Below w.heap.size w w'))
   case atStart => exact ⟨(([] : List ByteArray)), (0), rf_, H', ⟨Nat.le_refl _⟩, ⟨by first | exact Kd.R_nil _ _ _ _ _ | exact Kd.N_nil _ _ _ _ _ | exact Kd.V_nil _ _ _ _ _ | exact Kd.Q_nil _ _ _ _ _ | exact Kd.S_nil _ _ _ _ _⟩, ⟨bl_ BK190.out⟩, ⟨hs_⟩⟩
   case round =>
    clear H'; (try clear c1); (try clear p1); (try clear q1); (try clear hx1); (try clear qi1); (try clear c2); (try clear c2b0); (try clear c2b1); (try clear p2); (try clear c3); (try clear c3b0); (try clear c3b1); (try clear c5); (try clear c5b0); (try clear c5b1); (try clear c7); (try clear c17); (try clear c17b0); (try clear c17b1); (try clear c19); (try clear p19); (try clear q19); (try clear hx19); (try clear qi19); (try clear Z19); (try clear Z9); (try clear hx191_0); (try clear hx191_1); (try clear hx191_2); (try clear hx191_3); (try clear hx191_4); (try clear hx191_5); (try clear hx191_6); (try clear hx191_7); (try clear hx193_0); (try clear hx193_1); (try clear hx193_2); (try clear hx193_3); (try clear hx193_4); (try clear hx193_5); (try clear hx193_6); (try clear hx193_7); (try clear p191); (try clear p193); (try clear q191); (try clear q193); obtain ⟨x3_1, x27_1, rfl, HA, HK1, HO_3, BK190, HB⟩ := hrel
    cases gk with
    | zero => exact absurd HA.out (by simp [print_text.l0])
    | succ k1 =>
     have H := HA.out; clear HA; simp only [print_text.l0] at H
     by_cases c20 : x27_1 < (l0_7.length : Int)
     ·rw [if_pos c20] at H
      have c20b0 := decide_eq_true c20; clear c20
      by_cases c21 : 0 ≤ x27_1
      ·rw [if_pos c21] at H
       have c21b0 := decide_eq_true c21; clear c21
       by_cases c22 : x27_1 < (l0_7.length : Int)
       ·rw [if_pos c22] at H
        have c22b0 := decide_eq_true c22; clear c22; obtain ⟨t201, A23, H⟩ := bi_ H
        by_cases c24 : x3_1.length < 8796093022208
        ·rw [if_pos c24] at H
         have LMc24 := A_ c24; clear c24; obtain ⟨y202, hy202⟩ : ∃ y_ : List ByteArray, y_ = (x3_1 ++ [t201]) := ⟨_, rfl⟩; (replace H : (print_text.l0 k1 y202 l0_7 (l0_7.length : Int) (wrap64 (x27_1 + 1))) = some r := hy_ hy202 H); have Ny202 := A_ hy202; clear hy202; have H' := A_ H; clear H; have p199 : 0 ≤ (x27_1 : Int) := od_; have q199 : x27_1 < (l0_7.length : Int) := od_; obtain ⟨ad199, A199_7, c199_7, e199, hx199_0, hx199_1, hx199_2, hx199_3, hx199_4, hx199_5, hx199_6, hx199_7, hl199_7, hi199_7⟩ := at_T27 HR0_7.out x27_1 p199 q199
         cases e199
         replace hx199_0 := cl_ HB hx199_0; replace hx199_1 := cl_ HB hx199_1; replace hx199_2 := cl_ HB hx199_2; replace hx199_3 := cl_ HB hx199_3; replace hx199_4 := cl_ HB hx199_4; replace hx199_5 := cl_ HB hx199_5; replace hx199_6 := cl_ HB hx199_6; replace hx199_7 := cl_ HB hx199_7; have HR199_7 := A_ hi199_7; have HC199_7 := A_ hl199_7; clear hi199_7 hl199_7; replace p199 := eq_true p199; replace q199 := eq_true q199; go_wp2_with (first | (refine gD 5 ?_; refine bxe_ 5 z8_ 27 ?_; intro gb200 hg w25 hbox hb; replace HO_3 := A_ (Kd.R_below (hrR_ HO_3.out) hb); have BK200 := A_ (hbox); have GW200 := gs_ w hg; have GE200 := gs_ w hg; replace HB := bs_ hb; have NB190_200 := nl_ BK190 hg; have NB200_190 := ng_ BK190 hg; replace BK190 := bb_ BK190 hb; clear hb hbox hg; have hnb26 := NB200_190.out; have hnc26 := NB190_200.out; have Z27 := bz8_ BK200) | (refine gC 24 ?_; refine gL 33 Try.func24 #[.agg #[.int .i64 ((rd_T27 l0_7 x27_1).f0), .int .i64 ((rd_T27 l0_7 x27_1).f1.f0), .string ((rd_T27 l0_7 x27_1).f1.f1), .string ((rd_T27 l0_7 x27_1).f1.f2), .string ((rd_T27 l0_7 x27_1).f1.f3), .bool ((rd_T27 l0_7 x27_1).f2), .bool ((rd_T27 l0_7 x27_1).f3), .slice A199_7 ((rd_T27 l0_7 x27_1).f4).length c199_7]] ?_; (with_reducible refine (ih k1 (by have := HK1.out; omega) ((rd_T27 l0_7 x27_1).f0) ((rd_T27 l0_7 x27_1).f1.f0) ((rd_T27 l0_7 x27_1).f1.f1) ((rd_T27 l0_7 x27_1).f1.f2) ((rd_T27 l0_7 x27_1).f1.f3) ((rd_T27 l0_7 x27_1).f2) ((rd_T27 l0_7 x27_1).f3) _ _ ((rd_T27 l0_7 x27_1).f4) t201 _ ?side1 ?side2 A23.out).mono ?_); (case side1 => exact Kd.C_below HR199_7.out hs_); (case side2 => exact HC199_7.out); rintro e w28 ⟨rfl, hb⟩; refine ⟨_, rfl, ?_⟩; replace HO_3 := A_ (Kd.R_below (by (with_reducible repeat (first | apply Kd.R_alloc | apply Kd.R_drewN | apply Kd.R_drew)); exact (Kd.R_mono (Kd.R_far (p := ⟨gb200, 7, none⟩) (Kd.R_far (p := ⟨gb200, 6, none⟩) (Kd.R_far (p := ⟨gb200, 5, none⟩) (Kd.R_far (p := ⟨gb200, 4, none⟩) (Kd.R_far (p := ⟨gb200, 3, none⟩) (Kd.R_far (p := ⟨gb200, 2, none⟩) (Kd.R_far (p := ⟨gb200, 1, none⟩) (Kd.R_far (p := ⟨gb200, 0, none⟩) (Kd.R_types HO_3.out BK200.out (by decide)) (fun _ hk => hk.2) (.int .i64 ((rd_T27 l0_7 x27_1).f0))) (fun _ hk => hk.2) (.int .i64 ((rd_T27 l0_7 x27_1).f1.f0))) (fun _ hk => hk.2) (.string ((rd_T27 l0_7 x27_1).f1.f1))) (fun _ hk => hk.2) (.string ((rd_T27 l0_7 x27_1).f1.f2))) (fun _ hk => hk.2) (.string ((rd_T27 l0_7 x27_1).f1.f3))) (fun _ hk => hk.2) (.bool ((rd_T27 l0_7 x27_1).f2))) (fun _ hk => hk.2) (.bool ((rd_T27 l0_7 x27_1).f3))) (fun _ hk => hk.2) (.slice A199_7 ((rd_T27 l0_7 x27_1).f4).length c199_7)) (fun _ h_ => h_.1))) hb); replace BK190 := A_ (blk_below (g := gb190) (o := .cells (n8_ a0_0 a0_1 a0_2 a0_3 a0_4 a0_5 a0_6 (.slice (some ad199) l0_7.length c0_7)) 27 (0, 0)) (pf_ NB190_200 BK190) hb); replace BK200 := bp_ BK200 (.cells #[.int .i64 ((rd_T27 l0_7 x27_1).f0), .int .i64 ((rd_T27 l0_7 x27_1).f1.f0), .string ((rd_T27 l0_7 x27_1).f1.f1), .string ((rd_T27 l0_7 x27_1).f1.f2), .string ((rd_T27 l0_7 x27_1).f1.f3), .bool ((rd_T27 l0_7 x27_1).f2), .bool ((rd_T27 l0_7 x27_1).f3), .slice A199_7 ((rd_T27 l0_7 x27_1).f4).length c199_7] 27 (0, 0)) hb; replace HB := bs_ hb; (try clear hb); (try clear hk)) | ((with_reducible refine gate_builtin (b := .append) (xs := #[.tmp 31, .tmp 34]) rfl ?_); at_builtin; refine Kd.R_append Kd.string (w0 := w) w.heap.size rfl (.tmp 31) (.tmp 34) 67 9 (.string ⟨#[]⟩) 16 rfl Try.underlying67 info9_printtext rfl (by decide) (by omega) u3 x3_1 t201 [.string t201] (fun _ => True) (fun _ => False) rfl rfl ?aP (fun _ hk => hk.elim) ?aF ?aO ?aB ?aS ?aL ?_; (case aP => exact rfl); (case aB => exact hs_); (case aF => exact (fun _ _ => trivial)); (case aO => exact (hrR_ HO_3.out)); (case aS => exact (below_size hs_)); (case aL => have := LMc24.out; omega); intro v203 w29 ho hb hg hat; rw [← Ny202.out] at ho; replace BK190 := A_ (blk_grown (g := gb190) (o := .cells (n8_ a0_0 a0_1 a0_2 a0_3 a0_4 a0_5 a0_6 (.slice (some ad199) l0_7.length c0_7)) 27 (0, 0)) (bl_ BK190.out) hg (Kd.R_ne HO_3.out BK190.out (by decide))); replace BK200 := A_ (blk_grown (g := gb200) (o := .cells #[.int .i64 ((rd_T27 l0_7 x27_1).f0), .int .i64 ((rd_T27 l0_7 x27_1).f1.f0), .string ((rd_T27 l0_7 x27_1).f1.f1), .string ((rd_T27 l0_7 x27_1).f1.f2), .string ((rd_T27 l0_7 x27_1).f1.f3), .bool ((rd_T27 l0_7 x27_1).f2), .bool ((rd_T27 l0_7 x27_1).f3), .slice A199_7 ((rd_T27 l0_7 x27_1).f4).length c199_7] 27 (0, 0)) (bl_ BK200.out) hg (Kd.R_ne HO_3.out BK200.out (by decide))); replace HB := A_ (hb); have HO204 := A_ (ho); clear HO_3; clear ho hb hg hat))
         go_roundg k1
         case measure => have := HK1.out; omega
         case rel => exact ⟨(y202), (wrap64 (x27_1 + 1)), rf_, H', ⟨by have := HK1.out; omega⟩, ⟨fxR_ HO204.out⟩, ⟨bl_ BK190.out⟩, ⟨hs_⟩⟩
        ·rw [if_neg c24] at H
         exact absurd H (by simp)
       ·rw [if_neg c22] at H
        exact absurd H (by simp)
      ·rw [if_neg c21] at H
       exact absurd H (by simp)
     ·rw [if_neg c20] at H
      have c20b0 := decide_eq_false c20; have c20b9 := c20b0; (try simp only [hl191_7] at c20b9); (try simp only [hl193_7] at c20b9); (try simp only [hl199_7] at c20b9); clear c20; obtain ⟨t205, A30, H⟩ := bi_ H; obtain ⟨y206, hy206⟩ : ∃ y_ : List ByteArray, y_ = (([(⟨#[91]⟩ : ByteArray), t205, (⟨#[93]⟩ : ByteArray)] : List ByteArray)) := ⟨_, rfl⟩; (replace H : ((print_join.f y206).bind fun t209 => (some t209)) = some r := hy_ hy206 H); have Ny206 := A_ hy206; clear hy206; obtain ⟨t209, A31, H⟩ := bi_ H; obtain rfl := Option.some.inj H; obtain ⟨Ao32, co32, eo32⟩ := Kd.R_slice HO_3.out; subst eo32; go_wp2_with (first | (refine gC 36 ?_; refine gL 38 Try.func36 #[.slice Ao32 x3_1.length co32, .string ⟨#[44, 32]⟩] ?_; (with_reducible refine (strings_Join.calls _ _ x3_1 (⟨#[44, 32]⟩ : ByteArray) t205 _ ?side1 ?side2 A30.out).mono ?_); (case side1 => exact cr_ (Kd.R_reads' HO_3.out).2.2); (case side2 => exact (Kd.R_reads' HO_3.out).2.1); rintro e w33 ⟨rfl, hb⟩; refine ⟨_, rfl, ?_⟩; replace HO_3 := A_ (Kd.R_below (hrR_ HO_3.out) hb); replace BK190 := bb_ BK190 hb; replace HB := bs_ hb; (try clear hb)) | (refine gD 39 ?_; refine Kd.R_lit Kd.string _ 9 ?hg (N := 39) ?hd (xs := ([(⟨#[91]⟩ : ByteArray), t205, (⟨#[93]⟩ : ByteArray)] : List ByteArray)) (inner := [.string ⟨#[91]⟩, .string t205, .string ⟨#[93]⟩]) (ok := fun _ => True) (okp := fun _ => True) ?hr ?hp (fun _ hk => hk) trivial (Below.refl _ _) (Nat.le_refl _) (by simp) ?_; (case hd => rfl); (case hg => rfl); (case hr => first | (go_simp; done) | (go_simp; rfl)); (case hp => exact (Reps.one (show Kd.M Kd.string _ _ _ (⟨#[91]⟩ : ByteArray) [.string ⟨#[91]⟩] from rfl) (Reps.one (show Kd.M Kd.string _ _ _ t205 [.string t205] from rfl) (Reps.one (show Kd.M Kd.string _ _ _ (⟨#[93]⟩ : ByteArray) [.string ⟨#[93]⟩] from rfl) (Reps.none _ _))))); intro v207 w34 ho35 hb hg_ hnew_; clear hg_ hnew_; (first | rw [← Ny206.out] at ho35 | (simp only [Int.reduceToNat] at ho35; rw [← Ny206.out] at ho35)); have HO208 := A_ (Kd.R_lower (Kd.R_new' ho35 (Kd.R_lt (hrR_ HO_3.out))) (below_size hs_)); replace HO_3 := A_ (Kd.R_elder' (hrR_ HO_3.out) (Kd.R_base ho35) hb); replace BK190 := bb_ BK190 hb; replace HB := bs_ hb; clear hb ho35; obtain ⟨Ao36, co36, eo36⟩ := Kd.R_slice HO208.out; subst eo36) | (refine gC 35 ?_; refine gL 40 Try.func35 #[.slice Ao36 y206.length co36] ?_; (with_reducible refine (print_join.calls _ _ y206 t209 _ ?side1 ?side2 A31.out).mono ?_); (case side1 => exact cr_ (Kd.R_reads' HO208.out).2.2); (case side2 => exact (Kd.R_reads' HO208.out).2.1); rintro e w37 ⟨rfl, hb⟩; refine ⟨_, rfl, ?_⟩; replace HO_3 := A_ (Kd.R_below (hrR_ HO_3.out) hb); replace HO208 := A_ (Kd.R_below (hrR_ HO208.out) hb); replace BK190 := bb_ BK190 hb; replace HB := bs_ hb; (try clear hb)))
      go_ret; exact ⟨re_, hs_⟩
  ·rw [if_neg c17] at H
   have c17b0 : (a0_0 == 2) = false := beq_eq_false_iff_ne.mpr c17; have c17b1 : (a0_0 != 2) = true := bne_iff_ne.mpr c17
   by_cases c38 : a0_0 = 3
   ·rw [if_pos c38] at H
    have c38b0 : (a0_0 == 3) = true := beq_iff_eq.mpr c38; have c38b1 : (a0_0 != 3) = false := bne_eq_false_iff_eq.mpr c38; clear c38; obtain rfl := Option.some.inj H; go_enter Try.func24, Try.ntmps24; go_wp2_with (first | (refine gx_ w 1 (n8_ a0_0 a0_1 a0_2 a0_3 a0_4 a0_5 a0_6 (.slice A0_7 l0_7.length c0_7)) 27 ?_; clear HB; intro gb190 w39 BK190 GE190 HB; have GW190 := GE190; have Z40 := bz8_ BK190)); go_ret; exact ⟨re_, hs_⟩
   ·rw [if_neg c38] at H
    have c38b0 : (a0_0 == 3) = false := beq_eq_false_iff_ne.mpr c38; have c38b1 : (a0_0 != 3) = true := bne_iff_ne.mpr c38
    by_cases c41 : a0_0 = 4
    ·rw [if_pos c41] at H
     have c41b0 : (a0_0 == 4) = true := beq_iff_eq.mpr c41; have c41b1 : (a0_0 != 4) = false := bne_eq_false_iff_eq.mpr c41; clear c41; obtain rfl := Option.some.inj H; go_enter Try.func24, Try.ntmps24; go_wp2_with (first | (refine gx_ w 1 (n8_ a0_0 a0_1 a0_2 a0_3 a0_4 a0_5 a0_6 (.slice A0_7 l0_7.length c0_7)) 27 ?_; clear HB; intro gb190 w42 BK190 GE190 HB; have GW190 := GE190; have Z43 := bz8_ BK190)); go_ret; exact ⟨re_, hs_⟩
    ·rw [if_neg c41] at H
     have c41b0 : (a0_0 == 4) = false := beq_eq_false_iff_ne.mpr c41; have c41b1 : (a0_0 != 4) = true := bne_iff_ne.mpr c41; obtain ⟨t210, A44, H⟩ := bi_ H; obtain ⟨t211, A45, H⟩ := bi_ H; obtain ⟨t212, A46, H⟩ := bi_ H; obtain ⟨y213, hy213⟩ : ∃ y_ : List ByteArray, y_ = (([t210, t211, t212] : List ByteArray)) := ⟨_, rfl⟩; (replace H : ((print_join.f y213).bind fun t216 => (some t216)) = some r := hy_ hy213 H); have Ny213 := A_ hy213; clear hy213; obtain ⟨t216, A47, H⟩ := bi_ H; obtain rfl := Option.some.inj H; go_enter Try.func24, Try.ntmps24; (try go_wp2_with (first | (refine gx_ w 1 (n8_ a0_0 a0_1 a0_2 a0_3 a0_4 a0_5 a0_6 (.slice A0_7 l0_7.length c0_7)) 27 ?_; clear HB; intro gb190 w48 BK190 GE190 HB; have GW190 := GE190; have Z49 := bz8_ BK190))); replace BK190 := A_ (blk_drew BK190.out); replace HB := A_ (below_drew1 HB.out); refine start_ (n := 12) (S := fun w' => C8 w' gb190 (.int .i64 a0_0) (.int .i64 a0_1) (.string a0_2) (.string a0_3) (.string a0_4) (.bool a0_5) (.bool a0_6) (.slice A0_7 l0_7.length c0_7)) (ds := []) (ab 12 0) (by kernel_rfl) rfl rfl (cq8_ BK190) (fun hHeld => ?_); refine with_tabW print_text.tab16 print_text.bits16 (fun HT_ HW_ => ?_)
     generalize w48.drew = w50 at BK190 HB hHeld ⊢; refine pA 0 45 12 1 ?_; refine pA 3 48 12 9 ?_; refine pA 6 51 12 73 ?_; refine tB 1 46 12 75 ?_; refine tB 4 49 12 91 ?_; refine tB 7 52 12 219 ?_; refine oA 2 (some 47) 12 223 fun K hK => ?_; refine gS Try.func37 #[.agg (n4_ a0_1 a0_2 a0_3 a0_4)] ?_; (with_reducible refine (point_Text.calls k a0_1 a0_2 a0_3 a0_4 t210 _ A44.out).mono ?_); rintro e w51 ⟨rfl, hb⟩; refine ⟨_, rfl, ?_⟩; replace BK190 := bb_ BK190 hb; replace HB := bs_ hb; (try clear hb); refine hK.out _ _ (cq8_ BK190) (fun hHeld => ?_); clear hK K; refine nA ?_; refine oA 5 (some 50) 12 255 fun K hK => ?_; refine gS Try.func38 #[.bool a0_5, .string ⟨#[63]⟩] ?_; (with_reducible refine (print_mark.calls a0_5 (⟨#[63]⟩ : ByteArray) t211 _ A45.out).mono ?_); rintro e w' ⟨rfl, ⟨nd, rfl⟩⟩; refine ⟨_, rfl, ?_⟩; refine hK.out _ _ (cq8_ BK190) (fun hHeld => ?_); clear hK K; refine nA ?_; refine oA 8 (some 53) 12 511 fun K hK => ?_; refine gS Try.func38 #[.bool a0_6, .string ⟨#[126]⟩] ?_; (with_reducible refine (print_mark.calls a0_6 (⟨#[126]⟩ : ByteArray) t212 _ A46.out).mono ?_); rintro e w' ⟨rfl, ⟨nd, rfl⟩⟩; refine ⟨_, rfl, ?_⟩; refine hK.out _ _ (cq8_ BK190) (fun hHeld => ?_); clear hK K; refine nA ?_; refine oA 9 (some 54) 12 1023 fun K hK => ?_; refine Kd.R_lit_step Kd.string _ 9 ?hg (N := 54) ?hd (xs := ([t210, t211, t212] : List ByteArray)) (inner := [.string t210, .string t211, .string t212]) (ok := fun _ => True) (okp := fun _ => True) ?hr ?hp (fun _ hk => hk) trivial (Below.refl _ _) (Nat.le_refl _) (by simp) ?_; (case hd => rfl); (case hg => rfl); (case hr => first | (go_simp; done) | (go_simp; rfl)); (case hp => exact (Reps.one (show Kd.M Kd.string _ _ _ t210 [.string t210] from rfl) (Reps.one (show Kd.M Kd.string _ _ _ t211 [.string t211] from rfl) (Reps.one (show Kd.M Kd.string _ _ _ t212 [.string t212] from rfl) (Reps.none _ _)))))
     intro v214 w52 ho53 hb hg_ hnew_; clear hg_ hnew_; (first | rw [← Ny213.out] at ho53 | (simp only [Int.reduceToNat] at ho53; rw [← Ny213.out] at ho53)); have HO215 := A_ (Kd.R_lower ho53 (below_size hs_)); replace BK190 := bb_ BK190 hb; replace HB := bs_ hb; clear hb ho53; obtain ⟨Ao54, co54, eo54⟩ := Kd.R_slice HO215.out; (first | subst eo54 | (injection eo54 with f1_ f2_ f3_; have f4_ := f1_.symm; have f5_ := f3_.symm; clear f1_ f2_ f3_; subst f4_; subst f5_)); refine hK.out _ _ (cq8_ BK190) (fun hHeld => ?_); clear hK K; refine nA ?_; refine oA 10 (some 55) 12 2047 fun K hK => ?_; refine gS Try.func35 #[.slice Ao54 y213.length co54] ?_; (with_reducible refine (print_join.calls _ _ y213 t216 _ ?side1 ?side2 A47.out).mono ?_)
     (case side1 => exact cr_ (Kd.R_reads' HO215.out).2.2)
     (case side2 => exact (Kd.R_reads' HO215.out).2.1)
     rintro e w55 ⟨rfl, hb⟩; refine ⟨_, rfl, ?_⟩; replace HO215 := A_ (Kd.R_below (hrR_ HO215.out) hb); replace BK190 := bb_ BK190 hb; replace HB := bs_ hb; (try clear hb); refine hK.out _ _ (cq8_ BK190) (fun hHeld => ?_); clear hK K; refine nA ?_; refine pA 11 2 12 4095 ?_; refine done_ (done_of HT_.out (by kernel_rfl)) ?_; (try go_wp2); go_ret; exact ⟨re_, hs_⟩
set_option maxHeartbeats 8000000 in
set_option maxRecDepth 100000 in
theorem print_Text.calls (k : Nat) (a0_0 a0_1 : Int) (a0_2 a0_3 a0_4 : ByteArray) (a0_5 a0_6 : Bool) (A0_7 : Option Addr) (c0_7 : Nat) (l0_7 : List (S27)) (r : ByteArray) (w : World) (hr0_7 : Kd.C k27 w A0_7 l0_7.length l0_7) (hc0_7 : l0_7.length ≤ c0_7) (h : print_Text.f k a0_0 a0_1 a0_2 a0_3 a0_4 a0_5 a0_6 l0_7 = some r) :
  Calls Try.prog 12 #[.agg #[.int .i64 a0_0, .int .i64 a0_1, .string a0_2, .string a0_3, .string a0_4, .bool a0_5, .bool a0_6, .slice A0_7 l0_7.length c0_7]] w fun e w' => e = .returned (.string r) ∧ Below w.heap.size w w' := by
 have hu27 := Try.underlying27; have HR0_7 := A_ hr0_7; have HC0_7 := A_ hc0_7; clear hr0_7 hc0_7; have HB := A_ (Below.refl w.heap.size w); have H : ((tree_Sane.f k a0_0 a0_1 a0_2 a0_3 a0_4 a0_5 a0_6 l0_7).bind fun t218 => (if t218 = true then ((print_text.f k a0_0 a0_1 a0_2 a0_3 a0_4 a0_5 a0_6 l0_7).bind fun t219 => (some t219)) else (some (⟨#[]⟩ : ByteArray)))) = some r := h; clear h; obtain ⟨t218, A2, H⟩ := bi_ H
 by_cases c3 : t218 = true
 ·subst c3
  replace H := iP_ H; obtain ⟨t219, A4, H⟩ := bi_ H; obtain rfl := Option.some.inj H; go_enter Try.func12, Try.ntmps12; go_wp2_with (first | (refine gx_ w 1 (n8_ a0_0 a0_1 a0_2 a0_3 a0_4 a0_5 a0_6 (.slice A0_7 l0_7.length c0_7)) 27 ?_; clear HB; intro gb217 w5 BK217 GE217 HB; have GW217 := GE217; have Z6 := bz8_ BK217) | (refine gC 8 ?_; refine gL 4 Try.func8 #[.agg (n8_ a0_0 a0_1 a0_2 a0_3 a0_4 a0_5 a0_6 (.slice A0_7 l0_7.length c0_7))] ?_; (with_reducible refine (tree_Sane.calls k a0_0 a0_1 a0_2 a0_3 a0_4 a0_5 a0_6 _ _ l0_7 true _ ?side1 ?side2 A2.out).mono ?_); (case side1 => exact cb_ HR0_7); (case side2 => exact HC0_7.out); rintro e w7 ⟨rfl, hb⟩; refine ⟨_, rfl, ?_⟩; replace BK217 := bb_ BK217 hb; replace HB := bs_ hb; (try clear hb); have Z8 := bz8_ BK217) | (refine gC 24 ?_; refine gL 7 Try.func24 #[.agg (n8_ a0_0 a0_1 a0_2 a0_3 a0_4 a0_5 a0_6 (.slice A0_7 l0_7.length c0_7))] ?_; (with_reducible refine (print_text.calls k a0_0 a0_1 a0_2 a0_3 a0_4 a0_5 a0_6 _ _ l0_7 t219 _ ?side1 ?side2 A4.out).mono ?_); (case side1 => exact cb_ HR0_7); (case side2 => exact HC0_7.out); rintro e w9 ⟨rfl, hb⟩; refine ⟨_, rfl, ?_⟩; replace BK217 := bb_ BK217 hb; replace HB := bs_ hb; (try clear hb)))
  go_ret; exact ⟨re_, hs_⟩
 ·replace c3 := Bool.eq_false_iff.mpr c3
  subst c3; replace H := iN_ H; obtain rfl := Option.some.inj H; go_enter Try.func12, Try.ntmps12; go_wp2_with (first | (refine gx_ w 1 (n8_ a0_0 a0_1 a0_2 a0_3 a0_4 a0_5 a0_6 (.slice A0_7 l0_7.length c0_7)) 27 ?_; clear HB; intro gb217 w10 BK217 GE217 HB; have GW217 := GE217; have Z11 := bz8_ BK217) | (refine gC 8 ?_; refine gL 4 Try.func8 #[.agg (n8_ a0_0 a0_1 a0_2 a0_3 a0_4 a0_5 a0_6 (.slice A0_7 l0_7.length c0_7))] ?_; (with_reducible refine (tree_Sane.calls k a0_0 a0_1 a0_2 a0_3 a0_4 a0_5 a0_6 _ _ l0_7 false _ ?side1 ?side2 A2.out).mono ?_); (case side1 => exact cb_ HR0_7); (case side2 => exact HC0_7.out); rintro e w12 ⟨rfl, hb⟩; refine ⟨_, rfl, ?_⟩; replace BK217 := bb_ BK217 hb; replace HB := bs_ hb; (try clear hb))); go_ret; exact ⟨re_, hs_⟩
set_option maxHeartbeats 8000000 in
set_option maxRecDepth 100000 in
theorem lustrumlaw13_awake.callsT (k : Nat)  (r : Bool) (w : World) (hrT_ : r = true) (h : lustrumlaw13_awake.f k  = some r) :
  Calls Try.prog 5 #[] w fun e w' => e = .returned (.bool r) ∧ Below w.heap.size w w' := by
 have hu27 := Try.underlying27; have HB := A_ (Below.refl w.heap.size w); have H : ((parse_Parse.f k (⟨#[91, 49, 57, 56, 52, 126, 63, 44, 32, 46, 46, 47, 49, 57, 88, 52, 93]⟩ : ByteArray)).bind fun bt101 => ((parse_Parse.f k (⟨#[49, 57, 56, 52, 47, 91]⟩ : ByteArray)).bind fun bt114 => ((parse_Parse.f k (⟨#[91, 49, 57, 56, 52]⟩ : ByteArray)).bind fun bt127 => (if bt101.2.2.2.2.2.2.2.2.2 = 0 then (if bt101.2.2.2.2.2.2.2.2.1 = 17 then ((print_Text.f k bt101.1 bt101.2.1 bt101.2.2.1 bt101.2.2.2.1 bt101.2.2.2.2.1 bt101.2.2.2.2.2.1 bt101.2.2.2.2.2.2.1 bt101.2.2.2.2.2.2.2.1).bind fun t140 => (if t140.toList = ([91, 49, 57, 56, 52, 63, 126, 44, 32, 46, 46, 47, 49, 57, 88, 52, 93] : List UInt8) then (if bt114.2.2.2.2.2.2.2.2.1 = 5 then (if bt114.2.2.2.2.2.2.2.2.2 = 3 then (if bt127.2.2.2.2.2.2.2.2.1 = 5 then (some (bt127.2.2.2.2.2.2.2.2.2 == 4)) else (some false)) else (some false)) else (some false)) else (some false))) else (some false)) else (some false))))) = some r := h; clear h; obtain ⟨⟨t101, t102, t103, t104, t105, t106, t107, t108, t111, t112⟩, A1, H⟩ := bi_ H; obtain ⟨⟨t114, t115, t116, t117, t118, t119, t120, t121, t124, t125⟩, A2, H⟩ := bi_ H; obtain ⟨⟨t127, t128, t129, t130, t131, t132, t133, t134, t137, t138⟩, A3, H⟩ := bi_ H
 by_cases c4 : t112 = 0
 ·rw [if_pos c4] at H
  have c4b0 : (t112 == 0) = true := beq_iff_eq.mpr c4; have c4b1 : (t112 != 0) = false := bne_eq_false_iff_eq.mpr c4; clear c4
  by_cases c5 : t111 = 17
  ·rw [if_pos c5] at H
   have c5b0 : (t111 == 17) = true := beq_iff_eq.mpr c5; have c5b1 : (t111 != 17) = false := bne_eq_false_iff_eq.mpr c5; clear c5; obtain ⟨t140, A6, H⟩ := bi_ H
   by_cases c7 : t140.toList = ([91, 49, 57, 56, 52, 63, 126, 44, 32, 46, 46, 47, 49, 57, 88, 52, 93] : List UInt8)
   ·rw [if_pos c7] at H
    have c7b0 : (t140.toList == ([91, 49, 57, 56, 52, 63, 126, 44, 32, 46, 46, 47, 49, 57, 88, 52, 93] : List UInt8)) = true := beq_iff_eq.mpr c7; have c7b1 : (t140.toList != ([91, 49, 57, 56, 52, 63, 126, 44, 32, 46, 46, 47, 49, 57, 88, 52, 93] : List UInt8)) = false := bne_eq_false_iff_eq.mpr c7; clear c7
    by_cases c8 : t124 = 5
    ·rw [if_pos c8] at H
     have c8b0 : (t124 == 5) = true := beq_iff_eq.mpr c8; have c8b1 : (t124 != 5) = false := bne_eq_false_iff_eq.mpr c8; clear c8
     by_cases c9 : t125 = 3
     ·rw [if_pos c9] at H
      have c9b0 : (t125 == 3) = true := beq_iff_eq.mpr c9; have c9b1 : (t125 != 3) = false := bne_eq_false_iff_eq.mpr c9; clear c9
      by_cases c10 : t137 = 5
      ·rw [if_pos c10] at H
       have c10b0 : (t137 == 5) = true := beq_iff_eq.mpr c10; have c10b1 : (t137 != 5) = false := bne_eq_false_iff_eq.mpr c10; clear c10; obtain rfl := Option.some.inj H; clear hrT_; go_enter Try.func5, Try.ntmps5; go_wp2_with (first | ((with_reducible refine gC 6 ?_); refine goesL_ (some 11) rfl rfl Try.func6 (by kernel_rfl) rfl #[.string ⟨#[91, 49, 57, 56, 52, 126, 63, 44, 32, 46, 46, 47, 49, 57, 88, 52, 93]⟩] rfl ml_ ?_; (with_reducible refine (parse_Parse.calls k (⟨#[91, 49, 57, 56, 52, 126, 63, 44, 32, 46, 46, 47, 49, 57, 88, 52, 93]⟩ : ByteArray) t101 t102 t103 t104 t105 t106 t107 t108 t111 t112 _ A1.out).mono ?_); rintro e w11 ⟨v109, rfl, ho0, hb⟩; refine ⟨_, rfl, ?_⟩; have HO110 := A_ (Kd.V_lower (Kd.V_mono (ok' := fun k_ => True) ho0 (fun k_ hk_ => trivial)) (below_size hs_)); replace HB := bs_ hb; (try clear hb); (try clear ho0)) | ((with_reducible refine gD 1 ?_); refine bxe_ 1 z8_ 27 ?_; intro gb113 hg w12 hbox hb; replace HO110 := eV_ HO110 hg hb; have BK113 := A_ (hbox); have GW113 := gs_ w hg; have GE113 := gs_ w hg; replace HB := bs_ hb; clear hb hbox hg; have Z13 := bz8_ BK113; obtain ⟨Ao14, co14, eo14⟩ := Kd.V_slice HO110.out; subst eo14) | ((with_reducible refine gC 6 ?_); refine goesL_ (some 16) rfl rfl Try.func6 (by kernel_rfl) rfl #[.string ⟨#[49, 57, 56, 52, 47, 91]⟩] rfl ml_ ?_; (with_reducible refine (parse_Parse.calls k (⟨#[49, 57, 56, 52, 47, 91]⟩ : ByteArray) t114 t115 t116 t117 t118 t119 t120 t121 t124 t125 _ A2.out).mono ?_); rintro e w15 ⟨v122, rfl, ho0, hb⟩; refine ⟨_, rfl, ?_⟩; replace HO110 := bV_ HO110 hb; have HO123 := A_ (Kd.V_lower (Kd.V_mono (ok' := fun k_ => k_ ≠ gb113) ho0 (fun k_ hk_ => (fb_ BK113 k_ hk_))) (below_size hs_)); replace BK113 := bp_ BK113 (.cells (n8_ t101 t102 t103 t104 t105 t106 t107 (.slice Ao14 t108.length co14)) 27 (0, 0)) hb; replace HB := bs_ hb; (try clear hb); (try clear ho0)) | ((with_reducible refine gD 4 ?_); refine bxe_ 4 z8_ 27 ?_; intro gb126 hg w16 hbox hb; replace HO110 := eV_ HO110 hg hb; replace HO123 := eV_ HO123 hg hb; have BK126 := A_ (hbox); have GW126 := gs_ w hg; have GE126 := gs_ w hg; replace HB := bs_ hb; have NB113_126 := nl_ BK113 hg; have NB126_113 := ng_ BK113 hg; replace BK113 := bb_ BK113 hb; clear hb hbox hg; have hnb17 := NB126_113.out; have hnc17 := NB113_126.out; have Z18 := bz8_ BK126; obtain ⟨Ao19, co19, eo19⟩ := Kd.V_slice HO123.out; subst eo19) | ((with_reducible refine gC 6 ?_); refine goesL_ (some 21) rfl rfl Try.func6 (by kernel_rfl) rfl #[.string ⟨#[91, 49, 57, 56, 52]⟩] rfl ml_ ?_; (with_reducible refine (parse_Parse.calls k (⟨#[91, 49, 57, 56, 52]⟩ : ByteArray) t127 t128 t129 t130 t131 t132 t133 t134 t137 t138 _ A3.out).mono ?_); rintro e w20 ⟨v135, rfl, ho0, hb⟩; refine ⟨_, rfl, ?_⟩; replace HO110 := bV_ HO110 hb; replace HO123 := bV_ HO123 hb; have HO136 := A_ (Kd.V_lower (Kd.V_mono (ok' := fun k_ => k_ ≠ gb113 ∧ k_ ≠ gb126) ho0 (fun k_ hk_ => ⟨(Kd.freshB (g := gb113) (o := .cells (n8_ t101 t102 t103 t104 t105 t106 t107 (.slice Ao14 t108.length co14)) 27 (0, 0)) (pf_ NB113_126 BK113) k_ hk_), (fb_ BK126 k_ hk_)⟩)) (below_size hs_)); replace BK113 := A_ (blk_below (g := gb113) (o := .cells (n8_ t101 t102 t103 t104 t105 t106 t107 (.slice Ao14 t108.length co14)) 27 (0, 0)) (pf_ NB113_126 BK113) hb); replace BK126 := bp_ BK126 (.cells (n8_ t114 t115 t116 t117 t118 t119 t120 (.slice Ao19 t121.length co19)) 27 (0, 0)) hb; replace HB := bs_ hb; (try clear hb); (try clear ho0)) | ((with_reducible refine gD 7 ?_); refine bxe_ 7 z8_ 27 ?_; intro gb139 hg w21 hbox hb; replace HO110 := eV_ HO110 hg hb; replace HO123 := eV_ HO123 hg hb; replace HO136 := eV_ HO136 hg hb; have BK139 := A_ (hbox); have GW139 := gs_ w hg; have GE139 := gs_ w hg; replace HB := bs_ hb; have NB113_139 := nl_ BK113 hg; have NB139_113 := ng_ BK113 hg; replace BK113 := bb_ BK113 hb; have NB126_139 := nl_ BK126 hg; have NB139_126 := ng_ BK126 hg; replace BK126 := bb_ BK126 hb; clear hb hbox hg; have hnb22 := NB139_113.out; have hnc22 := NB113_139.out; have hnb23 := NB139_126.out; have hnc23 := NB126_139.out; have Z24 := bz8_ BK139; obtain ⟨Ao25, co25, eo25⟩ := Kd.V_slice HO136.out; subst eo25; have Z26 := bz8_ BK113) | (go_at_call 12; (with_reducible refine (print_Text.calls k t101 t102 t103 t104 t105 t106 t107 _ _ t108 t140 _ ?side1 ?side2 A6.out).mono ?_); (case side1 => refine (Kd.V_reads' (e := 27) (base := w.heap.size) (ok := fun k_ => (((True ∧ k_ ≠ gb113) ∧ k_ ≠ gb126) ∧ k_ ≠ gb139)) (n := t108.length) (c := co14) ?_).2.2; exact (fxV_ HO110.out)); (case side2 => exact (Kd.V_reads' HO110.out).2.1); rintro e w27 ⟨rfl, hb⟩; replace HO110 := bV_ HO110 hb; replace HO123 := bV_ HO123 hb; replace HO136 := bV_ HO136 hb; replace BK113 := A_ (blk_below (g := gb113) (o := .cells (n8_ t101 t102 t103 t104 t105 t106 t107 (.slice Ao14 t108.length co14)) 27 (0, 0)) (pf_ NB113_139 BK113) hb); replace BK126 := A_ (blk_below (g := gb126) (o := .cells (n8_ t114 t115 t116 t117 t118 t119 t120 (.slice Ao19 t121.length co19)) 27 (0, 0)) (pf_ NB126_139 BK126) hb); replace BK139 := bp_ BK139 (.cells (n8_ t127 t128 t129 t130 t131 t132 t133 (.slice Ao25 t134.length co25)) 27 (0, 0)) hb; replace HB := bs_ hb; (try clear hb)))
       go_ret; exact ⟨re_, hs_⟩
      ·rw [if_neg c10] at H
       have c10b0 : (t137 == 5) = false := beq_eq_false_iff_ne.mpr c10; have c10b1 : (t137 != 5) = true := bne_iff_ne.mpr c10; exact absurd ((Option.some.inj H).trans hrT_) (by decide)
     ·rw [if_neg c9] at H
      have c9b0 : (t125 == 3) = false := beq_eq_false_iff_ne.mpr c9; have c9b1 : (t125 != 3) = true := bne_iff_ne.mpr c9; exact absurd ((Option.some.inj H).trans hrT_) (by decide)
    ·rw [if_neg c8] at H
     have c8b0 : (t124 == 5) = false := beq_eq_false_iff_ne.mpr c8; have c8b1 : (t124 != 5) = true := bne_iff_ne.mpr c8; exact absurd ((Option.some.inj H).trans hrT_) (by decide)
   ·rw [if_neg c7] at H
    have c7b0 : (t140.toList == ([91, 49, 57, 56, 52, 63, 126, 44, 32, 46, 46, 47, 49, 57, 88, 52, 93] : List UInt8)) = false := beq_eq_false_iff_ne.mpr c7; have c7b1 : (t140.toList != ([91, 49, 57, 56, 52, 63, 126, 44, 32, 46, 46, 47, 49, 57, 88, 52, 93] : List UInt8)) = true := bne_iff_ne.mpr c7; exact absurd ((Option.some.inj H).trans hrT_) (by decide)
  ·rw [if_neg c5] at H
   have c5b0 : (t111 == 17) = false := beq_eq_false_iff_ne.mpr c5; have c5b1 : (t111 != 17) = true := bne_iff_ne.mpr c5; exact absurd ((Option.some.inj H).trans hrT_) (by decide)
 ·rw [if_neg c4] at H
  have c4b0 : (t112 == 0) = false := beq_eq_false_iff_ne.mpr c4; have c4b1 : (t112 != 0) = true := bne_iff_ne.mpr c4; exact absurd ((Option.some.inj H).trans hrT_) (by decide)
theorem Ev.only13 {α : Type} {f : Nat → Option α} {r q : α} (hm : ∀ k, LeO (f k) (f (k + 1))) (h : Ev f r) {k : Nat} (hk : f k = some q) : q = r := by
  obtain ⟨K, hK⟩ := h
  have up : ∀ j, f (k + j) = some q := fun j => by
    induction j with
    | zero => exact hk
    | succ j ih => exact hm (k + j) q ih
  exact Option.some.inj ((up K).symm.trans (hK (k + K) (by omega)))
theorem lustrumlaw13_awake.calls (k : Nat) (r : Bool) (w : World) (h : lustrumlaw13_awake.f k = some r) :
    Calls Try.prog 5 #[] w fun e w' => e = .returned (.bool r) ∧ Below w.heap.size w w' := lustrumlaw13_awake.callsT k r w (Ev.only13 lustrumlaw13_awake.mono awake13 h) h
set_option maxHeartbeats 8000000 in
set_option maxRecDepth 100000 in
theorem lustrumlaw13_ParseParts.calls (k : Nat) (a0 a1 : ByteArray) (r : Bool) (w : World) (hrT_ : r = true) (h : lustrumlaw13_ParseParts.f k a0 a1 = some r) :
  Calls Try.prog 3 #[.string a0, .string a1] w fun e w' => e = .returned (.bool r) ∧ Below w.heap.size w w' := by
 have hu27 := Try.underlying27; have HB := A_ (Below.refl w.heap.size w); have H : ((lustrumlaw13_awake.f k).bind fun t141 => (if (a0.size : Int) > 400 then (lustrumlaw13_ParseParts.j0 k a0 a1 t141 true) else (lustrumlaw13_ParseParts.j0 k a0 a1 t141 (decide ((a1.size : Int) > 400))))) = some r := h; clear h; obtain ⟨t141, A3, H⟩ := bi_ H; have HC4 := A_ H; clear H; go_enter Try.func3, Try.ntmps3; go_upto_region 2 with (first | ((with_reducible refine gC 5 ?_); refine gL 16 Try.func5 #[] ?_; (with_reducible refine (lustrumlaw13_awake.calls k  t141 _ A3.out).mono ?_); rintro e w5 ⟨rfl, hb⟩; refine ⟨_, rfl, ?_⟩; replace HB := bs_ hb; (try clear hb))); (try simp only [Act.put, List.setIfInBounds_toArray, List.set_cons_zero, List.set_cons_succ]); go_cut [24] (fun v24 wc => ∃ (kq : Nat) (x24_3 : Bool), v24 = .bool x24_3 ∧ Aside0 (lustrumlaw13_ParseParts.j0 kq a0 a1 t141 x24_3 = some r) ∧ Aside0 (kq ≤ k) ∧ Aside0 (Below w.heap.size w wc))
 case first =>
  have H := HC4.out; clear HC4
  by_cases c6 : (a0.size : Int) > 400
  ·rw [if_pos c6] at H
   have c6b0 := decide_eq_true c6; have c6b1 : decide (400 < a0.size) = true := decide_eq_true (by omega); clear c6; (first | rw [c6b0] | (simp only [i64_w, i32_w]; rw [c6b0]) | skip); have H' := A_ H; clear H; go_wp2; go_meet
   case rel => exact ⟨_, (true), rf_, H', ⟨by first | omega | exact Nat.le_refl _⟩, ⟨hs_⟩⟩
  ·rw [if_neg c6] at H
   have c6b0 := decide_eq_false c6; have c6b1 : decide (400 < a0.size) = false := decide_eq_false (by omega); clear c6; (first | rw [c6b0] | (simp only [i64_w, i32_w]; rw [c6b0]) | skip); have H' := A_ H; clear H; go_wp2; go_meet
   case rel => exact ⟨_, (decide ((a1.size : Int) > 400)), rf_, H', ⟨by first | omega | exact Nat.le_refl _⟩, ⟨hs_⟩⟩
 case rest =>
  clear HC4; (try clear p2); (try clear c3); (try clear c5); (try clear c6); (try clear c6b0); (try clear c6b1); obtain ⟨kq, x24_3, rfl, HA, HJ3, HB⟩ := hcut
  cases kq with
  | zero => exact absurd HA.out (by simp [lustrumlaw13_ParseParts.j0])
  | succ kj3 =>
   have H := HA.out; clear HA; simp only [lustrumlaw13_ParseParts.j0] at H
   by_cases c7 : x24_3 = true
   ·subst c7
    replace H := iP_ H; obtain rfl := Option.some.inj H; clear hrT_; go_wp2; go_ret; exact ⟨re_, hs_⟩
   ·replace c7 := Bool.eq_false_iff.mpr c7
    subst c7; replace H := iN_ H; obtain ⟨⟨t142, t143, t144, t145, t146, t147, t148, t149, t152, t153⟩, A8, H⟩ := bi_ H; obtain ⟨⟨t155, t156, t157, t158, t159, t160, t161, t162, t165, t166⟩, A9, H⟩ := bi_ H
    by_cases c10 : 1 + a0.size ≤ 9223372036854775807
    ·rw [if_pos c10] at H
     have c10b0 := eq_true c10; have c10b1 := decide_eq_true c10; (try have c10b2 : (9223372036854775807 < 1 + a0.size) = False := eq_false (Nat.not_lt.2 c10))
     by_cases c11 : ((⟨#[91]⟩ : ByteArray) ++ a0).size + 1 ≤ 9223372036854775807
     ·rw [if_pos c11] at H
      have c11b0 := eq_true c11; have c11b1 := decide_eq_true c11; (try have c11b2 : (9223372036854775807 < ((⟨#[91]⟩ : ByteArray) ++ a0).size + 1) = False := eq_false (Nat.not_lt.2 c11)); (try have c11b3 : (9223372036854775807 < 1 + a0.size + 1) = False := eq_false (Nat.not_lt.2 (by have h_ := c11; simp only [ByteArray.size_append] at h_; exact h_)))
      by_cases c12 : (((⟨#[91]⟩ : ByteArray) ++ a0) ++ (⟨#[44]⟩ : ByteArray)).size + a1.size ≤ 9223372036854775807
      ·rw [if_pos c12] at H
       have c12b0 := eq_true c12; have c12b1 := decide_eq_true c12; (try have c12b2 : (9223372036854775807 < (((⟨#[91]⟩ : ByteArray) ++ a0) ++ (⟨#[44]⟩ : ByteArray)).size + a1.size) = False := eq_false (Nat.not_lt.2 c12)); (try have c12b3 : (9223372036854775807 < 1 + a0.size + 1 + a1.size) = False := eq_false (Nat.not_lt.2 (by have h_ := c12; simp only [ByteArray.size_append] at h_; exact h_)))
       by_cases c13 : ((((⟨#[91]⟩ : ByteArray) ++ a0) ++ (⟨#[44]⟩ : ByteArray)) ++ a1).size + 1 ≤ 9223372036854775807
       ·rw [if_pos c13] at H
        have c13b0 := eq_true c13; have c13b1 : decide (((((⟨#[91]⟩ : ByteArray) ++ a0) ++ (⟨#[44]⟩ : ByteArray)) ++ a1).size + 1 ≤ 9223372036854775807) = true := decide_eq_true c13; (try have c13b2 : (9223372036854775807 < ((((⟨#[91]⟩ : ByteArray) ++ a0) ++ (⟨#[44]⟩ : ByteArray)) ++ a1).size + 1) = False := eq_false (Nat.not_lt.2 c13)); (try have c13b3 : (9223372036854775807 < 1 + a0.size + 1 + a1.size + 1) = False := eq_false (Nat.not_lt.2 (by have h_ := c13; simp only [ByteArray.size_append] at h_; exact h_))); obtain ⟨⟨t168, t169, t170, t171, t172, t173, t174, t175, t178, t179⟩, A14, H⟩ := bi_ H; have HC15 := A_ H; clear H; go_upto_region 7 with (first | ((with_reducible refine gC 6 ?_); refine gL 28 Try.func6 #[.string a0] ?_; (with_reducible refine (parse_Parse.calls kj3 a0 t142 t143 t144 t145 t146 t147 t148 t149 t152 t153 _ A8.out).mono ?_); rintro e w16 ⟨v150, rfl, ho0, hb⟩; refine ⟨_, rfl, ?_⟩; have HO151 := A_ (Kd.V_lower (Kd.V_mono (ok' := fun k_ => True) ho0 (fun k_ hk_ => trivial)) (below_size hs_)); replace HB := bs_ hb; (try clear hb); (try clear ho0)) | ((with_reducible refine gD 6 ?_); (try (refine gate_guard (by rfl) ?_; dsimp only)); refine bxe_ 6 z8_ 27 ?_; intro gb154 hg w17 hbox hb; replace HO151 := eV_ HO151 hg hb; have BK154 := A_ (hbox); have GW154 := gs_ w hg; have GE154 := gs_ w hg; replace HB := bs_ hb; clear hb hbox hg; have Z18 := bz8_ BK154; obtain ⟨Ao19, co19, eo19⟩ := Kd.V_slice HO151.out; subst eo19) | ((with_reducible refine gC 6 ?_); refine gL 34 Try.func6 #[.string a1] ?_; (with_reducible refine (parse_Parse.calls kj3 a1 t155 t156 t157 t158 t159 t160 t161 t162 t165 t166 _ A9.out).mono ?_); rintro e w20 ⟨v163, rfl, ho0, hb⟩; refine ⟨_, rfl, ?_⟩; replace HO151 := bV_ HO151 hb; have HO164 := A_ (Kd.V_lower (Kd.V_mono (ok' := fun k_ => k_ ≠ gb154) ho0 (fun k_ hk_ => (fb_ BK154 k_ hk_))) (below_size hs_)); replace BK154 := bp_ BK154 (.cells (n8_ t142 t143 t144 t145 t146 t147 t148 (.slice Ao19 t149.length co19)) 27 (0, 0)) hb; replace HB := bs_ hb; (try clear hb); (try clear ho0)) | ((with_reducible refine gD 9 ?_); (try (refine gate_guard (by rfl) ?_; dsimp only)); refine bxe_ 9 z8_ 27 ?_; intro gb167 hg w21 hbox hb; replace HO151 := eV_ HO151 hg hb; replace HO164 := eV_ HO164 hg hb; have BK167 := A_ (hbox); have GW167 := gs_ w hg; have GE167 := gs_ w hg; replace HB := bs_ hb; have NB154_167 := nl_ BK154 hg; have NB167_154 := ng_ BK154 hg; replace BK154 := bb_ BK154 hb; clear hb hbox hg; have hnb22 := NB167_154.out; have hnc22 := NB154_167.out; have Z23 := bz8_ BK167; obtain ⟨Ao24, co24, eo24⟩ := Kd.V_slice HO164.out; subst eo24) | ((with_reducible refine gC 6 ?_); refine gL 45 Try.func6 #[.string (((((⟨#[91]⟩ : ByteArray) ++ a0) ++ (⟨#[44]⟩ : ByteArray)) ++ a1) ++ (⟨#[93]⟩ : ByteArray))] ?_; (with_reducible refine (parse_Parse.calls kj3 (((((⟨#[91]⟩ : ByteArray) ++ a0) ++ (⟨#[44]⟩ : ByteArray)) ++ a1) ++ (⟨#[93]⟩ : ByteArray)) t168 t169 t170 t171 t172 t173 t174 t175 t178 t179 _ A14.out).mono ?_); rintro e w25 ⟨v176, rfl, ho0, hb⟩; refine ⟨_, rfl, ?_⟩; replace HO151 := bV_ HO151 hb; replace HO164 := bV_ HO164 hb; have HO177 := A_ (Kd.V_lower (Kd.V_mono (ok' := fun k_ => k_ ≠ gb154 ∧ k_ ≠ gb167) ho0 (fun k_ hk_ => ⟨(Kd.freshB (g := gb154) (o := .cells (n8_ t142 t143 t144 t145 t146 t147 t148 (.slice Ao19 t149.length co19)) 27 (0, 0)) (pf_ NB154_167 BK154) k_ hk_), (fb_ BK167 k_ hk_)⟩)) (below_size hs_)); replace BK154 := A_ (blk_below (g := gb154) (o := .cells (n8_ t142 t143 t144 t145 t146 t147 t148 (.slice Ao19 t149.length co19)) 27 (0, 0)) (pf_ NB154_167 BK154) hb); replace BK167 := bp_ BK167 (.cells (n8_ t155 t156 t157 t158 t159 t160 t161 (.slice Ao24 t162.length co24)) 27 (0, 0)) hb; replace HB := bs_ hb; (try clear hb); (try clear ho0)) | ((with_reducible refine gD 12 ?_); (try (refine gate_guard (by rfl) ?_; dsimp only)); refine bxe_ 12 z8_ 27 ?_; intro gb180 hg w26 hbox hb; replace HO151 := eV_ HO151 hg hb; replace HO164 := eV_ HO164 hg hb; replace HO177 := eV_ HO177 hg hb; have BK180 := A_ (hbox); have GW180 := gs_ w hg; have GE180 := gs_ w hg; replace HB := bs_ hb; have NB154_180 := nl_ BK154 hg; have NB180_154 := ng_ BK154 hg; replace BK154 := bb_ BK154 hb; have NB167_180 := nl_ BK167 hg; have NB180_167 := ng_ BK167 hg; replace BK167 := bb_ BK167 hb; clear hb hbox hg; have hnb27 := NB180_154.out; have hnc27 := NB154_180.out; have hnb28 := NB180_167.out; have hnc28 := NB167_180.out; have Z29 := bz8_ BK180; obtain ⟨Ao30, co30, eo30⟩ := Kd.V_slice HO177.out; subst eo30))
        (try simp only [Act.put, List.setIfInBounds_toArray, List.set_cons_zero, List.set_cons_succ]); go_cut [54] (fun v54 wc => ∃ (kq : Nat) (x54_14 : Bool), v54 = .bool x54_14 ∧ Aside0 (lustrumlaw13_ParseParts.j1 kq a0 a1 t141 t178 t179 x54_14 t142 t143 t144 t145 t146 t147 t148 t149 t155 t156 t157 t158 t159 t160 t161 t162 t168 t169 t170 t171 t172 t173 t174 t175 = some r) ∧ Aside0 (kq ≤ kj3) ∧ Aside0 (Kd.V k27 27 wc w.heap.size (fun k_ => k_ ≠ gb154 ∧ k_ ≠ gb167 ∧ k_ ≠ gb180) (.slice Ao19 t149.length co19) t149) ∧ Aside0 (Kd.V k27 27 wc w.heap.size (fun k_ => k_ ≠ gb154 ∧ k_ ≠ gb167 ∧ k_ ≠ gb180) (.slice Ao24 t162.length co24) t162) ∧ Aside0 (Kd.V k27 27 wc w.heap.size (fun k_ => k_ ≠ gb154 ∧ k_ ≠ gb167 ∧ k_ ≠ gb180) (.slice Ao30 t175.length co30) t175) ∧ Aside0 (wc.heap[gb154]? = some (.cells #[.int .i64 t142, .int .i64 t143, .string t144, .string t145, .string t146, .bool t147, .bool t148, (.slice Ao19 t149.length co19)] 27 (0, 0))) ∧ Aside0 (wc.heap[gb167]? = some (.cells #[.int .i64 t155, .int .i64 t156, .string t157, .string t158, .string t159, .bool t160, .bool t161, (.slice Ao24 t162.length co24)] 27 (0, 0))) ∧ Aside0 (wc.heap[gb180]? = some (.cells #[.int .i64 t168, .int .i64 t169, .string t170, .string t171, .string t172, .bool t173, .bool t174, (.slice Ao30 t175.length co30)] 27 (0, 0))) ∧ Aside0 (Below w.heap.size w wc))
        case first =>
         have H := HC15.out; clear HC15
         by_cases c31 : t153 = 0
         ·rw [if_pos c31] at H
          have c31b0 : (t153 == 0) = true := beq_iff_eq.mpr c31; have c31b1 : (t153 != 0) = false := bne_eq_false_iff_eq.mpr c31; clear c31; (first | rw [c31b0] | (simp only [i64_w, i32_w]; rw [c31b0]) | skip); have H' := A_ H; clear H; go_wp2; go_meet
          case rel => exact ⟨_, ((t166 != 0)), rf_, H', ⟨by have := HJ3.out; first | omega | exact Nat.le_refl _⟩, ⟨fpV_ HO151.out⟩, ⟨fpV_ HO164.out⟩, ⟨fpV_ HO177.out⟩, ⟨pf_ NB154_180 BK154⟩, ⟨pf_ NB167_180 BK167⟩, ⟨pb_ BK180.out⟩, ⟨hs_⟩⟩
         ·rw [if_neg c31] at H
          have c31b0 : (t153 == 0) = false := beq_eq_false_iff_ne.mpr c31; have c31b1 : (t153 != 0) = true := bne_iff_ne.mpr c31; (first | rw [c31b0] | (simp only [i64_w, i32_w]; rw [c31b0]) | skip); have H' := A_ H; clear H; go_wp2; go_meet
          case rel => exact ⟨_, (true), rf_, H', ⟨by have := HJ3.out; first | omega | exact Nat.le_refl _⟩, ⟨fpV_ HO151.out⟩, ⟨fpV_ HO164.out⟩, ⟨fpV_ HO177.out⟩, ⟨pf_ NB154_180 BK154⟩, ⟨pf_ NB167_180 BK167⟩, ⟨pb_ BK180.out⟩, ⟨hs_⟩⟩
        case rest =>
         clear HC15; (try clear c1); (try clear c2); (try clear p2); (try clear c3); (try clear c5); (try clear c6); (try clear c6b0); (try clear c6b1); (try clear c7); (try clear c10); (try clear c10b0); (try clear c10b1); (try clear c10b2); (try clear c11); (try clear c11b0); (try clear c11b1); (try clear c11b2); (try clear c12); (try clear c12b0); (try clear c12b1); (try clear c12b2); (try clear c13); (try clear c13b0); (try clear c13b1); (try clear c13b2); (try clear c22); (try clear c27); (try clear c28); (try clear c31); (try clear c31b0); (try clear c31b1); (try clear Z18); (try clear Z23); (try clear Z29); (try clear p2); obtain ⟨kq, x54_14, rfl, HA, HJ14, HO_155007, HO_168007, HO_181007, BK154, BK167, BK180, HB⟩ := hcut
         cases kq with
         | zero => exact absurd HA.out (by simp [lustrumlaw13_ParseParts.j1])
         | succ kj14 =>
          have H := HA.out; clear HA; simp only [lustrumlaw13_ParseParts.j1] at H
          by_cases c32 : x54_14 = true
          ·subst c32
           replace H := iP_ H; obtain rfl := Option.some.inj H; clear hrT_; go_wp2; go_ret; exact ⟨re_, hs_⟩
          ·replace c32 := Bool.eq_false_iff.mpr c32
           subst c32; replace H := iN_ H; obtain ⟨y181, hy181⟩ : ∃ y_ : List (S27), y_ = (([(⟨t142, (⟨t143, t144, t145, t146⟩ : S24), t147, t148, t149⟩ : S27), (⟨t155, (⟨t156, t157, t158, t159⟩ : S24), t160, t161, t162⟩ : S27)] : List (S27))) := ⟨_, rfl⟩; (replace H : ((tree_OneOf.f y181).bind fun bt184 => ((tree_Sane.f kj14 bt184.1 bt184.2.1 bt184.2.2.1 bt184.2.2.2.1 bt184.2.2.2.2.1 bt184.2.2.2.2.2.1 bt184.2.2.2.2.2.2.1 bt184.2.2.2.2.2.2.2).bind fun t195 => (if t195 = true then (if t141 = true then (if t179 = 0 then (if t178 = (wrap64 ((wrap64 ((a0.size : Int) + (a1.size : Int))) + 3)) then ((tree_Same.f kj14 t168 t169 t170 t171 t172 t173 t174 t175 bt184.1 bt184.2.1 bt184.2.2.1 bt184.2.2.2.1 bt184.2.2.2.2.1 bt184.2.2.2.2.2.1 bt184.2.2.2.2.2.2.1 bt184.2.2.2.2.2.2.2).bind fun t196 => (some t196)) else (some false)) else (some false)) else (some false)) else (if t141 = true then (if t179 = 5 then (some true) else (some (t179 == 6))) else (some false))))) = some r := by first | (rw [hy181]; with_reducible exact H) | (have H2_ := (Option.bind_some _ _).symm.trans H; rw [hy181]; with_reducible exact H2_) | (have H2_ := (Option.bind_some _ _).symm.trans H; with_reducible exact H2_) | with_reducible exact H | (rw [hy181]; exact H) | exact H); have Ny181 := A_ hy181; clear hy181; obtain ⟨⟨t184, t185, t186, t187, t188, t189, t190, t191⟩, A33, H⟩ := bi_ H; obtain ⟨t195, A34, H⟩ := bi_ H
           by_cases c35 : t195 = true
           ·subst c35
            replace H := iP_ H
            by_cases c36 : t141 = true
            ·subst c36
             replace H := iP_ H
             by_cases c37 : t179 = 0
             ·rw [if_pos c37] at H
              have c37b0 : (t179 == 0) = true := beq_iff_eq.mpr c37; have c37b1 : (t179 != 0) = false := bne_eq_false_iff_eq.mpr c37; clear c37
              by_cases c38 : t178 = (wrap64 ((wrap64 ((a0.size : Int) + (a1.size : Int))) + 3))
              ·rw [if_pos c38] at H
               have c38b0 : (t178 == (wrap64 ((wrap64 ((a0.size : Int) + (a1.size : Int))) + 3))) = true := beq_iff_eq.mpr c38; have c38b1 : (t178 != (wrap64 ((wrap64 ((a0.size : Int) + (a1.size : Int))) + 3))) = false := bne_eq_false_iff_eq.mpr c38; clear c38; obtain ⟨t196, A39, H⟩ := bi_ H; obtain rfl := Option.some.inj H; clear hrT_; have hnb40 := NB154_167.out; have hnc40 := NB167_154.out; have hnb41 := NB154_180.out; have hnc41 := NB180_154.out; have Z42 := bz8_ BK154; have hnb43 := NB167_180.out; have hnc43 := NB180_167.out; have Z44 := bz8_ BK167; go_wp2_with (first | ((with_reducible refine gD 58 ?_); (try (refine gate_guard (by rfl) ?_; dsimp only)); refine Kd.N_lit k27 _ 27 ?hg (N' := 58) ?hd (xs := ([(⟨t142, (⟨t143, t144, t145, t146⟩ : S24), t147, t148, t149⟩ : S27), (⟨t155, (⟨t156, t157, t158, t159⟩ : S24), t160, t161, t162⟩ : S27)] : List (S27))) (inner := [.int .i64 t142, .int .i64 t143, .string t144, .string t145, .string t146, .bool t147, .bool t148, .slice Ao19 t149.length co19, .int .i64 t155, .int .i64 t156, .string t157, .string t158, .string t159, .bool t160, .bool t161, .slice Ao24 t162.length co24]) (ok := (fun k_ => k_ ≠ gb154 ∧ k_ ≠ gb167 ∧ k_ ≠ gb180)) (okp := (fun k_ => k_ ≠ gb154 ∧ k_ ≠ gb167 ∧ k_ ≠ gb180)) ?hr ?hp (fun _ hk => hk) ((show ∀ k_, wc.heap.size ≤ k_ → (fun k_ => k_ ≠ gb154 ∧ k_ ≠ gb167 ∧ k_ ≠ gb180) k_ from fun k_ hk => ⟨fb_ BK154 k_ hk, fb_ BK167 k_ hk, fb_ BK180 k_ hk⟩) _ (Nat.le_refl _)) (Below.refl _ _) (Nat.le_refl _) (by simp) ?_; (case hd => rfl); (case hg => rfl); (case hr => first | (go_simp; done) | (go_simp; rfl)); (case hp => exact (Reps.c8 (show Kd.FK k27 _ _ (⟨t142, (⟨t143, t144, t145, t146⟩ : S24), t147, t148, t149⟩ : S27) [.int .i64 t142, .int .i64 t143, .string t144, .string t145, .string t146, .bool t147, .bool t148, .slice Ao19 t149.length co19] from (k27_mkF _ _ (⟨t142, (⟨t143, t144, t145, t146⟩ : S24), t147, t148, t149⟩ : S27) (Kd.V_reads' (Kd.V_mono (ok' := (fun k_ => k_ ≠ gb154 ∧ k_ ≠ gb167 ∧ k_ ≠ gb180)) (HO_155007.out) (fun k_ hk => ⟨hk.1, ⟨hk.2.1, hk.2.2⟩⟩))).2.1 (Kd.V_F (Kd.V_mono (ok' := (fun k_ => k_ ≠ gb154 ∧ k_ ≠ gb167 ∧ k_ ≠ gb180)) (HO_155007.out) (fun k_ hk => ⟨hk.1, ⟨hk.2.1, hk.2.2⟩⟩))))) (Reps.c8 (show Kd.FK k27 _ _ (⟨t155, (⟨t156, t157, t158, t159⟩ : S24), t160, t161, t162⟩ : S27) [.int .i64 t155, .int .i64 t156, .string t157, .string t158, .string t159, .bool t160, .bool t161, .slice Ao24 t162.length co24] from (k27_mkF _ _ (⟨t155, (⟨t156, t157, t158, t159⟩ : S24), t160, t161, t162⟩ : S27) (Kd.V_reads' (Kd.V_mono (ok' := (fun k_ => k_ ≠ gb154 ∧ k_ ≠ gb167 ∧ k_ ≠ gb180)) (HO_168007.out) (fun k_ hk => ⟨hk.1, ⟨hk.2.1, hk.2.2⟩⟩))).2.1 (Kd.V_F (Kd.V_mono (ok' := (fun k_ => k_ ≠ gb154 ∧ k_ ≠ gb167 ∧ k_ ≠ gb180)) (HO_168007.out) (fun k_ hk => ⟨hk.1, ⟨hk.2.1, hk.2.2⟩⟩))))) (Reps.none _ _)))); intro v182 w45 ho46 hb hg_ hnew_; clear hg_ hnew_; (first | rw [← Ny181.out] at ho46 | (simp only [Int.reduceToNat] at ho46; rw [← Ny181.out] at ho46)); replace HO_155007 := A_ (Kd.V_elder' (fxV_ HO_155007.out) (Kd.N_base ho46) hb); replace HO_168007 := A_ (Kd.V_elder' (fxV_ HO_168007.out) (Kd.N_base ho46) hb); replace HO_181007 := A_ (Kd.V_elder' (fxV_ HO_181007.out) (Kd.N_base ho46) hb); have HO183 := A_ (Kd.N_lower ho46 (below_size hs_)); replace BK154 := bb_ BK154 hb; replace BK167 := bb_ BK167 hb; replace BK180 := bb_ BK180 hb; replace HB := bs_ hb; clear hb ho46; obtain ⟨Ao47, co47, eo47⟩ := Kd.N_slice HO183.out; subst eo47) | ((with_reducible refine gC 7 ?_); refine gL 59 Try.func7 #[.slice Ao47 y181.length co47] ?_; (with_reducible refine (tree_OneOf.calls (fun k_ => (k_ ≠ gb154 ∧ (k_ ≠ gb167 ∧ k_ ≠ gb180))) _ _ y181 t184 t185 t186 t187 t188 t189 t190 t191 _ ?side1 A33.out).mono ?_); (case side1 => exact Kd.N_V (HO183.out)); rintro e w48 ⟨v192, rfl, ho0, hb⟩; refine ⟨_, rfl, ?_⟩; replace HO_155007 := dV_ HO_155007 ho0 hb; replace HO_168007 := dV_ HO_168007 ho0 hb; replace HO_181007 := dV_ HO_181007 ho0 hb; replace HO183 := dN_ HO183 ho0 hb; have HO193 := A_ (Kd.N_lower (Kd.N_mono (ok' := fun k_ => k_ ≠ gb154 ∧ k_ ≠ gb167 ∧ k_ ≠ gb180) ho0 (fun k_ hk_ => ⟨hk_.elim (·.1) (fb_ BK154 k_), hk_.elim (·.2.1) (fb_ BK167 k_), hk_.elim (·.2.2) (fb_ BK180 k_)⟩)) (below_size hs_)); replace BK154 := bb_ BK154 hb; replace BK167 := bb_ BK167 hb; replace BK180 := bb_ BK180 hb; replace HB := bs_ hb; (try clear hb); (try clear ho0)) | ((with_reducible refine gD 15 ?_); (try (refine gate_guard (by rfl) ?_; dsimp only)); refine bxe_ 15 z8_ 27 ?_; intro gb194 hg w49 hbox hb; replace HO_155007 := eV_ HO_155007 hg hb; replace HO_168007 := eV_ HO_168007 hg hb; replace HO_181007 := eV_ HO_181007 hg hb; replace HO183 := eN_ HO183 hg hb; replace HO193 := eN_ HO193 hg hb; have BK194 := A_ (hbox); have GW194 := gs_ w hg; have GE194 := gs_ w hg; replace HB := bs_ hb; have NB154_194 := nl_ BK154 hg; have NB194_154 := ng_ BK154 hg; replace BK154 := bb_ BK154 hb; have NB167_194 := nl_ BK167 hg; have NB194_167 := ng_ BK167 hg; replace BK167 := bb_ BK167 hb; have NB180_194 := nl_ BK180 hg; have NB194_180 := ng_ BK180 hg; replace BK180 := bb_ BK180 hb; clear hb hbox hg; have hnb50 := NB194_154.out; have hnc50 := NB154_194.out; have hnb51 := NB194_167.out; have hnc51 := NB167_194.out; have hnb52 := NB194_180.out; have hnc52 := NB180_194.out; have Z53 := bz8_ BK194; obtain ⟨Ao54, co54, eo54⟩ := Kd.N_slice HO193.out; subst eo54) | ((with_reducible refine gC 8 ?_); refine gL 61 Try.func8 #[.agg (n8_ t184 t185 t186 t187 t188 t189 t190 (.slice Ao54 t191.length co54))] ?_; (with_reducible refine (tree_Sane.calls kj14 t184 t185 t186 t187 t188 t189 t190 _ _ t191 true _ ?side1 ?side2 A34.out).mono ?_); (case side1 => refine (Kd.N_reads' (e := 27) (base := w.heap.size) (ok := fun k_ => ((k_ ≠ gb154 ∧ (k_ ≠ gb167 ∧ k_ ≠ gb180)) ∧ k_ ≠ gb194)) (n := t191.length) (c := co54) ?_).2.2; exact (fxN_ HO193.out)); (case side2 => exact (Kd.N_reads' HO193.out).2.1); rintro e w55 ⟨rfl, hb⟩; refine ⟨_, rfl, ?_⟩; replace HO_155007 := bV_ HO_155007 hb; replace HO_168007 := bV_ HO_168007 hb; replace HO_181007 := bV_ HO_181007 hb; replace HO183 := bN_ HO183 hb; replace HO193 := bN_ HO193 hb; replace BK154 := A_ (blk_below (g := gb154) (o := .cells (n8_ t142 t143 t144 t145 t146 t147 t148 (.slice Ao19 t149.length co19)) 27 (0, 0)) (pf_ NB154_194 BK154) hb); replace BK167 := A_ (blk_below (g := gb167) (o := .cells (n8_ t155 t156 t157 t158 t159 t160 t161 (.slice Ao24 t162.length co24)) 27 (0, 0)) (pf_ NB167_194 BK167) hb); replace BK180 := A_ (blk_below (g := gb180) (o := .cells (n8_ t168 t169 t170 t171 t172 t173 t174 (.slice Ao30 t175.length co30)) 27 (0, 0)) (pf_ NB180_194 BK180) hb); replace BK194 := bp_ BK194 (.cells (n8_ t184 t185 t186 t187 t188 t189 t190 (.slice Ao54 t191.length co54)) 27 (0, 0)) hb; replace HB := bs_ hb; (try clear hb); have Z56 := bz8_ BK180; have Z57 := bz8_ BK194) | (go_at_call 9; (with_reducible refine (tree_Same.calls kj14 t168 t169 t170 t171 t172 t173 t174 _ _ t175 t184 t185 t186 t187 t188 t189 t190 _ _ t191 t196 _ ?side1 ?side2 ?side3 ?side4 A39.out).mono ?_); (case side1 => repeat (first | exact (Kd.V_reads' HO_181007.out).2.2 | (with_reducible refine Kd.C_alloc ?_ _) | (with_reducible refine Kd.C_drewN ?_ _) | (with_reducible refine Kd.C_drew ?_))); (case side2 => exact (Kd.V_reads' HO_181007.out).2.1); (case side3 => repeat (first | exact (Kd.N_reads' HO193.out).2.2 | (with_reducible refine Kd.C_alloc ?_ _) | (with_reducible refine Kd.C_drewN ?_ _) | (with_reducible refine Kd.C_drew ?_))); (case side4 => exact (Kd.N_reads' HO193.out).2.1); rintro e w58 ⟨rfl, hb⟩; replace HO_155007 := bV_ HO_155007 hb; replace HO_168007 := bV_ HO_168007 hb; replace HO_181007 := bV_ HO_181007 hb; replace HO183 := bN_ HO183 hb; replace HO193 := bN_ HO193 hb; replace BK154 := bb_ BK154 hb; replace BK167 := bb_ BK167 hb; replace BK180 := bb_ BK180 hb; replace BK194 := bb_ BK194 hb; replace HB := bs_ hb; (try clear hb)))
               go_ret; exact ⟨re_, hs_⟩
              ·rw [if_neg c38] at H
               have c38b0 : (t178 == (wrap64 ((wrap64 ((a0.size : Int) + (a1.size : Int))) + 3))) = false := beq_eq_false_iff_ne.mpr c38; have c38b1 : (t178 != (wrap64 ((wrap64 ((a0.size : Int) + (a1.size : Int))) + 3))) = true := bne_iff_ne.mpr c38; exact absurd ((Option.some.inj H).trans hrT_) (by decide)
             ·rw [if_neg c37] at H
              have c37b0 : (t179 == 0) = false := beq_eq_false_iff_ne.mpr c37; have c37b1 : (t179 != 0) = true := bne_iff_ne.mpr c37; exact absurd ((Option.some.inj H).trans hrT_) (by decide)
            ·replace c36 := Bool.eq_false_iff.mpr c36
             subst c36; replace H := iN_ H; exact absurd ((Option.some.inj H).trans hrT_) (by decide)
           ·replace c35 := Bool.eq_false_iff.mpr c35
            subst c35; replace H := iN_ H
            by_cases c107 : t141 = true
            ·subst c107
             replace H := iP_ H
             by_cases c108 : t179 = 5
             ·rw [if_pos c108] at H
              have c108b0 : (t179 == 5) = true := beq_iff_eq.mpr c108; have c108b1 : (t179 != 5) = false := bne_eq_false_iff_eq.mpr c108; clear c108; obtain rfl := Option.some.inj H; clear hrT_; have hnb109 := NB154_167.out; have hnc109 := NB167_154.out; have hnb110 := NB154_180.out; have hnc110 := NB180_154.out; have Z111 := bz8_ BK154; have hnb112 := NB167_180.out; have hnc112 := NB180_167.out; have Z113 := bz8_ BK167; go_wp2_with (first | ((with_reducible refine gD 58 ?_); (try (refine gate_guard (by rfl) ?_; dsimp only)); refine Kd.N_lit k27 _ 27 ?hg (N' := 58) ?hd (xs := ([(⟨t142, (⟨t143, t144, t145, t146⟩ : S24), t147, t148, t149⟩ : S27), (⟨t155, (⟨t156, t157, t158, t159⟩ : S24), t160, t161, t162⟩ : S27)] : List (S27))) (inner := [.int .i64 t142, .int .i64 t143, .string t144, .string t145, .string t146, .bool t147, .bool t148, .slice Ao19 t149.length co19, .int .i64 t155, .int .i64 t156, .string t157, .string t158, .string t159, .bool t160, .bool t161, .slice Ao24 t162.length co24]) (ok := (fun k_ => k_ ≠ gb154 ∧ k_ ≠ gb167 ∧ k_ ≠ gb180)) (okp := (fun k_ => k_ ≠ gb154 ∧ k_ ≠ gb167 ∧ k_ ≠ gb180)) ?hr ?hp (fun _ hk => hk) ((show ∀ k_, wc.heap.size ≤ k_ → (fun k_ => k_ ≠ gb154 ∧ k_ ≠ gb167 ∧ k_ ≠ gb180) k_ from fun k_ hk => ⟨fb_ BK154 k_ hk, fb_ BK167 k_ hk, fb_ BK180 k_ hk⟩) _ (Nat.le_refl _)) (Below.refl _ _) (Nat.le_refl _) (by simp) ?_; (case hd => rfl); (case hg => rfl); (case hr => first | (go_simp; done) | (go_simp; rfl)); (case hp => exact (Reps.c8 (show Kd.FK k27 _ _ (⟨t142, (⟨t143, t144, t145, t146⟩ : S24), t147, t148, t149⟩ : S27) [.int .i64 t142, .int .i64 t143, .string t144, .string t145, .string t146, .bool t147, .bool t148, .slice Ao19 t149.length co19] from (k27_mkF _ _ (⟨t142, (⟨t143, t144, t145, t146⟩ : S24), t147, t148, t149⟩ : S27) (Kd.V_reads' (Kd.V_mono (ok' := (fun k_ => k_ ≠ gb154 ∧ k_ ≠ gb167 ∧ k_ ≠ gb180)) (HO_155007.out) (fun k_ hk => ⟨hk.1, ⟨hk.2.1, hk.2.2⟩⟩))).2.1 (Kd.V_F (Kd.V_mono (ok' := (fun k_ => k_ ≠ gb154 ∧ k_ ≠ gb167 ∧ k_ ≠ gb180)) (HO_155007.out) (fun k_ hk => ⟨hk.1, ⟨hk.2.1, hk.2.2⟩⟩))))) (Reps.c8 (show Kd.FK k27 _ _ (⟨t155, (⟨t156, t157, t158, t159⟩ : S24), t160, t161, t162⟩ : S27) [.int .i64 t155, .int .i64 t156, .string t157, .string t158, .string t159, .bool t160, .bool t161, .slice Ao24 t162.length co24] from (k27_mkF _ _ (⟨t155, (⟨t156, t157, t158, t159⟩ : S24), t160, t161, t162⟩ : S27) (Kd.V_reads' (Kd.V_mono (ok' := (fun k_ => k_ ≠ gb154 ∧ k_ ≠ gb167 ∧ k_ ≠ gb180)) (HO_168007.out) (fun k_ hk => ⟨hk.1, ⟨hk.2.1, hk.2.2⟩⟩))).2.1 (Kd.V_F (Kd.V_mono (ok' := (fun k_ => k_ ≠ gb154 ∧ k_ ≠ gb167 ∧ k_ ≠ gb180)) (HO_168007.out) (fun k_ hk => ⟨hk.1, ⟨hk.2.1, hk.2.2⟩⟩))))) (Reps.none _ _)))); intro v182 w114 ho115 hb hg_ hnew_; clear hg_ hnew_; (first | rw [← Ny181.out] at ho115 | (simp only [Int.reduceToNat] at ho115; rw [← Ny181.out] at ho115)); replace HO_155007 := A_ (Kd.V_elder' (fxV_ HO_155007.out) (Kd.N_base ho115) hb); replace HO_168007 := A_ (Kd.V_elder' (fxV_ HO_168007.out) (Kd.N_base ho115) hb); replace HO_181007 := A_ (Kd.V_elder' (fxV_ HO_181007.out) (Kd.N_base ho115) hb); have HO183 := A_ (Kd.N_lower ho115 (below_size hs_)); replace BK154 := bb_ BK154 hb; replace BK167 := bb_ BK167 hb; replace BK180 := bb_ BK180 hb; replace HB := bs_ hb; clear hb ho115; obtain ⟨Ao116, co116, eo116⟩ := Kd.N_slice HO183.out; subst eo116) | ((with_reducible refine gC 7 ?_); refine gL 59 Try.func7 #[.slice Ao116 y181.length co116] ?_; (with_reducible refine (tree_OneOf.calls (fun k_ => (k_ ≠ gb154 ∧ (k_ ≠ gb167 ∧ k_ ≠ gb180))) _ _ y181 t184 t185 t186 t187 t188 t189 t190 t191 _ ?side1 A33.out).mono ?_); (case side1 => exact Kd.N_V (HO183.out)); rintro e w117 ⟨v192, rfl, ho0, hb⟩; refine ⟨_, rfl, ?_⟩; replace HO_155007 := dV_ HO_155007 ho0 hb; replace HO_168007 := dV_ HO_168007 ho0 hb; replace HO_181007 := dV_ HO_181007 ho0 hb; replace HO183 := dN_ HO183 ho0 hb; have HO193 := A_ (Kd.N_lower (Kd.N_mono (ok' := fun k_ => k_ ≠ gb154 ∧ k_ ≠ gb167 ∧ k_ ≠ gb180) ho0 (fun k_ hk_ => ⟨hk_.elim (·.1) (fb_ BK154 k_), hk_.elim (·.2.1) (fb_ BK167 k_), hk_.elim (·.2.2) (fb_ BK180 k_)⟩)) (below_size hs_)); replace BK154 := bb_ BK154 hb; replace BK167 := bb_ BK167 hb; replace BK180 := bb_ BK180 hb; replace HB := bs_ hb; (try clear hb); (try clear ho0)) | ((with_reducible refine gD 15 ?_); (try (refine gate_guard (by rfl) ?_; dsimp only)); refine bxe_ 15 z8_ 27 ?_; intro gb194 hg w118 hbox hb; replace HO_155007 := eV_ HO_155007 hg hb; replace HO_168007 := eV_ HO_168007 hg hb; replace HO_181007 := eV_ HO_181007 hg hb; replace HO183 := eN_ HO183 hg hb; replace HO193 := eN_ HO193 hg hb; have BK194 := A_ (hbox); have GW194 := gs_ w hg; have GE194 := gs_ w hg; replace HB := bs_ hb; have NB154_194 := nl_ BK154 hg; have NB194_154 := ng_ BK154 hg; replace BK154 := bb_ BK154 hb; have NB167_194 := nl_ BK167 hg; have NB194_167 := ng_ BK167 hg; replace BK167 := bb_ BK167 hb; have NB180_194 := nl_ BK180 hg; have NB194_180 := ng_ BK180 hg; replace BK180 := bb_ BK180 hb; clear hb hbox hg; have hnb119 := NB194_154.out; have hnc119 := NB154_194.out; have hnb120 := NB194_167.out; have hnc120 := NB167_194.out; have hnb121 := NB194_180.out; have hnc121 := NB180_194.out; have Z122 := bz8_ BK194; obtain ⟨Ao123, co123, eo123⟩ := Kd.N_slice HO193.out; subst eo123) | ((with_reducible refine gC 8 ?_); refine gL 61 Try.func8 #[.agg (n8_ t184 t185 t186 t187 t188 t189 t190 (.slice Ao123 t191.length co123))] ?_; (with_reducible refine (tree_Sane.calls kj14 t184 t185 t186 t187 t188 t189 t190 _ _ t191 false _ ?side1 ?side2 A34.out).mono ?_); (case side1 => refine (Kd.N_reads' (e := 27) (base := w.heap.size) (ok := fun k_ => ((k_ ≠ gb154 ∧ (k_ ≠ gb167 ∧ k_ ≠ gb180)) ∧ k_ ≠ gb194)) (n := t191.length) (c := co123) ?_).2.2; exact (fxN_ HO193.out)); (case side2 => exact (Kd.N_reads' HO193.out).2.1); rintro e w124 ⟨rfl, hb⟩; refine ⟨_, rfl, ?_⟩; replace HO_155007 := bV_ HO_155007 hb; replace HO_168007 := bV_ HO_168007 hb; replace HO_181007 := bV_ HO_181007 hb; replace HO183 := bN_ HO183 hb; replace HO193 := bN_ HO193 hb; replace BK154 := A_ (blk_below (g := gb154) (o := .cells (n8_ t142 t143 t144 t145 t146 t147 t148 (.slice Ao19 t149.length co19)) 27 (0, 0)) (pf_ NB154_194 BK154) hb); replace BK167 := A_ (blk_below (g := gb167) (o := .cells (n8_ t155 t156 t157 t158 t159 t160 t161 (.slice Ao24 t162.length co24)) 27 (0, 0)) (pf_ NB167_194 BK167) hb); replace BK180 := A_ (blk_below (g := gb180) (o := .cells (n8_ t168 t169 t170 t171 t172 t173 t174 (.slice Ao30 t175.length co30)) 27 (0, 0)) (pf_ NB180_194 BK180) hb); replace BK194 := bp_ BK194 (.cells (n8_ t184 t185 t186 t187 t188 t189 t190 (.slice Ao123 t191.length co123)) 27 (0, 0)) hb; replace HB := bs_ hb; (try clear hb)))
              go_ret; exact ⟨re_, hs_⟩
             ·rw [if_neg c108] at H
              have c108b0 : (t179 == 5) = false := beq_eq_false_iff_ne.mpr c108; have c108b1 : (t179 != 5) = true := bne_iff_ne.mpr c108; obtain rfl := Option.some.inj H; clear hrT_; have hnb125 := NB154_167.out; have hnc125 := NB167_154.out; have hnb126 := NB154_180.out; have hnc126 := NB180_154.out; have Z127 := bz8_ BK154; have hnb128 := NB167_180.out; have hnc128 := NB180_167.out; have Z129 := bz8_ BK167; go_wp2_with (first | ((with_reducible refine gD 58 ?_); (try (refine gate_guard (by rfl) ?_; dsimp only)); refine Kd.N_lit k27 _ 27 ?hg (N' := 58) ?hd (xs := ([(⟨t142, (⟨t143, t144, t145, t146⟩ : S24), t147, t148, t149⟩ : S27), (⟨t155, (⟨t156, t157, t158, t159⟩ : S24), t160, t161, t162⟩ : S27)] : List (S27))) (inner := [.int .i64 t142, .int .i64 t143, .string t144, .string t145, .string t146, .bool t147, .bool t148, .slice Ao19 t149.length co19, .int .i64 t155, .int .i64 t156, .string t157, .string t158, .string t159, .bool t160, .bool t161, .slice Ao24 t162.length co24]) (ok := (fun k_ => k_ ≠ gb154 ∧ k_ ≠ gb167 ∧ k_ ≠ gb180)) (okp := (fun k_ => k_ ≠ gb154 ∧ k_ ≠ gb167 ∧ k_ ≠ gb180)) ?hr ?hp (fun _ hk => hk) ((show ∀ k_, wc.heap.size ≤ k_ → (fun k_ => k_ ≠ gb154 ∧ k_ ≠ gb167 ∧ k_ ≠ gb180) k_ from fun k_ hk => ⟨fb_ BK154 k_ hk, fb_ BK167 k_ hk, fb_ BK180 k_ hk⟩) _ (Nat.le_refl _)) (Below.refl _ _) (Nat.le_refl _) (by simp) ?_; (case hd => rfl); (case hg => rfl); (case hr => first | (go_simp; done) | (go_simp; rfl)); (case hp => exact (Reps.c8 (show Kd.FK k27 _ _ (⟨t142, (⟨t143, t144, t145, t146⟩ : S24), t147, t148, t149⟩ : S27) [.int .i64 t142, .int .i64 t143, .string t144, .string t145, .string t146, .bool t147, .bool t148, .slice Ao19 t149.length co19] from (k27_mkF _ _ (⟨t142, (⟨t143, t144, t145, t146⟩ : S24), t147, t148, t149⟩ : S27) (Kd.V_reads' (Kd.V_mono (ok' := (fun k_ => k_ ≠ gb154 ∧ k_ ≠ gb167 ∧ k_ ≠ gb180)) (HO_155007.out) (fun k_ hk => ⟨hk.1, ⟨hk.2.1, hk.2.2⟩⟩))).2.1 (Kd.V_F (Kd.V_mono (ok' := (fun k_ => k_ ≠ gb154 ∧ k_ ≠ gb167 ∧ k_ ≠ gb180)) (HO_155007.out) (fun k_ hk => ⟨hk.1, ⟨hk.2.1, hk.2.2⟩⟩))))) (Reps.c8 (show Kd.FK k27 _ _ (⟨t155, (⟨t156, t157, t158, t159⟩ : S24), t160, t161, t162⟩ : S27) [.int .i64 t155, .int .i64 t156, .string t157, .string t158, .string t159, .bool t160, .bool t161, .slice Ao24 t162.length co24] from (k27_mkF _ _ (⟨t155, (⟨t156, t157, t158, t159⟩ : S24), t160, t161, t162⟩ : S27) (Kd.V_reads' (Kd.V_mono (ok' := (fun k_ => k_ ≠ gb154 ∧ k_ ≠ gb167 ∧ k_ ≠ gb180)) (HO_168007.out) (fun k_ hk => ⟨hk.1, ⟨hk.2.1, hk.2.2⟩⟩))).2.1 (Kd.V_F (Kd.V_mono (ok' := (fun k_ => k_ ≠ gb154 ∧ k_ ≠ gb167 ∧ k_ ≠ gb180)) (HO_168007.out) (fun k_ hk => ⟨hk.1, ⟨hk.2.1, hk.2.2⟩⟩))))) (Reps.none _ _)))); intro v182 w130 ho131 hb hg_ hnew_; clear hg_ hnew_; (first | rw [← Ny181.out] at ho131 | (simp only [Int.reduceToNat] at ho131; rw [← Ny181.out] at ho131)); replace HO_155007 := A_ (Kd.V_elder' (fxV_ HO_155007.out) (Kd.N_base ho131) hb); replace HO_168007 := A_ (Kd.V_elder' (fxV_ HO_168007.out) (Kd.N_base ho131) hb); replace HO_181007 := A_ (Kd.V_elder' (fxV_ HO_181007.out) (Kd.N_base ho131) hb); have HO183 := A_ (Kd.N_lower ho131 (below_size hs_)); replace BK154 := bb_ BK154 hb; replace BK167 := bb_ BK167 hb; replace BK180 := bb_ BK180 hb; replace HB := bs_ hb; clear hb ho131; obtain ⟨Ao132, co132, eo132⟩ := Kd.N_slice HO183.out; subst eo132) | ((with_reducible refine gC 7 ?_); refine gL 59 Try.func7 #[.slice Ao132 y181.length co132] ?_; (with_reducible refine (tree_OneOf.calls (fun k_ => (k_ ≠ gb154 ∧ (k_ ≠ gb167 ∧ k_ ≠ gb180))) _ _ y181 t184 t185 t186 t187 t188 t189 t190 t191 _ ?side1 A33.out).mono ?_); (case side1 => exact Kd.N_V (HO183.out)); rintro e w133 ⟨v192, rfl, ho0, hb⟩; refine ⟨_, rfl, ?_⟩; replace HO_155007 := dV_ HO_155007 ho0 hb; replace HO_168007 := dV_ HO_168007 ho0 hb; replace HO_181007 := dV_ HO_181007 ho0 hb; replace HO183 := dN_ HO183 ho0 hb; have HO193 := A_ (Kd.N_lower (Kd.N_mono (ok' := fun k_ => k_ ≠ gb154 ∧ k_ ≠ gb167 ∧ k_ ≠ gb180) ho0 (fun k_ hk_ => ⟨hk_.elim (·.1) (fb_ BK154 k_), hk_.elim (·.2.1) (fb_ BK167 k_), hk_.elim (·.2.2) (fb_ BK180 k_)⟩)) (below_size hs_)); replace BK154 := bb_ BK154 hb; replace BK167 := bb_ BK167 hb; replace BK180 := bb_ BK180 hb; replace HB := bs_ hb; (try clear hb); (try clear ho0)) | ((with_reducible refine gD 15 ?_); (try (refine gate_guard (by rfl) ?_; dsimp only)); refine bxe_ 15 z8_ 27 ?_; intro gb194 hg w134 hbox hb; replace HO_155007 := eV_ HO_155007 hg hb; replace HO_168007 := eV_ HO_168007 hg hb; replace HO_181007 := eV_ HO_181007 hg hb; replace HO183 := eN_ HO183 hg hb; replace HO193 := eN_ HO193 hg hb; have BK194 := A_ (hbox); have GW194 := gs_ w hg; have GE194 := gs_ w hg; replace HB := bs_ hb; have NB154_194 := nl_ BK154 hg; have NB194_154 := ng_ BK154 hg; replace BK154 := bb_ BK154 hb; have NB167_194 := nl_ BK167 hg; have NB194_167 := ng_ BK167 hg; replace BK167 := bb_ BK167 hb; have NB180_194 := nl_ BK180 hg; have NB194_180 := ng_ BK180 hg; replace BK180 := bb_ BK180 hb; clear hb hbox hg; have hnb135 := NB194_154.out; have hnc135 := NB154_194.out; have hnb136 := NB194_167.out; have hnc136 := NB167_194.out; have hnb137 := NB194_180.out; have hnc137 := NB180_194.out; have Z138 := bz8_ BK194; obtain ⟨Ao139, co139, eo139⟩ := Kd.N_slice HO193.out; subst eo139) | ((with_reducible refine gC 8 ?_); refine gL 61 Try.func8 #[.agg (n8_ t184 t185 t186 t187 t188 t189 t190 (.slice Ao139 t191.length co139))] ?_; (with_reducible refine (tree_Sane.calls kj14 t184 t185 t186 t187 t188 t189 t190 _ _ t191 false _ ?side1 ?side2 A34.out).mono ?_); (case side1 => refine (Kd.N_reads' (e := 27) (base := w.heap.size) (ok := fun k_ => ((k_ ≠ gb154 ∧ (k_ ≠ gb167 ∧ k_ ≠ gb180)) ∧ k_ ≠ gb194)) (n := t191.length) (c := co139) ?_).2.2; exact (fxN_ HO193.out)); (case side2 => exact (Kd.N_reads' HO193.out).2.1); rintro e w140 ⟨rfl, hb⟩; refine ⟨_, rfl, ?_⟩; replace HO_155007 := bV_ HO_155007 hb; replace HO_168007 := bV_ HO_168007 hb; replace HO_181007 := bV_ HO_181007 hb; replace HO183 := bN_ HO183 hb; replace HO193 := bN_ HO193 hb; replace BK154 := A_ (blk_below (g := gb154) (o := .cells (n8_ t142 t143 t144 t145 t146 t147 t148 (.slice Ao19 t149.length co19)) 27 (0, 0)) (pf_ NB154_194 BK154) hb); replace BK167 := A_ (blk_below (g := gb167) (o := .cells (n8_ t155 t156 t157 t158 t159 t160 t161 (.slice Ao24 t162.length co24)) 27 (0, 0)) (pf_ NB167_194 BK167) hb); replace BK180 := A_ (blk_below (g := gb180) (o := .cells (n8_ t168 t169 t170 t171 t172 t173 t174 (.slice Ao30 t175.length co30)) 27 (0, 0)) (pf_ NB180_194 BK180) hb); replace BK194 := bp_ BK194 (.cells (n8_ t184 t185 t186 t187 t188 t189 t190 (.slice Ao139 t191.length co139)) 27 (0, 0)) hb; replace HB := bs_ hb; (try clear hb)))
              go_ret; exact ⟨re_, hs_⟩
            ·replace c107 := Bool.eq_false_iff.mpr c107
             subst c107; replace H := iN_ H; exact absurd ((Option.some.inj H).trans hrT_) (by decide)
       ·rw [if_neg c13] at H
        exact absurd H (by simp)
      ·rw [if_neg c12] at H
       exact absurd H (by simp)
     ·rw [if_neg c11] at H
      exact absurd H (by simp)
    ·rw [if_neg c10] at H
     exact absurd H (by simp)
def Out (v : List S48) (e : S48) (m d : Nat) (R : PR) : Prop :=
  (R.x = none ∧ rt R.n = true ∧ R.m = ((m + nd R.n : Nat) : Int) ∧ m + nd R.n ≤ 64 ∧ R.d = (d : Int) ∧ d + dp R.n ≤ 8 ∧ ∃ v', R.t = v' ++ [e] ∧ v' <:+ v ∧ v'.length < v.length)
  ∨ ∃ a c, R.x = some (a, c) ∧ (∃ x, x ∈ v ++ [e] ∧ a = x.f1) ∧ c ≠ 0
def OutE (v : List S48) (e : S48) (m : Nat) (d : Int) (R : PR) : Prop :=
  (R.x = none ∧ endV R.n = true ∧ R.m = ((m + 1 : Nat) : Int) ∧ m + 1 ≤ 64 ∧ R.d = d ∧ ∃ v', R.t = v' ++ [e] ∧ v' <:+ v ∧ v'.length < v.length)
  ∨ ∃ a c, R.x = some (a, c) ∧ (∃ x, x ∈ v ++ [e] ∧ a = x.f1) ∧ c ≠ 0
def shortW (v : List S48) : Prop := ∀ x, x ∈ v → x.f2.size ≤ 4611686018427387904
theorem eNot_ne (x : S48) (c : Int) (h : c ≠ 0) : eNot x c ≠ 0 := by unfold eNot; split <;> omega
theorem cons_of (v : List S48) (e : S48) : ∃ y u, v ++ [e] = y :: u := by cases v with
  | nil => exact ⟨_, _, rfl⟩
  | cons y u => exact ⟨_, _, rfl⟩
theorem marked_any (e : S48) (he : e.f0 = 9) (p : S24) : ∀ (v : List S48) (a b : Bool), ∃ a' b' v', pMarked (v ++ [e]) p a b = some (⟨0, p, a', b', []⟩, v' ++ [e]) ∧ v' <:+ v
  | [], a, b => ⟨a, b, [], by rw [List.nil_append, pMarked, if_neg (by omega), if_neg (by omega)], List.suffix_refl _⟩
  | x :: v, a, b => by
    rw [List.cons_append, pMarked]
    by_cases c7 : x.f0 = 7
    · rw [if_pos c7]
      by_cases ca : a = false
      · rw [if_pos ca]
        obtain ⟨a', b', v', h, hs⟩ := marked_any e he p v true b
        exact ⟨a', b', v', h, hs.trans (List.suffix_cons _ _)⟩
      · rw [if_neg ca]; exact ⟨a, b, x :: v, rfl, List.suffix_refl _⟩
    · rw [if_neg c7]
      by_cases c8 : x.f0 = 8
      · rw [if_pos c8]
        by_cases cb : b = false
        · rw [if_pos cb]
          obtain ⟨a', b', v', h, hs⟩ := marked_any e he p v a true
          exact ⟨a', b', v', h, hs.trans (List.suffix_cons _ _)⟩
        · rw [if_neg cb]; exact ⟨a, b, x :: v, rfl, List.suffix_refl _⟩
      · rw [if_neg c8]; exact ⟨a, b, x :: v, rfl, List.suffix_refl _⟩
theorem endV_pt (p : S24) (a b : Bool) (h : ptV p = true) : endV ⟨0, p, a, b, []⟩ = true := by
  unfold endV
  rw [if_pos rfl]
  show (decide (([] : List S27) = []) && ptV p) = true
  rw [h]; simp
theorem endV_kz (k : Int) (h : k = 3 ∨ k = 4) : endV (kz k) = true := by
  have hb : bareV (kz k) = true := bare_mk k []
  unfold endV
  rw [hb, if_neg (show ¬ (kz k).f0 = 0 by show ¬ k = 0; omega), if_pos (show (kz k).f0 = 3 ∨ (kz k).f0 = 4 from h)]
  simp [kz]
theorem end_any (e : S48) (he : e.f0 = 9) (v : List S48) (hw : shortW v) (m : Nat) (d : Int) (hm : m ≤ 64) : ∃ R, Ev (fun k => pEnd k (m : Int) d (v ++ [e])) R ∧ OutE v e m d R := by
  cases v with
  | nil =>
    refine ⟨⟨pz, some (e.f1, eNot e 3), [e], (m : Int), d⟩, ?_, .inr ⟨_, _, rfl, ⟨e, by simp, rfl⟩, eNot_ne _ _ (by omega)⟩⟩
    unfold pEnd
    exact Ev.iff_ (by omega) (Ev.iff_ (by omega) (Ev.iff_ (by omega) (Ev.now _)))
  | cons x v =>
    have bad : ∀ c : Int, c ≠ 0 → OutE (x :: v) e m d ⟨pz, some (x.f1, eNot x c), x :: (v ++ [e]), (m : Int), d⟩ := fun c hc => .inr ⟨_, _, rfl, ⟨x, by simp, rfl⟩, eNot_ne _ _ hc⟩
    unfold pEnd
    by_cases c0 : x.f0 = 0
    · by_cases c64 : (m : Int) = 64
      · exact ⟨_, Ev.ift c0 (Ev.ift c64 (Ev.now _)), bad 6 (by omega)⟩
      · have hx := hw x (by simp)
        have hm1 : m + 1 ≤ 64 := by omega
        have hrd := read_any x.f2.data.toList (by rw [← bsize]; exact hx)
        rw [bA_mk] at hrd
        unfold pWord
        rw [up1 (by omega)]
        rcases hrd with ⟨p, hp, _, hr⟩ | ⟨_, hr⟩
        · obtain ⟨a', b', v', hM, hs⟩ := marked_any e he ⟨p.f0, p.f1, p.f2, p.f3⟩ v false false
          refine ⟨⟨⟨0, ⟨p.f0, p.f1, p.f2, p.f3⟩, a', b', []⟩, none, v' ++ [e], ((m + 1 : Nat) : Int), d⟩, Ev.ift c0 (Ev.iff_ c64 (Ev.bind hr (Ev.ift rfl (Ev.bnow hM (Ev.now _))))), .inl ⟨rfl, endV_pt _ _ _ hp, rfl, hm1, rfl, v', rfl, hs.trans (List.suffix_cons _ _), ?_⟩⟩
          have := hs.length_le
          rw [List.length_cons]; omega
        · exact ⟨⟨pz, some (x.f1, eNot x 2), x :: (v ++ [e]), ((m + 1 : Nat) : Int), d⟩, Ev.ift c0 (Ev.iff_ c64 (Ev.bind hr (Ev.iff_ (by simp) (Ev.now _)))), .inr ⟨_, _, rfl, ⟨x, by simp, rfl⟩, eNot_ne _ _ (by omega)⟩⟩
    by_cases c2 : x.f0 = 2
    · by_cases c64 : (m : Int) = 64
      · exact ⟨_, Ev.iff_ c0 (Ev.ift c2 (Ev.ift c64 (Ev.now _))), bad 6 (by omega)⟩
      · rw [up1 (by omega)]
        exact ⟨⟨kz 3, none, v ++ [e], ((m + 1 : Nat) : Int), d⟩, Ev.iff_ c0 (Ev.ift c2 (Ev.iff_ c64 (Ev.now _))), .inl ⟨rfl, endV_kz 3 (.inl rfl), rfl, by omega, rfl, v, rfl, List.suffix_cons _ _, by simp⟩⟩
    by_cases c3 : x.f0 = 3
    · by_cases c64 : (m : Int) = 64
      · exact ⟨_, Ev.iff_ c0 (Ev.iff_ c2 (Ev.ift c3 (Ev.ift c64 (Ev.now _)))), bad 6 (by omega)⟩
      · rw [up1 (by omega)]
        exact ⟨⟨kz 4, none, v ++ [e], ((m + 1 : Nat) : Int), d⟩, Ev.iff_ c0 (Ev.iff_ c2 (Ev.ift c3 (Ev.iff_ c64 (Ev.now _)))), .inl ⟨rfl, endV_kz 4 (.inr rfl), rfl, by omega, rfl, v, rfl, List.suffix_cons _ _, by simp⟩⟩
    · exact ⟨_, Ev.iff_ c0 (Ev.iff_ c2 (Ev.iff_ c3 (Ev.now _))), bad 3 (by omega)⟩
theorem nd_end {n : S27} (h : endV n = true) : nd n = 1 := by rw [nd_eq, (end_kinds h).1]; rfl
theorem dp_end0 {n : S27} (h : endV n = true) : dp n = 0 := by
  obtain ⟨h4, hk⟩ := end_kinds h
  rw [dp_eq, if_neg (by omega), h4]; rfl
theorem shortW.suf {v' v : List S48} (hw : shortW v) (h : v' <:+ v) : shortW v' := fun x hx => hw x (h.subset hx)
theorem span_any (e : S48) (he : e.f0 = 9) (v : List S48) (hw : shortW v) (m d : Nat) (hm : m ≤ 64) (hd : d ≤ 8) : ∃ R, Ev (fun k => pSpan k (m : Int) (d : Int) (v ++ [e])) R ∧ Out v e m d R := by
  obtain ⟨R, hR, hO⟩ := end_any e he v hw m d hm
  unfold pSpan
  rcases hO with ⟨hx, hn, hm', hm1, hd', v', ht, hs, hl⟩ | ⟨a, c, hx, hp, hc⟩
  · obtain ⟨n, x, t, m', d'⟩ := R
    simp only at hx hn hm' hd' ht
    subst hx; subst hm'; subst hd'; subst ht
    have h1 := nd_end hn
    have hdp := dp_end0 hn
    have done : ∀ y u, v' ++ [e] = y :: u → y.f0 ≠ 1 → ∃ R, Ev (fun k => (pEnd k (m : Int) (d : Int) (v ++ [e])).bind fun r => match r.x with
        | some _ => some r
        | none => match r.t with
          | [] => none
          | y :: u => if y.f0 = 1 then (if r.m = 64 then some ⟨r.n, some (y.f1, eNot y 6), y :: u, r.m, r.d⟩ else (pEnd k (wrap64 (r.m + 1)) r.d u).bind fun s => some ⟨⟨1, ⟨0, ⟨#[]⟩, ⟨#[]⟩, ⟨#[]⟩⟩, false, false, [r.n, s.n]⟩, s.x, s.t, s.m, s.d⟩)
            else if r.n.f0 = 0 then some ⟨r.n, none, y :: u, r.m, r.d⟩ else some ⟨r.n, some (y.f1, eNot y 3), y :: u, r.m, r.d⟩) R ∧ Out v e m d R := fun y u hyu hy => by
      rw [hyu] at hR
      have hmem : y ∈ v ++ [e] := by
        have : y ∈ v' ++ [e] := by rw [hyu]; simp
        rcases List.mem_append.1 this with h | h
        · exact List.mem_append.2 (.inl (hs.subset h))
        · exact List.mem_append.2 (.inr h)
      by_cases cn : n.f0 = 0
      · refine ⟨_, Ev.bind hR (Ev.iff_ hy (Ev.ift cn (Ev.now _))), .inl ⟨rfl, by rw [rt_eq, if_pos cn]; exact hn, by rw [h1], (show m + nd n ≤ 64 by omega), rfl, (show d + dp n ≤ 8 by omega), v', hyu.symm, hs, hl⟩⟩
      · exact ⟨_, Ev.bind hR (Ev.iff_ hy (Ev.iff_ cn (Ev.now _))), .inr ⟨_, _, rfl, ⟨y, hmem, rfl⟩, eNot_ne _ _ (by omega)⟩⟩
    cases v' with
    | nil => exact done e [] rfl (by omega)
    | cons y u =>
      by_cases cy : y.f0 = 1
      · have hmem : y ∈ v ++ [e] := List.mem_append.2 (.inl (hs.subset (by simp)))
        by_cases c64 : ((m + 1 : Nat) : Int) = 64
        · exact ⟨_, Ev.bind hR (Ev.ift cy (Ev.ift c64 (Ev.now _))), .inr ⟨_, _, rfl, ⟨y, hmem, rfl⟩, eNot_ne _ _ (by omega)⟩⟩
        · have hu : u <:+ v := (List.suffix_cons y u).trans hs
          obtain ⟨S, hS, hSO⟩ := end_any e he u (hw.suf hu) (m + 2) d (by omega)
          have hE : Ev (fun k => (pEnd k (wrap64 (((m + 1 : Nat) : Int) + 1)) (d : Int) (u ++ [e])).bind fun s => some (⟨⟨1, ⟨0, ⟨#[]⟩, ⟨#[]⟩, ⟨#[]⟩⟩, false, false, [n, s.n]⟩, s.x, s.t, s.m, s.d⟩ : PR)) ⟨⟨1, ⟨0, ⟨#[]⟩, ⟨#[]⟩, ⟨#[]⟩⟩, false, false, [n, S.n]⟩, S.x, S.t, S.m, S.d⟩ := by
            rw [up1 (by omega)]
            exact Ev.bind hS (Ev.now _)
          refine ⟨_, Ev.bind hR (Ev.ift cy (Ev.iff_ c64 hE)), ?_⟩
          rcases hSO with ⟨sx, sn, sm, sm1, sd, w', st, ss, sl⟩ | ⟨a, c, sx, ⟨x, hx, hax⟩, hc⟩
          · have s1 := nd_end sn
            have s2 := dp_end0 sn
            have hnd : nd (⟨1, ⟨0, ⟨#[]⟩, ⟨#[]⟩, ⟨#[]⟩⟩, false, false, [n, S.n]⟩ : S27) = 3 := by rw [nd, ndL, ndL, ndL, h1, s1]
            have hdp2 : dp (⟨1, ⟨0, ⟨#[]⟩, ⟨#[]⟩, ⟨#[]⟩⟩, false, false, [n, S.n]⟩ : S27) = 0 := by rw [dp, if_neg (by decide), dpL, dpL, dpL, hdp, s2]; rfl
            refine .inl ⟨sx, ?_, ?_, by rw [hnd]; omega, sd, by rw [hdp2]; omega, w', st, ss.trans hu, ?_⟩
            · rw [rt_eq, if_neg (show ¬ (1 : Int) = 0 by decide), if_pos rfl]
              show (bareV ⟨1, ⟨0, e0, e0, e0⟩, false, false, [n, S.n]⟩ && two [n, S.n]) = true
              rw [bare_mk, two, hn, sn]; rfl
            · show S.m = _
              rw [sm, hnd]
            · simp only [List.length_cons] at hl; omega
          · refine .inr ⟨a, c, sx, ⟨x, ?_, hax⟩, hc⟩
            rcases List.mem_append.1 hx with h | h
            · exact List.mem_append.2 (.inl (hu.subset h))
            · exact List.mem_append.2 (.inr h)
      · exact done y (u ++ [e]) rfl cy
  · refine ⟨R, Ev.bind hR ?_, .inr ⟨a, c, hx, hp, hc⟩⟩
    rw [hx]; exact Ev.now _
theorem rtL_app : ∀ l u : List S27, rtL (l ++ u) = (rtL l && rtL u)
  | [], u => by simp [rtL]
  | x :: l, u => by rw [List.cons_append, rtL, rtL, rtL_app l u, Bool.and_assoc]
def ExprAny (e : S48) (v : List S48) : Prop := ∀ m d : Nat, m ≤ 64 → d ≤ 8 → ∃ R, Ev (fun k => pExpr k (m : Int) (d : Int) (v ++ [e])) R ∧ Out v e m d R
def ItemsAny (e : S48) (v : List S48) : Prop := ∀ (x : S48) (acc : List S27) (m d : Nat), rtL acc = true → m + 1 + ndL acc ≤ 64 → d + 1 + dpL acc ≤ 8 →
  ∃ R, Ev (fun k => pItems k ((m + 1 + ndL acc : Nat) : Int) ((d + 1 : Nat) : Int) (x :: (v ++ [e])) acc) R ∧ Out v e m d R
theorem expr_of (e : S48) (he : e.f0 = 9) (v : List S48) (hw : shortW v) (ih : ∀ u, u.length < v.length → shortW u → ItemsAny e u) : ExprAny e v := fun m d hm hd => by
  by_cases hv : ∃ x u, v = x :: u ∧ x.f0 = 4
  · obtain ⟨x, u, rfl, h4⟩ := hv
    have mem : x ∈ (x :: u) ++ [e] := by simp
    by_cases c8 : d = 8
    · refine ⟨⟨pz, some (x.f1, eNot x 5), x :: (u ++ [e]), (m : Int), (d : Int)⟩, ?_, .inr ⟨_, _, rfl, ⟨x, mem, rfl⟩, eNot_ne _ _ (by omega)⟩⟩
      refine Ev.step (f := fun k => pList k (m : Int) (d : Int) x (u ++ [e])) (fun k => by rw [List.cons_append, pExpr, if_pos h4]) ?_
      exact Ev.step (fun k => by rw [pList, if_pos (by omega)]) (Ev.now _)
    by_cases c64 : m = 64
    · refine ⟨⟨pz, some (x.f1, eNot x 6), x :: (u ++ [e]), (m : Int), (d : Int)⟩, ?_, .inr ⟨_, _, rfl, ⟨x, mem, rfl⟩, eNot_ne _ _ (by omega)⟩⟩
      refine Ev.step (f := fun k => pList k (m : Int) (d : Int) x (u ++ [e])) (fun k => by rw [List.cons_append, pExpr, if_pos h4]) ?_
      exact Ev.step (fun k => by rw [pList, if_neg (by omega), if_pos (by omega)]) (Ev.now _)
    · obtain ⟨R, hR, hO⟩ := ih u (by simp) (hw.suf (List.suffix_cons x u)) x [] m d rfl (by simp only [ndL]; omega) (by simp only [dpL]; omega)
      simp only [ndL, Nat.add_zero] at hR
      refine ⟨R, ?_, ?_⟩
      · refine Ev.step (f := fun k => pList k (m : Int) (d : Int) x (u ++ [e])) (fun k => by rw [List.cons_append, pExpr, if_pos h4]) ?_
        exact Ev.step (fun k => by rw [pList, if_neg (by omega), if_neg (by omega), up1 (by omega), up1 (by omega)]) hR
      · rcases hO with ⟨h1, h2, h3, h5, h6, h7, v', ht, hs, hl⟩ | ⟨a, c, hx, ⟨y, hy, hay⟩, hc⟩
        · exact .inl ⟨h1, h2, h3, h5, h6, h7, v', ht, hs.trans (List.suffix_cons x u), by rw [List.length_cons]; omega⟩
        · exact .inr ⟨a, c, hx, ⟨y, by rw [List.cons_append]; exact List.mem_cons_of_mem _ hy, hay⟩, hc⟩
  · obtain ⟨R, hR, hO⟩ := span_any e he v hw m d hm hd
    refine ⟨R, ?_, hO⟩
    cases v with
    | nil => exact Ev.step (fun k => by rw [List.nil_append, pExpr, if_neg (by omega)]) hR
    | cons x u => exact Ev.step (fun k => by rw [List.cons_append, pExpr, if_neg (fun h => hv ⟨x, u, rfl, h⟩)]) hR
theorem items_of (e : S48) (he : e.f0 = 9) (v : List S48) (hw : shortW v) (hE : ExprAny e v) (ih : ∀ u, u.length < v.length → shortW u → ItemsAny e u) : ItemsAny e v := fun x acc m d hrt hm hd => by
  obtain ⟨R, hR, hO⟩ := hE (m + 1 + ndL acc) (d + 1) hm (by omega)
  have hlen := len_nd acc
  rcases hO with ⟨h1, h2, h3, h5, h6, h7, v', ht, hs, hl⟩ | ⟨a, c, hx, hp, hc⟩
  · obtain ⟨n, x', t, m', d'⟩ := R
    simp only at h1 h2 h3 h5 h6 h7 ht
    subst h1; subst h3; subst h6
    have e1 : m + 1 + ndL acc + nd n = m + 1 + ndL (acc ++ [n]) := by rw [ndL_app, ndL, ndL]; omega
    have e2 : rtL (acc ++ [n]) = true := by rw [rtL_app, hrt, rtL, h2]; rfl
    have e3 : d + 1 + dpL (acc ++ [n]) ≤ 8 := by rw [dpL_app, dpL, dpL]; omega
    have hl2 : (acc ++ [n]).length ≤ 64 := by have := len_nd (acc ++ [n]); omega
    have other : ∀ y u, v' ++ [e] = y :: u → y.f0 ≠ 6 → y.f0 ≠ 5 → ∃ R, Ev (fun k => pItems k ((m + 1 + ndL acc : Nat) : Int) ((d + 1 : Nat) : Int) (x :: (v ++ [e])) acc) R ∧ Out v e m d R := fun y u hyu c6 c5 => by
      have hmem : y ∈ v ++ [e] := by
        have : y ∈ v' ++ [e] := by rw [hyu]; simp
        rcases List.mem_append.1 this with h | h
        · exact List.mem_append.2 (.inl (hs.subset h))
        · exact List.mem_append.2 (.inr h)
      rw [ht, hyu] at hR
      exact ⟨_, Ev.step (fun k => pItems_one k _ _ x _ acc) (Ev.bind hR (Ev.ift (by omega) (Ev.iff_ c6 (Ev.iff_ c5 (Ev.now _))))), .inr ⟨_, _, rfl, ⟨y, hmem, rfl⟩, eNot_ne _ _ (by omega)⟩⟩
    cases v' with
    | nil => exact other e [] rfl (by omega) (by omega)
    | cons y u =>
      have hu : u <:+ v := (List.suffix_cons y u).trans hs
      simp only [List.length_cons] at hl
      rw [ht, List.cons_append] at hR
      by_cases c6 : y.f0 = 6
      · obtain ⟨S, hS, hSO⟩ := ih u (by omega) (hw.suf hu) y (acc ++ [n]) m d e2 (by omega) e3
        rw [← e1] at hS
        refine ⟨S, items_step hR (by omega) (.inl ⟨c6, hS⟩), ?_⟩
        rcases hSO with ⟨s1, s2, s3, s5, s6, s7, w', st, ss, sl⟩ | ⟨a, c, sx, ⟨z, hz, haz⟩, hc⟩
        · exact .inl ⟨s1, s2, s3, s5, s6, s7, w', st, ss.trans hu, by omega⟩
        · refine .inr ⟨a, c, sx, ⟨z, ?_, haz⟩, hc⟩
          rcases List.mem_append.1 hz with h | h
          · exact List.mem_append.2 (.inl (hu.subset h))
          · exact List.mem_append.2 (.inr h)
      by_cases c5 : y.f0 = 5
      · have hnd : nd (⟨2, ⟨0, e0, e0, e0⟩, false, false, acc ++ [n]⟩ : S27) = 1 + ndL (acc ++ [n]) := by rw [nd]; omega
        have hdp : dp (⟨2, ⟨0, e0, e0, e0⟩, false, false, acc ++ [n]⟩ : S27) = dpL (acc ++ [n]) + 1 := by rw [dp, if_pos rfl]
        refine ⟨⟨⟨2, ⟨0, e0, e0, e0⟩, false, false, acc ++ [n]⟩, none, u ++ [e], ((m + 1 + ndL acc + nd n : Nat) : Int), (d : Int)⟩, items_step hR (by omega) (.inr ⟨c5, ?_, by omega⟩), .inl ⟨rfl, ?_, ?_, by rw [hnd]; omega, rfl, by rw [hdp]; omega, u, rfl, hu, by omega⟩⟩
        · rw [w64 (by omega) (by omega)]
          have : ((d + 1 : Nat) : Int) - 1 = (d : Int) := by omega
          rw [this]
        · rw [rt_eq, if_neg (show ¬ (2 : Int) = 0 by decide), if_neg (show ¬ (2 : Int) = 1 by decide), if_pos rfl, bare_mk]
          show (true && (decide (acc ++ [n] ≠ []) && rtL (acc ++ [n]))) = true
          rw [e2]; simp
        · show ((m + 1 + ndL acc + nd n : Nat) : Int) = _
          rw [hnd, e1]; omega
      · exact other y (u ++ [e]) rfl c6 c5
  · refine ⟨R, Ev.step (fun k => pItems_one k _ _ x _ acc) (Ev.bind hR ?_), .inr ⟨a, c, hx, hp, hc⟩⟩
    rw [hx]; exact Ev.now _
theorem items_any (e : S48) (he : e.f0 = 9) : ∀ (M : Nat) (v : List S48), v.length ≤ M → shortW v → ItemsAny e v
  | 0, v, hl, hw => items_of e he v hw (expr_of e he v hw (fun u h _ => by omega)) (fun u h _ => by omega)
  | M + 1, v, hl, hw => items_of e he v hw (expr_of e he v hw (fun u h hu => items_any e he M u (by omega) hu)) (fun u h hu => items_any e he M u (by omega) hu)
theorem expr_any (e : S48) (he : e.f0 = 9) (v : List S48) (hw : shortW v) : ExprAny e v := expr_of e he v hw (fun u _ hu => items_any e he _ u (Nat.le_refl _) hu)
def badC : List UInt8 → Prop
  | [] => False
  | c :: r => isW c = false ∧ signB (c.toNat : Int) = false ∧ c ≠ 32 ∧ ([46, 46] : List UInt8).isPrefixOf (c :: r) = false
def okG : List It → List UInt8 → Prop
  | [], r => r = [] ∨ badC r
  | .w l :: t, r => l ≠ [] ∧ l.all isW = true ∧ noW (flatT t ++ r) ∧ okG t r
  | .s k c :: t, r => signK (c.toNat : Int) = k ∧ signB (c.toNat : Int) = true ∧ okG t r
  | .d :: t, r => okG t r
  | .b :: t, r => okG t r
theorem drop_noW : ∀ l : List UInt8, noW (l.dropWhile isW)
  | [] => trivial
  | c :: l => by
    rw [List.dropWhile_cons]
    cases h : isW c with
    | true => exact drop_noW l
    | false => exact h
theorem all_take : ∀ l : List UInt8, (l.takeWhile isW).all isW = true
  | [] => rfl
  | c :: l => by
    rw [List.takeWhile_cons]
    cases h : isW c with
    | true => simp only [if_true, List.all_cons, h, Bool.true_and]; exact all_take l
    | false => rfl
theorem split_any : ∀ (M : Nat) (l : List UInt8), l.length ≤ M → ∃ its r, okG its r ∧ l = flatT its ++ r
  | _, [], _ => ⟨[], [], .inl rfl, rfl⟩
  | 0, c :: l, h => by rw [List.length_cons] at h; omega
  | M + 1, c :: l, h => by
    rw [List.length_cons] at h
    by_cases hW : isW c = true
    · have e := List.takeWhile_append_dropWhile (p := isW) (l := c :: l)
      have ht : (c :: l).takeWhile isW = c :: l.takeWhile isW := by rw [List.takeWhile_cons, hW]; rfl
      have hd : (c :: l).dropWhile isW = l.dropWhile isW := by rw [List.dropWhile_cons, hW]; rfl
      have hlen : (l.dropWhile isW).length ≤ l.length := (List.dropWhile_suffix _).length_le
      obtain ⟨its, r, ho, hr⟩ := split_any M (l.dropWhile isW) (by omega)
      refine ⟨.w (c :: l.takeWhile isW) :: its, r, ⟨by simp, ?_, ?_, ho⟩, ?_⟩
      · rw [← ht]; exact all_take _
      · rw [← hr]; exact drop_noW l
      · rw [flatT, List.append_assoc, ← hr, ← hd, It.tx, ← ht, e]
    have hW : isW c = false := Bool.eq_false_iff.mpr hW
    by_cases hS : signB (c.toNat : Int) = true
    · obtain ⟨its, r, ho, hr⟩ := split_any M l (by omega)
      exact ⟨.s (signK (c.toNat : Int)) c :: its, r, ⟨rfl, hS, ho⟩, by rw [flatT, It.tx, hr]; rfl⟩
    have hS : signB (c.toNat : Int) = false := Bool.eq_false_iff.mpr hS
    by_cases h2 : ([46, 46] : List UInt8).isPrefixOf (c :: l) = true
    · obtain ⟨u, rfl, rfl⟩ : ∃ u, c = 46 ∧ l = 46 :: u := by
        cases l with
        | nil => simp [List.isPrefixOf] at h2
        | cons b u =>
          simp only [List.isPrefixOf, Bool.and_true, Bool.and_eq_true, beq_iff_eq] at h2
          exact ⟨u, h2.1.symm, by rw [← h2.2]⟩
      rw [List.length_cons] at h
      obtain ⟨its, r, ho, hr⟩ := split_any M u (by omega)
      exact ⟨.d :: its, r, ho, by rw [flatT, It.tx, hr]; rfl⟩
    by_cases h3 : c = 32
    · obtain ⟨its, r, ho, hr⟩ := split_any M l (by omega)
      exact ⟨.b :: its, r, ho, by rw [flatT, It.tx, hr, h3]; rfl⟩
    · exact ⟨[], c :: l, .inr ⟨hW, hS, h3, Bool.eq_false_iff.mpr h2⟩, rfl⟩
theorem lex_round (p X : List UInt8) (c : UInt8) (l : List UInt8) (hX : X = c :: l) (acc : List S48) (k : Nat) :
    lex_All.l0 (k + 1) (bA (p ++ X)) acc (p.length : Int) = (lex_word.f k (bA X)).bind fun t274 => (if t274 > 0 then (if (p.length : Int) ≤ (wrap64 ((p.length : Int) + t274)) then (if (wrap64 ((p.length : Int) + t274)) ≤ ((bA (p ++ X)).size : Int) then (if acc.length < 4398046511104 then (lex_All.l0 k (bA (p ++ X)) (acc ++ [(⟨0, (p.length : Int), (bA (p ++ X)).extract ((p.length : Int)).toNat ((wrap64 ((p.length : Int) + t274)) : Int).toNat⟩ : S48)]) (wrap64 ((p.length : Int) + t274))) else (none)) else (none)) else (none)) else (if signB (c.toNat : Int) = true then (if acc.length < 4398046511104 then (lex_All.l0 k (bA (p ++ X)) (acc ++ [(⟨signK (c.toNat : Int), (p.length : Int), (⟨#[]⟩ : ByteArray)⟩ : S48)]) (wrap64 ((p.length : Int) + 1))) else (none)) else (if ([46, 46] : List UInt8).isPrefixOf X = true then (if acc.length < 4398046511104 then (lex_All.l0 k (bA (p ++ X)) (acc ++ [(⟨2, (p.length : Int), (⟨#[]⟩ : ByteArray)⟩ : S48)]) (wrap64 ((p.length : Int) + 2))) else (none)) else (if (c.toNat : Int) = 32 then (lex_All.l0 k (bA (p ++ X)) acc (wrap64 ((p.length : Int) + 1))) else (some (([] : List S48), (p.length : Int), 1)))))) := by
  have hbt : bt (bA (p ++ X)) (p.length : Int) = (c.toNat : Int) := by rw [hX, bt_mid]
  have hsz : ((bA (p ++ X)).size : Int) = ((p ++ X).length : Nat) := by rw [bA_size]
  have hlt : (p.length : Int) < ((bA (p ++ X)).size : Int) := by rw [hsz, hX, List.length_append, List.length_cons]; omega
  have hext : (bA (p ++ X)).extract ((p.length : Int)).toNat (bA (p ++ X)).size = bA X := by rw [Int.toNat_natCast]; exact ext_end p _
  have hp := prefix_f X [46, 46]
  rw [lex_All.l0, if_pos hlt, if_pos (by omega), hbt, hext]
  simp only [lex_signs.f, Option.bind_some]
  rw [if_pos (by omega)]
  have e1 : (⟨#[46, 46]⟩ : ByteArray) = bA [46, 46] := rfl
  rw [e1, hp]
  rfl
def lexR (p : List UInt8) (acc : List S48) (its : List It) (r : List UInt8) : List S48 × Int × Int :=
  if r = [] then (acc ++ toks p.length its ++ [endT (p ++ (flatT its ++ r)).length], ((p ++ (flatT its ++ r)).length : Int), 0) else ([], ((p.length + (flatT its).length : Nat) : Int), 1)
theorem lex_g (r : List UInt8) : ∀ (its : List It) (p : List UInt8) (acc : List S48), okG its r → (p ++ (flatT its ++ r)).length ≤ 1000000 → acc.length ≤ p.length →
    Ev (fun k => lex_All.l0 k (bA (p ++ (flatT its ++ r))) acc (p.length : Int)) (lexR p acc its r)
  | [], p, acc, hok, hn, ha => by
    unfold lexR
    rw [flatT, List.nil_append] at hn ⊢
    rcases hok with rfl | hb
    · rw [if_pos rfl]
      refine Ev.step (f := fun _ => some (acc ++ toks p.length [] ++ [endT (p ++ []).length], ((p ++ []).length : Int), 0)) (fun k => ?_) (Ev.now _)
      rw [lex_All.l0, bA_size, if_neg (by simp), if_pos (by simp at hn; omega)]
      simp only [toks, List.append_nil]
      rfl
    · cases r with
      | nil => exact hb.elim
      | cons c l =>
        obtain ⟨h1, h2, h3, h4⟩ := hb
        rw [if_neg (by simp)]
        have hword := word_f (c :: l) (by rw [List.length_append] at hn; omega)
        have e1 : (c :: l).takeWhile isW = [] := take_W [] (c :: l) rfl h1
        rw [e1] at hword
        have h32 : ¬ (c.toNat : Int) = 32 := fun h => h3 (u8eq (show c.toNat = 32 by omega))
        refine Ev.step (lex_round p (c :: l) c l rfl acc) (Ev.bind hword (Ev.iff_ (by simp) (Ev.iff_ (by rw [h2]; simp) (Ev.iff_ (by rw [h4]; simp) (Ev.iff_ h32 ?_)))))
        exact Ev.eq (Ev.now _) (by simp)
  | i :: t, p, acc, hok, hn, ha => by
    rw [flatT, List.append_assoc] at hn ⊢
    have hlen : p.length + i.tx.length + (flatT t).length + r.length ≤ 1000000 := by simp only [List.length_append] at hn; omega
    have hhead : ∃ c l, i.tx ++ (flatT t ++ r) = c :: l := by
      cases i with
      | w l => obtain ⟨h1, _⟩ := hok; cases l with
        | nil => exact absurd rfl h1
        | cons c l => exact ⟨c, _, rfl⟩
      | s k c => exact ⟨c, _, rfl⟩
      | d => exact ⟨46, _, rfl⟩
      | b => exact ⟨32, _, rfl⟩
    obtain ⟨c, l, hcl⟩ := hhead
    have next : ∀ (acc' : List S48), okG t r → acc'.length ≤ p.length + i.tx.length → acc' = acc ++ i.tok p.length → Ev (fun k => lex_All.l0 k (bA (p ++ (i.tx ++ (flatT t ++ r)))) acc' ((p.length : Int) + (i.tx.length : Int))) (lexR p acc (i :: t) r) := fun acc' hr ha' e => by
      have := lex_g r t (p ++ i.tx) acc' hr (by simp only [List.length_append]; omega) (by rw [List.length_append]; exact ha')
      have e3 : ((p ++ i.tx).length : Int) = (p.length : Int) + (i.tx.length : Int) := by rw [List.length_append]; omega
      rw [e3, List.append_assoc p] at this
      refine Ev.eq this ?_
      unfold lexR
      rw [flatT, toks, e]
      by_cases h0 : r = []
      · rw [if_pos h0, if_pos h0]
        simp only [List.append_assoc, List.length_append]
      · rw [if_neg h0, if_neg h0]
        simp only [List.length_append, Nat.add_assoc]
    have W : ∀ n : Nat, n ≤ 1000000 → wrap64 ((p.length : Int) + (n : Int)) = (p.length : Int) + (n : Int) := fun n h => w64 (by omega) (by omega)
    have w1 := W 1 (by omega)
    have w2 := W 2 (by omega)
    have n1 := Aside0.mk w1
    have n2 := Aside0.mk w2
    clear w1 w2
    have hword := word_f (i.tx ++ (flatT t ++ r)) (by simp only [List.length_append]; omega)
    refine Ev.step (lex_round p _ c l hcl acc) (Ev.bind hword ?_)
    cases i with
    | w u =>
      obtain ⟨h1, h2, h3, h4⟩ := hok
      have hu := List.length_pos_iff.2 h1
      have e1 : ((It.w u).tx ++ (flatT t ++ r)).takeWhile isW = u := take_W u _ h2 h3
      rw [e1]
      rw [W u.length (by simp only [It.tx] at hlen; omega)]
      refine Ev.ift (by omega) (Ev.ift (by omega) (Ev.ift (by rw [bA_size]; simp only [It.tx, List.length_append]; omega) (Ev.ift (by simp only [It.tx] at hlen; omega) ?_)))
      have e2 : (bA (p ++ ((It.w u).tx ++ (flatT t ++ r)))).extract ((p.length : Int)).toNat ((p.length : Int) + (u.length : Int)).toNat = bA u := by
        have : ((p.length : Int) + (u.length : Int)).toNat = p.length + u.length := by omega
        rw [Int.toNat_natCast, this]
        exact ext_bA p u _
      rw [e2]
      exact next (acc ++ [⟨0, (p.length : Int), bA u⟩]) h4 (by simp only [It.tx, List.length_append, List.length_cons, List.length_nil]; omega) rfl
    | s k d =>
      obtain ⟨h1, h2, h3⟩ := hok
      injection hcl with hc _
      subst hc
      have e1 : ((It.s k d).tx ++ (flatT t ++ r)).takeWhile isW = [] := take_W [] _ rfl (sign_noW h2)
      rw [e1]
      refine Ev.iff_ (by simp) (Ev.ift h2 (Ev.ift (by omega) ?_))
      rw [h1]
      rw [show wrap64 ((p.length : Int) + 1) = (p.length : Int) + 1 from n1.out]
      exact next (acc ++ [⟨k, (p.length : Int), e0⟩]) h3 (by simp only [It.tx, List.length_append, List.length_cons, List.length_nil]; omega) rfl
    | d =>
      injection hcl with hc _
      subst hc
      have e1 : (It.d.tx ++ (flatT t ++ r)).takeWhile isW = [] := take_W [] _ rfl (show isW 46 = false by decide)
      rw [e1]
      refine Ev.iff_ (by simp) (Ev.iff_ (by decide) (Ev.ift (by simp [It.tx, List.isPrefixOf]) (Ev.ift (by omega) ?_)))
      rw [show wrap64 ((p.length : Int) + 2) = (p.length : Int) + 2 from n2.out]
      exact next (acc ++ [⟨2, (p.length : Int), e0⟩]) hok (by simp only [It.tx, List.length_append, List.length_cons, List.length_nil]; omega) rfl
    | b =>
      injection hcl with hc _
      subst hc
      have e1 : (It.b.tx ++ (flatT t ++ r)).takeWhile isW = [] := take_W [] _ rfl (show isW 32 = false by decide)
      rw [e1]
      refine Ev.iff_ (by simp) (Ev.iff_ (by decide) (Ev.iff_ (by simp [It.tx, List.isPrefixOf]) (Ev.ift (by decide) ?_)))
      rw [show wrap64 ((p.length : Int) + 1) = (p.length : Int) + 1 from n1.out]
      exact next acc hok (by simp only [It.tx, List.length_cons, List.length_nil]; omega) (by simp [It.tok])
theorem All_ok (its : List It) (h : okG its []) (hn : (flatT its).length ≤ 2000) : Ev (fun k => lex_All.f k (bA (flatT its))) (toks 0 its ++ [endT (flatT its).length], ((flatT its).length : Int), 0) := by
  have := lex_g [] its [] [] h (by simp only [List.nil_append, List.append_nil]; omega) (Nat.le_refl _)
  unfold lexR at this
  rw [if_pos rfl] at this
  simp only [List.nil_append, List.append_nil, List.length_nil] at this
  exact Ev.iff_ (by rw [bA_size]; omega) this
theorem All_bad (its : List It) (r : List UInt8) (h : okG its r) (hr : r ≠ []) (hn : (flatT its ++ r).length ≤ 2000) : Ev (fun k => lex_All.f k (bA (flatT its ++ r))) ([], ((flatT its).length : Int), 1) := by
  have := lex_g r its [] [] h (by simp only [List.nil_append]; omega) (Nat.le_refl _)
  unfold lexR at this
  rw [if_neg hr] at this
  simp only [List.nil_append, List.length_nil, Nat.zero_add] at this
  exact Ev.iff_ (by rw [bA_size]; omega) this
theorem All_long (l : List UInt8) (h : 2000 < l.length) : Ev (fun k => lex_All.f k (bA l)) ([], 2000, 7) := Ev.ift (by rw [bA_size]; omega) (Ev.now _)
theorem toks_in : ∀ (its : List It) (p : Nat) (x : S48), x ∈ toks p its → (p : Int) ≤ x.f1 ∧ x.f1 ≤ ((p + (flatT its).length : Nat) : Int) ∧ x.f2.size ≤ (flatT its).length
  | [], _, _, h => by cases h
  | i :: t, p, x, h => by
    rw [toks] at h
    rw [flatT, List.length_append]
    rcases List.mem_append.1 h with h | h
    · cases i with
      | w l => obtain rfl := List.mem_singleton.1 h; exact ⟨Int.le_refl _, by simp only; omega, by simp only [bA_size, It.tx]; omega⟩
      | s k c => obtain rfl := List.mem_singleton.1 h; exact ⟨Int.le_refl _, by simp only; omega, Nat.zero_le _⟩
      | d => obtain rfl := List.mem_singleton.1 h; exact ⟨Int.le_refl _, by simp only; omega, Nat.zero_le _⟩
      | b => cases h
    · have := toks_in t _ x h
      exact ⟨by omega, by omega, by omega⟩
def tupP (n : S27) (a e : Int) : Int × Int × ByteArray × ByteArray × ByteArray × Bool × Bool × List S27 × Int × Int := (n.f0, n.f1.f0, n.f1.f1, n.f1.f2, n.f1.f3, n.f2, n.f3, n.f4, a, e)
theorem Parse_any (l : List UInt8) : (∃ n, saneV n = true ∧ l.length ≤ 2000 ∧ Ev (fun k => parse_Parse.f k (bA l)) (tupP n (l.length : Int) 0)) ∨ ∃ a e : Int, e ≠ 0 ∧ 0 ≤ a ∧ a ≤ (l.length : Int) ∧ Ev (fun k => parse_Parse.f k (bA l)) (tupP pz a e) := by
  by_cases hlong : 2000 < l.length
  · refine .inr ⟨2000, 7, by omega, by omega, by omega, ?_⟩
    exact Ev.bind (All_long l hlong) (Ev.iff_ (by simp) (Ev.now _))
  · obtain ⟨its, r, ho, rfl⟩ := split_any _ l (Nat.le_refl _)
    by_cases hr : r = []
    · subst hr
      rw [List.append_nil] at hlong ⊢
      have hL := All_ok its ho (by omega)
      have hT := toks_in its 0
      obtain ⟨R, hR, hO⟩ := expr_any (endT (flatT its).length) rfl (toks 0 its) (fun x hx => by have := hT x hx; omega) 0 0 (by omega) (by omega)
      rcases hO with ⟨hx, hn, hm, h64, hd, h8, v', ht, hs, hl⟩ | ⟨a, c, hx, ⟨x, hxm, hax⟩, hc⟩
      · have hs' : saneV R.n = true := by
          unfold saneV
          rw [hn]
          simp only [Bool.and_true, Bool.and_eq_true, decide_eq_true_eq]
          omega
        obtain ⟨n, x, t, m, d⟩ := R
        simp only at hx ht hs'
        subst hx; subst ht
        obtain ⟨y, u, hyu⟩ := cons_of v' (endT (flatT its).length)
        rw [hyu] at hR
        by_cases hy : y.f0 = 9
        · exact .inl ⟨n, hs', by omega, Ev.bind hL (Ev.ift rfl (Ev.bind hR (Ev.ift hy (Ev.now _))))⟩
        · have hym : y ∈ v' := by
            have : y ∈ v' ++ [endT (flatT its).length] := by rw [hyu]; simp
            rcases List.mem_append.1 this with h | h
            · exact h
            · obtain rfl := List.mem_singleton.1 h; exact absurd rfl hy
          have := hT y (hs.subset hym)
          refine .inr ⟨y.f1, 3, by omega, by omega, by omega, Ev.bind hL (Ev.ift rfl (Ev.bind hR (Ev.iff_ hy (Ev.now _))))⟩
      · have hb : 0 ≤ a ∧ a ≤ ((flatT its).length : Int) := by
          rcases List.mem_append.1 hxm with h | h
          · have := hT x h; omega
          · obtain rfl := List.mem_singleton.1 h
            rw [hax]; simp [endT]
        refine .inr ⟨a, c, hc, hb.1, hb.2, Ev.bind hL (Ev.ift rfl (Ev.bind hR ?_))⟩
        rw [hx]; exact Ev.now _
    · have hL := All_bad its r ho hr (by omega)
      refine .inr ⟨((flatT its).length : Int), 1, by omega, by omega, by rw [List.length_append]; omega, ?_⟩
      exact Ev.bind hL (Ev.iff_ (by simp) (Ev.now _))
def er (x : S48) : S48 := ⟨x.f0, 0, x.f2⟩
theorem bare_sizes {n : S27} (h : bareV n = true) : n.f1.f1.size = 0 ∧ n.f1.f2.size = 0 ∧ n.f1.f3.size = 0 := by
  unfold bareV at h
  simp only [Bool.and_eq_true] at h
  exact ⟨empty_size h.1.1.2.1, empty_size h.1.1.2.2.1, empty_size h.1.1.2.2.2⟩
theorem end_sizes {n : S27} (h : endV n = true) : n.f1.f1.size ≤ 4 ∧ n.f1.f2.size ≤ 4 ∧ n.f1.f3.size ≤ 4 := by
  obtain ⟨_, hk⟩ := end_kinds h
  rcases hk with ⟨_, hp⟩ | ⟨_, hb⟩ | ⟨_, hb⟩
  · have := pt_sizes hp; omega
  · have := bare_sizes hb; omega
  · have := bare_sizes hb; omega
theorem end_wf {n : S27} (h : endV n = true) : wfN n := by
  have := end_sizes h
  refine .mk _ (by omega) (by omega) (by omega) (by rw [(end_kinds h).1]; simp) (fun x hx => ?_)
  rw [(end_kinds h).1] at hx; cases hx
theorem rtL_mem' : ∀ {l : List S27}, rtL l = true → ∀ x, x ∈ l → rt x = true
  | [], _, x, hx => by cases hx
  | y :: l, h, x, hx => by
    rw [rtL, Bool.and_eq_true] at h
    rcases List.mem_cons.1 hx with rfl | hx
    · exact h.1
    · exact rtL_mem' h.2 x hx
theorem rt_wf : ∀ (M : Nat) (n : S27), nd n ≤ M → nd n ≤ 1000 → rt n = true → wfN n
  | 0, n, h, _, _ => by have := nd_pos n; omega
  | M + 1, n, h, hb, hr => by
    have e := nd_eq n
    have hl := len_nd n.f4
    rcases rt_kinds hr with ⟨he, _⟩ | ⟨_, hb', x, y, h4, hx, hy, _⟩ | ⟨_, hb', _, hrt, _⟩
    · exact end_wf he
    · have := bare_sizes hb'
      refine .mk _ (by omega) (by omega) (by omega) (by omega) (fun z hz => ?_)
      rw [h4] at hz
      simp only [List.mem_cons, List.not_mem_nil, or_false] at hz
      rcases hz with rfl | rfl
      · exact end_wf hx
      · exact end_wf hy
    · have := bare_sizes hb'
      refine .mk _ (by omega) (by omega) (by omega) (by omega) (fun z hz => ?_)
      have := ndL_mem hz
      exact rt_wf M z (by omega) (by omega) (rtL_mem' hrt z hz)
theorem sane_wf {n : S27} (h : saneV n = true) : wfN n := rt_wf _ n (Nat.le_refl _) (by have := sane_rt h; omega) (sane_rt h).2.2
theorem Ev.det {α : Type} {f : Nat → Option α} {r q : α} (h : Ev f r) (g : Ev f q) : r = q := by
  obtain ⟨K, hK⟩ := h
  obtain ⟨L, hL⟩ := g
  exact Option.some.inj ((hK (max K L) (by omega)).symm.trans (hL (max K L) (by omega)))
theorem Ev.det1 {α : Type} {f : Nat → Option α} {r q : α} (hm : ∀ k, LeO (f k) (f (k + 1))) (h : Ev f r) {k : Nat} (hk : f k = some q) : q = r := Ev.det (Ev.of hm hk) h
theorem same_t {n : S27} (h : saneV n = true) : Ev (fun k => tSame k n n) true := Ev.eq (tSame_f _ n n (Nat.le_refl _) (sane_wf h)) (sm_refl _ _ (Nat.le_refl _))
def DM : List S48 → Bool → Bool → Bool → Bool → Prop
  | [], a, b, a', b' => a = a' ∧ b = b'
  | x :: v, a, b, a', b' => x.f0 = 7 ∧ a = false ∧ DM v true b a' b' ∨ x.f0 = 8 ∧ b = false ∧ DM v a true a' b'
def DE : List S48 → S27 → Prop
  | [], _ => False
  | x :: v, n => (x.f0 = 0 ∧ ∃ p a b, ptV p = true ∧ x.f2 = bA (ptTxt p) ∧ DM v false false a b ∧ n = ⟨0, p, a, b, []⟩) ∨ (x.f0 = 2 ∧ v = [] ∧ n = kz 3) ∨ (x.f0 = 3 ∧ v = [] ∧ n = kz 4)
def spN (x y : S27) : S27 := ⟨1, ⟨0, e0, e0, e0⟩, false, false, [x, y]⟩
def liN (l : List S27) : S27 := ⟨2, ⟨0, e0, e0, e0⟩, false, false, l⟩
mutual
def DX : Nat → List S48 → S27 → Prop
  | 0, _, _ => False
  | k + 1, v, n => (DE v n ∧ n.f0 = 0) ∨ (∃ v1 y v2 a b, v = v1 ++ y :: v2 ∧ y.f0 = 1 ∧ DE v1 a ∧ DE v2 b ∧ n = spN a b) ∨ (∃ x v1 l, v = x :: v1 ∧ x.f0 = 4 ∧ DL k v1 l ∧ n = liN l)
def DL : Nat → List S48 → List S27 → Prop
  | 0, _, _ => False
  | k + 1, v, l => (∃ v1 y n, v = v1 ++ [y] ∧ y.f0 = 5 ∧ DX k v1 n ∧ l = [n]) ∨ (∃ v1 y v2 n l', v = v1 ++ y :: v2 ∧ y.f0 = 6 ∧ DX k v1 n ∧ DL k v2 l' ∧ l = n :: l')
end
theorem D_up : ∀ k, (∀ v n, DX k v n → DX (k + 1) v n) ∧ (∀ v l, DL k v l → DL (k + 1) v l)
  | 0 => ⟨fun _ _ h => by rw [DX] at h; exact h.elim, fun _ _ h => by rw [DL] at h; exact h.elim⟩
  | k + 1 => by
    obtain ⟨i1, i2⟩ := D_up k
    refine ⟨fun v n h => ?_, fun v l h => ?_⟩
    · rw [DX] at h ⊢
      rcases h with h | h | ⟨x, v1, l, e, h4, hl, hn⟩
      · exact .inl h
      · exact .inr (.inl h)
      · exact .inr (.inr ⟨x, v1, l, e, h4, i2 _ _ hl, hn⟩)
    · rw [DL] at h ⊢
      rcases h with ⟨v1, y, n, e, h5, hx, hl⟩ | ⟨v1, y, v2, n, l', e, h6, hx, h2, hl⟩
      · exact .inl ⟨v1, y, n, e, h5, i1 _ _ hx, hl⟩
      · exact .inr ⟨v1, y, v2, n, l', e, h6, i1 _ _ hx, i2 _ _ h2, hl⟩
theorem D_le {k j : Nat} (h : k ≤ j) {v : List S48} {n : S27} (hx : DX k v n) : DX j v n := by
  induction h with
  | refl => exact hx
  | step _ ih => exact (D_up _).1 _ _ ih
theorem marked_D : ∀ (t : List S48) (p : S24) (a b : Bool) (n : S27) (u : List S48), pMarked t p a b = some (n, u) → ∃ v a' b', t = v ++ u ∧ DM v a b a' b' ∧ n = ⟨0, p, a', b', []⟩
  | [], p, a, b, n, u, h => by rw [pMarked] at h; cases h
  | x :: t, p, a, b, n, u, h => by
    rw [pMarked] at h
    by_cases c7 : x.f0 = 7
    · rw [if_pos c7] at h
      by_cases ca : a = false
      · rw [if_pos ca] at h
        obtain ⟨v, a', b', e, hd, hn⟩ := marked_D t p true b n u h
        exact ⟨x :: v, a', b', by rw [e]; rfl, by rw [DM]; exact .inl ⟨c7, ca, hd⟩, hn⟩
      · rw [if_neg ca] at h
        simp only [Option.some.injEq, Prod.mk.injEq] at h
        exact ⟨[], a, b, by rw [← h.2]; rfl, ⟨rfl, rfl⟩, h.1.symm⟩
    · rw [if_neg c7] at h
      by_cases c8 : x.f0 = 8
      · rw [if_pos c8] at h
        by_cases cb : b = false
        · rw [if_pos cb] at h
          obtain ⟨v, a', b', e, hd, hn⟩ := marked_D t p a true n u h
          exact ⟨x :: v, a', b', by rw [e]; rfl, by rw [DM]; exact .inr ⟨c8, cb, hd⟩, hn⟩
        · rw [if_neg cb] at h
          simp only [Option.some.injEq, Prod.mk.injEq] at h
          exact ⟨[], a, b, by rw [← h.2]; rfl, ⟨rfl, rfl⟩, h.1.symm⟩
      · rw [if_neg c8] at h
        simp only [Option.some.injEq, Prod.mk.injEq] at h
        exact ⟨[], a, b, by rw [← h.2]; rfl, ⟨rfl, rfl⟩, h.1.symm⟩
theorem read_D {k : Nat} {s : ByteArray} (hs : s.size ≤ 4611686018427387904) {p : Int × ByteArray × ByteArray × ByteArray × Bool} (h : point_Read.f k s = some p) (ht : p.2.2.2.2 = true) :
    ptV ⟨p.1, p.2.1, p.2.2.1, p.2.2.2.1⟩ = true ∧ s = bA (ptTxt ⟨p.1, p.2.1, p.2.2.1, p.2.2.2.1⟩) := by
  have hr := read_any s.data.toList (by rw [← bsize]; exact hs)
  rw [bA_mk] at hr
  rcases hr with ⟨q, hq, hqt, hq2⟩ | ⟨_, hq2⟩
  · have := Ev.det1 (f := fun k => point_Read.f k s) (fun k => point_Read.mono s k) hq2 h
    subst this
    exact ⟨hq, by rw [show (ptTxt ⟨q.f0, q.f1, q.f2, q.f3⟩) = ptTxt q from rfl, hqt, bA_mk]⟩
  · have := Ev.det1 (f := fun k => point_Read.f k s) (fun k => point_Read.mono s k) hq2 h
    subst this; cases ht
theorem end_D {k : Nat} {m d : Int} {t u : List S48} {n : S27} {m' d' : Int} (hw : shortW t) (h : pEnd k m d t = some ⟨n, none, u, m', d'⟩) : ∃ v, t = v ++ u ∧ DE v n := by
  cases t with
  | nil => cases h
  | cons x t =>
    unfold pEnd at h
    simp only at h
    by_cases c0 : x.f0 = 0
    · rw [if_pos c0] at h
      by_cases c64 : m = 64
      · rw [if_pos c64] at h; simp at h
      rw [if_neg c64] at h
      unfold pWord at h
      obtain ⟨p, hp, h⟩ := Option.bind_eq_some_iff.mp h
      by_cases ht : p.2.2.2.2 = true
      · rw [if_pos ht] at h
        obtain ⟨r, hr, h⟩ := Option.bind_eq_some_iff.mp h
        simp only [Option.some.injEq, PR.mk.injEq] at h
        obtain ⟨h1, _, h2, _, _⟩ := h
        obtain ⟨v, a', b', e, he, hn⟩ := marked_D _ _ _ _ _ _ hr
        obtain ⟨hv, hl⟩ := read_D (hw x (by simp)) hp ht
        exact ⟨x :: v, by rw [e, h2]; rfl, .inl ⟨c0, _, a', b', hv, hl, he, by rw [← h1, hn]⟩⟩
      · rw [if_neg ht] at h; simp at h
    rw [if_neg c0] at h
    by_cases c2 : x.f0 = 2
    · rw [if_pos c2] at h
      by_cases c64 : m = 64
      · rw [if_pos c64] at h; simp at h
      rw [if_neg c64] at h
      simp only [Option.some.injEq, PR.mk.injEq] at h
      obtain ⟨h1, _, h2, _, _⟩ := h
      exact ⟨[x], by rw [h2]; rfl, .inr (.inl ⟨c2, rfl, h1.symm⟩)⟩
    rw [if_neg c2] at h
    by_cases c3 : x.f0 = 3
    · rw [if_pos c3] at h
      by_cases c64 : m = 64
      · rw [if_pos c64] at h; simp at h
      rw [if_neg c64] at h
      simp only [Option.some.injEq, PR.mk.injEq] at h
      obtain ⟨h1, _, h2, _, _⟩ := h
      exact ⟨[x], by rw [h2]; rfl, .inr (.inr ⟨c3, rfl, h1.symm⟩)⟩
    · rw [if_neg c3] at h; simp at h
theorem PR.ext2 {r : PR} {n : S27} {x : Wr} {t : List S48} {m d : Int} (h : r = ⟨n, x, t, m, d⟩) : r.n = n ∧ r.x = x ∧ r.t = t := by subst h; exact ⟨rfl, rfl, rfl⟩
theorem shortW.suf2 {v u t : List S48} (hw : shortW t) (h : t = v ++ u) : shortW u := fun x hx => hw x (by rw [h]; exact List.mem_append.2 (.inr hx))
theorem span_D {k : Nat} {m d : Int} {t u : List S48} {n : S27} {m' d' : Int} (hw : shortW t) (h : pSpan k m d t = some ⟨n, none, u, m', d'⟩) : ∃ v, t = v ++ u ∧ ∀ j, DX (j + 1) v n := by
  unfold pSpan at h
  obtain ⟨⟨rn, rx, rt_, rm, rd⟩, hr, h⟩ := Option.bind_eq_some_iff.mp h
  cases rx with
  | some x => simp only [Option.some.injEq] at h; obtain ⟨_, h, _⟩ := PR.ext2 h; cases h
  | none =>
    obtain ⟨v1, e1, d1⟩ := end_D hw hr
    cases rt_ with
    | nil => cases h
    | cons y w =>
      simp only at h
      by_cases cy : y.f0 = 1
      · rw [if_pos cy] at h
        by_cases c64 : rm = 64
        · rw [if_pos c64] at h; simp at h
        rw [if_neg c64] at h
        obtain ⟨⟨sn, sx, st, sm_, sd⟩, hs, h⟩ := Option.bind_eq_some_iff.mp h
        simp only [Option.some.injEq] at h
        obtain ⟨h1, h2, h3⟩ := PR.ext2 h
        simp only at h1 h2 h3
        subst h2
        obtain ⟨v2, e2, d2⟩ := end_D ((hw.suf2 e1).suf2 (v := [y]) rfl) hs
        refine ⟨v1 ++ y :: v2, by rw [e1, e2, h3]; simp, fun j => ?_⟩
        rw [DX]
        exact .inr (.inl ⟨v1, y, v2, rn, sn, rfl, cy, d1, d2, h1.symm⟩)
      · rw [if_neg cy] at h
        by_cases c0 : rn.f0 = 0
        · rw [if_pos c0] at h
          simp only [Option.some.injEq] at h
          obtain ⟨h1, h2, h3⟩ := PR.ext2 h
          simp only at h1 h3
          refine ⟨v1, by rw [e1, h3], fun j => ?_⟩
          rw [DX, ← h1]
          exact .inl ⟨d1, c0⟩
        · rw [if_neg c0] at h; simp at h
theorem OneOf_p2 {l : List S27} {o : Int × Int × ByteArray × ByteArray × ByteArray × Bool × Bool × List S27} (h : tree_OneOf.f l = some o) : o = (2, 0, e0, e0, e0, false, false, l) := by
  unfold tree_OneOf.f at h
  obtain ⟨v, hv, h⟩ := Option.bind_eq_some_iff.mp h
  rw [slices_Clone.f] at hv
  split at hv
  · simp only [Option.some.injEq] at hv h
    subst hv; exact h.symm
  · cases hv
theorem expr_D : ∀ k, (∀ (m d : Int) (t u : List S48) (n : S27) (m' d' : Int), shortW t → pExpr k m d t = some ⟨n, none, u, m', d'⟩ → ∃ v, t = v ++ u ∧ DX k v n)
    ∧ (∀ (m d : Int) (x : S48) (t u : List S48) (n : S27) (m' d' : Int), x.f0 = 4 → shortW t → pList k m d x t = some ⟨n, none, u, m', d'⟩ → ∃ v, x :: t = v ++ u ∧ DX (k + 1) v n)
    ∧ (∀ (m d : Int) (x : S48) (t u : List S48) (l : List S27) (n : S27) (m' d' : Int), shortW t → pItems k m d (x :: t) l = some ⟨n, none, u, m', d'⟩ → ∃ v l', t = v ++ u ∧ DL k v l' ∧ n = liN (l ++ l'))
  | 0 => ⟨fun _ _ _ _ _ _ _ _ h => by simp [pExpr] at h, fun _ _ _ _ _ _ _ _ _ _ h => by simp [pList] at h, fun _ _ _ _ _ _ _ _ _ _ h => by simp [pItems] at h⟩
  | k + 1 => by
    obtain ⟨i1, i2, i3⟩ := expr_D k
    refine ⟨fun m d t u n m' d' hw h => ?_, fun m d x t u n m' d' h4 hw h => ?_, fun m d x t u l n m' d' hw h => ?_⟩
    · cases t with
      | nil => simp [pExpr] at h
      | cons x t =>
        rw [pExpr] at h
        by_cases c4 : x.f0 = 4
        · rw [if_pos c4] at h
          exact i2 m d x t u n m' d' c4 (hw.suf2 (v := [x]) rfl) h
        · rw [if_neg c4] at h
          obtain ⟨v, e, hv⟩ := span_D hw h
          exact ⟨v, e, hv k⟩
    · rw [pList] at h
      by_cases c8 : d = 8
      · rw [if_pos c8] at h; simp at h
      rw [if_neg c8] at h
      by_cases c64 : m = 64
      · rw [if_pos c64] at h; simp at h
      rw [if_neg c64] at h
      obtain ⟨v, l', e, hv, hn⟩ := i3 _ _ x t u [] n m' d' hw h
      refine ⟨x :: v, by rw [e]; rfl, ?_⟩
      rw [DX]
      exact .inr (.inr ⟨x, v, l', rfl, h4, (D_up k).2 _ _ hv, hn⟩)
    · rw [pItems_one] at h
      obtain ⟨⟨rn, rx, rt_, rm, rd⟩, hr, h⟩ := Option.bind_eq_some_iff.mp h
      cases rx with
      | some x => simp only [Option.some.injEq] at h; obtain ⟨_, h, _⟩ := PR.ext2 h; cases h
      | none =>
        obtain ⟨v1, e1, d1⟩ := i1 _ _ _ _ _ _ _ hw hr
        simp only at h
        by_cases cl : l.length < 1466015503701
        · rw [if_pos cl] at h
          cases rt_ with
          | nil => cases h
          | cons y w =>
            simp only at h
            by_cases c6 : y.f0 = 6
            · rw [if_pos c6] at h
              obtain ⟨v2, l', e2, d2, hn⟩ := i3 _ _ y w u (l ++ [rn]) n m' d' ((hw.suf2 e1).suf2 (v := [y]) rfl) h
              refine ⟨v1 ++ y :: v2, rn :: l', by rw [e1, e2]; simp, ?_, by rw [hn, List.append_assoc]; rfl⟩
              rw [DL]
              exact .inr ⟨v1, y, v2, rn, l', rfl, c6, d1, d2, rfl⟩
            rw [if_neg c6] at h
            by_cases c5 : y.f0 = 5
            · rw [if_pos c5] at h
              obtain ⟨o, ho, h⟩ := Option.bind_eq_some_iff.mp h
              have ho := OneOf_p2 ho
              subst ho
              simp only [Option.some.injEq] at h
              obtain ⟨h1, _, h3⟩ := PR.ext2 h
              simp only at h1 h3
              refine ⟨v1 ++ [y], [rn], by rw [e1, h3]; simp, ?_, h1.symm⟩
              rw [DL]
              exact .inl ⟨v1, y, rn, rfl, c5, d1, rfl⟩
            · rw [if_neg c5] at h; simp at h
        · rw [if_neg cl] at h; cases h
def Lim (R : PR) : Prop := ∃ a c : Int, R.x = some (a, c) ∧ (c = 5 ∨ c = 6)
theorem eNot_in {x : S48} (c : Int) (h : x.f0 ≠ 9) : eNot x c = c := by unfold eNot; rw [if_neg h]
theorem marked_go : ∀ (v : List S48) (p : S24) (a b a' b' : Bool) (r : List S48), DM v a b a' b' → free r → pMarked (v ++ r) p a b = some (⟨0, p, a', b', []⟩, r)
  | [], p, a, b, a', b', r, h, hr => by
    obtain ⟨rfl, rfl⟩ := h
    obtain ⟨y, u, rfl, h7, h8⟩ := hr
    rw [List.nil_append, pMarked, if_neg h7, if_neg h8]
  | x :: v, p, a, b, a', b', r, h, hr => by
    rw [DM] at h
    rw [List.cons_append, pMarked]
    rcases h with ⟨c7, ca, h⟩ | ⟨c8, cb, h⟩
    · rw [if_pos c7, if_pos ca]; exact marked_go v p true b a' b' r h hr
    · rw [if_neg (by omega), if_pos c8, if_pos cb]; exact marked_go v p a true a' b' r h hr
theorem DE_end {v : List S48} {n : S27} (h : DE v n) : endV n = true ∧ ∃ x u, v = x :: u ∧ x.f0 ≠ 4 ∧ x.f0 ≠ 9 := by
  cases v with
  | nil => exact h.elim
  | cons x u =>
    rcases h with ⟨c, p, a, b, hp, _, _, rfl⟩ | ⟨c, _, rfl⟩ | ⟨c, _, rfl⟩
    · exact ⟨endV_pt _ _ _ hp, x, u, rfl, by omega, by omega⟩
    · exact ⟨endV_kz 3 (.inl rfl), x, u, rfl, by omega, by omega⟩
    · exact ⟨endV_kz 4 (.inr rfl), x, u, rfl, by omega, by omega⟩
theorem end_go {v : List S48} {n : S27} (h : DE v n) (m : Nat) (d : Int) (r : List S48) (hr : free r) (hm : m + 1 ≤ 64) : Ev (fun k => pEnd k (m : Int) d (v ++ r)) ⟨n, none, r, ((m + 1 : Nat) : Int), d⟩ := by
  cases v with
  | nil => exact h.elim
  | cons x v =>
    rw [List.cons_append]
    unfold pEnd pWord
    rcases h with ⟨c, p, a, b, hp, hs, hd, rfl⟩ | ⟨c, rfl, rfl⟩ | ⟨c, rfl, rfl⟩
    · refine Ev.ift c (Ev.iff_ (by omega) ?_)
      rw [hs]
      refine Ev.bind (read_txt p hp) (Ev.ift rfl (Ev.bnow (marked_go v _ _ _ _ _ r hd hr) (Ev.eq (Ev.now _) ?_)))
      rw [up1 (by omega)]
    · refine Ev.iff_ (by omega) (Ev.ift c (Ev.iff_ (by omega) (Ev.eq (Ev.now _) ?_)))
      rw [up1 (by omega)]; rfl
    · refine Ev.iff_ (by omega) (Ev.iff_ (by omega) (Ev.ift c (Ev.iff_ (by omega) (Ev.eq (Ev.now _) ?_))))
      rw [up1 (by omega)]; rfl
theorem end_lim {v : List S48} {n : S27} (h : DE v n) (d : Int) (r : List S48) : ∃ R, Ev (fun k => pEnd k 64 d (v ++ r)) R ∧ Lim R := by
  cases v with
  | nil => exact h.elim
  | cons x v =>
    rw [List.cons_append]
    unfold pEnd
    have h9 : x.f0 = 0 ∨ x.f0 = 2 ∨ x.f0 = 3 := by
      rcases h with ⟨c, _⟩ | ⟨c, _⟩ | ⟨c, _⟩ <;> omega
    have lim : Lim ⟨pz, some (x.f1, eNot x 6), x :: (v ++ r), 64, d⟩ := ⟨_, _, rfl, .inr (eNot_in 6 (by omega))⟩
    by_cases c0 : x.f0 = 0
    · exact ⟨_, Ev.ift c0 (Ev.ift rfl (Ev.now _)), lim⟩
    by_cases c2 : x.f0 = 2
    · exact ⟨_, Ev.iff_ c0 (Ev.ift c2 (Ev.ift rfl (Ev.now _))), lim⟩
    · exact ⟨_, Ev.iff_ c0 (Ev.iff_ c2 (Ev.ift (by omega) (Ev.ift rfl (Ev.now _)))), lim⟩
theorem nd_sp {a b : S27} (ha : endV a = true) (hb : endV b = true) : nd (spN a b) = 3 ∧ dp (spN a b) = 0 ∧ rt (spN a b) = true := by
  refine ⟨?_, ?_, ?_⟩
  · unfold spN; rw [nd, ndL, ndL, ndL, nd_end ha, nd_end hb]
  · unfold spN; rw [dp, if_neg (by decide), dpL, dpL, dpL, dp_end0 ha, dp_end0 hb]; rfl
  · unfold spN
    rw [rt_eq, if_neg (by simp), if_pos rfl, bare_mk]
    show (true && two [a, b]) = true
    rw [two, ha, hb]; rfl
theorem expr_go : ∀ k, (∀ v n, DX k v n → rt n = true ∧ ∀ (m d : Nat) (r : List S48), freeE r → m ≤ 64 → d ≤ 8 →
      (m + nd n ≤ 64 ∧ d + dp n ≤ 8 ∧ Ev (fun k => pExpr k (m : Int) (d : Int) (v ++ r)) ⟨n, none, r, ((m + nd n : Nat) : Int), (d : Int)⟩) ∨ (¬ (m + nd n ≤ 64 ∧ d + dp n ≤ 8) ∧ ∃ R, Ev (fun k => pExpr k (m : Int) (d : Int) (v ++ r)) R ∧ Lim R))
    ∧ (∀ v l, DL k v l → (l ≠ [] ∧ rtL l = true) ∧ ∀ (x : S48) (acc : List S27) (m d : Nat) (r : List S48), acc.length ≤ m → m ≤ 64 → d + 1 ≤ 8 →
      (m + ndL l ≤ 64 ∧ d + 1 + dpL l ≤ 8 ∧ Ev (fun k => pItems k (m : Int) ((d + 1 : Nat) : Int) (x :: (v ++ r)) acc) ⟨liN (acc ++ l), none, r, ((m + ndL l : Nat) : Int), (d : Int)⟩) ∨ (¬ (m + ndL l ≤ 64 ∧ d + 1 + dpL l ≤ 8) ∧ ∃ R, Ev (fun k => pItems k (m : Int) ((d + 1 : Nat) : Int) (x :: (v ++ r)) acc) R ∧ Lim R))
  | 0 => ⟨fun _ _ h => by rw [DX] at h; exact h.elim, fun _ _ h => by rw [DL] at h; exact h.elim⟩
  | k + 1 => by
    obtain ⟨i1, i2⟩ := expr_go k
    have span : ∀ {m d : Int} {x : S48} {t : List S48} {R : PR}, x.f0 ≠ 4 → Ev (fun k => pSpan k m d (x :: t)) R → Ev (fun k => pExpr k m d (x :: t)) R := fun h4 h => Ev.step (fun k => by rw [pExpr, if_neg h4]) h
    refine ⟨fun v n h => ?_, fun v l h => ?_⟩
    · rw [DX] at h
      rcases h with ⟨hE, c0⟩ | ⟨v1, y, v2, a, b, rfl, cy, h1, h2, rfl⟩ | ⟨x, v1, l, rfl, h4, hl, rfl⟩
      · obtain ⟨he, x, u, rfl, hx4, hx9⟩ := DE_end hE
        refine ⟨by rw [rt_eq, if_pos c0]; exact he, fun m d r hr hm hd => ?_⟩
        have e1 := nd_end he
        have e2 := dp_end0 he
        obtain ⟨y, w, rfl, h7, h8, hy1⟩ := hr
        by_cases hm1 : m + 1 ≤ 64
        · refine .inl ⟨by omega, by omega, ?_⟩
          rw [e1]
          refine span hx4 ?_
          unfold pSpan
          exact Ev.bind (end_go hE m d _ ⟨y, w, rfl, h7, h8⟩ hm1) (Ev.iff_ hy1 (Ev.ift c0 (Ev.now _)))
        · have : m = 64 := by omega
          subst this
          obtain ⟨R, hR, a, c, hx, hc⟩ := end_lim hE (d : Int) (y :: w)
          refine .inr ⟨by omega, R, span hx4 ?_, a, c, hx, hc⟩
          unfold pSpan
          refine Ev.bind hR ?_
          rw [hx]; exact Ev.now _
      · obtain ⟨ha, x, u, rfl, hx4, hx9⟩ := DE_end h1
        obtain ⟨hb, _⟩ := DE_end h2
        obtain ⟨e1, e2, e3⟩ := nd_sp ha hb
        refine ⟨e3, fun m d r hr hm hd => ?_⟩
        have hr' : free r := by obtain ⟨z, w, e, h7, h8, _⟩ := hr; exact ⟨z, w, e, h7, h8⟩
        have hsplit : (x :: u) ++ y :: v2 ++ r = x :: (u ++ y :: (v2 ++ r)) := by simp
        rw [hsplit, e1, e2]
        have hfirst : ∀ m : Nat, m + 1 ≤ 64 → Ev (fun k => pEnd k (m : Int) (d : Int) (x :: (u ++ y :: (v2 ++ r)))) ⟨a, none, y :: (v2 ++ r), ((m + 1 : Nat) : Int), (d : Int)⟩ := fun m hm => end_go h1 m d (y :: (v2 ++ r)) ⟨y, _, rfl, by omega, by omega⟩ hm
        by_cases hm3 : m + 3 ≤ 64
        · refine .inl ⟨hm3, by omega, span hx4 ?_⟩
          unfold pSpan
          refine Ev.bind (hfirst m (by omega)) (Ev.ift cy (Ev.iff_ (by show ¬ ((m + 1 : Nat) : Int) = 64; omega) ?_))
          refine Ev.bind (a := ⟨b, none, r, ((m + 3 : Nat) : Int), (d : Int)⟩) ?_ (Ev.now _)
          show Ev (fun k => pEnd k (wrap64 (((m + 1 : Nat) : Int) + 1)) (d : Int) (v2 ++ r)) _
          rw [up1 (by omega)]
          exact end_go h2 (m + 2) d r hr' (by omega)
        · refine .inr ⟨by omega, ?_⟩
          by_cases c64 : m = 64
          · subst c64
            obtain ⟨R, hR, p, c, hx, hc⟩ := end_lim h1 (d : Int) (y :: (v2 ++ r))
            refine ⟨R, span hx4 ?_, p, c, hx, hc⟩
            unfold pSpan
            refine Ev.bind hR ?_
            rw [hx]; exact Ev.now _
          by_cases c63 : m = 63
          · subst c63
            refine ⟨⟨a, some (y.f1, eNot y 6), y :: (v2 ++ r), 64, (d : Int)⟩, span hx4 ?_, _, _, rfl, .inr (eNot_in 6 (by omega))⟩
            unfold pSpan
            exact Ev.bind (hfirst 63 (by omega)) (Ev.ift cy (Ev.ift rfl (Ev.now _)))
          · have : m = 62 := by omega
            subst this
            obtain ⟨R, hR, p, c, hx, hc⟩ := end_lim h2 (d : Int) r
            refine ⟨⟨spN a R.n, R.x, R.t, R.m, R.d⟩, span hx4 ?_, p, c, hx, hc⟩
            unfold pSpan
            refine Ev.bind (hfirst 62 (by omega)) (Ev.ift cy (Ev.iff_ (by simp) ?_))
            refine Ev.bind (a := R) ?_ (Ev.now _)
            show Ev (fun k => pEnd k (wrap64 (((62 + 1 : Nat) : Int) + 1)) (d : Int) (v2 ++ r)) _
            rw [up1 (by omega)]
            exact hR
      · obtain ⟨⟨hne, hrt⟩, hL⟩ := i2 v1 l hl
        have e1 : nd (liN l) = ndL l + 1 := nd_eq _
        have e2 : dp (liN l) = dpL l + 1 := by unfold liN; rw [dp, if_pos rfl]
        refine ⟨?_, fun m d r hr hm hd => ?_⟩
        · unfold liN
          rw [rt_eq, if_neg (by simp), if_neg (by simp), if_pos rfl, bare_mk]
          show (true && (decide (l ≠ []) && rtL l)) = true
          rw [hrt]; simp [hne]
        have go : ∀ R, Ev (fun k => pList k (m : Int) (d : Int) x (v1 ++ r)) R → Ev (fun k => pExpr k (m : Int) (d : Int) (x :: v1 ++ r)) R := fun R h => Ev.step (fun k => by rw [List.cons_append, pExpr, if_pos h4]) h
        by_cases c8 : d = 8
        · exact .inr ⟨by omega, ⟨pz, some (x.f1, eNot x 5), x :: (v1 ++ r), (m : Int), (d : Int)⟩, go _ (Ev.step (fun k => by rw [pList, if_pos (by omega)]) (Ev.now _)), _, _, rfl, .inl (eNot_in 5 (by omega))⟩
        by_cases c64 : m = 64
        · exact .inr ⟨by omega, ⟨pz, some (x.f1, eNot x 6), x :: (v1 ++ r), (m : Int), (d : Int)⟩, go _ (Ev.step (fun k => by rw [pList, if_neg (by omega), if_pos (by omega)]) (Ev.now _)), _, _, rfl, .inr (eNot_in 6 (by omega))⟩
        have go2 : ∀ R, Ev (fun k => pItems k ((m + 1 : Nat) : Int) ((d + 1 : Nat) : Int) (x :: (v1 ++ r)) []) R → Ev (fun k => pExpr k (m : Int) (d : Int) (x :: v1 ++ r)) R := fun R h => go R (Ev.step (fun k => by rw [pList, if_neg (by omega), if_neg (by omega), up1 (by omega), up1 (by omega)]) h)
        rcases hL x [] (m + 1) d r (Nat.zero_le _) (by omega) (by omega) with ⟨g1, g2, g3⟩ | ⟨g1, R, g2, g3⟩
        · refine .inl ⟨by omega, by omega, go2 _ (Ev.eq g3 ?_)⟩
          rw [e1, List.nil_append, Nat.add_assoc, Nat.add_comm 1]
        · exact .inr ⟨by omega, R, go2 R g2, g3⟩
    · rw [DL] at h
      rcases h with ⟨v1, y, n, rfl, c5, hx, rfl⟩ | ⟨v1, y, v2, n, l', rfl, c6, hx, h2, rfl⟩
      · obtain ⟨hrt, hX⟩ := i1 v1 n hx
        refine ⟨⟨by simp, by rw [rtL, rtL, hrt]; rfl⟩, fun x acc m d r hacc hm hd => ?_⟩
        have e1 : ndL [n] = nd n := by rw [ndL, ndL]; omega
        have e2 : dpL [n] = dp n := by rw [dpL, dpL]; omega
        have hs : v1 ++ [y] ++ r = v1 ++ (y :: r) := by simp
        rw [e1, e2, hs]
        rcases hX m (d + 1) (y :: r) ⟨y, r, rfl, by omega, by omega, by omega⟩ hm hd with ⟨g1, g2, g3⟩ | ⟨g1, R, g2, a, c, g3, g4⟩
        · refine .inl ⟨g1, g2, items_step g3 (by omega) (.inr ⟨c5, ?_, by omega⟩)⟩
          have e3 : wrap64 (((d + 1 : Nat) : Int) - 1) = (d : Int) := by rw [w64 (by omega) (by omega)]; omega
          rw [e3]; rfl
        · refine .inr ⟨g1, R, Ev.step (fun k => pItems_one k _ _ x _ acc) (Ev.bind g2 ?_), a, c, g3, g4⟩
          rw [g3]; exact Ev.now _
      · obtain ⟨hrt, hX⟩ := i1 v1 n hx
        obtain ⟨⟨_, hrt2⟩, hL⟩ := i2 v2 l' h2
        refine ⟨⟨by simp, by rw [rtL, hrt, hrt2]; rfl⟩, fun x acc m d r hacc hm hd => ?_⟩
        have hp := nd_pos n
        have hs : v1 ++ y :: v2 ++ r = v1 ++ (y :: (v2 ++ r)) := by simp
        rw [hs, ndL, dpL]
        rcases hX m (d + 1) (y :: (v2 ++ r)) ⟨y, _, rfl, by omega, by omega, by omega⟩ hm hd with ⟨g1, g2, g3⟩ | ⟨g1, R, g2, a, c, g3, g4⟩
        · rcases hL y (acc ++ [n]) (m + nd n) d r (by rw [List.length_append, List.length_singleton]; omega) g1 hd with ⟨j1, j2, j3⟩ | ⟨j1, R, j2, j3⟩
          · refine .inl ⟨by omega, by omega, items_step g3 (by omega) (.inl ⟨c6, Ev.eq j3 ?_⟩)⟩
            rw [List.append_assoc, Nat.add_assoc]; rfl
          · exact .inr ⟨by omega, R, items_step g3 (by omega) (.inl ⟨c6, j2⟩), j3⟩
        · refine .inr ⟨by omega, R, Ev.step (fun k => pItems_one k _ _ x _ acc) (Ev.bind g2 ?_), a, c, g3, g4⟩
          rw [g3]; exact Ev.now _
end Go.Proofs.Ytjgjhekpiijniaa.A