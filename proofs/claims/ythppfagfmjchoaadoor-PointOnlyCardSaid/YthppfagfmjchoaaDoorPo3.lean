/- Walks of functions, and plain facts about what they compute. No conditions. -/
import Derived.Test.YthppfagfmjchoaaDoorPo2
set_option linter.unusedVariables false
set_option linter.unusedSimpArgs false
namespace Go.Proofs.YthppfagfmjchoaaDoor.A
open Go.RowKit Go.Proofs.YthppfagfmjchoaaDoorW.PrintWords Go.Proofs.YthppfagfmjchoaaDoorW.PrintLast Go.Proofs.YthppfagfmjchoaaDoorW.PrintMore
def pY (x : Int) : Int := 365 * x + x / 4 - x / 100 + x / 400
def leapY (y : Int) : Bool := decide (y % 400 = 0) || (decide (y % 4 = 0) && !decide (y % 100 = 0))
def mlen : List Int := [0, 31, 28, 31, 30, 31, 30, 31, 31, 30, 31, 30, 31]
def dim (y m : Int) : Int := if m < 1 then 0 else if m > 12 then 0 else if m = 2 then (if leapY y = true then 29 else 28) else mlen.getD m.toNat 0
def mD (k d : Int) : Int := (153 * k + 2) / 5 + d - 1
def numD (y m d : Int) : Int := if m < 3 then pY (y - 1) + mD (m + 9) d + 60 else pY y + mD (m - 3) d + 60
theorem pY_succ (x : Int) : pY (x + 1) = pY x + 365 + (if leapY (x + 1) = true then 1 else 0) := by
  unfold pY leapY
  by_cases h4 : (x + 1) % 4 = 0
  · by_cases h100 : (x + 1) % 100 = 0
    · by_cases h400 : (x + 1) % 400 = 0
      · simp [h4, h100, h400]; omega
      · simp [h4, h100, h400]; omega
    · have h400 : ¬ (x + 1) % 400 = 0 := by omega
      simp [h4, h100, h400]; omega
  · have h100 : ¬ (x + 1) % 100 = 0 := by omega
    have h400 : ¬ (x + 1) % 400 = 0 := by omega
    simp [h4, h100, h400]; omega
def mlenM : List Int := [31, 30, 31, 30, 31, 31, 30, 31, 30, 31, 31]
def lenM (x k : Int) : Int := if k = 11 then (if leapY (x + 1) = true then 29 else 28) else mlenM.getD k.toNat 0
theorem m_cases {m : Int} (h1 : 1 ≤ m) (h2 : m ≤ 12) : m = 1 ∨ m = 2 ∨ m = 3 ∨ m = 4 ∨ m = 5 ∨ m = 6 ∨ m = 7 ∨ m = 8 ∨ m = 9 ∨ m = 10 ∨ m = 11 ∨ m = 12 := by omega
theorem dim_hi {y m : Int} (h1 : 3 ≤ m) (h2 : m ≤ 12) : dim y m = lenM y (m - 3) := by
  rcases m_cases (by omega) h2 with rfl | rfl | rfl | rfl | rfl | rfl | rfl | rfl | rfl | rfl | rfl | rfl <;> first | omega | rfl
theorem dim_lo {y m : Int} (h1 : 1 ≤ m) (h2 : m ≤ 2) : dim y m = lenM (y - 1) (m + 9) := by
  have e : y - 1 + 1 = y := by omega
  rcases m_cases h1 (by omega) with rfl | rfl | rfl | rfl | rfl | rfl | rfl | rfl | rfl | rfl | rfl | rfl <;> first | omega | skip
  · unfold lenM dim; rw [e]; rfl
  · unfold lenM dim; rw [e]; rfl
theorem dim_out {y m : Int} (h : m < 1 ∨ 12 < m) : dim y m = 0 := by
  unfold dim
  rcases h with h | h
  · rw [if_pos h]
  · rw [if_neg (by omega), if_pos h]
def yl (x : Int) : Int := 365 + (if leapY (x + 1) = true then 1 else 0)
theorem mD_back {x k d : Int} (h0 : 0 ≤ k) (h1 : k ≤ 11) (hd : 1 ≤ d) (hl : d ≤ lenM x k) : 0 ≤ mD k d ∧ mD k d < yl x ∧ (5 * mD k d + 2) / 153 = k := by
  unfold mD yl
  unfold lenM at hl
  have : k = 0 ∨ k = 1 ∨ k = 2 ∨ k = 3 ∨ k = 4 ∨ k = 5 ∨ k = 6 ∨ k = 7 ∨ k = 8 ∨ k = 9 ∨ k = 10 ∨ k = 11 := by omega
  rcases this with rfl | rfl | rfl | rfl | rfl | rfl | rfl | rfl | rfl | rfl | rfl | rfl <;> (cases hL : leapY (x + 1)) <;> simp [mlenM, hL] at hl ⊢ <;> omega
theorem mD_any {x u : Int} (h0 : 0 ≤ u) (h1 : u < yl x) : 0 ≤ (5 * u + 2) / 153 ∧ (5 * u + 2) / 153 ≤ 11 ∧ 1 ≤ u - (153 * ((5 * u + 2) / 153) + 2) / 5 + 1 ∧ u - (153 * ((5 * u + 2) / 153) + 2) / 5 + 1 ≤ lenM x ((5 * u + 2) / 153) ∧ (306 ≤ u ↔ 10 ≤ (5 * u + 2) / 153) := by
  unfold yl at h1
  have hb : u < 366 := by cases hL : leapY (x + 1) <;> simp [hL] at h1 <;> omega
  obtain ⟨k, hk⟩ : ∃ k, k = (5 * u + 2) / 153 := ⟨_, rfl⟩
  rw [← hk]
  have : k = 0 ∨ k = 1 ∨ k = 2 ∨ k = 3 ∨ k = 4 ∨ k = 5 ∨ k = 6 ∨ k = 7 ∨ k = 8 ∨ k = 9 ∨ k = 10 ∨ k = 11 := by omega
  unfold lenM
  rcases this with rfl | rfl | rfl | rfl | rfl | rfl | rfl | rfl | rfl | rfl | rfl | rfl <;> (cases hL : leapY (x + 1)) <;> simp [mlenM, hL] at h1 ⊢ <;> omega
def gY (i : Int) : Int := i - i / 1460 + i / 36524 - i / 146096
theorem gY_mono1 {i : Int} (h0 : 0 ≤ i) (h1 : i < 146096) : gY i ≤ gY (i + 1) := by unfold gY; omega
theorem gY_mono : ∀ (n : Nat) (i : Int), 0 ≤ i → i + n ≤ 146096 → gY i ≤ gY (i + n)
  | 0, i, _, _ => by simp
  | n + 1, i, h0, h1 => by
    have a := gY_mono n i h0 (by omega)
    have b := gY_mono1 (i := i + n) (by omega) (by omega)
    have e : i + ((n + 1 : Nat) : Int) = i + n + 1 := by omega
    rw [e]; omega
def sY (f : Int) : Int := 365 * f + f / 4 - f / 100
theorem gY_ends : ∀ f : Nat, f < 400 → (f : Int) ≤ gY (sY f) / 365 ∧ gY ((if f = 399 then 146097 else sY (f + 1)) - 1) / 365 ≤ f ∧ 0 ≤ sY f ∧ (if f = 399 then 146097 else sY (f + 1)) ≤ 146097 := by decide +kernel
theorem gY_is {i f : Int} (h0 : 0 ≤ f) (h1 : f < 400) (h2 : sY f ≤ i) (h3 : i < if f = 399 then 146097 else sY (f + 1)) : gY i / 365 = f := by
  have h := gY_ends f.toNat (by omega)
  have e : ((f.toNat : Nat) : Int) = f := by omega
  have e2 : (if f.toNat = 399 then (146097 : Int) else sY (f + 1)) = if f = 399 then 146097 else sY (f + 1) := by
    by_cases hf : f = 399
    · rw [if_pos hf, if_pos (by omega)]
    · rw [if_neg hf, if_neg (by omega)]
  rw [e, e2] at h
  obtain ⟨a, b, c, d⟩ := h
  have m1 := gY_mono (i - sY f).toNat (sY f) c (by omega)
  have m2 := gY_mono ((if f = 399 then (146097 : Int) else sY (f + 1)) - 1 - i).toNat i (by omega) (by omega)
  rw [show sY f + ((i - sY f).toNat : Int) = i by omega] at m1
  rw [show i + (((if f = 399 then (146097 : Int) else sY (f + 1)) - 1 - i).toNat : Int) = (if f = 399 then 146097 else sY (f + 1)) - 1 by omega] at m2
  omega
theorem pY_era (e f : Int) (h0 : 0 ≤ f) (h1 : f < 400) : pY (400 * e + f) = 146097 * e + sY f := by unfold pY sY; omega
theorem pY_next (e f : Int) (h0 : 0 ≤ f) (h1 : f < 400) : pY (400 * e + f + 1) = 146097 * e + if f = 399 then 146097 else sY (f + 1) := by
  by_cases hf : f = 399
  · subst hf; rw [if_pos rfl]; unfold pY; omega
  · rw [if_neg hf]; unfold pY sY; omega
def yD (n : Int) : Int := 400 * (n / 146097) + gY (n % 146097) / 365
theorem yD_is {x n : Int} (h0 : pY x ≤ n) (h1 : n < pY (x + 1)) : yD n = x := by
  obtain ⟨e, he⟩ : ∃ e, e = x / 400 := ⟨_, rfl⟩
  obtain ⟨f, hf⟩ : ∃ f, f = x % 400 := ⟨_, rfl⟩
  have hx : x = 400 * e + f := by omega
  have f0 : 0 ≤ f := by omega
  have f1 : f < 400 := by omega
  have hb := gY_ends f.toNat (by omega)
  have e1 : ((f.toNat : Nat) : Int) = f := by omega
  have e2 : (if f.toNat = 399 then (146097 : Int) else sY (f + 1)) = if f = 399 then 146097 else sY (f + 1) := by
    by_cases hf : f = 399
    · rw [if_pos hf, if_pos (by omega)]
    · rw [if_neg hf, if_neg (by omega)]
  rw [e1, e2] at hb
  rw [hx, pY_era e f f0 f1] at h0
  rw [hx, pY_next e f f0 f1] at h1
  obtain ⟨_, _, c, d⟩ := hb
  have hd : n / 146097 = e := by omega
  have hm : n % 146097 = n - 146097 * e := by omega
  unfold yD
  rw [hd, hm, gY_is f0 f1 (by omega) (by omega)]
  omega
theorem pY_step (x : Int) : pY (x + 1) = pY x + yl x := by rw [pY_succ]; unfold yl; omega
theorem yl_pos (x : Int) : 365 ≤ yl x ∧ yl x ≤ 366 := by unfold yl; cases leapY (x + 1) <;> simp
theorem pY_le : ∀ (n : Nat) (x : Int), pY x ≤ pY (x + n)
  | 0, x => by simp
  | n + 1, x => by
    have a := pY_le n x
    have b := pY_step (x + n)
    have c := yl_pos (x + n)
    have e : x + ((n + 1 : Nat) : Int) = x + n + 1 := by omega
    rw [e]; omega
theorem pY_mono {x y : Int} (h : x ≤ y) : pY x ≤ pY y := by
  have := pY_le (y - x).toNat x
  rwa [show x + ((y - x).toNat : Int) = y by omega] at this
theorem pY_any (n : Int) : pY (yD n) ≤ n ∧ n < pY (yD n + 1) := by
  obtain ⟨e, he⟩ : ∃ e, e = n / 146097 := ⟨_, rfl⟩
  have key : ∀ m : Nat, m ≤ 400 → n < pY (400 * e + m) → ∃ x, pY x ≤ n ∧ n < pY (x + 1) := fun m => by
    induction m with
    | zero =>
      intro _ h
      have : pY (400 * e + ((0 : Nat) : Int)) = 146097 * e := by have := pY_era e 0 (by omega) (by omega); simpa [sY] using this
      omega
    | succ m ih =>
      intro hm h
      by_cases h2 : n < pY (400 * e + m)
      · exact ih (by omega) h2
      · exact ⟨400 * e + m, by omega, by rw [show 400 * e + (m : Int) + 1 = 400 * e + ((m + 1 : Nat) : Int) by omega]; exact h⟩
  obtain ⟨x, h0, h1⟩ := key 400 (by omega) (by
    have := pY_next e 399 (by omega) (by omega)
    rw [if_pos rfl] at this
    rw [show 400 * e + ((400 : Nat) : Int) = 400 * e + 399 + 1 by omega, this]; omega)
  rw [yD_is h0 h1]; exact ⟨h0, h1⟩
def dateD (n : Int) : Int × Int × Int :=
  let x := yD (n - 60); let u := n - 60 - pY x; let k := (5 * u + 2) / 153; let d := u - (153 * k + 2) / 5 + 1
  if 306 ≤ u then (x + 1, k - 9, d) else (x, k + 3, d)
theorem date_num (n : Int) : numD (dateD n).1 (dateD n).2.1 (dateD n).2.2 = n ∧ 1 ≤ (dateD n).2.1 ∧ (dateD n).2.1 ≤ 12 ∧ 1 ≤ (dateD n).2.2 ∧ (dateD n).2.2 ≤ dim (dateD n).1 (dateD n).2.1 := by
  obtain ⟨h0, h1⟩ := pY_any (n - 60)
  unfold dateD
  simp only
  obtain ⟨x, hx⟩ : ∃ x, x = yD (n - 60) := ⟨_, rfl⟩
  rw [← hx] at h0 h1 ⊢
  rw [pY_step] at h1
  obtain ⟨u, hu⟩ : ∃ u, u = n - 60 - pY x := ⟨_, rfl⟩
  rw [← hu]
  obtain ⟨a, b, c, d, e⟩ := mD_any (x := x) (u := u) (by omega) (by omega)
  obtain ⟨k, hk⟩ : ∃ k, k = (5 * u + 2) / 153 := ⟨_, rfl⟩
  rw [← hk] at a b c d e ⊢
  by_cases h : 306 ≤ u
  · rw [if_pos h]
    have hk10 := e.1 h
    simp only
    rw [dim_lo (y := x + 1) (m := k - 9) (by omega) (by omega), show x + 1 - 1 = x by omega, show k - 9 + 9 = k by omega]
    refine ⟨?_, by omega, by omega, c, d⟩
    unfold numD mD
    rw [if_pos (by omega), show x + 1 - 1 = x by omega, show k - 9 + 9 = k by omega]
    omega
  · rw [if_neg h]
    have hk10 : ¬ 10 ≤ k := fun h' => h (e.2 h')
    simp only
    rw [dim_hi (y := x) (m := k + 3) (by omega) (by omega), show k + 3 - 3 = k by omega]
    refine ⟨?_, by omega, by omega, c, d⟩
    unfold numD mD
    rw [if_neg (by omega), show k + 3 - 3 = k by omega]
    omega
theorem num_date {y m d : Int} (h1 : 1 ≤ m) (h2 : m ≤ 12) (h3 : 1 ≤ d) (h4 : d ≤ dim y m) : dateD (numD y m d) = (y, m, d) := by
  by_cases hm : m < 3
  · have hd := h4; rw [dim_lo h1 (by omega)] at hd
    obtain ⟨a, b, c⟩ := mD_back (x := y - 1) (k := m + 9) (by omega) (by omega) h3 hd
    have e : numD y m d - 60 = pY (y - 1) + mD (m + 9) d := by unfold numD; rw [if_pos hm]; omega
    have hy : yD (numD y m d - 60) = y - 1 := by rw [e]; refine yD_is (by omega) ?_; rw [pY_step]; omega
    unfold dateD
    simp only
    rw [hy, show numD y m d - 60 - pY (y - 1) = mD (m + 9) d by omega, c, if_pos (by unfold mD; omega)]
    have e1 : y - 1 + 1 = y := by omega
    have e2 : m + 9 - 9 = m := by omega
    have e3 : mD (m + 9) d - (153 * (m + 9) + 2) / 5 + 1 = d := by unfold mD; omega
    rw [e1, e2, e3]
  · have hd := h4; rw [dim_hi (by omega) h2] at hd
    obtain ⟨a, b, c⟩ := mD_back (x := y) (k := m - 3) (by omega) (by omega) h3 hd
    have e : numD y m d - 60 = pY y + mD (m - 3) d := by unfold numD; rw [if_neg hm]; omega
    have hy : yD (numD y m d - 60) = y := by rw [e]; refine yD_is (by omega) ?_; rw [pY_step]; omega
    have hu : ¬ 306 ≤ mD (m - 3) d := by
      have : mlenM.getD (m - 3).toNat 0 ≤ 31 := by
        have : m = 3 ∨ m = 4 ∨ m = 5 ∨ m = 6 ∨ m = 7 ∨ m = 8 ∨ m = 9 ∨ m = 10 ∨ m = 11 ∨ m = 12 := by omega
        rcases this with rfl | rfl | rfl | rfl | rfl | rfl | rfl | rfl | rfl | rfl <;> decide
      unfold lenM at hd
      rw [if_neg (by omega)] at hd
      unfold mD
      have : m = 3 ∨ m = 4 ∨ m = 5 ∨ m = 6 ∨ m = 7 ∨ m = 8 ∨ m = 9 ∨ m = 10 ∨ m = 11 ∨ m = 12 := by omega
      rcases this with rfl | rfl | rfl | rfl | rfl | rfl | rfl | rfl | rfl | rfl <;> simp [mlenM] at hd ⊢ <;> omega
    unfold dateD
    simp only
    rw [hy, show numD y m d - 60 - pY y = mD (m - 3) d by omega, c, if_neg hu]
    have e2 : m - 3 + 3 = m := by omega
    have e3 : mD (m - 3) d - (153 * (m - 3) + 2) / 5 + 1 = d := by unfold mD; omega
    rw [e2, e3]
theorem num_year {y m d : Int} (h1 : 1 ≤ m) (h2 : m ≤ 12) (h3 : 1 ≤ d) (h4 : d ≤ dim y m) : numD y 1 1 ≤ numD y m d ∧ numD y m d < numD (y + 1) 1 1 := by
  have e1 : numD y 1 1 = pY (y - 1) + 366 := by unfold numD mD; rw [if_pos (by omega)]; omega
  have e2 : numD (y + 1) 1 1 = pY y + 366 := by unfold numD mD; rw [if_pos (by omega), show y + 1 - 1 = y by omega]; omega
  have s := pY_step (y - 1)
  rw [show y - 1 + 1 = y by omega] at s
  have l := yl_pos (y - 1)
  rw [e1, e2]
  by_cases hm : m < 3
  · have hd := h4; rw [dim_lo h1 (by omega)] at hd
    obtain ⟨a, b, c⟩ := mD_back (x := y - 1) (k := m + 9) (by omega) (by omega) h3 hd
    have e : numD y m d = pY (y - 1) + mD (m + 9) d + 60 := by unfold numD; rw [if_pos hm]
    rw [e]
    have : 306 ≤ mD (m + 9) d := by unfold mD; omega
    omega
  · have hd := h4; rw [dim_hi (by omega) h2] at hd
    obtain ⟨a, b, c⟩ := mD_back (x := y) (k := m - 3) (by omega) (by omega) h3 hd
    have e : numD y m d = pY y + mD (m - 3) d + 60 := by unfold numD; rw [if_neg hm]
    have hu : mD (m - 3) d < 306 := by
      unfold lenM at hd
      rw [if_neg (by omega)] at hd
      unfold mD
      have : m = 3 ∨ m = 4 ∨ m = 5 ∨ m = 6 ∨ m = 7 ∨ m = 8 ∨ m = 9 ∨ m = 10 ∨ m = 11 ∨ m = 12 := by omega
      rcases this with rfl | rfl | rfl | rfl | rfl | rfl | rfl | rfl | rfl | rfl <;> simp [mlenM] at hd ⊢ <;> omega
    rw [e]
    have := yl_pos y
    omega
theorem numY_mono {x y : Int} (h : x ≤ y) : numD x 1 1 ≤ numD y 1 1 := by
  have a := pY_mono (x := x - 1) (y := y - 1) (by omega)
  unfold numD; rw [if_pos (by omega), if_pos (by omega)]; omega
theorem numD_0 : numD 0 1 1 = 0 := by decide
theorem numD_end : numD 10000 1 1 = 3652425 := by decide
theorem num_add (y m d : Int) : numD y m 1 + d - 1 = numD y m d := by unfold numD mD; split <;> omega
theorem date_year {n : Int} (h0 : 0 ≤ n) (h1 : n ≤ 3652424) : 0 ≤ (dateD n).1 ∧ (dateD n).1 ≤ 9999 := by
  obtain ⟨e, a, b, c, d⟩ := date_num n
  obtain ⟨l, u⟩ := num_year a b c d
  rw [e] at l u
  constructor
  · apply Classical.byContradiction; intro h
    have := numY_mono (x := (dateD n).1 + 1) (y := 0) (by omega)
    rw [numD_0] at this; omega
  · apply Classical.byContradiction; intro h
    have := numY_mono (x := 10000) (y := (dateD n).1) (by omega)
    rw [numD_end] at this; omega
theorem num_range {y m d : Int} (hy : 0 ≤ y) (hy2 : y ≤ 9999) (h1 : 1 ≤ m) (h2 : m ≤ 12) (h3 : 1 ≤ d) (h4 : d ≤ dim y m) : 0 ≤ numD y m d ∧ numD y m d ≤ 3652424 := by
  obtain ⟨l, u⟩ := num_year h1 h2 h3 h4
  have a := numY_mono (x := 0) (y := y) hy
  have b := numY_mono (x := y + 1) (y := 10000) (by omega)
  rw [numD_0] at a; rw [numD_end] at b
  omega
theorem td_ {a b : Int} (ha : 0 ≤ a) (hb : 0 ≤ b) : Int.tdiv a b = a / b := Int.tdiv_eq_ediv_of_nonneg ha
theorem tm_ {a b : Int} (ha : 0 ≤ a) : Int.tmod a b = a % b := Int.tmod_eq_emod_of_nonneg ha
theorem Mod_f {a b : Int} (ha : 0 ≤ a) (hb : 0 < b) : ints_Mod.f a b = some (a % b) := by
  unfold ints_Mod.f
  have h := Int.emod_nonneg a (show b ≠ 0 by omega)
  rw [if_neg (by omega), if_neg (by omega), tm_ ha, if_neg (by omega)]
theorem Mod_n {a b : Int} (h0 : a < 0) (h1 : -b < a) (h2 : b < 4611686018427387904) : ints_Mod.f a b = some (a % b) := by
  unfold ints_Mod.f
  have e : Int.tmod a b = a := by
    rw [show a = -(-a) by omega, Int.neg_tmod, tm_ (by omega), Int.emod_eq_of_lt (by omega) (by omega)]
  rw [if_neg (by omega), if_neg (by omega), e, if_pos h0, w64 (by omega) (by omega)]
  have : a % b = a + b := by
    rw [show a = (a + b) + b * (-1) by omega, Int.add_mul_emod_self_left, Int.emod_eq_of_lt (by omega) (by omega)]; omega
  rw [this]
theorem Floor_n {a b : Int} (h0 : a < 0) (h1 : -b < a) (h2 : b < 4611686018427387904) : ints_Floor.f a b = some (a / b) := by
  unfold ints_Floor.f
  have e : Int.tdiv (a + 1) b = 0 := by
    rw [show a + 1 = -(-(a + 1)) by omega, Int.neg_tdiv, td_ (by omega) (by omega), Int.ediv_eq_zero_of_lt (by omega) (by omega)]; rfl
  have : a / b = -1 := by
    rw [show a = (a + b) + b * (-1) by omega, Int.add_mul_ediv_left _ _ (by omega), Int.ediv_eq_zero_of_lt (by omega) (by omega)]; omega
  rw [if_neg (by omega), if_pos h0, if_neg (by omega), w64 (x := a + 1) (by omega) (by omega), e, this, w64 (x := 0) (by omega) (by omega), w64 (by omega) (by omega)]; rfl
theorem Floor_f {a b : Int} (ha : 0 ≤ a) (hb : 0 < b) (h2 : a < 4611686018427387904) : ints_Floor.f a b = some (a / b) := by
  unfold ints_Floor.f
  have h3 := Int.ediv_le_self b ha
  have h4 := Int.ediv_nonneg ha (show 0 ≤ b by omega)
  rw [if_neg (by omega), if_neg (by omega), if_neg (by omega), td_ ha (by omega), w64 (by omega) (by omega)]
theorem Leap_f {y : Int} (h : 0 ≤ y) : civil_Leap.f y = some (leapY y) := by
  unfold civil_Leap.f leapY
  rw [Mod_f h (by omega), Mod_f h (by omega), Mod_f h (by omega)]
  simp only [Option.bind_some]
  by_cases h1 : y % 400 = 0
  · rw [if_pos h1, decide_eq_true h1]; rfl
  · rw [if_neg h1, decide_eq_false h1]
    by_cases h2 : y % 4 = 0
    · rw [if_pos h2, decide_eq_true h2, Bool.false_or, Bool.true_and]
      by_cases h3 : y % 100 = 0
      · rw [decide_eq_true h3, h3]; rfl
      · rw [decide_eq_false h3]; simp [h3]
    · rw [if_neg h2, decide_eq_false h2]; rfl
theorem Days_f {y m : Int} (h : 0 ≤ y) : civil_Days.f y m = some (dim y m) := by
  unfold civil_Days.f dim
  by_cases h1 : m < 1
  · rw [if_pos h1, if_pos h1]
  · rw [if_neg h1, if_neg h1]
    by_cases h2 : m > 12
    · rw [if_pos h2, if_pos h2]
    · rw [if_neg h2, if_neg h2]
      by_cases h3 : m = 2
      · rw [if_pos h3, if_pos h3, Leap_f h]
        cases leapY y <;> rfl
      · rw [if_neg h3, if_neg h3]; rfl
theorem dim_pos {y m : Int} (h1 : 1 ≤ m) (h2 : m ≤ 12) : 28 ≤ dim y m ∧ dim y m ≤ 31 := by
  rcases m_cases h1 h2 with rfl | rfl | rfl | rfl | rfl | rfl | rfl | rfl | rfl | rfl | rfl | rfl <;> unfold dim mlen <;> cases leapY y <;> simp
theorem Number_f {y m : Int} (h0 : 0 ≤ y) (h9 : y ≤ 9999) (h1 : 1 ≤ m) (h2 : m ≤ 12) : civil_Number.f y m 1 = some (numD y m 1, true) := by
  have hv : civil_Valid.f y m 1 = some true := by
    unfold civil_Valid.f
    have := (dim_pos (y := y) h1 h2).1
    rw [if_pos (by omega), if_pos (by omega), if_pos (by omega), Days_f h0, Option.bind_some, decide_eq_true (by omega)]
  unfold civil_Number.f
  rw [hv, Option.bind_some, if_pos rfl]
  by_cases hm : m < 3
  · rw [if_pos hm, w64 (x := y - 1) (by omega) (by omega)]
    have e1 : ints_Floor.f (y - 1) 400 = some ((y - 1) / 400) := by
      by_cases hy : y - 1 < 0
      · exact Floor_n hy (by omega) (by omega)
      · exact Floor_f (by omega) (by omega) (by omega)
    have e2 : ints_Mod.f (y - 1) 400 = some ((y - 1) % 400) := by
      by_cases hy : y - 1 < 0
      · exact Mod_n hy (by omega) (by omega)
      · exact Mod_f (by omega) (by omega)
    rw [e1, e2]
    simp only [Option.bind_some]
    obtain ⟨e, he⟩ : ∃ e, e = (y - 1) / 400 := ⟨_, rfl⟩
    obtain ⟨f, hf⟩ : ∃ f, f = (y - 1) % 400 := ⟨_, rfl⟩
    rw [← he, ← hf]
    have b1 : -1 ≤ e ∧ e ≤ 24 ∧ 0 ≤ f ∧ f < 400 ∧ y - 1 = 400 * e + f := by omega
    clear he hf e1 e2 hv
    simp (disch := omega) only [td_, w64]
    unfold numD pY mD
    rw [if_pos hm, b1.2.2.2.2]
    refine congrArg some (Prod.ext_iff.2 ⟨?_, rfl⟩)
    simp only
    omega
  · rw [if_neg hm, Floor_f h0 (by omega) (by omega), Mod_f h0 (by omega)]
    simp only [Option.bind_some]
    obtain ⟨e, he⟩ : ∃ e, e = y / 400 := ⟨_, rfl⟩
    obtain ⟨f, hf⟩ : ∃ f, f = y % 400 := ⟨_, rfl⟩
    rw [← he, ← hf]
    have b1 : 0 ≤ e ∧ e ≤ 24 ∧ 0 ≤ f ∧ f < 400 ∧ y = 400 * e + f := by omega
    clear he hf hv
    simp (disch := omega) only [td_, w64]
    unfold numD pY mD
    rw [if_neg hm, b1.2.2.2.2]
    refine congrArg some (Prod.ext_iff.2 ⟨?_, rfl⟩)
    simp only
    omega
theorem dateD_eq (n : Int) : dateD n = if 306 ≤ n - 60 - pY (yD (n - 60)) then (yD (n - 60) + 1, (5 * (n - 60 - pY (yD (n - 60))) + 2) / 153 - 9, n - 60 - pY (yD (n - 60)) - (153 * ((5 * (n - 60 - pY (yD (n - 60))) + 2) / 153) + 2) / 5 + 1) else (yD (n - 60), (5 * (n - 60 - pY (yD (n - 60))) + 2) / 153 + 3, n - 60 - pY (yD (n - 60)) - (153 * ((5 * (n - 60 - pY (yD (n - 60))) + 2) / 153) + 2) / 5 + 1) := rfl
def dateV (n : Int) : Int × Int × Int := if n < 0 ∨ n > 3652424 then (0, 0, 0) else dateD n
theorem Date_in {n : Int} (h0 : 0 ≤ n) (h1 : n ≤ 3652424) (k : Nat) : civil_Date.j0 (k + 1) n false = some (dateD n) := by
  rw [civil_Date.j0, if_neg (by simp), w64 (x := n - 60) (by omega) (by omega)]
  have e1 : ints_Floor.f (n - 60) 146097 = some ((n - 60) / 146097) := by
    by_cases h : n - 60 < 0
    · exact Floor_n h (by omega) (by omega)
    · exact Floor_f (by omega) (by omega) (by omega)
  have e2 : ints_Mod.f (n - 60) 146097 = some ((n - 60) % 146097) := by
    by_cases h : n - 60 < 0
    · exact Mod_n h (by omega) (by omega)
    · exact Mod_f (by omega) (by omega)
  rw [e1, e2, Option.bind_some, Option.bind_some]
  have hp := pY_any (n - 60)
  obtain ⟨e, he⟩ : ∃ e, e = (n - 60) / 146097 := ⟨_, rfl⟩
  obtain ⟨i, hi⟩ : ∃ i, i = (n - 60) % 146097 := ⟨_, rfl⟩
  have hy : yD (n - 60) = 400 * e + gY i / 365 := by unfold yD; rw [← he, ← hi]
  rw [← he, ← hi]
  have i0 : 0 ≤ i := by omega
  have i1 : i < 146097 := by omega
  have en : n - 60 = 146097 * e + i := by omega
  have eb : -1 ≤ e ∧ e ≤ 24 := by omega
  have g0 : 0 ≤ gY i := by unfold gY; omega
  have g1 : gY i < 146097 := by unfold gY; omega
  obtain ⟨f, hf⟩ : ∃ f, f = gY i / 365 := ⟨_, rfl⟩
  have f0 : 0 ≤ f := by omega
  have f1 : f < 400 := by
    rw [hy] at hp
    apply Classical.byContradiction; intro hc
    have := pY_mono (x := 400 * e + 400) (y := 400 * e + gY i / 365) (by omega)
    have h4 := pY_era (e + 1) 0 (by omega) (by omega)
    rw [show 400 * (e + 1) + 0 = 400 * e + 400 by omega] at h4
    unfold sY at h4
    omega
  have hx : yD (n - 60) = 400 * e + f := by rw [hy, hf]
  have hP := pY_era e f f0 f1
  rw [dateD_eq, hx, hP]
  rw [hx, hP, pY_step] at hp
  have hl := yl_pos (400 * e + f)
  have s1 : wrap64 (i - wrap64 (Int.tdiv i 1460)) = i - i / 1460 := by simp (disch := omega) only [td_, w64]
  have s2 : wrap64 (wrap64 (i - i / 1460) + wrap64 (Int.tdiv i 36524)) = i - i / 1460 + i / 36524 := by simp (disch := omega) only [td_, w64]
  have s3 : wrap64 (wrap64 (i - i / 1460 + i / 36524) - wrap64 (Int.tdiv i 146096)) = gY i := by unfold gY; simp (disch := omega) only [td_, w64]
  have s4 : wrap64 (Int.tdiv (gY i) 365) = f := by rw [td_ g0 (by omega), ← hf]; exact w64 (by omega) (by omega)
  have s1' : wrap64 (i - i / 1460) = i - i / 1460 := w64 (by omega) (by omega)
  have s2' : wrap64 (i - i / 1460 + i / 36524) = i - i / 1460 + i / 36524 := w64 (by omega) (by omega)
  rw [s1'] at s2
  rw [s2'] at s3
  have s5 : wrap64 (wrap64 (wrap64 (f * 365) + wrap64 (Int.tdiv f 4)) - wrap64 (Int.tdiv f 100)) = sY f := by
    unfold sY
    have : f * 365 = 365 * f := by omega
    rw [this]
    simp (disch := omega) only [td_, w64]
  obtain ⟨u, hu⟩ : ∃ u, u = i - sY f := ⟨_, rfl⟩
  have u0 : 0 ≤ u := by omega
  have u1 : u < 366 := by omega
  have s6 : wrap64 (i - sY f) = u := by rw [← hu]; exact w64 (by omega) (by omega)
  have hu2 : n - 60 - (146097 * e + sY f) = u := by omega
  simp only [s1, s2, s3, s4, s5, s6]
  rw [hu2]
  clear s1 s2 s3 s4 s5 s6 s1' s2' hp hP hx hy e1 e2 he hi en hf g0 g1 hu hu2 i0 i1
  have k1 : wrap64 (wrap64 (5 * u) + 2) = 5 * u + 2 := by simp (disch := omega) only [w64]
  rw [k1]
  obtain ⟨q, hq⟩ : ∃ q, q = (5 * u + 2) / 153 := ⟨_, rfl⟩
  have q0 : 0 ≤ q ∧ q ≤ 12 := by omega
  have k2 : wrap64 (Int.tdiv (5 * u + 2) 153) = q := by rw [td_ (by omega) (by omega), ← hq]; exact w64 (by omega) (by omega)
  rw [k2, ← hq]
  have k3 : wrap64 (Int.tdiv (wrap64 (wrap64 (153 * q) + 2)) 5) = (153 * q + 2) / 5 := by simp (disch := omega) only [td_, w64]
  rw [k3]
  have k4 : wrap64 (wrap64 (u - (153 * q + 2) / 5) + 1) = u - (153 * q + 2) / 5 + 1 := by simp (disch := omega) only [w64]
  have k5 : wrap64 (wrap64 (wrap64 (e * 400) + f) + 1) = 400 * e + f + 1 := by
    have : e * 400 = 400 * e := by omega
    rw [this]; simp (disch := omega) only [w64]
  have k6 : wrap64 (wrap64 (e * 400) + f) = 400 * e + f := by
    have : e * 400 = 400 * e := by omega
    rw [this]; simp (disch := omega) only [w64]
  have k7 : wrap64 (q - 9) = q - 9 := w64 (by omega) (by omega)
  have k8 : wrap64 (q + 3) = q + 3 := w64 (by omega) (by omega)
  rw [k4, k5, k6, k7, k8]
  by_cases h : 306 ≤ u
  · rw [if_pos (by omega), if_pos h]
  · rw [if_neg (by omega), if_neg h]
theorem Date_f (n : Int) : Ev (fun k => civil_Date.f k n) (dateV n) := by
  unfold civil_Date.f dateV
  by_cases h0 : n < 0
  · rw [if_pos (.inl h0)]
    refine Ev.ift h0 (Ev.step (f := fun _ => some (0, 0, 0)) (fun k => by rw [civil_Date.j0, if_pos rfl]) (Ev.now _))
  · refine Ev.iff_ h0 ?_
    by_cases h1 : n > 3652424
    · rw [if_pos (.inr h1), decide_eq_true h1]
      exact Ev.step (f := fun _ => some (0, 0, 0)) (fun k => by rw [civil_Date.j0, if_pos rfl]) (Ev.now _)
    · rw [if_neg (by omega), decide_eq_false h1]
      exact Ev.step (f := fun _ => some (dateD n)) (fun k => Date_in (by omega) (by omega) k) (Ev.now _)
theorem First3 {y : Int} (h0 : 0 ≤ y) (h9 : y ≤ 9999) : unit_First.f 3 y = some (numD y 1 1, true) := by
  unfold unit_First.f
  rw [if_pos (.inr (.inr (.inr (.inl rfl)))), if_neg (by omega), if_neg (show ¬ kcount (3 : Int).toNat ≤ y by rw [show kcount (3 : Int).toNat = 10000 from rfl]; omega)]
  show (unit_begins.f 3 y).bind _ = _
  have e : unit_begins.f 3 y = some (numD y 1 1) := by
    show unit_span_begins.f 12 0 10000 y = _
    unfold unit_span_begins.f
    rw [w64 (x := 12 * y) (by omega) (by omega), w64 (x := 0 + 12 * y) (by omega) (by omega), td_ (by omega) (by omega), tm_ (by omega),
      show (0 + 12 * y) / 12 = y by omega, show (0 + 12 * y) % 12 + 1 = 1 by omega, w64 (x := y) (by omega) (by omega), w64 (x := 1) (by omega) (by omega), Number_f h0 h9 (by omega) (by omega)]
    rfl
  rw [e]; rfl
theorem Last3 {y : Int} (h0 : 0 ≤ y) (h9 : y ≤ 9999) : unit_Last.f 3 y = some (numD (y + 1) 1 1 - 1, true) := by
  unfold unit_Last.f
  rw [if_pos (.inr (.inr (.inr (.inl rfl)))), if_neg (by omega), if_neg (show ¬ kcount (3 : Int).toNat ≤ y by rw [show kcount (3 : Int).toNat = 10000 from rfl]; omega), show wrap64 (kcount (3 : Int).toNat - 1) = 9999 from w64 (x := 10000 - 1) (by omega) (by omega)]
  by_cases h : y = 9999
  · rw [if_pos h, h, show (9999 : Int) + 1 = 10000 by omega, numD_end]; rfl
  · rw [if_neg h, w64 (x := y + 1) (by omega) (by omega)]
    show (unit_begins.f 3 (y + 1)).bind _ = _
    have e : unit_begins.f 3 (y + 1) = some (numD (y + 1) 1 1) := by
      show unit_span_begins.f 12 0 10000 (y + 1) = _
      unfold unit_span_begins.f
      rw [w64 (x := 12 * (y + 1)) (by omega) (by omega), w64 (x := 0 + 12 * (y + 1)) (by omega) (by omega), td_ (by omega) (by omega), tm_ (by omega),
        show (0 + 12 * (y + 1)) / 12 = y + 1 by omega, show (0 + 12 * (y + 1)) % 12 + 1 = 1 by omega, w64 (x := y + 1) (by omega) (by omega), w64 (x := 1) (by omega) (by omega), Number_f (by omega) (by omega) (by omega) (by omega)]
      rfl
    rw [e]
    have r := num_range (y := y + 1) (m := 1) (d := 1) (by omega) (by omega) (by omega) (by omega) (by omega) (by have := (dim_pos (y := y + 1) (m := 1) (by omega) (by omega)).1; omega)
    show some (wrap64 (numD (y + 1) 1 1 - 1), true) = _
    rw [w64 (by omega) (by omega)]
theorem at_rdi (p : List Int) (r : Int) (t : List Int) : rd (p ++ r :: t) (p.length : Int) = r := by simp [rd]
theorem Make_f {l : List S42} (hr : risingLo l = true) (hn : l.length < 4398046511104) : Ev (fun _ => runs_Make.f l) (norm l) := ⟨0, fun _ _ => by unfold runs_Make.f; rw [if_pos ⟨hr, hn⟩]⟩
theorem known_f {l : List S42} (hs : sane l) (hn : l.length < 4398046511104) : Ev (fun k => runs_known.f k l) (norm l) := by
  obtain ⟨b, hb, hs2⟩ := Sane_f l (by omega)
  rw [hs2.2 hs] at hb
  rw [norm_of_sane hs]
  exact Ev.bind hb (Ev.ift rfl (Ev.now _))
theorem sknown_f {l : List S42} (hs : sane l) (hn : l.length < 4398046511104) : Ev (fun k => sets_known.f k l) (norm l) := by
  rw [norm_of_sane hs]; exact sknown_s hs hn
theorem sane_pair : ∀ {l : List S42} {a : Int}, saneF a l → l.Pairwise (fun a b => a.f0 ≤ b.f0)
  | [], _, _ => List.Pairwise.nil
  | r :: t, a, h => List.pairwise_cons.2 ⟨fun x hx => by
      have h2 := h.2.1
      have h4 : ∀ {b : Int} {l : List S42}, saneF b l → ∀ q, q ∈ l → b + 2 ≤ q.f0 := by
        intro b l
        induction l generalizing b with
        | nil => intro _ q hq; cases hq
        | cons y u ih =>
          intro hy q hq
          rcases List.mem_cons.1 hq with rfl | hq
          · exact hy.1
          · have := ih hy.2.2.2 q hq; have := hy.1; have := hy.2.1; omega
      have := h4 h.2.2.2 x hx
      omega, sane_pair h.2.2.2⟩
theorem ins_len : ∀ (s : List S42) (x : S42), (ins x s).length ≤ s.length + 1
  | [], x => by unfold ins; simp
  | q :: t, x => by
    unfold ins
    split
    · have := ins_len t x; simp; omega
    · split
      · simp
      · have := ins_len t ⟨min x.f0 q.f0, max x.f1 q.f1⟩; simp; omega
theorem fold_len : ∀ (l s : List S42), (l.foldl step s).length ≤ s.length + l.length
  | [], s => by simp
  | r :: l, s => by
    have h1 := fold_len l (step s r)
    have h2 : (step s r).length ≤ s.length + 1 := by unfold step; split; exact ins_len _ _; omega
    simp; omega
theorem norm_len (l : List S42) : (norm l).length ≤ l.length := by have := fold_len l []; simpa [norm] using this
theorem Count_l0 : ∀ (t p : List S42) (a b : Int), (p ++ t).length ≤ 4611686018427387904 → saneF b t → -lim - 2 ≤ b → b ≤ lim → 0 ≤ a → a ≤ b + lim + 2 →
    Ev (fun k => runs_Count.l0 k a (p ++ t) ((p ++ t).length : Int) (p.length : Int)) (a + cnt t)
  | [], p, a, b, _, _, _, _, _, _ => Ev.step (f := fun _ => some (a + cnt [])) (fun k => by simp only [runs_Count.l0]; rw [if_neg (at_end p)]; simp [cnt]) (Ev.now _)
  | r :: t, p, a, b, hn, ⟨s1, s2, s3, s4⟩, h1, h2, h3, h4 => by
    have ih := Count_l0 t (p ++ [r]) (a + (r.f1 - r.f0 + 1)) r.f1 (by rw [← at_app]; exact hn) s4 (by omega) s3 (by omega) (by omega)
    rw [← at_app] at ih
    refine Ev.step (fun k => ?_) (show Ev _ (a + cnt (r :: t)) by rw [show a + cnt (r :: t) = a + (r.f1 - r.f0 + 1) + cnt t by show a + (_ + _) = _; omega]; exact ih)
    unfold lim at h1 h2 s3 h4
    simp only [runs_Count.l0]
    rw [if_pos (at_lt p r t), if_pos (at_0 p), if_pos (at_lt p r t), at_rd, at_next hn, w64 (x := r.f1 - r.f0) (by omega) (by omega), w64 (x := r.f1 - r.f0 + 1) (by omega) (by omega), w64 (by omega) (by omega)]
theorem Count_f {l : List S42} (hsl : sane l) (hn : l.length < 4398046511104) : Ev (fun k => runs_Count.f k l) (cnt (norm l)) := by
  have h := Count_l0 (norm l) [] 0 (-lim - 2) (by have := norm_len l; simp; omega) (norm_sane l) (Int.le_refl _) (by unfold lim; omega) (Int.le_refl _) (by unfold lim; omega)
  rw [Int.zero_add] at h
  exact Ev.bind (known_f hsl hn) h
def single (n : Int) : S42 := ⟨n, n⟩
theorem Of_l0 : ∀ (t p : List Int) (acc : List S42), (p ++ t).length ≤ 4398046511103 → acc.length + t.length < 4398046511104 → risingLo (acc ++ t.map single) = true →
    Ev (fun k => runs_Of.l0 k acc (p ++ t) ((p ++ t).length : Int) (p.length : Int)) (norm (acc ++ t.map single))
  | [], p, acc, hn, ha, hr => by
    refine Ev.step (f := fun _ => (runs_Make.f acc).bind fun t => some t) (fun k => by simp only [runs_Of.l0]; rw [if_neg (at_end p)]) (Ev.bind (Make_f (by simpa using hr) (by simpa using ha)) ?_)
    simp
    exact Ev.now _
  | r :: t, p, acc, hn, ha, hr => by
    have ih := Of_l0 t (p ++ [r]) (acc ++ [single r]) (by rw [← at_app]; exact hn) (by simp at ha ⊢; omega) (by rw [show (acc ++ [single r]) ++ t.map single = acc ++ (r :: t).map single by simp]; exact hr)
    rw [← at_app] at ih
    refine Ev.step (fun k => ?_) (show Ev _ (norm (acc ++ (r :: t).map single)) by rw [show acc ++ (r :: t).map single = (acc ++ [single r]) ++ t.map single by simp]; exact ih)
    simp only [runs_Of.l0]
    rw [if_pos (at_lt p r t), if_pos (at_0 p), if_pos (at_lt p r t), if_pos (by omega), at_rdi, at_next (show (p ++ r :: t).length ≤ _ by omega)]
    rfl
theorem Of_f (l : List Int) (hr : l.Pairwise (· ≤ ·)) (hn : l.length < 4398046511104) : Ev (fun k => runs_Of.f k l) (norm (l.map single)) := by
  exact Of_l0 l [] [] (by simp; omega) (by simpa using hn) (pair_rising (List.Pairwise.map single (fun a b h => h) hr))
theorem saneF_all : ∀ {a : Int} {l : List S42}, saneF a l → ∀ q, q ∈ l → a + 2 ≤ q.f0 ∧ q.f0 ≤ q.f1 ∧ q.f1 ≤ lim
  | _, [], _, q, h => by simp at h
  | a, r :: t, ⟨h1, h2, h3, h4⟩, q, hq => by
    rcases List.mem_cons.1 hq with rfl | hq
    · exact ⟨h1, h2, h3⟩
    · have := saneF_all h4 q hq; omega
def IsSet (m : List S42) (p : Int → Prop) : Prop := sane m ∧ ∀ n, mem m n ↔ -lim ≤ n ∧ n ≤ lim ∧ p n
theorem IsSet.eq {m m' : List S42} {p q : Int → Prop} (h : IsSet m p) (h' : IsSet m' q) (e : ∀ n, -lim ≤ n → n ≤ lim → (p n ↔ q n)) : m = m' :=
  same h.1 h'.1 fun n => by
    rw [h.2, h'.2]
    exact ⟨fun ⟨a, b, c⟩ => ⟨a, b, (e n a b).1 c⟩, fun ⟨a, b, c⟩ => ⟨a, b, (e n a b).2 c⟩⟩
theorem IsSet.congr {m : List S42} {p q : Int → Prop} (h : IsSet m p) (e : ∀ n, -lim ≤ n → n ≤ lim → (p n ↔ q n)) : IsSet m q :=
  ⟨h.1, fun n => by rw [h.2]; exact ⟨fun ⟨a, b, c⟩ => ⟨a, b, (e n a b).1 c⟩, fun ⟨a, b, c⟩ => ⟨a, b, (e n a b).2 c⟩⟩⟩
theorem isSet_norm (l : List S42) : IsSet (norm l) (mem l) := ⟨norm_sane l, norm_mem l⟩
theorem isSet_self {m : List S42} (h : sane m) : IsSet m (mem m) := ⟨h, fun n => ⟨fun hn => ⟨(sane_mem h hn).1, (sane_mem h hn).2, hn⟩, fun hn => hn.2.2⟩⟩
theorem Meet_f {a b : List S42} (hsa : sane a) (hsb : sane b) (h : a.length + b.length < 4398046511104) : ∃ m, Ev (fun k => sets_Meet.f k a b) m ∧ IsSet m (fun n => mem a n ∧ mem b n) ∧ m.length ≤ a.length + b.length := by
  have h1 := norm_len a
  have h2 := norm_len b
  refine ⟨meet2 (norm a) (norm b), Ev.bind (sknown_f hsa (by omega)) (Ev.bind (sknown_f hsb (by omega)) ?_), ⟨?_, fun n => ?_⟩, ?_⟩
  · have := Meet_l0 _ (norm a) (norm b) [] [] [] rfl (by simp; omega) (by simp; omega) (by simp; omega)
    simpa using this
  · have := meet2_sane _ (norm a) (norm b) _ _ rfl (norm_sane a) (norm_sane b)
    rw [Int.max_self] at this
    exact this
  · rw [meet2_mem _ (norm a) (norm b) _ _ rfl (norm_sane a) (norm_sane b), norm_mem, norm_mem]
    exact ⟨fun ⟨⟨u, v, x⟩, _, _, y⟩ => ⟨u, v, x, y⟩, fun ⟨u, v, x, y⟩ => ⟨⟨u, v, x⟩, u, v, y⟩⟩
  · have := meet2_len _ (norm a) (norm b) rfl
    omega
def shifted (lo hi : Int) (r : S42) : S42 := ⟨r.f0 + lo, r.f1 + hi⟩
theorem mem_grow {l : List S42} (hs : ∀ r, r ∈ l → r.f0 ≤ r.f1) (k n : Int) (hk : 0 ≤ k) : mem (l.map (shifted (-k) k)) n ↔ ∃ x, mem l x ∧ x - k ≤ n ∧ n ≤ x + k := by
  constructor
  · rintro ⟨r, hr, h1, h2⟩
    obtain ⟨q, hq, rfl⟩ := List.mem_map.1 hr
    simp only [shifted] at h1 h2
    have := hs q hq
    exact ⟨max q.f0 (min q.f1 n), ⟨q, hq, by omega, by omega⟩, by omega, by omega⟩
  · rintro ⟨x, ⟨q, hq, h1, h2⟩, h3, h4⟩
    exact ⟨_, List.mem_map.2 ⟨q, hq, rfl⟩, by simp only [shifted]; omega, by simp only [shifted]; omega⟩
theorem norm_runs (l : List S42) : ∀ r, r ∈ norm l → r.f0 ≤ r.f1 := fun r hr => (saneF_all (norm_sane l) r hr).2.1
def near (k : Int) : Int := max 0 (min k 2199023255552)
theorem grown (l : List S42) (k : Int) : IsSet (norm ((norm l).map (shifted (-(near k)) (near k)))) (fun n => ∃ x, mem (norm l) x ∧ x - near k ≤ n ∧ n ≤ x + near k) :=
  (isSet_norm _).congr fun n _ _ => mem_grow (norm_runs l) _ _ (by unfold near; omega)
theorem Clip_f {l : List S42} (hsl : sane l) (lo hi : Int) (b1 : -lim ≤ lo) (b2 : lo ≤ hi) (b3 : hi ≤ lim) (hn : l.length < 4398046511100) : ∃ m, Ev (fun i => sets_Clip.f i l lo hi) m ∧ IsSet m (fun n => mem l n ∧ lo ≤ n ∧ n ≤ hi) ∧ m.length ≤ l.length + 1 := by
  obtain ⟨m, h1, h2, h3⟩ := Meet_f hsl (b := [⟨lo, hi⟩]) ⟨by show -lim - 2 + 2 ≤ lo; omega, b2, b3, trivial⟩ (by simp; omega)
  refine ⟨m, Ev.bind h1 (Ev.now _), h2.congr fun n _ _ => ?_, by simpa using h3⟩
  rw [mem_one]
theorem Wide_f {l : List S42} (hsl : sane l) (hn : l.length < 4398046511104) : Ev (fun i => sets_Wide.f i l) (decide (((norm l).length : Int) > 400)) := Ev.bind (sknown_f hsl hn) (Ev.now _)
def asc (l : List Int) : Prop := l.Pairwise (· < ·)
theorem asc_ext : ∀ {l m : List Int}, asc l → asc m → (∀ x, x ∈ l ↔ x ∈ m) → l = m
  | [], [], _, _, _ => rfl
  | [], y :: m, _, _, h => absurd ((h y).2 List.mem_cons_self) (List.not_mem_nil)
  | x :: l, [], _, _, h => absurd ((h x).1 List.mem_cons_self) (List.not_mem_nil)
  | x :: l, y :: m, hl, hm, h => by
    have hl' := List.pairwise_cons.1 hl
    have hm' := List.pairwise_cons.1 hm
    have hxy : x = y := by
      rcases List.mem_cons.1 ((h x).1 List.mem_cons_self) with e | h1
      · exact e
      · rcases List.mem_cons.1 ((h y).2 List.mem_cons_self) with e | h2
        · exact e.symm
        · have := hm'.1 x h1; have := hl'.1 y h2; omega
    subst hxy
    rw [asc_ext (l := l) (m := m) hl'.2 hm'.2 fun z => ?_]
    constructor
    · intro hz
      rcases List.mem_cons.1 ((h z).1 (List.mem_cons_of_mem _ hz)) with e | h1
      · have := hl'.1 z hz; omega
      · exact h1
    · intro hz
      rcases List.mem_cons.1 ((h z).2 (List.mem_cons_of_mem _ hz)) with e | h1
      · have := hm'.1 z hz; omega
      · exact h1
theorem asc_upto : ∀ (n : Nat) (lo : Int), asc (upto lo n)
  | 0, _ => List.Pairwise.nil
  | n + 1, lo => List.pairwise_cons.2 ⟨fun x hx => by have := (upto_mem _ _ _).1 hx; omega, asc_upto n (lo + 1)⟩
theorem nums_mem (s : List S42) (n : Int) : n ∈ s.flatMap numsR ↔ mem s n := by
  rw [List.mem_flatMap]
  constructor
  · rintro ⟨r, hr, hn⟩
    have := (upto_mem _ _ _).1 hn
    exact ⟨r, hr, by omega, by omega⟩
  · rintro ⟨r, hr, h1, h2⟩
    exact ⟨r, hr, (upto_mem _ _ _).2 ⟨h1, by omega⟩⟩
theorem asc_nums : ∀ {s : List S42} {a : Int}, saneF a s → asc (s.flatMap numsR)
  | [], _, _ => List.Pairwise.nil
  | r :: t, a, h => by
    rw [List.flatMap_cons]
    refine List.pairwise_append.2 ⟨asc_upto _ _, asc_nums h.2.2.2, fun x hx y hy => ?_⟩
    have h1 := (upto_mem _ _ _).1 hx
    have h2 := saneF_mem h.2.2.2 ((nums_mem t y).1 hy)
    omega
def numV (l : List UInt8) (m : Nat) : List Int := (upto 1 m).filter fun n => refV l n
theorem numV_mem (l : List UInt8) (m : Nat) (n : Int) : n ∈ numV l m ↔ 1 ≤ n ∧ n ≤ m ∧ refV l n = true := by
  unfold numV
  rw [List.mem_filter, upto_mem]
  constructor
  · rintro ⟨h, h2⟩; exact ⟨h.1, by omega, h2⟩
  · rintro ⟨h, h1, h2⟩; exact ⟨⟨h, by omega⟩, h2⟩
theorem numV_asc (l : List UInt8) (m : Nat) : asc (numV l m) := List.Pairwise.filter _ (asc_upto m 1)
theorem numV_len (l : List UInt8) (m : Nat) : (numV l m).length ≤ m := by
  have := List.length_filter_le (fun n => refV l n) (upto 1 m)
  rw [upto_len] at this; exact this
theorem numV_full (l : List UInt8) (m : Nat) : (numV l m).length = m ↔ ∀ n : Int, 1 ≤ n → n ≤ m → refV l n = true := by
  have h := List.length_filter_eq_length_iff (p := fun n => refV l n) (l := upto 1 m)
  rw [upto_len] at h
  unfold numV
  rw [h]
  constructor
  · intro h n h1 h2; exact h n ((upto_mem _ _ _).2 ⟨h1, by omega⟩)
  · intro h n hn
    have := (upto_mem _ _ _).1 hn
    exact h n this.1 (by omega)
theorem numbers_is (s : ByteArray) (m : Nat) (hm : 1 ≤ m ∧ m ≤ 31) : Ev (fun k => point_numbers.f k s (m : Int)) (numV s.data.toList m) := by
  obtain ⟨h1, h2, h3⟩ := setV_is s
  have hb : sane [(⟨1, (m : Int)⟩ : S42)] := ⟨by show -lim - 2 + 2 ≤ (1 : Int); unfold lim; omega, by show (1 : Int) ≤ (m : Int); omega, by show (m : Int) ≤ lim; unfold lim; omega, trivial⟩
  obtain ⟨e1, e2, e3, e4⟩ := Meet_s h1 hb (by simp; omega)
  have hin : ∀ r, r ∈ meet2 (setV s) [(⟨1, (m : Int)⟩ : S42)] → 1 ≤ r.f0 ∧ r.f1 ≤ (m : Int) := fun r hr => by
    obtain ⟨_, hle, _⟩ := saneF_all e3 r hr
    have ha := (e2 r.f0).1 ⟨r, hr, Int.le_refl _, hle⟩
    have hc := (e2 r.f1).1 ⟨r, hr, hle, Int.le_refl _⟩
    have ha := (mem_one _ _).1 ha.2
    have hc := (mem_one _ _).1 hc.2
    simp only at ha hc
    exact ⟨ha.1, hc.2⟩
  have e : (meet2 (setV s) [(⟨1, (m : Int)⟩ : S42)]).flatMap numsR = numV s.data.toList m := asc_ext (asc_nums e3) (numV_asc _ _) fun n => by
    rw [nums_mem, e2, numV_mem, h3, mem_one]
    simp only
    constructor
    · rintro ⟨a, b, c⟩; exact ⟨b, c, a⟩
    · rintro ⟨a, b, c⟩; exact ⟨c, a, b⟩
  rw [← e]
  refine Ev.bnow (x := setV s) rfl ?_
  refine Ev.bind (Ev.bind e1 (Ev.now _)) ?_
  have := nums_l0 (meet2 (setV s) [(⟨1, (m : Int)⟩ : S42)]) [] [] (fun r hr => ⟨(hin r hr).1, by have := (hin r hr).2; omega⟩) (by simp at e4 ⊢; omega) (by simp at e4 ⊢; omega)
  simpa using this
def unitOf (per y n : Int) : S42 := ⟨y * per + n - 1, y * per + n - 1⟩
def yearsU (per : Int) (ins : List Int) (r : S42) : List S42 := (numsR r).flatMap fun y => ins.map (unitOf per y)
def partsL (per : Int) (ins : List Int) (t : List S42) : List S42 := t.flatMap fun r => if (ins.length : Int) = per then [⟨r.f0 * per, r.f1 * per + per - 1⟩] else yearsU per ins r
theorem parts_l2 (per : Int) (ins : List Int) (s : List S42) (len i lo hi y : Int) (hper : 1 ≤ per ∧ per ≤ 12) (hy : 0 ≤ y ∧ y ≤ 9999) {R : List S42} : ∀ (u q : List Int) (acc : List S42), (∀ n, n ∈ u → 1 ≤ n ∧ n ≤ 31) → (q ++ u).length ≤ 4611686018427387904 → acc.length + u.length < 8796093022208 →
    Ev (fun k => point_parts.l1 k per (acc ++ u.map (unitOf per y)) ins (wrap64 (y + 1)) s len i lo hi) R → Ev (fun k => point_parts.l2 k per acc ins y s len i (q ++ u) ((q ++ u).length : Int) (q.length : Int) lo hi) R
  | [], q, acc, _, _, _, h => by
    refine Ev.step (f := fun k => point_parts.l1 k per acc ins (wrap64 (y + 1)) s len i lo hi) (fun k => by rw [point_parts.l2, if_neg (at_end q)]) ?_
    simpa using h
  | n :: u, q, acc, hu, hq, hl, h => by
    have hn := hu n List.mem_cons_self
    rw [List.length_cons] at hl
    have b1 : 0 ≤ y * per := Int.mul_nonneg hy.1 (by omega)
    have b2 : y * per ≤ 9999 * 12 := Int.mul_le_mul hy.2 hper.2 (by omega) (by omega)
    have e : wrap64 (wrap64 (wrap64 (y * per) + n) - 1) = y * per + n - 1 := by simp (disch := omega) only [w64]
    refine Ev.step (f := fun k => point_parts.l2 k per (acc ++ [unitOf per y n]) ins y s len i (q ++ n :: u) ((q ++ n :: u).length : Int) ((q ++ [n]).length : Int) lo hi) (fun k => by
      rw [point_parts.l2, if_pos (at_lt q n u), if_pos (at_0 q), if_pos (at_lt q n u), if_pos (by omega), at_rdi, e, at_next hq]; rfl) ?_
    have := parts_l2 per ins s len i lo hi y hper hy u (q ++ [n]) (acc ++ [unitOf per y n]) (fun m hm => hu m (List.mem_cons_of_mem _ hm)) (by rw [← at_app]; exact hq) (by rw [List.length_append, List.length_singleton]; omega) (R := R) (by
      rw [List.append_assoc, List.singleton_append]; exact h)
    rw [← at_app] at this
    exact this
theorem parts_l1 (per : Int) (ins : List Int) (s : List S42) (i lo hi : Int) (hper : 1 ≤ per ∧ per ≤ 12) (hi9 : hi ≤ 9999) (hin : ∀ n, n ∈ ins → 1 ≤ n ∧ n ≤ 31) (hil : ins.length ≤ 31) {R : List S42} : ∀ (m : Nat) (y : Int) (acc : List S42), 0 ≤ y → y + m = hi + 1 ∨ (m = 0 ∧ hi < y) → acc.length + m * 31 < 8796093022208 →
    Ev (fun k => point_parts.l0 k per (acc ++ (upto y m).flatMap fun y => ins.map (unitOf per y)) ins s (s.length : Int) (wrap64 (i + 1))) R → Ev (fun k => point_parts.l1 k per acc ins y s (s.length : Int) i lo hi) R
  | 0, y, acc, h0, hy, hl, h => by
    refine Ev.step (f := fun k => point_parts.l0 k per acc ins s (s.length : Int) (wrap64 (i + 1))) (fun k => by rw [point_parts.l1, if_neg (by omega)]) ?_
    simpa [upto] using h
  | m + 1, y, acc, h0, hy, hl, h => by
    refine Ev.step (f := fun k => point_parts.l2 k per acc ins y s (s.length : Int) i ins (ins.length : Int) 0 lo hi) (fun k => by rw [point_parts.l1, if_pos (by omega)]) ?_
    have hl2 : (acc ++ ins.map (unitOf per y)).length + m * 31 < 8796093022208 := by rw [List.length_append, List.length_map]; omega
    refine parts_l2 per ins s (s.length : Int) i lo hi y hper (by omega) ins [] acc hin (by simp; omega) (by omega) ?_
    rw [w64 (x := y + 1) (by omega) (by omega)]
    refine parts_l1 per ins s i lo hi hper hi9 hin hil m (y + 1) (acc ++ ins.map (unitOf per y)) (by omega) (by omega) hl2 ?_
    rw [List.append_assoc]
    simpa [upto] using h
theorem parts_l0 (per : Int) (ins : List Int) (hper : 1 ≤ per ∧ per ≤ 12) (hin : ∀ n, n ∈ ins → 1 ≤ n ∧ n ≤ 31) (hil : ins.length ≤ 31) : ∀ (t p acc : List S42), (∀ r, r ∈ t → 0 ≤ r.f0 ∧ r.f0 ≤ r.f1 ∧ r.f1 ≤ 9999) → acc.length + 310001 * t.length < 4398046511104 → (p ++ t).length ≤ 4611686018427387904 → risingLo (acc ++ partsL per ins t) = true →
    Ev (fun k => point_parts.l0 k per acc ins (p ++ t) ((p ++ t).length : Int) (p.length : Int)) (norm (acc ++ partsL per ins t))
  | [], p, acc, _, hl, _, hris => by
    refine Ev.step (f := fun k => (runs_Make.f acc).bind fun t => some t) (fun k => by rw [point_parts.l0, if_neg (at_end p)]) ?_
    refine Ev.bind (Make_f (by simpa [partsL] using hris) (by simpa using hl)) (Ev.eq (Ev.now _) ?_)
    simp [partsL]
  | r :: t, p, acc, hr, hl, hp, hris => by
    have h1 := hr r List.mem_cons_self
    rw [List.length_cons] at hl
    have b1 : 0 ≤ r.f0 * per := Int.mul_nonneg h1.1 (by omega)
    have b2 : r.f0 * per ≤ 9999 * 12 := Int.mul_le_mul (by omega) hper.2 (by omega) (by omega)
    have b3 : 0 ≤ r.f1 * per := Int.mul_nonneg (by omega) (by omega)
    have b4 : r.f1 * per ≤ 9999 * 12 := Int.mul_le_mul (by omega) hper.2 (by omega) (by omega)
    by_cases hc : (ins.length : Int) = per
    · have e1 : wrap64 (r.f0 * per) = r.f0 * per := w64 (by omega) (by omega)
      have e2 : wrap64 (wrap64 (wrap64 (r.f1 * per) + per) - 1) = r.f1 * per + per - 1 := by simp (disch := omega) only [w64]
      refine Ev.step (f := fun k => point_parts.l0 k per (acc ++ [⟨r.f0 * per, r.f1 * per + per - 1⟩]) ins (p ++ r :: t) ((p ++ r :: t).length : Int) ((p ++ [r]).length : Int)) (fun k => by
        rw [point_parts.l0, if_pos (at_lt p r t), if_pos (at_0 p), if_pos (at_lt p r t), if_pos hc, if_pos (by omega), at_rd, e1, e2, at_next hp]) ?_
      have := parts_l0 per ins hper hin hil t (p ++ [r]) (acc ++ [⟨r.f0 * per, r.f1 * per + per - 1⟩]) (fun q hq => hr q (List.mem_cons_of_mem _ hq)) (by rw [List.length_append, List.length_singleton]; omega) (by rw [← at_app]; exact hp) (by
        unfold partsL at hris ⊢
        rw [List.flatMap_cons, if_pos hc] at hris
        rw [List.append_assoc]; exact hris)
      rw [← at_app, List.append_assoc] at this
      unfold partsL at this ⊢
      rw [List.flatMap_cons, if_pos hc]
      exact this
    · refine Ev.step (f := fun k => point_parts.l1 k per acc ins r.f0 (p ++ r :: t) ((p ++ r :: t).length : Int) (p.length : Int) r.f0 r.f1) (fun k => by
        rw [point_parts.l0, if_pos (at_lt p r t), if_pos (at_0 p), if_pos (at_lt p r t), if_neg hc, at_rd]) ?_
      have hm : (r.f1 + 1 - r.f0).toNat ≤ 10000 := by omega
      refine parts_l1 per ins (p ++ r :: t) (p.length : Int) r.f0 r.f1 hper h1.2.2 hin hil (r.f1 + 1 - r.f0).toNat r.f0 acc h1.1 (by omega) (by omega) ?_
      rw [at_next hp]
      have hlen : (yearsU per ins r).length ≤ 310000 := by
        have := flat_len (fun y => ins.map (unitOf per y)) 31 (numsR r) (fun y _ => by rw [List.length_map]; exact hil)
        unfold yearsU
        have e : (numsR r).length = (r.f1 + 1 - r.f0).toNat := by unfold numsR; rw [upto_len]
        omega
      have := parts_l0 per ins hper hin hil t (p ++ [r]) (acc ++ yearsU per ins r) (fun q hq => hr q (List.mem_cons_of_mem _ hq)) (by rw [List.length_append]; omega) (by rw [← at_app]; exact hp) (by
        unfold partsL at hris ⊢
        rw [List.flatMap_cons, if_neg hc] at hris
        rw [List.append_assoc]; exact hris)
      rw [← at_app, List.append_assoc] at this
      unfold partsL at this ⊢
      rw [List.flatMap_cons, if_neg hc]
      exact this
theorem setV_bounds (s : ByteArray) : ∀ r, r ∈ setV s → 0 ≤ r.f0 ∧ r.f0 ≤ r.f1 ∧ r.f1 ≤ 9999 := fun r hr => by
  unfold setV at hr
  by_cases h : saneL s.data.toList = true
  · rw [if_pos h] at hr
    have := setL_fine s h r hr
    omega
  · rw [if_neg h] at hr; cases hr
theorem asc_le {l : List Int} (h : asc l) : l.Pairwise (· ≤ ·) := List.Pairwise.imp (fun h => Int.le_of_lt h) h
theorem parts_rising {per : Int} (hper : 1 ≤ per) {ins : List Int} (ha : asc ins) (hin : ∀ n, n ∈ ins → 1 ≤ n ∧ n ≤ per) {t : List S42} {a : Int} (hs : saneF a t) : (partsL per ins t).Pairwise (fun x y => x.f0 ≤ y.f0) := by
  unfold partsL
  have hrun : ∀ r x, x ∈ (if (ins.length : Int) = per then [(⟨r.f0 * per, r.f1 * per + per - 1⟩ : S42)] else yearsU per ins r) → r.f0 ≤ r.f1 → r.f0 * per ≤ x.f0 ∧ x.f0 < (r.f1 + 1) * per := fun r x hx hle => by
    by_cases hc : (ins.length : Int) = per
    · rw [if_pos hc] at hx
      obtain rfl := List.mem_singleton.1 hx
      have := Int.mul_le_mul_of_nonneg_right (show r.f0 + 1 ≤ r.f1 + 1 by omega) (show 0 ≤ per by omega)
      rw [Int.add_mul, Int.one_mul] at this
      simp only
      omega
    · rw [if_neg hc] at hx
      unfold yearsU at hx
      obtain ⟨y, hy, hx⟩ := List.mem_flatMap.1 hx
      obtain ⟨n, hn, rfl⟩ := List.mem_map.1 hx
      have hy := (upto_mem _ _ _).1 hy
      have hn := hin n hn
      have b1 := Int.mul_le_mul_of_nonneg_right (show r.f0 ≤ y by omega) (show 0 ≤ per by omega)
      have b2 := Int.mul_le_mul_of_nonneg_right (show y + 1 ≤ r.f1 + 1 by omega) (show 0 ≤ per by omega)
      rw [Int.add_mul, Int.one_mul] at b2
      unfold unitOf
      simp only
      omega
  refine List.pairwise_flatMap.2 ⟨fun r hr => ?_, ?_⟩
  · by_cases hc : (ins.length : Int) = per
    · rw [if_pos hc]; exact List.pairwise_singleton _ _
    · rw [if_neg hc]
      unfold yearsU
      refine List.pairwise_flatMap.2 ⟨fun y _ => List.Pairwise.map _ (fun a b hab => by unfold unitOf; simp only; omega) (asc_le ha), List.Pairwise.imp (fun {y z} hyz x hx w hw => ?_) (asc_upto _ _)⟩
      obtain ⟨n, hn, rfl⟩ := List.mem_map.1 hx
      obtain ⟨m, hm, rfl⟩ := List.mem_map.1 hw
      have hn := hin n hn
      have hm := hin m hm
      have b2 := Int.mul_le_mul_of_nonneg_right (show y + 1 ≤ z by omega) (show 0 ≤ per by omega)
      rw [Int.add_mul, Int.one_mul] at b2
      unfold unitOf
      simp only
      omega
  · have key : ∀ {t : List S42} {a : Int}, saneF a t → t.Pairwise (fun x y => x.f0 ≤ x.f1 ∧ x.f1 + 1 ≤ y.f0 ∧ y.f0 ≤ y.f1) := by
      intro t
      induction t with
      | nil => intro a _; exact List.Pairwise.nil
      | cons r t ih =>
        intro a h
        exact List.pairwise_cons.2 ⟨fun x hx => by have h1 := h.2.1; have h2 := saneF_all h.2.2.2 x hx; omega, ih h.2.2.2⟩
    refine List.Pairwise.imp (fun {r q} hrq x hx y hy => ?_) (key hs)
    have h1 := (hrun r x hx hrq.1).2
    have h2 := (hrun q y hy hrq.2.2).1
    have b2 := Int.mul_le_mul_of_nonneg_right (show r.f1 + 1 ≤ q.f0 by omega) (show 0 ≤ per by omega)
    omega
def partsV (per : Nat) (p : S23) : List S42 := norm (partsL per (numV p.f2.data.toList per) (setV p.f1))
theorem parts_f (p : S23) (per : Nat) (hper : 1 ≤ per ∧ per ≤ 12) : Ev (fun k => point_parts.f k p.f0 p.f1 p.f2 p.f3 (per : Int)) (partsV per p) := by
  unfold point_parts.f
  refine Ev.bind (numbers_is p.f2 per (by omega)) (Ev.bnow (x := setV p.f1) rfl ?_)
  have hs := setV_is p.f1
  have h := parts_l0 (per : Int) (numV p.f2.data.toList per) (by omega) (fun n hn => by have := (numV_mem _ _ _).1 hn; omega) (by have := numV_len p.f2.data.toList per; omega) (setV p.f1) [] [] (setV_bounds p.f1) (by simp; omega) (by simp; omega) (pair_rising (parts_rising (by omega) (numV_asc _ _) (fun n hn => by have := (numV_mem _ _ _).1 hn; omega) hs.1))
  unfold partsV
  simpa using h
theorem parts_mem (per : Nat) (hper : 1 ≤ per ∧ per ≤ 12) (p : S23) (n : Int) : mem (partsV per p) n ↔ 0 ≤ n ∧ n < 10000 * per ∧ refV p.f1.data.toList (n / per) = true ∧ refV p.f2.data.toList (n % per + 1) = true := by
  have hp : (0 : Int) < per := by omega
  have hs := setV_is p.f1
  have hm0 := Int.emod_nonneg n (show (per : Int) ≠ 0 by omega)
  have hm1 := Int.emod_lt_of_pos n hp
  have hdm := Int.mul_ediv_add_emod n per
  have huniq : ∀ y k : Int, 1 ≤ k → k ≤ per → (n = y * per + k - 1 ↔ y = n / per ∧ k = n % per + 1) := fun y k h1 h2 => by
    constructor
    · intro h
      have e1 : n / per = y := by
        rw [h, show y * (per : Int) + k - 1 = (k - 1) + y * per by omega, Int.add_mul_ediv_right _ _ (by omega), Int.ediv_eq_zero_of_lt (by omega) (by omega)]; omega
      have e2 : n % per = k - 1 := by
        rw [h, show y * (per : Int) + k - 1 = (k - 1) + y * per by omega, Int.add_mul_emod_self_right, Int.emod_eq_of_lt (by omega) (by omega)]
      exact ⟨e1.symm, by omega⟩
    · rintro ⟨rfl, rfl⟩
      rw [Int.mul_comm (n / per) per]; omega
  have hkey : mem (partsL per (numV p.f2.data.toList per) (setV p.f1)) n ↔ mem (setV p.f1) (n / per) ∧ refV p.f2.data.toList (n % per + 1) = true := by
    unfold partsL
    constructor
    · rintro ⟨q, hq, h1, h2⟩
      obtain ⟨r, hr, hq⟩ := List.mem_flatMap.1 hq
      by_cases hc : ((numV p.f2.data.toList per).length : Int) = per
      · rw [if_pos hc] at hq
        obtain rfl := List.mem_singleton.1 hq
        simp only at h1 h2
        refine ⟨⟨r, hr, ?_, ?_⟩, (numV_full p.f2.data.toList per).1 (by omega) _ (by omega) (by omega)⟩
        · exact (Int.le_ediv_iff_mul_le hp).2 h1
        · have : n < (r.f1 + 1) * per := by
            have e := Int.add_mul r.f1 1 (per : Int)
            rw [Int.one_mul] at e
            omega
          have := (Int.ediv_lt_iff_lt_mul hp).2 this
          omega
      · rw [if_neg hc] at hq
        unfold yearsU at hq
        obtain ⟨y, hy, hq⟩ := List.mem_flatMap.1 hq
        obtain ⟨k, hk, rfl⟩ := List.mem_map.1 hq
        unfold unitOf at h1 h2
        simp only at h1 h2
        have hk' := (numV_mem _ _ _).1 hk
        obtain ⟨e1, e2⟩ := (huniq y k hk'.1 hk'.2.1).1 (by omega)
        have hy' := (upto_mem _ _ _).1 hy
        rw [← e1, ← e2]
        exact ⟨⟨r, hr, by omega, by omega⟩, hk'.2.2⟩
    · rintro ⟨⟨r, hr, h1, h2⟩, h3⟩
      by_cases hc : ((numV p.f2.data.toList per).length : Int) = per
      · refine ⟨⟨r.f0 * per, r.f1 * per + per - 1⟩, List.mem_flatMap.2 ⟨r, hr, by rw [if_pos hc]; exact List.mem_singleton.2 rfl⟩, ?_, ?_⟩
        · exact (Int.le_ediv_iff_mul_le hp).1 h1
        · have : n < (r.f1 + 1) * per := (Int.ediv_lt_iff_lt_mul hp).1 (by omega)
          rw [Int.add_mul] at this
          simp only
          omega
      · refine ⟨unitOf per (n / per) (n % per + 1), List.mem_flatMap.2 ⟨r, hr, ?_⟩, ?_, ?_⟩
        · rw [if_neg hc]
          exact List.mem_flatMap.2 ⟨n / per, (upto_mem _ _ _).2 ⟨h1, by omega⟩, List.mem_map.2 ⟨n % per + 1, (numV_mem _ _ _).2 ⟨by omega, by omega, h3⟩, rfl⟩⟩
        · have := (huniq (n / per) (n % per + 1) (by omega) (by omega)).2 ⟨rfl, rfl⟩
          unfold unitOf; simp only; omega
        · have := (huniq (n / per) (n % per + 1) (by omega) (by omega)).2 ⟨rfl, rfl⟩
          unfold unitOf; simp only; omega
  unfold partsV
  rw [norm_mem, hkey, hs.2.2]
  have hr : ∀ y, refV p.f1.data.toList y = true → 0 ≤ y ∧ y < 10000 := fun y hy => by
    obtain ⟨r, hr, a, b⟩ := (hs.2.2 y).2 hy
    have := setV_bounds p.f1 r hr
    omega
  constructor
  · rintro ⟨_, _, a, b⟩
    have := hr _ a
    have l1 := (Int.le_ediv_iff_mul_le hp).1 this.1
    have l2 := (Int.ediv_lt_iff_lt_mul hp).1 this.2
    exact ⟨by omega, l2, a, b⟩
  · rintro ⟨a, b, c, d⟩
    unfold lim
    exact ⟨by omega, by omega, c, d⟩
def dayOf (y m d : Int) : S42 := ⟨numD y m 1 + d - 1, numD y m 1 + d - 1⟩
def monthL (y : Int) (ds : List Int) (m : Int) : List S42 := (ds.filter fun d => decide (d ≤ dim y m)).map (dayOf y m)
def daysL (y : Int) (ms ds : List Int) : List S42 := ms.flatMap (monthL y ds)
theorem num1_range {y m : Int} (hy : 0 ≤ y ∧ y ≤ 9999) (hm : 1 ≤ m ∧ m ≤ 12) : 0 ≤ numD y m 1 ∧ numD y m 1 ≤ 3652424 :=
  num_range hy.1 hy.2 hm.1 hm.2 (by omega) (by have := (dim_pos (y := y) hm.1 hm.2).1; omega)
theorem days_l1 (y m : Int) (ds0 ms : List Int) (len i : Int) (hy : 0 ≤ y ∧ y ≤ 9999) (hm : 1 ≤ m ∧ m ≤ 12) {R : List S42} : ∀ (u q : List Int) (acc : List S42), (∀ d, d ∈ u → 1 ≤ d ∧ d ≤ 31) → (q ++ u).length ≤ 4611686018427387904 → acc.length + u.length < 8796093022208 →
    Ev (fun k => point_days.l0 k y ds0 (acc ++ monthL y u m) ms len (wrap64 (i + 1))) R → Ev (fun k => point_days.l1 k y ds0 acc m (numD y m 1) ms len i (q ++ u) ((q ++ u).length : Int) (q.length : Int)) R
  | [], q, acc, _, _, _, h => by
    refine Ev.step (f := fun k => point_days.l0 k y ds0 acc ms len (wrap64 (i + 1))) (fun k => by rw [point_days.l1, if_neg (at_end q)]) ?_
    simpa [monthL] using h
  | d :: u, q, acc, hu, hq, hl, h => by
    have hd := hu d List.mem_cons_self
    rw [List.length_cons] at hl
    have hr := num1_range hy hm
    have e : wrap64 (wrap64 (numD y m 1 + d) - 1) = numD y m 1 + d - 1 := by simp (disch := omega) only [w64]
    by_cases hc : d ≤ dim y m
    · refine Ev.step (f := fun k => point_days.l1 k y ds0 (acc ++ [dayOf y m d]) m (numD y m 1) ms len i (q ++ d :: u) ((q ++ d :: u).length : Int) ((q ++ [d]).length : Int)) (fun k => by
        rw [point_days.l1, if_pos (at_lt q d u), if_pos (at_0 q), if_pos (at_lt q d u), Days_f hy.1, Option.bind_some, at_rdi, if_pos hc, if_pos (by omega), e, at_next hq]; rfl) ?_
      have := days_l1 y m ds0 ms len i hy hm u (q ++ [d]) (acc ++ [dayOf y m d]) (fun x hx => hu x (List.mem_cons_of_mem _ hx)) (by rw [← at_app]; exact hq) (by rw [List.length_append, List.length_singleton]; omega) (R := R) (by
        rw [List.append_assoc, List.singleton_append]
        unfold monthL at h ⊢
        rw [List.filter_cons_of_pos (by simpa using hc), List.map_cons] at h
        exact h)
      rw [← at_app] at this
      exact this
    · refine Ev.step (f := fun k => point_days.l1 k y ds0 acc m (numD y m 1) ms len i (q ++ d :: u) ((q ++ d :: u).length : Int) ((q ++ [d]).length : Int)) (fun k => by
        rw [point_days.l1, if_pos (at_lt q d u), if_pos (at_0 q), if_pos (at_lt q d u), Days_f hy.1, Option.bind_some, at_rdi, if_neg hc, at_next hq]) ?_
      have := days_l1 y m ds0 ms len i hy hm u (q ++ [d]) acc (fun x hx => hu x (List.mem_cons_of_mem _ hx)) (by rw [← at_app]; exact hq) (by omega) (R := R) (by
        unfold monthL at h ⊢
        rw [List.filter_cons_of_neg (by simpa using hc)] at h
        exact h)
      rw [← at_app] at this
      exact this
theorem monthL_len (y m : Int) (ds : List Int) : (monthL y ds m).length ≤ ds.length := by
  unfold monthL; rw [List.length_map]; exact List.length_filter_le _ _
theorem daysL_len (y : Int) (ms ds : List Int) : (daysL y ms ds).length ≤ ms.length * ds.length := flat_len _ _ _ fun m _ => monthL_len y m ds
theorem month_step {y m : Int} (h1 : 1 ≤ m) (h2 : m ≤ 11) : numD y (m + 1) 1 = numD y m 1 + dim y m := by
  have s := pY_step (y - 1)
  unfold yl at s
  rw [show y - 1 + 1 = y by omega] at s
  rcases m_cases h1 (by omega) with rfl | rfl | rfl | rfl | rfl | rfl | rfl | rfl | rfl | rfl | rfl | rfl <;> first | omega | (unfold numD mD dim mlen; simp; done) | (unfold numD mD dim mlen; simp; omega) | (unfold numD mD dim mlen; cases hL : leapY y <;> simp [hL] at s ⊢ <;> omega)
theorem month_mono {y : Int} : ∀ (n : Nat) (m : Int), 1 ≤ m → m + n ≤ 12 → numD y m 1 ≤ numD y (m + n) 1
  | 0, m, _, _ => by simp
  | n + 1, m, h1, h2 => by
    have a := month_mono (y := y) n m h1 (by omega)
    have b := month_step (y := y) (m := m + n) (by omega) (by omega)
    have c := (dim_pos (y := y) (m := m + n) (by omega) (by omega)).1
    have e : m + ((n + 1 : Nat) : Int) = m + n + 1 := by omega
    rw [e]; omega
theorem month_le {y m m' : Int} (h1 : 1 ≤ m) (h : m ≤ m') (h2 : m' ≤ 12) : numD y m 1 ≤ numD y m' 1 := by
  have := month_mono (y := y) (m' - m).toNat m h1 (by omega)
  rwa [show m + ((m' - m).toNat : Int) = m' by omega] at this
theorem days_rising {y : Int} {ms ds : List Int} (hm : ∀ m, m ∈ ms → 1 ≤ m ∧ m ≤ 12) (hma : asc ms) (hda : asc ds) (hde : ∀ d, d ∈ ds → 1 ≤ d) : (daysL y ms ds).Pairwise (fun a b => a.f0 ≤ b.f0) := by
  unfold daysL
  refine List.pairwise_flatMap.2 ⟨fun m _ => List.Pairwise.map _ (fun a b hab => by unfold dayOf; simp only; omega) ((asc_le hda).filter _), ?_⟩
  have key : ∀ {l : List Int}, asc l → (∀ m, m ∈ l → 1 ≤ m ∧ m ≤ 12) → l.Pairwise (fun a b => 1 ≤ a ∧ a < b ∧ b ≤ 12) := by
    intro l
    induction l with
    | nil => intro _ _; exact List.Pairwise.nil
    | cons x t ih =>
      intro h hb
      have h' := List.pairwise_cons.1 h
      exact List.pairwise_cons.2 ⟨fun z hz => ⟨(hb x List.mem_cons_self).1, h'.1 z hz, (hb z (List.mem_cons_of_mem _ hz)).2⟩, ih h'.2 fun m hm => hb m (List.mem_cons_of_mem _ hm)⟩
  refine List.Pairwise.imp (fun {m m'} hmm x hx z hz => ?_) (key hma hm)
  unfold monthL at hx hz
  obtain ⟨d, hd, rfl⟩ := List.mem_map.1 hx
  obtain ⟨e, he, rfl⟩ := List.mem_map.1 hz
  have hd := of_decide_eq_true (List.mem_filter.1 hd).2
  have s := month_step (y := y) (m := m) hmm.1 (by omega)
  have l := month_le (y := y) (m := m + 1) (m' := m') (by omega) (by omega) hmm.2.2
  unfold dayOf
  simp only
  have he1 : 1 ≤ e := hde e (List.mem_filter.1 he).1
  omega
theorem days_l0 (y : Int) (ds : List Int) (hy : 0 ≤ y ∧ y ≤ 9999) (hd : ∀ d, d ∈ ds → 1 ≤ d ∧ d ≤ 31) (hdl : ds.length ≤ 31) : ∀ (t p : List Int) (acc : List S42), (∀ m, m ∈ t → 1 ≤ m ∧ m ≤ 12) → (p ++ t).length ≤ 4611686018427387904 → acc.length + 31 * t.length < 4398046511104 → risingLo (acc ++ daysL y t ds) = true →
    Ev (fun k => point_days.l0 k y ds acc (p ++ t) ((p ++ t).length : Int) (p.length : Int)) (norm (acc ++ daysL y t ds))
  | [], p, acc, _, _, hl, hris => by
    refine Ev.step (f := fun k => (runs_Make.f acc).bind fun t => some t) (fun k => by rw [point_days.l0, if_neg (at_end p)]) ?_
    refine Ev.bind (Make_f (by simpa [daysL] using hris) (by simpa using hl)) (Ev.eq (Ev.now _) ?_)
    simp [daysL]
  | m :: t, p, acc, ht, hp, hl, hris => by
    have hm := ht m List.mem_cons_self
    rw [List.length_cons] at hl
    refine Ev.step (f := fun k => point_days.l1 k y ds acc m (numD y m 1) (p ++ m :: t) ((p ++ m :: t).length : Int) (p.length : Int) ds (ds.length : Int) 0) (fun k => by
      rw [point_days.l0, if_pos (at_lt p m t), if_pos (at_0 p), if_pos (at_lt p m t), at_rdi, Number_f hy.1 hy.2 hm.1 hm.2]; rfl) ?_
    refine days_l1 y m ds (p ++ m :: t) ((p ++ m :: t).length : Int) (p.length : Int) hy hm ds [] acc hd (by simp; omega) (by omega) ?_
    rw [at_next hp]
    have hml := monthL_len y m ds
    have := days_l0 y ds hy hd hdl t (p ++ [m]) (acc ++ monthL y ds m) (fun x hx => ht x (List.mem_cons_of_mem _ hx)) (by rw [← at_app]; exact hp) (by rw [List.length_append]; omega) (by
      unfold daysL at hris ⊢
      rw [List.flatMap_cons] at hris
      rw [List.append_assoc]; exact hris)
    rw [← at_app, List.append_assoc] at this
    unfold daysL at this ⊢
    rw [List.flatMap_cons]
    exact this
theorem days_f (y : Int) (ms ds : List Int) (hy : 0 ≤ y ∧ y ≤ 9999) (hm : ∀ m, m ∈ ms → 1 ≤ m ∧ m ≤ 12) (hml : ms.length ≤ 12) (hd : ∀ d, d ∈ ds → 1 ≤ d ∧ d ≤ 31) (hdl : ds.length ≤ 31) (hma : asc ms) (hda : asc ds) : Ev (fun k => point_days.f k y ms ds) (norm (daysL y ms ds)) := by
  have := days_l0 y ds hy hd hdl ms [] [] hm (by simp; omega) (by simp; omega) (pair_rising (days_rising hm hma hda fun d h => (hd d h).1))
  unfold point_days.f
  simpa using this
theorem mem_days {y : Int} {ms ds : List Int} (hm : ∀ m, m ∈ ms → 1 ≤ m ∧ m ≤ 12) (hd : ∀ d, d ∈ ds → 1 ≤ d ∧ d ≤ 31) (n : Int) : mem (daysL y ms ds) n ↔ (dateD n).1 = y ∧ (dateD n).2.1 ∈ ms ∧ (dateD n).2.2 ∈ ds := by
  unfold daysL
  constructor
  · rintro ⟨q, hq, h1, h2⟩
    obtain ⟨m, hmm, hq⟩ := List.mem_flatMap.1 hq
    unfold monthL at hq
    obtain ⟨d, hdd, rfl⟩ := List.mem_map.1 hq
    obtain ⟨hdd, hc⟩ := List.mem_filter.1 hdd
    have hc := of_decide_eq_true hc
    unfold dayOf at h1 h2
    simp only at h1 h2
    have e : n = numD y m d := by rw [← num_add]; omega
    rw [e, num_date (hm m hmm).1 (hm m hmm).2 (hd d hdd).1 hc]
    exact ⟨rfl, hmm, hdd⟩
  · rintro ⟨rfl, h1, h2⟩
    obtain ⟨e, a, b, c, d⟩ := date_num n
    refine ⟨dayOf (dateD n).1 (dateD n).2.1 (dateD n).2.2, List.mem_flatMap.2 ⟨_, h1, List.mem_map.2 ⟨_, List.mem_filter.2 ⟨h2, decide_eq_true d⟩, rfl⟩⟩, ?_, ?_⟩ <;> unfold dayOf <;> simp only <;> rw [num_add, e] <;> exact Int.le_refl _
theorem day_in {y : Int} {ms ds : List Int} (hy : 0 ≤ y ∧ y ≤ 9999) {n : Int} (h : (dateD n).1 = y) : 0 ≤ n ∧ n ≤ 3652424 ∧ numD y 1 1 ≤ n ∧ n < numD (y + 1) 1 1 := by
  obtain ⟨e, a, b, c, d⟩ := date_num n
  have hy1 := num_year a b c d
  have hr := num_range (by rw [h]; exact hy.1) (by rw [h]; exact hy.2) a b c d
  rw [e] at hy1 hr
  rw [h] at hy1
  exact ⟨hr.1, hr.2, hy1.1, hy1.2⟩
def Res (ms ds : List Int) (acc : List S42) (ys : List Int) (s : List S42) : Prop :=
  sane s ∧ (∀ n, mem s n → mem acc n ∨ ∃ y, y ∈ ys ∧ mem (daysL y ms ds) n) ∧
    ((∀ n, (mem acc n ∨ ∃ y, y ∈ ys ∧ mem (daysL y ms ds) n) → mem s n) ∨ (400 < s.length ∧ ∀ n, (mem acc n ∨ ∃ y, y ∈ ys ∧ mem (daysL y ms ds) n) → ¬ mem s n → ∀ x, mem s x → x < n))
theorem Res.of {ms ds : List Int} {acc acc' : List S42} {y : Int} {ys : List Int} {s : List S42} (h : Res ms ds acc' ys s) (e : ∀ n, mem acc' n ↔ mem acc n ∨ mem (daysL y ms ds) n) : Res ms ds acc (y :: ys) s := by
  have e2 : ∀ n, (mem acc' n ∨ ∃ y, y ∈ ys ∧ mem (daysL y ms ds) n) ↔ (mem acc n ∨ ∃ z, z ∈ y :: ys ∧ mem (daysL z ms ds) n) := fun n => by
    rw [e]
    constructor
    · rintro ((h | h) | ⟨z, hz, h⟩)
      · exact .inl h
      · exact .inr ⟨y, List.mem_cons_self, h⟩
      · exact .inr ⟨z, List.mem_cons_of_mem _ hz, h⟩
    · rintro (h | ⟨z, hz, h⟩)
      · exact .inl (.inl h)
      · rcases List.mem_cons.1 hz with rfl | hz
        · exact .inl (.inr h)
        · exact .inr ⟨z, hz, h⟩
  obtain ⟨h1, h2, h3⟩ := h
  refine ⟨h1, fun n hn => (e2 n).1 (h2 n hn), ?_⟩
  rcases h3 with h3 | ⟨h3, h4⟩
  · exact .inl fun n hn => h3 n ((e2 n).2 hn)
  · exact .inr ⟨h3, fun n hn => h4 n ((e2 n).2 hn)⟩
def rise (acc : List S42) : Prop := acc.Pairwise (fun a b => a.f0 ≤ b.f0) ∧ ∀ r, r ∈ acc → r.f0 ≤ r.f1
theorem rise_sane {s : List S42} (hs : sane s) : rise s := ⟨sane_pair hs, fun r hr => (saneF_all hs r hr).2.1⟩
def okAcc (acc : List S42) (ys : List Int) : Prop := (acc.length ≤ 1200 ∧ rise acc) ∧ ∀ n, mem acc n → 0 ≤ n ∧ n ≤ 3652424 ∧ ∀ y, y ∈ ys → n < numD y 1 1
theorem dated_l1 (ms ds : List Int) (hm : ∀ m, m ∈ ms → 1 ≤ m ∧ m ≤ 12) (hml : ms.length ≤ 12) (hd : ∀ d, d ∈ ds → 1 ≤ d ∧ d ≤ 31) (hdl : ds.length ≤ 31) (hma : asc ms) (hda : asc ds) (s : List S42) (i lo hi : Int) (hi9 : hi ≤ 9999) (rest : List Int) : ∀ (m : Nat) (y : Int) (acc : List S42), 0 ≤ y → y + m = hi + 1 ∨ (m = 0 ∧ hi < y) → asc (upto y m ++ rest) → okAcc acc (upto y m ++ rest) →
    (∀ acc', okAcc acc' rest → ∃ r, Ev (fun k => point_dated.l0 k ms ds acc' s (s.length : Int) (wrap64 (i + 1))) r ∧ Res ms ds acc' rest r) →
    ∃ r, Ev (fun k => point_dated.l1 k ms ds acc y s (s.length : Int) i lo hi) r ∧ Res ms ds acc (upto y m ++ rest) r
  | 0, y, acc, h0, hy, ha, hk, h => by
    obtain ⟨r, h1, h2⟩ := h acc hk
    exact ⟨r, Ev.step (f := fun k => point_dated.l0 k ms ds acc s (s.length : Int) (wrap64 (i + 1))) (fun k => by rw [point_dated.l1, if_neg (by omega)]) h1, h2⟩
  | m + 1, y, acc, h0, hy, ha, ⟨⟨hk1, hkr⟩, hk2⟩, h => by
    have hy9 : 0 ≤ y ∧ y ≤ 9999 := by omega
    have hasc := List.pairwise_cons.1 (show (y :: (upto (y + 1) m ++ rest)).Pairwise (· < ·) from ha)
    have hday := days_f y ms ds hy9 hm hml hd hdl hma hda
    have hlen : (norm (daysL y ms ds)).length ≤ 372 := by
      have a := norm_len (daysL y ms ds)
      have b := daysL_len y ms ds
      have c : ms.length * ds.length ≤ 12 * 31 := Nat.mul_le_mul hml hdl
      omega
    have hmd : ∀ n, mem (norm (daysL y ms ds)) n ↔ mem (daysL y ms ds) n := fun n => by
      rw [norm_mem]
      constructor
      · exact fun h => h.2.2
      · intro h
        have := day_in (ms := ms) (ds := ds) hy9 ((mem_days hm hd n).1 h).1
        unfold lim
        exact ⟨by omega, by omega, h⟩
    have he : ∀ n, mem (acc ++ norm (daysL y ms ds)) n ↔ mem acc n ∨ mem (daysL y ms ds) n := fun n => by rw [mem_append, hmd]
    have hin : ∀ n, mem acc n ∨ mem (daysL y ms ds) n → 0 ≤ n ∧ n ≤ 3652424 ∧ ∀ z, z ∈ upto (y + 1) m ++ rest → n < numD z 1 1 := fun n hn => by
      rcases hn with hn | hn
      · have := hk2 n hn
        exact ⟨this.1, this.2.1, fun z hz => this.2.2 z (List.mem_cons_of_mem y hz)⟩
      · have hb := day_in (ms := ms) (ds := ds) hy9 ((mem_days hm hd n).1 hn).1
        exact ⟨hb.1, hb.2.1, fun z hz => by have := numY_mono (x := y + 1) (y := z) (by have := hasc.1 z hz; omega); omega⟩
    have hnorm : ∀ n, mem (norm (acc ++ norm (daysL y ms ds))) n ↔ mem acc n ∨ mem (daysL y ms ds) n := fun n => by
      rw [norm_mem, he]
      constructor
      · exact fun h => h.2.2
      · intro h
        have := hin n h
        unfold lim
        exact ⟨by omega, by omega, h⟩
    have hrise : rise (acc ++ norm (daysL y ms ds)) := ⟨List.pairwise_append.2 ⟨hkr.1, (rise_sane (norm_sane _)).1, fun x hx z hz => by
        have h1 := (hk2 x.f0 ⟨x, hx, Int.le_refl _, hkr.2 x hx⟩).2.2 y List.mem_cons_self
        have h2 := (hmd z.f0).1 ⟨z, hz, Int.le_refl _, (rise_sane (norm_sane _)).2 z hz⟩
        have h3 := day_in (ms := ms) (ds := ds) hy9 ((mem_days hm hd _).1 h2).1
        omega⟩, fun r hr => by
        rcases List.mem_append.1 hr with hr | hr
        · exact hkr.2 r hr
        · exact (rise_sane (norm_sane _)).2 r hr⟩
    have hnext : ∀ acc', (∀ n, mem acc' n ↔ mem acc n ∨ mem (daysL y ms ds) n) → acc'.length ≤ 1200 → rise acc' → ∃ r, Ev (fun k => point_dated.l1 k ms ds acc' (wrap64 (y + 1)) s (s.length : Int) i lo hi) r ∧ Res ms ds acc (upto y (m + 1) ++ rest) r := fun acc' e hl hra => by
      rw [w64 (x := y + 1) (by omega) (by omega)]
      obtain ⟨r, h1, h2⟩ := dated_l1 ms ds hm hml hd hdl hma hda s i lo hi hi9 rest m (y + 1) acc' (by omega) (by omega) hasc.2 ⟨⟨hl, hra⟩, fun n hn => hin n ((e n).1 hn)⟩ h
      exact ⟨r, h1, h2.of e⟩
    have hstep : ∀ k, point_dated.l1 (k + 1) ms ds acc y s (s.length : Int) i lo hi = (point_days.f k y ms ds).bind fun t119 => (if acc.length + t119.length < 8796093022208 then ((some (acc ++ t119 : List S42)).bind fun y122 => (if (y122.length : Int) > 1200 then ((runs_Make.f y122).bind fun t125 => ((sets_Wide.f k t125).bind fun t128 => (if t128 = true then (some t125) else (point_dated.l1 k ms ds t125 (wrap64 (y + 1)) s (s.length : Int) i lo hi)))) else (point_dated.l1 k ms ds y122 (wrap64 (y + 1)) s (s.length : Int) i lo hi))) else (none)) := fun k => by
      rw [point_dated.l1, if_pos (by omega)]
    have hlen2 : (acc ++ norm (daysL y ms ds)).length ≤ 1572 := by rw [List.length_append]; omega
    by_cases hw : ((acc ++ norm (daysL y ms ds)).length : Int) > 1200
    · have hmk := Make_f (l := acc ++ norm (daysL y ms ds)) (pair_rising hrise.1) (by omega)
      have hln := norm_len (acc ++ norm (daysL y ms ds))
      have hwd := Wide_f (norm_sane (acc ++ norm (daysL y ms ds))) (by omega)
      rw [norm_idem] at hwd
      by_cases hz : ((norm (acc ++ norm (daysL y ms ds))).length : Int) > 400
      · rw [decide_eq_true hz] at hwd
        refine ⟨norm (acc ++ norm (daysL y ms ds)), Ev.step (fun k => hstep k) (Ev.bind hday (Ev.ift (by omega) (Ev.bnow (x := acc ++ norm (daysL y ms ds)) rfl (Ev.ift hw (Ev.bind hmk (Ev.bind hwd (Ev.ift rfl (Ev.now _)))))))), norm_sane _, fun n hn => ?_, .inr ⟨by omega, fun n hn hno x hx => ?_⟩⟩
        · rcases (hnorm n).1 hn with h | h
          · exact .inl h
          · exact .inr ⟨y, List.mem_cons_self, h⟩
        · have hx' := hin x ((hnorm x).1 hx)
          rcases hn with hn | ⟨z, hz, hn⟩
          · exact absurd ((hnorm n).2 (.inl hn)) hno
          · rcases List.mem_cons.1 (show z ∈ y :: (upto (y + 1) m ++ rest) from hz) with rfl | hz
            · exact absurd ((hnorm n).2 (.inr hn)) hno
            · have h1 := hx'.2.2 z hz
              obtain ⟨e, a, b, c, d⟩ := date_num n
              have h2 := num_year a b c d
              rw [e, ((mem_days hm hd n).1 hn).1] at h2
              omega
      · rw [decide_eq_false hz] at hwd
        obtain ⟨r, h1, h2⟩ := hnext (norm (acc ++ norm (daysL y ms ds))) hnorm (by omega) (rise_sane (norm_sane _))
        exact ⟨r, Ev.step (fun k => hstep k) (Ev.bind hday (Ev.ift (by omega) (Ev.bnow (x := acc ++ norm (daysL y ms ds)) rfl (Ev.ift hw (Ev.bind hmk (Ev.bind hwd (Ev.iff_ (by simp) h1))))))), h2⟩
    · obtain ⟨r, h1, h2⟩ := hnext (acc ++ norm (daysL y ms ds)) he (by omega) hrise
      exact ⟨r, Ev.step (fun k => hstep k) (Ev.bind hday (Ev.ift (by omega) (Ev.bnow (x := acc ++ norm (daysL y ms ds)) rfl (Ev.iff_ hw h1)))), h2⟩
theorem dated_l0 (ms ds : List Int) (hm : ∀ m, m ∈ ms → 1 ≤ m ∧ m ≤ 12) (hml : ms.length ≤ 12) (hd : ∀ d, d ∈ ds → 1 ≤ d ∧ d ≤ 31) (hdl : ds.length ≤ 31) (hma : asc ms) (hda : asc ds) : ∀ (t p acc : List S42) (a : Int), (∀ r, r ∈ t → 0 ≤ r.f0 ∧ r.f0 ≤ r.f1 ∧ r.f1 ≤ 9999) → saneF a t → (p ++ t).length ≤ 4611686018427387904 → okAcc acc (t.flatMap numsR) →
    ∃ r, Ev (fun k => point_dated.l0 k ms ds acc (p ++ t) ((p ++ t).length : Int) (p.length : Int)) r ∧ Res ms ds acc (t.flatMap numsR) r
  | [], p, acc, a, _, _, _, ⟨⟨hk1, hkr⟩, hk2⟩ => by
    refine ⟨norm acc, Ev.step (f := fun k => (runs_Make.f acc).bind fun t => some t) (fun k => by rw [point_dated.l0, if_neg (at_end p)]) (Ev.bind (Make_f (pair_rising hkr.1) (by omega)) (Ev.now _)), norm_sane _, fun n hn => .inl ((norm_mem _ _).1 hn).2.2, .inl fun n hn => ?_⟩
    rcases hn with hn | ⟨y, hy, _⟩
    · have := hk2 n hn
      rw [norm_mem]; unfold lim
      exact ⟨by omega, by omega, hn⟩
    · simp at hy
  | r :: t, p, acc, a, hr, hs, hp, hk => by
    have h1 := hr r List.mem_cons_self
    have hasc : asc (upto r.f0 (r.f1 + 1 - r.f0).toNat ++ t.flatMap numsR) := asc_nums hs
    obtain ⟨q, h2, h3⟩ := dated_l1 ms ds hm hml hd hdl hma hda (p ++ r :: t) (p.length : Int) r.f0 r.f1 h1.2.2 (t.flatMap numsR) (r.f1 + 1 - r.f0).toNat r.f0 acc h1.1 (by omega) hasc hk (fun acc' hk' => by
      rw [at_next hp]
      have := dated_l0 ms ds hm hml hd hdl hma hda t (p ++ [r]) acc' _ (fun q hq => hr q (List.mem_cons_of_mem _ hq)) hs.2.2.2 (by rw [← at_app]; exact hp) hk'
      rw [← at_app] at this
      exact this)
    exact ⟨q, Ev.step (f := fun k => point_dated.l1 k ms ds acc r.f0 (p ++ r :: t) ((p ++ r :: t).length : Int) (p.length : Int) r.f0 r.f1) (fun k => by
      rw [point_dated.l0, if_pos (at_lt p r t), if_pos (at_0 p), if_pos (at_lt p r t), at_rd]) h2, h3⟩
theorem kcount_pos (k : Nat) : 100 ≤ kcount k ∧ kcount k ≤ 3652425 := by unfold kcount; split <;> omega
theorem units_f {kind : Int} (hk : kindOk kind) {s : List S42} (hs : sane s) (hb : ∀ n, mem s n → 0 ≤ n ∧ n < kcount kind.toNat) (hl : s.length < 4398046511100) : Ev (fun k => image_units.f k kind s) s := by
  have hc : unit_Count.f kind = some (kcount kind.toNat) := by unfold unit_Count.f unit_Count.fv; rw [if_pos hk]
  have hp := kcount_pos kind.toNat
  obtain ⟨m, h1, h2, _⟩ := Clip_f hs 0 (kcount kind.toNat - 1) (by unfold lim; omega) (by omega) (by unfold lim; omega) hl
  have e : m = s := h2.eq (isSet_self hs) fun n _ _ => ⟨fun h => h.1, fun h => ⟨h, by have := hb n h; omega⟩⟩
  rw [e] at h1
  unfold image_units.f
  refine Ev.bnow hc ?_
  rw [w64 (by omega) (by omega)]
  exact Ev.bind h1 (Ev.now _)
def yrun (r : S42) : S42 := ⟨numD r.f0 1 1, numD (r.f1 + 1) 1 1 - 1⟩
theorem Cover_l0 : ∀ (t p acc : List S42), (∀ r, r ∈ t → 0 ≤ r.f0 ∧ r.f0 ≤ r.f1 ∧ r.f1 ≤ 9999) → (p ++ t).length ≤ 4611686018427387904 → acc.length + t.length < 4398046511104 → risingLo (acc ++ t.map yrun) = true →
    Ev (fun k => image_Cover.l0 k 3 acc (p ++ t) ((p ++ t).length : Int) (p.length : Int)) (norm (acc ++ t.map yrun))
  | [], p, acc, _, _, hl, hris => by
    refine Ev.step (f := fun k => (runs_Make.f acc).bind fun t => some t) (fun k => by rw [image_Cover.l0, if_neg (at_end p)]) ?_
    refine Ev.bind (Make_f (by simpa using hris) (by simpa using hl)) (Ev.eq (Ev.now _) ?_)
    simp
  | r :: t, p, acc, hr, hp, hl, hris => by
    have h1 := hr r List.mem_cons_self
    rw [List.length_cons] at hl
    refine Ev.step (f := fun k => image_Cover.l0 k 3 (acc ++ [yrun r]) (p ++ r :: t) ((p ++ r :: t).length : Int) ((p ++ [r]).length : Int)) (fun k => by
      rw [image_Cover.l0, if_pos (at_lt p r t), if_pos (at_0 p), if_pos (at_lt p r t), at_rd, First3 h1.1 (by omega), Option.bind_some, Last3 (by omega) h1.2.2, Option.bind_some, if_pos (by omega), at_next hp]; rfl) ?_
    have := Cover_l0 t (p ++ [r]) (acc ++ [yrun r]) (fun q hq => hr q (List.mem_cons_of_mem _ hq)) (by rw [← at_app]; exact hp) (by rw [List.length_append, List.length_singleton]; omega) (by rw [show (acc ++ [yrun r]) ++ t.map yrun = acc ++ (r :: t).map yrun by simp]; exact hris)
    rw [← at_app, List.append_assoc] at this
    exact this
theorem mem_cover {s : List S42} (hb : ∀ r, r ∈ s → 0 ≤ r.f0 ∧ r.f0 ≤ r.f1 ∧ r.f1 ≤ 9999) (n : Int) : mem (norm (s.map yrun)) n ↔ 0 ≤ n ∧ n ≤ 3652424 ∧ mem s (dateD n).1 := by
  obtain ⟨e, a, b, c, d⟩ := date_num n
  have hy := num_year a b c d
  rw [e] at hy
  rw [norm_mem]
  constructor
  · rintro ⟨_, _, q, hq, h1, h2⟩
    obtain ⟨r, hr, rfl⟩ := List.mem_map.1 hq
    have hbr := hb r hr
    unfold yrun at h1 h2
    simp only at h1 h2
    have m1 := numY_mono (x := 0) (y := r.f0) hbr.1
    have m2 := numY_mono (x := r.f1 + 1) (y := 10000) (by omega)
    rw [numD_0] at m1; rw [numD_end] at m2
    refine ⟨by omega, by omega, r, hr, ?_, ?_⟩
    · apply Classical.byContradiction; intro hc
      have := numY_mono (x := (dateD n).1 + 1) (y := r.f0) (by omega)
      omega
    · apply Classical.byContradiction; intro hc
      have := numY_mono (x := r.f1 + 1) (y := (dateD n).1) (by omega)
      omega
  · rintro ⟨h0, h1, r, hr, h2, h3⟩
    have m1 := numY_mono (x := r.f0) (y := (dateD n).1) h2
    have m2 := numY_mono (x := (dateD n).1 + 1) (y := r.f1 + 1) (by omega)
    refine ⟨by unfold lim; omega, by unfold lim; omega, yrun r, List.mem_map.2 ⟨r, hr, rfl⟩, ?_, ?_⟩ <;> unfold yrun <;> simp only <;> omega
theorem setV_dig (s : ByteArray) (n : Int) (h : refV s.data.toList n = true) : 0 ≤ n ∧ n < ((10 ^ s.data.toList.length : Nat) : Int) := by
  unfold refV at h
  simp only [Bool.and_eq_true, decide_eq_true_eq] at h
  exact ⟨h.1.1.2, h.1.2⟩
theorem setV_year (s : ByteArray) (n : Int) (h : mem (setV s) n) : 0 ≤ n ∧ n ≤ 9999 := by
  obtain ⟨r, hr, a, b⟩ := h
  have := setV_bounds s r hr
  omega
def dayP (p : S23) (n : Int) : Prop := 0 ≤ n ∧ n ≤ 3652424 ∧ refV p.f1.data.toList (dateD n).1 = true ∧ refV p.f2.data.toList (dateD n).2.1 = true ∧ refV p.f3.data.toList (dateD n).2.2 = true
theorem dim_any {y m : Int} : dim y m ≤ 31 := by
  by_cases h : 1 ≤ m ∧ m ≤ 12
  · exact (dim_pos h.1 h.2).2
  · rw [dim_out (by omega)]; omega
theorem dated_f (p : S23) : ∃ s, Ev (fun k => point_dated.f k p.f0 p.f1 p.f2 p.f3) s ∧ sane s ∧ s.length ≤ 4000000 ∧ (∀ n, mem s n → dayP p n) ∧
    ((∀ n, dayP p n → mem s n) ∨ (400 < s.length ∧ ∀ n, dayP p n → ¬ mem s n → ∀ x, mem s x → x < n)) := by
  obtain ⟨hs1, hs2, hs3⟩ := setV_is p.f1
  obtain ⟨ms, hms⟩ : ∃ ms, ms = numV p.f2.data.toList 12 := ⟨_, rfl⟩
  obtain ⟨ds, hds⟩ : ∃ ds, ds = numV p.f3.data.toList 31 := ⟨_, rfl⟩
  have hm : ∀ m, m ∈ ms → 1 ≤ m ∧ m ≤ 12 := fun m h => by rw [hms] at h; have := (numV_mem _ _ _).1 h; omega
  have hd : ∀ d, d ∈ ds → 1 ≤ d ∧ d ≤ 31 := fun m h => by rw [hds] at h; have := (numV_mem _ _ _).1 h; omega
  have hml : ms.length ≤ 12 := by rw [hms]; exact numV_len _ _
  have hdl : ds.length ≤ 31 := by rw [hds]; exact numV_len _ _
  have hsz : ∀ s : List S42, sane s → (∀ n, mem s n → 0 ≤ n ∧ n ≤ 3652424) → s.length ≤ 4000000 := fun s h1 h2 => by
    have key : ∀ (t : List S42) (a : Int), saneF a t → (∀ n, mem t n → n ≤ 3652424) → -2 ≤ a → a ≤ 3652424 → (t.length : Int) ≤ 3652424 - a := fun t => by
      induction t with
      | nil => intro a _ _ _ h; simp; omega
      | cons r t ih =>
        intro a hs hn ha ha2
        have h1 := hn r.f1 ⟨r, List.mem_cons_self, hs.2.1, Int.le_refl _⟩
        have := ih r.f1 hs.2.2.2 (fun n h => hn n ((mem_cons _ _ _).2 (.inr h))) (by have := hs.1; have := hs.2.1; omega) h1
        have h2 := hs.1; have h3 := hs.2.1
        rw [List.length_cons]; omega
    cases s with
    | nil => simp
    | cons r t =>
      have h3 := h2 r.f0 ⟨r, List.mem_cons_self, Int.le_refl _, h1.2.1⟩
      have := key (r :: t) (-2) ⟨by omega, h1.2.1, h1.2.2.1, h1.2.2.2⟩ (fun n h => (h2 n h).2) (by omega) (by omega)
      omega
  have hroad : ∃ s, Ev (fun k => point_dated.l0 k ms ds [] (setV p.f1) ((setV p.f1).length : Int) 0) s ∧ sane s ∧ s.length ≤ 4000000 ∧ (∀ n, mem s n → dayP p n) ∧
      ((∀ n, dayP p n → mem s n) ∨ (400 < s.length ∧ ∀ n, dayP p n → ¬ mem s n → ∀ x, mem s x → x < n)) := by
    obtain ⟨r, h1, h2, h3, h4⟩ := dated_l0 ms ds hm hml hd hdl (by rw [hms]; exact numV_asc _ _) (by rw [hds]; exact numV_asc _ _) (setV p.f1) [] [] _ (setV_bounds p.f1) hs1 (by simp; omega) ⟨⟨by simp, List.Pairwise.nil, fun r hr => absurd hr (by simp)⟩, fun n hn => absurd hn (mem_nil n)⟩
    have e : ∀ n, (mem ([] : List S42) n ∨ ∃ y, y ∈ (setV p.f1).flatMap numsR ∧ mem (daysL y ms ds) n) ↔ dayP p n := fun n => by
      constructor
      · rintro (h | ⟨y, hy, h⟩)
        · exact absurd h (mem_nil n)
        · have hy := (nums_mem _ _).1 hy
          have h := (mem_days hm hd n).1 h
          have hb := day_in (ms := ms) (ds := ds) (setV_year _ _ hy) h.1
          have h2 := h.2.1; have h3 := h.2.2
          rw [hms] at h2; rw [hds] at h3
          exact ⟨hb.1, hb.2.1, by rw [h.1]; exact (hs3 _).1 hy, ((numV_mem _ _ _).1 h2).2.2, ((numV_mem _ _ _).1 h3).2.2⟩
      · rintro ⟨h0, h1, h2, h3, h4⟩
        obtain ⟨e, a, b, c, d⟩ := date_num n
        refine .inr ⟨(dateD n).1, (nums_mem _ _).2 ((hs3 _).2 h2), (mem_days hm hd n).2 ⟨rfl, ?_, ?_⟩⟩
        · rw [hms]; exact (numV_mem _ _ _).2 ⟨a, b, h3⟩
        · rw [hds]; exact (numV_mem _ _ _).2 ⟨c, by have := dim_any (y := (dateD n).1) (m := (dateD n).2.1); omega, h4⟩
    refine ⟨r, by simpa using h1, h2, hsz r h2 fun n hn => ?_, fun n hn => (e n).1 (h3 n hn), ?_⟩
    · have := (e n).1 (h3 n hn); exact ⟨this.1, this.2.1⟩
    · rcases h4 with h4 | ⟨h4, h5⟩
      · exact .inl fun n hn => h4 n ((e n).2 hn)
      · exact .inr ⟨h4, fun n hn => h5 n ((e n).2 hn)⟩
  have hn12 := numbers_is p.f2 12 (by omega)
  have hn31 := numbers_is p.f3 31 (by omega)
  rw [← hms] at hn12
  rw [← hds] at hn31
  obtain ⟨s, h1, h2⟩ := hroad
  have hj : ∀ b : Bool, b = false → Ev (fun k => point_dated.j0 k (setV p.f1) ms ds b) s := fun b hb => by
    rw [hb]
    exact Ev.step (f := fun k => point_dated.l0 k ms ds [] (setV p.f1) ((setV p.f1).length : Int) 0) (fun k => by rw [point_dated.j0, if_neg (by simp)]) h1
  by_cases c12 : (ms.length : Int) = 12
  · by_cases c31 : (ds.length : Int) = 31
    ·
      have hu := units_f (kind := 3) (.inr (.inr (.inr (.inl rfl)))) hs1 (fun n hn => by have := setV_year _ _ hn; exact ⟨this.1, by show n < 10000; omega⟩) (by omega)
      have hcov := Cover_l0 (setV p.f1) [] [] (setV_bounds p.f1) (by simp; omega) (by simp; omega) (pair_rising (List.Pairwise.map yrun (fun a b h => numY_mono h) (sane_pair hs1)))
      simp only [List.nil_append, List.length_nil, Int.natCast_zero] at hcov
      refine ⟨norm ((setV p.f1).map yrun), ?_, norm_sane _, hsz _ (norm_sane _) fun n hn => ?_, fun n hn => ?_, .inl fun n hn => ?_⟩
      · unfold point_dated.f
        refine Ev.bnow (x := setV p.f1) rfl (Ev.bind hn12 (Ev.bind hn31 (Ev.ift c12 ?_)))
        refine Ev.step (f := fun k => (image_Cover.f k 3 (setV p.f1)).bind fun t => some t) (fun k => by rw [point_dated.j0, if_pos (by simpa using c31)]) ?_
        exact Ev.bind (Ev.bind hu hcov) (Ev.now _)
      · have := (mem_cover (setV_bounds p.f1) n).1 hn; exact ⟨this.1, this.2.1⟩
      · have h := (mem_cover (setV_bounds p.f1) n).1 hn
        obtain ⟨e, a, b, c, d⟩ := date_num n
        rw [hms] at c12; rw [hds] at c31
        exact ⟨h.1, h.2.1, (hs3 _).1 h.2.2, (numV_full p.f2.data.toList 12).1 (by omega) _ a b, (numV_full p.f3.data.toList 31).1 (by omega) _ c (by have := dim_any (y := (dateD n).1) (m := (dateD n).2.1); omega)⟩
      · exact (mem_cover (setV_bounds p.f1) n).2 ⟨hn.1, hn.2.1, (hs3 _).2 hn.2.2.1⟩
    · refine ⟨s, ?_, h2⟩
      unfold point_dated.f
      exact Ev.bnow (x := setV p.f1) rfl (Ev.bind hn12 (Ev.bind hn31 (Ev.ift c12 (hj _ (by simpa using c31)))))
  · refine ⟨s, ?_, h2⟩
    unfold point_dated.f
    exact Ev.bnow (x := setV p.f1) rfl (Ev.bind hn12 (Ev.bind hn31 (Ev.iff_ c12 (hj _ rfl))))
theorem upRs_len : ∀ {s : List S42} {a : Int}, saneF a s → ((upRs s).length : Int) = cnt s ∧ (s.length : Int) ≤ cnt s
  | [], _, _ => ⟨rfl, Int.le_refl _⟩
  | r :: t, a, h => by
    obtain ⟨h1, h2⟩ := upRs_len h.2.2.2
    have h3 := h.2.1
    unfold upRs at h1 ⊢
    rw [List.flatMap_cons, List.length_append, List.length_cons]
    have e : (upR r.f0 r.f1).length = (r.f1 + 1 - r.f0).toNat := by unfold upR; simp
    rw [e]
    show _ = (r.f1 - r.f0 + 1) + cnt t ∧ _ ≤ (r.f1 - r.f0 + 1) + cnt t
    omega
theorem upto_range : ∀ (n : Nat) (a : Int), upto a n = (List.range n).map fun (j : Nat) => a + (j : Int)
  | 0, a => rfl
  | n + 1, a => by
    rw [upto, upto_range n (a + 1), List.range_succ_eq_map, List.map_cons, List.map_map]
    congr 1
    · simp
    · apply List.map_congr_left
      intro j _
      simp only [Function.comp_apply]
      omega
theorem upRs_nums (s : List S42) : upRs s = s.flatMap numsR := by
  have e : (fun r : S42 => upR r.f0 r.f1) = numsR := by
    funext r
    unfold upR numsR
    rw [upto_range]
  unfold upRs
  rw [e]
def fm (v : Int) : Int := numD (v / 12) (v % 12 + 1) 1
theorem fm_step {v : Int} (h : 0 ≤ v) : fm v ≤ fm (v + 1) := by
  unfold fm
  by_cases h11 : v % 12 = 11
  · rw [show (v + 1) / 12 = v / 12 + 1 by omega, show (v + 1) % 12 + 1 = 1 by omega]
    have d := (dim_pos (y := v / 12) (m := v % 12 + 1) (by omega) (by omega)).1
    have := (num_year (y := v / 12) (m := v % 12 + 1) (d := 1) (by omega) (by omega) (by omega) (by omega)).2
    omega
  · rw [show (v + 1) / 12 = v / 12 by omega, show (v + 1) % 12 + 1 = v % 12 + 1 + 1 by omega]
    exact month_le (by omega) (by omega) (by omega)
theorem fm_mono : ∀ (n : Nat) (v : Int), 0 ≤ v → fm v ≤ fm (v + n)
  | 0, v, _ => by simp
  | n + 1, v, h => by
    have a := fm_mono n v h
    have b := fm_step (v := v + n) (by omega)
    have e : v + ((n + 1 : Nat) : Int) = v + n + 1 := by omega
    rw [e]; omega
theorem fm_le {v w : Int} (h0 : 0 ≤ v) (h : v ≤ w) : fm v ≤ fm w := by
  have := fm_mono (w - v).toNat v h0
  rwa [show v + ((w - v).toNat : Int) = w by omega] at this
theorem First_v {kind : Int} (hk : kindOk kind) (h0 : kind ≠ 0) {i : Int} (hi : 0 ≤ i ∧ i < kcount kind.toNat) : (unit_First.val kind i).1 = fm (kf kind.toNat + km kind.toNat * i) ∧ 0 ≤ kf kind.toNat + km kind.toNat * i := by
  have hkk : kind = 1 ∨ kind = 2 ∨ kind = 3 ∨ kind = 4 ∨ kind = 5 := by unfold kindOk at hk; omega
  have hv : 0 ≤ kf kind.toNat + km kind.toNat * i ∧ kf kind.toNat + km kind.toNat * i ≤ 119999 ∧ km kind.toNat * i ≤ 119999 ∧ 0 ≤ km kind.toNat * i := by
    rcases hkk with rfl | rfl | rfl | rfl | rfl
    · have : i < 120000 := hi.2; show 0 ≤ 0 + 1 * i ∧ 0 + 1 * i ≤ 119999 ∧ 1 * i ≤ 119999 ∧ 0 ≤ 1 * i; omega
    · have : i < 40000 := hi.2; show 0 ≤ 2 + 3 * i ∧ 2 + 3 * i ≤ 119999 ∧ 3 * i ≤ 119999 ∧ 0 ≤ 3 * i; omega
    · have : i < 10000 := hi.2; show 0 ≤ 0 + 12 * i ∧ 0 + 12 * i ≤ 119999 ∧ 12 * i ≤ 119999 ∧ 0 ≤ 12 * i; omega
    · have : i < 1000 := hi.2; show 0 ≤ 0 + 120 * i ∧ 0 + 120 * i ≤ 119999 ∧ 120 * i ≤ 119999 ∧ 0 ≤ 120 * i; omega
    · have : i < 100 := hi.2; show 0 ≤ 0 + 1200 * i ∧ 0 + 1200 * i ≤ 119999 ∧ 1200 * i ≤ 119999 ∧ 0 ≤ 1200 * i; omega
  refine ⟨?_, hv.1⟩
  obtain ⟨v, hvv⟩ : ∃ v, v = kf kind.toNat + km kind.toNat * i := ⟨_, rfl⟩
  have hb : unit_begins.f kind.toNat i = some (fm v) := by
    unfold unit_begins.f
    rw [if_neg (by omega)]
    unfold unit_span_begins.f
    rw [w64 (x := km kind.toNat * i) (by omega) (by omega), ← hvv, w64 (x := v) (by omega) (by omega), td_ (by omega) (by omega), tm_ (by omega), w64 (x := v / 12) (by omega) (by omega), w64 (x := v % 12 + 1) (by omega) (by omega), Number_f (by omega) (by omega) (by omega) (by omega)]
    rfl
  unfold unit_First.val unit_First.f
  rw [if_pos hk, if_neg (by omega), if_neg (by omega), hb, ← hvv]
  rfl
theorem firsts_rise {kind : Int} (hk : kindOk kind) (h0 : kind ≠ 0) {s : List S42} (hs : sane s) (hb : ∀ n, mem s n → 0 ≤ n ∧ n < kcount kind.toNat) : ((upRs s).map fun n => (unit_First.val kind n).1).Pairwise (· ≤ ·) := by
  have hm : ∀ n, n ∈ upRs s → 0 ≤ n ∧ n < kcount kind.toNat := fun n hn => by rw [upRs_nums] at hn; exact hb n ((nums_mem s n).1 hn)
  have ha : asc (upRs s) := by rw [upRs_nums]; exact asc_nums hs
  have key : ∀ {l : List Int}, asc l → (∀ n, n ∈ l → 0 ≤ n ∧ n < kcount kind.toNat) → (l.map fun n => (unit_First.val kind n).1).Pairwise (· ≤ ·) := by
    intro l
    induction l with
    | nil => intro _ _; exact List.Pairwise.nil
    | cons x t ih =>
      intro h hb
      have h' := List.pairwise_cons.1 h
      rw [List.map_cons]
      refine List.pairwise_cons.2 ⟨fun z hz => ?_, ih h'.2 fun n hn => hb n (List.mem_cons_of_mem _ hn)⟩
      obtain ⟨w, hw, rfl⟩ := List.mem_map.1 hz
      obtain ⟨e1, e2⟩ := First_v hk h0 (hb x List.mem_cons_self)
      obtain ⟨e3, _⟩ := First_v hk h0 (hb w (List.mem_cons_of_mem _ hw))
      rw [e1, e3]
      have hkm : 0 ≤ km kind.toNat := by unfold km; split <;> omega
      have := Int.mul_le_mul_of_nonneg_left (show x ≤ w by have := h'.1 w hw; omega) hkm
      exact fm_le e2 (by omega)
  exact key ha hm
def wideV (kind : Int) (s : List S42) : Bool := if kind = 0 then decide ((s.length : Int) > 400) else decide (cnt s > 400)
theorem starts_f {kind : Int} (hk : kindOk kind) {s : List S42} (hs : sane s) (hb : ∀ n, mem s n → 0 ≤ n ∧ n < kcount kind.toNat) (hl : s.length ≤ 4000000) : ∃ q, Ev (fun k => image_Starts.f k kind s) (q, !wideV kind s) := by
  have hu := units_f hk hs hb (by omega)
  unfold image_Starts.f
  by_cases h0 : kind = 0
  · have hw := Wide_f hs (by omega)
    rw [norm_of_sane hs] at hw
    have hwv : wideV kind s = decide ((s.length : Int) > 400) := by unfold wideV; rw [if_pos h0]
    rw [hwv]
    have hm : Ev (fun k => image_marksv.f unit_First.val k kind s) (s, !decide ((s.length : Int) > 400)) := Ev.bind hu (Ev.ift h0 (Ev.bind hw (Ev.now _)))
    by_cases hc : (s.length : Int) > 400
    · rw [decide_eq_true hc] at hm ⊢
      exact ⟨[], Ev.bind hm (Ev.iff_ (by simp) (Ev.now _))⟩
    · rw [decide_eq_false hc] at hm ⊢
      exact ⟨s, Ev.bind hm (Ev.ift rfl (Ev.now _))⟩
  · have hct := Count_f hs (by omega)
    rw [norm_of_sane hs] at hct
    have hwv : wideV kind s = decide (cnt s > 400) := by unfold wideV; rw [if_neg h0]
    rw [hwv]
    by_cases hc : cnt s > 400
    · rw [decide_eq_true hc]
      have hm : Ev (fun k => image_marksv.f unit_First.val k kind s) ([], false) := Ev.bind hu (Ev.iff_ h0 (Ev.bind hct (Ev.ift hc (Ev.now _))))
      exact ⟨[], Ev.bind hm (Ev.iff_ (by simp) (Ev.now _))⟩
    · rw [decide_eq_false hc]
      obtain ⟨l1, l2⟩ := upRs_len hs
      have hp := kcount_pos kind.toNat
      have hok : okU s := ⟨by omega, by omega, fun r hr => by
        obtain ⟨_, hle, _⟩ := saneF_all hs r hr
        have a := hb r.f0 ⟨r, hr, Int.le_refl _, hle⟩
        have b := hb r.f1 ⟨r, hr, hle, Int.le_refl _⟩
        exact ⟨by omega, by omega, by omega⟩⟩
      have hof := Of_f ((upRs s).map fun n => (unit_First.val kind n).1) (firsts_rise hk h0 hs hb) (by rw [List.length_map]; omega)
      have hm : Ev (fun k => image_marksv.f unit_First.val k kind s) (_, true) := Ev.bind hu (Ev.iff_ h0 (Ev.bind hct (Ev.iff_ hc (Ev.ift hok (Ev.bind hof (Ev.now _))))))
      exact ⟨_, Ev.bind hm (Ev.ift rfl (Ev.now _))⟩
theorem known8_f {kind : Int} (hk : kindOk kind) {s : List S42} (hs : sane s) (hb : ∀ n, mem s n → 0 ≤ n ∧ n < kcount kind.toNat) (hl : s.length ≤ 4000000) : Ev (fun k => point_known.f k kind s) (if wideV kind s = true then ([], 8) else (s, 0)) := by
  obtain ⟨q, hq⟩ := starts_f hk hs hb hl
  unfold point_known.f
  refine Ev.bind hq ?_
  cases wideV kind s with
  | true => exact Ev.iff_ (by simp) (Ev.now _)
  | false => exact Ev.ift rfl (Ev.now _)
def unitP (p : S23) (n : Int) : Prop :=
  if p.f0 = 0 then dayP p n
  else if p.f0 = 1 then 0 ≤ n ∧ refV p.f1.data.toList (n / 12) = true ∧ refV p.f2.data.toList (n % 12 + 1) = true
  else if p.f0 = 2 then 0 ≤ n ∧ refV p.f1.data.toList (n / 4) = true ∧ refV p.f2.data.toList (n % 4 + 1) = true
  else refV p.f1.data.toList n = true
theorem unitP_range {p : S23} (hp : ptV p = true) {n : Int} (h : unitP p n) : 0 ≤ n ∧ n < kcount p.f0.toNat := by
  obtain ⟨_, hk⟩ := pt_kinds hp
  unfold unitP at h
  rcases hk with ⟨e, hl, _⟩ | ⟨e, hl, _⟩ | ⟨e, hl, _⟩ | ⟨e, hl, _⟩ | ⟨e, hl, _⟩ | ⟨e, hl, _⟩ <;> rw [e] at h ⊢ <;> simp at h
  · exact ⟨h.1, by show n < 3652425; have := h.2.1; omega⟩
  · have := setV_dig _ _ h.2.1; rw [hl] at this
    exact ⟨h.1, by show n < 120000; omega⟩
  · have := setV_dig _ _ h.2.1; rw [hl] at this
    exact ⟨h.1, by show n < 40000; omega⟩
  · have := setV_dig _ _ h; rw [hl] at this
    exact ⟨this.1, by show n < 10000; omega⟩
  · have := setV_dig _ _ h; rw [hl] at this
    exact ⟨this.1, by show n < 1000; omega⟩
  · have := setV_dig _ _ h; rw [hl] at this
    exact ⟨this.1, by show n < 100; omega⟩
theorem sane_len {s : List S42} (hs : sane s) (hb : ∀ n, mem s n → 0 ≤ n ∧ n < 3652425) : s.length ≤ 4000000 := by
  have key : ∀ (t : List S42) (a : Int), saneF a t → (∀ n, mem t n → n ≤ 3652424) → -2 ≤ a → a ≤ 3652424 → (t.length : Int) ≤ 3652424 - a := fun t => by
    induction t with
    | nil => intro a _ _ _ h; simp; omega
    | cons r t ih =>
      intro a hs hn ha ha2
      have h1 := hn r.f1 ⟨r, List.mem_cons_self, hs.2.1, Int.le_refl _⟩
      have := ih r.f1 hs.2.2.2 (fun n h => hn n ((mem_cons _ _ _).2 (.inr h))) (by have := hs.1; have := hs.2.1; omega) h1
      have h2 := hs.1; have h3 := hs.2.1
      rw [List.length_cons]; omega
  cases s with
  | nil => simp
  | cons r t =>
    have h3 := hb r.f0 ⟨r, List.mem_cons_self, Int.le_refl _, hs.2.1⟩
    have := key (r :: t) (-2) ⟨by omega, hs.2.1, hs.2.2.1, hs.2.2.2⟩ (fun n h => by have := (hb n h).2; omega) (by omega) (by omega)
    omega
theorem Set_f (p : S23) (hp : ptV p = true) : ∃ s, Ev (fun k => point_Set.f k p.f0 p.f1 p.f2 p.f3) (if wideV p.f0 s = true then ([], 8) else (s, 0)) ∧ sane s ∧ s.length ≤ 4000000 ∧ (∀ n, mem s n → unitP p n) ∧
    ((∀ n, unitP p n → mem s n) ∨ (p.f0 = 0 ∧ 400 < s.length ∧ ∀ n, unitP p n → ¬ mem s n → ∀ x, mem s x → x < n)) := by
  have hsane := ptSane_f p
  rw [hp] at hsane
  have hr := fun n => unitP_range (n := n) hp
  have hk : kindOk p.f0 := by
    obtain ⟨_, hk⟩ := pt_kinds hp
    rcases hk with h | h | h | h | h | h <;> rw [h.1] <;> unfold kindOk <;> omega
  have hset : mask_Set.f p.f1 = some (setV p.f1) := rfl
  obtain ⟨hs1, hs2, hs3⟩ := setV_is p.f1
  have hkn : ∀ s, sane s → (∀ n, mem s n → unitP p n) → Ev (fun k => (point_known.f k p.f0 s).bind fun b => some (b.1, b.2)) (if wideV p.f0 s = true then ([], 8) else (s, 0)) := fun s h1 h2 =>
    Ev.bind (known8_f hk h1 (fun n hn => hr n (h2 n hn)) (sane_len h1 fun n hn => by have := hr n (h2 n hn); have := kcount_pos p.f0.toNat; omega)) (Ev.eq (Ev.now _) (by split <;> rfl))
  have hlen : ∀ s, sane s → (∀ n, mem s n → unitP p n) → s.length ≤ 4000000 := fun s h1 h2 => sane_len h1 fun n hn => by have := hr n (h2 n hn); have := kcount_pos p.f0.toNat; omega
  unfold point_Set.f
  by_cases c0 : p.f0 = 0
  · obtain ⟨s, e, h1, h2, h3, h4⟩ := dated_f p
    have eu : ∀ n, unitP p n ↔ dayP p n := fun n => by unfold unitP; rw [if_pos c0]
    have h3' : ∀ n, mem s n → unitP p n := fun n hn => (eu n).2 (h3 n hn)
    refine ⟨s, Ev.bind hsane (Ev.ift rfl (Ev.bnow hset (Ev.ift c0 (Ev.bind e (hkn s h1 h3'))))), h1, h2, h3', ?_⟩
    rcases h4 with h4 | ⟨h4, h5⟩
    · exact .inl fun n hn => h4 n ((eu n).1 hn)
    · exact .inr ⟨c0, h4, fun n hn => h5 n ((eu n).1 hn)⟩
  · by_cases c1 : p.f0 = 1
    · have e := parts_f p 12 (by omega)
      have eu : ∀ n, unitP p n ↔ mem (partsV 12 p) n := fun n => by
        rw [parts_mem 12 (by omega)]
        have hh : unitP p n ↔ (0 ≤ n ∧ refV p.f1.data.toList (n / 12) = true ∧ refV p.f2.data.toList (n % 12 + 1) = true) := by unfold unitP; rw [if_neg c0, if_pos c1]
        constructor
        · intro h
          have h' := hh.1 h
          have := hr n h
          rw [c1] at this
          exact ⟨h'.1, by have : n < 120000 := this.2; show n < 10000 * 12; omega, h'.2.1, h'.2.2⟩
        · rintro ⟨a, b, c, d⟩; exact hh.2 ⟨a, c, d⟩
      have hs : sane (partsV 12 p) := norm_sane _
      exact ⟨partsV 12 p, Ev.bind hsane (Ev.ift rfl (Ev.bnow hset (Ev.iff_ c0 (Ev.ift c1 (Ev.bind e (hkn _ hs fun n hn => (eu n).2 hn)))))), hs, hlen _ hs (fun n hn => (eu n).2 hn), fun n hn => (eu n).2 hn, .inl fun n hn => (eu n).1 hn⟩
    · by_cases c2 : p.f0 = 2
      · have e := parts_f p 4 (by omega)
        have eu : ∀ n, unitP p n ↔ mem (partsV 4 p) n := fun n => by
          rw [parts_mem 4 (by omega)]
          have hh : unitP p n ↔ (0 ≤ n ∧ refV p.f1.data.toList (n / 4) = true ∧ refV p.f2.data.toList (n % 4 + 1) = true) := by unfold unitP; rw [if_neg c0, if_neg c1, if_pos c2]
          constructor
          · intro h
            have h' := hh.1 h
            have := hr n h
            rw [c2] at this
            exact ⟨h'.1, by have : n < 40000 := this.2; show n < 10000 * 4; omega, h'.2.1, h'.2.2⟩
          · rintro ⟨a, b, c, d⟩; exact hh.2 ⟨a, c, d⟩
        have hs : sane (partsV 4 p) := norm_sane _
        exact ⟨partsV 4 p, Ev.bind hsane (Ev.ift rfl (Ev.bnow hset (Ev.iff_ c0 (Ev.iff_ c1 (Ev.ift c2 (Ev.bind e (hkn _ hs fun n hn => (eu n).2 hn))))))), hs, hlen _ hs (fun n hn => (eu n).2 hn), fun n hn => (eu n).2 hn, .inl fun n hn => (eu n).1 hn⟩
      · have eu : ∀ n, unitP p n ↔ mem (setV p.f1) n := fun n => by unfold unitP; rw [if_neg c0, if_neg c1, if_neg c2, hs3]
        exact ⟨setV p.f1, Ev.bind hsane (Ev.ift rfl (Ev.bnow hset (Ev.iff_ c0 (Ev.iff_ c1 (Ev.iff_ c2 (hkn _ hs1 fun n hn => (eu n).2 hn)))))), hs1, hlen _ hs1 (fun n hn => (eu n).2 hn), fun n hn => (eu n).2 hn, .inl fun n hn => (eu n).1 hn⟩
theorem Same_l0 : ∀ (t u p q : List S42), (p ++ t).length ≤ 4611686018427387904 → p.length = q.length → t.length = u.length →
    ∃ b, Ev (fun k => lustrumref04_Same.l0 k (p ++ t) (q ++ u) (p.length : Int)) b ∧ (b = true ↔ t = u)
  | [], [], p, q, _, _, _ => ⟨true, Ev.step (f := fun _ => some true) (fun k => by simp only [lustrumref04_Same.l0]; rw [if_neg (at_end p)]) (Ev.now _), by simp⟩
  | [], y :: u, _, _, _, _, h => by simp at h
  | x :: t, [], _, _, _, _, h => by simp at h
  | x :: t, y :: u, p, q, hn, hl, h => by
    by_cases c : x.f0 = y.f0 ∧ x.f1 = y.f1
    · obtain ⟨b, hb, hs⟩ := Same_l0 t u (p ++ [x]) (q ++ [y]) (by rw [← at_app]; exact hn) (by simp [hl]) (by simpa using h)
      rw [← at_app, ← at_app] at hb
      refine ⟨b, Ev.step (fun k => ?_) hb, ?_⟩
      · simp only [lustrumref04_Same.l0]
        rw [if_pos (at_lt p x t), if_pos (at_0 p), if_pos (by rw [hl]; exact at_lt q y u), at_rd, show rd_T42 (q ++ y :: u) (p.length : Int) = y by rw [hl]; exact at_rd q y u, if_neg (by simp [c.1, c.2]), at_next hn]
      · rw [hs, show x = y from S42.ext2 c.1 c.2]; simp
    · refine ⟨false, Ev.step (f := fun _ => some false) (fun k => ?_) (Ev.now _), ?_⟩
      · simp only [lustrumref04_Same.l0]
        rw [if_pos (at_lt p x t), if_pos (at_0 p), if_pos (by rw [hl]; exact at_lt q y u), at_rd, show rd_T42 (q ++ y :: u) (p.length : Int) = y by rw [hl]; exact at_rd q y u, if_pos]
        by_cases h0 : x.f0 = y.f0
        · simp [h0]; exact fun h1 => c ⟨h0, h1⟩
        · simp [h0]
      · constructor
        · intro h; simp at h
        · intro h
          obtain ⟨rfl, _⟩ := List.cons.inj h
          exact absurd ⟨rfl, rfl⟩ c
theorem Same_f (s t : List S42) (hn : s.length ≤ 4611686018427387904) : ∃ b, Ev (fun k => lustrumref04_Same.f k s t) b ∧ (b = true ↔ s = t) := by
  by_cases c : s.length = t.length
  · obtain ⟨b, hb, hs⟩ := Same_l0 s t [] [] (by simpa using hn) rfl c
    exact ⟨b, Ev.congr (fun k => by unfold lustrumref04_Same.f; rw [if_pos (by rw [c])]; rfl) hb, hs⟩
  · exact ⟨false, Ev.congr (fun k => by unfold lustrumref04_Same.f; rw [if_neg (by omega)]) (Ev.now _), by simp; intro h; exact c (by rw [h])⟩
theorem Same_t {s t : List S42} (hn : s.length ≤ 4611686018427387904) (h : s = t) : Ev (fun k => lustrumref04_Same.f k s t) true := by
  obtain ⟨b, hb, hs⟩ := Same_f s t hn
  rwa [hs.2 h] at hb
theorem and_range (x : Int) (m : Nat) (hm : m < 2 ^ 62) : 0 ≤ Go.bits .and .i64 x m ∧ Go.bits .and .i64 x m ≤ m := by
  have h : (BitVec.ofInt IntKind.i64.bits (m : Int)).toNat = m := by
    rw [BitVec.ofInt_natCast, BitVec.toNat_ofNat]
    exact Nat.mod_eq_of_lt (Nat.lt_of_lt_of_le hm (Nat.pow_le_pow_right (by decide) (by decide)))
  have h2 : ((BitVec.ofInt IntKind.i64.bits x) &&& (BitVec.ofInt IntKind.i64.bits (m : Int))).toNat ≤ m := by
    rw [BitVec.toNat_and, h]; exact Nat.and_le_right
  have h3 : Go.bits .and .i64 x m = IntKind.i64.wrap (((BitVec.ofInt IntKind.i64.bits x) &&& (BitVec.ofInt IntKind.i64.bits (m : Int))).toNat : Int) := by simp only [Go.bits]
  rw [h3, IntKind.wrap_i64]
  have : (m : Int) < 2 ^ 62 := by exact_mod_cast hm
  omega
def digL (n : Nat) : Nat → List UInt8
  | 0 => []
  | m + 1 => digL (n / 10) m ++ [UInt8.ofNat (48 + n % 10)]
theorem digL_len : ∀ (m n : Nat), (digL n m).length = m
  | 0, _ => rfl
  | m + 1, n => by rw [digL, List.length_append, digL_len m]; rfl
theorem dig_nat (n : Nat) : (UInt8.ofNat (48 + n % 10)).toNat = 48 + n % 10 := by rw [UInt8.toNat_ofNat']; omega
theorem digL_ok : ∀ (m n : Nat), (digL n m).all okB = true
  | 0, _ => rfl
  | m + 1, n => by
    rw [digL, List.all_append, digL_ok m, Bool.true_and]
    have : okB (UInt8.ofNat (48 + n % 10)) = true := by unfold okB; rw [dig_nat]; exact decide_eq_true (by omega)
    rw [List.all_cons, List.all_nil, this]; rfl
theorem refR_dig : ∀ (m n u : Nat), n < 10 ^ m → u < 10 ^ m → (refR (digL n m).reverse u = true ↔ u = n)
  | 0, n, u, hn, hu => by
    have : n = 0 := by simp at hn; omega
    have : u = 0 := by simp at hu; omega
    subst_vars
    simp [digL, refR]
  | m + 1, n, u, hn, hu => by
    rw [digL, List.reverse_append, List.reverse_cons, List.reverse_nil, List.nil_append, List.singleton_append, refR, Bool.and_eq_true, refR_dig m (n / 10) (u / 10) (by rw [Nat.pow_succ] at hn; omega) (by rw [Nat.pow_succ] at hu; omega), dig_nat, Bool.or_eq_true, decide_eq_true_eq, decide_eq_true_eq]
    omega
theorem refV_dig {m n : Nat} (h1 : 1 ≤ m) (h4 : m ≤ 4) (hn : n < 10 ^ m) (x : Int) : refV (digL n m) x = true ↔ x = n := by
  have hs : saneL (digL n m) = true := sane_of (digL_ok m n) (fun e => by have := digL_len m n; rw [e] at this; simp at this; omega) (by rw [digL_len]; exact h4)
  unfold refV
  rw [hs, digL_len, Bool.true_and, Bool.and_eq_true, Bool.and_eq_true, decide_eq_true_eq, decide_eq_true_eq]
  constructor
  · rintro ⟨⟨a, b⟩, c⟩
    have := (refR_dig m n x.toNat hn (by omega)).1 c
    omega
  · rintro rfl
    exact ⟨⟨by omega, by exact_mod_cast hn⟩, (refR_dig m n _ hn (by simpa using hn)).2 (by simp)⟩
theorem dig_sane {m n : Nat} (h1 : 1 ≤ m) (h4 : m ≤ 4) : saneL (digL n m) = true := sane_of (digL_ok m n) (fun e => by have := digL_len m n; rw [e] at this; simp at this; omega) (by rw [digL_len]; exact h4)
theorem digits_l0 (t : Nat) (ht : t ≤ 10) : ∀ (m n : Nat) (acc : List UInt8), m ≤ t → n < 4611686018427387904 → acc.length + m ≤ 100 → Ev (fun k => lustrumlaw08_digits.l0 k (n : Int) (t : Int) (bA acc) ((t : Int) - m)) (bA (digL n m ++ acc))
  | 0, n, acc, _, _, _ => Ev.step (f := fun _ => some (bA acc)) (fun k => by rw [lustrumlaw08_digits.l0, if_neg (by omega)]) (Ev.eq (Ev.now _) (by simp [digL]))
  | m + 1, n, acc, hm, hn, hl => by
    have e1 : wrap64 (Int.tdiv (n : Int) 10) = ((n / 10 : Nat) : Int) := tdiv10 hn
    have e2 : Int.tmod (n : Int) 10 = ((n % 10 : Nat) : Int) := tmod10 n
    have e3 : wrap64 (48 + ((n % 10 : Nat) : Int)) % 256 = ((48 + n % 10 : Nat) : Int) := by rw [w64 (by omega) (by omega)]; omega
    have e4 : strOfNums [((48 + n % 10 : Nat) : Int)] = bA [UInt8.ofNat (48 + n % 10)] := by
      refine ba_eq ?_
      unfold strOfNums
      rw [bA_data]
      show [((48 + n % 10 : Nat) : Int).toNat.toUInt8] = _
      rw [Int.toNat_natCast]
    have e5 : bA [UInt8.ofNat (48 + n % 10)] ++ bA acc = bA (UInt8.ofNat (48 + n % 10) :: acc) := ba_eq (by rw [ba_app, bA_data, bA_data, bA_data]; rfl)
    have e6 : wrap64 ((t : Int) - ((m + 1 : Nat) : Int) + 1) = (t : Int) - m := by rw [w64 (by omega) (by omega)]; omega
    refine Ev.step (f := fun k => lustrumlaw08_digits.l0 k ((n / 10 : Nat) : Int) (t : Int) (bA (UInt8.ofNat (48 + n % 10) :: acc)) ((t : Int) - m)) (fun k => by
      rw [lustrumlaw08_digits.l0, if_pos (by omega), Option.bind_some, e2, e3, e4, if_pos (by rw [bA_size, bA_size]; simp; omega), e1, e5, e6]) ?_
    have := digits_l0 t ht m (n / 10) (UInt8.ofNat (48 + n % 10) :: acc) (by omega) (by omega) (by rw [List.length_cons]; omega)
    rw [digL, List.append_assoc]
    exact this
theorem digits_f (n : Nat) (m : Nat) (hm : m ≤ 10) (hn : n < 4611686018427387904) : Ev (fun k => lustrumlaw08_digits.f k (n : Int) (m : Int)) (bA (digL n m)) := by
  have := digits_l0 m hm m n [] (Nat.le_refl _) hn (by simp; omega)
  rw [List.append_nil, show (m : Int) - m = 0 by omega] at this
  exact this
theorem monthly_f {n : Int} (h0 : 0 ≤ n) (h1 : n ≤ 3652424) : Ev (fun k => unit_monthly.f k n) (12 * (dateD n).1 + (dateD n).2.1 - 1) := by
  have hy := date_year h0 h1
  obtain ⟨_, a, b, _, _⟩ := date_num n
  unfold unit_monthly.f
  have hd := Date_f n
  unfold dateV at hd
  rw [if_neg (by omega)] at hd
  refine Ev.bind hd (Ev.eq (Ev.now _) ?_)
  simp (disch := omega) only [w64]
theorem Of_day {n : Int} (h0 : 0 ≤ n) (h1 : n ≤ 3652424) : Ev (fun k => unit_Of.f k 0 n) (n, true) := by
  unfold unit_Of.f
  refine Ev.ift (.inl rfl) (Ev.iff_ (by omega) (Ev.iff_ (by omega) (Ev.bnow (x := n) rfl (Ev.eq (Ev.now _) ?_))))
  rw [decide_eq_true h0, Int.max_eq_left h0]
theorem Of_kind {kind : Int} (c : Nat) (hc : 1 ≤ c) (hk : kind = 1 ∧ c = 1 ∨ kind = 3 ∧ c = 12 ∨ kind = 4 ∧ c = 120 ∨ kind = 5 ∧ c = 1200) {n : Int} (h0 : 0 ≤ n) (h1 : n ≤ 3652424) : Ev (fun k => unit_Of.f k kind n) ((12 * (dateD n).1 + (dateD n).2.1 - 1) / c, true) := by
  have hy := date_year h0 h1
  obtain ⟨_, a, b, _, _⟩ := date_num n
  have hko : kindOk kind := by unfold kindOk; omega
  have hkm : km kind.toNat = (c : Int) ∧ kf kind.toNat = 0 ∧ kind.toNat ≠ 0 := by
    rcases hk with ⟨rfl, rfl⟩ | ⟨rfl, rfl⟩ | ⟨rfl, rfl⟩ | ⟨rfl, rfl⟩ <;> exact ⟨rfl, rfl, by decide⟩
  obtain ⟨v, hv⟩ : ∃ v, v = 12 * (dateD n).1 + (dateD n).2.1 - 1 := ⟨_, rfl⟩
  have hm := monthly_f h0 h1
  rw [← hv] at hm ⊢
  have v0 : 0 ≤ v := by omega
  have v1 : v ≤ 200000 := by omega
  have hq0 : 0 ≤ v / c := Int.ediv_nonneg v0 (by omega)
  have hq1 : v / c ≤ v := Int.ediv_le_self _ v0
  unfold unit_Of.f
  refine Ev.ift hko (Ev.iff_ (by omega) (Ev.iff_ (by omega) ?_))
  have hn : Ev (fun k => unit_number.f k kind.toNat n) (v / c) := by
    unfold unit_number.f
    refine Ev.iff_ hkm.2.2 ?_
    rw [hkm.1, hkm.2.1]
    unfold unit_span_number.f
    refine Ev.bind hm ?_
    rw [Int.sub_zero, w64 (x := v) (by omega) (by omega)]
    refine Ev.iff_ (by omega) (Ev.iff_ (by omega) (Ev.eq (Ev.now _) ?_))
    rw [td_ v0 (by omega), w64 (by omega) (by omega)]
  refine Ev.bind hn (Ev.eq (Ev.now _) ?_)
  rw [decide_eq_true hq0, Int.max_eq_left hq0]
theorem one_set {s : List S42} {u : Int} (hs : sane s) (hu : -lim ≤ u ∧ u ≤ lim) (h1 : ∀ n, mem s n → n = u) : s = [] ∨ s = [(⟨u, u⟩ : S42)] := by
  by_cases h : mem s u
  · refine .inr (same hs ⟨by show -lim - 2 + 2 ≤ u; omega, Int.le_refl _, hu.2, trivial⟩ fun n => ?_)
    rw [mem_one]
    simp only
    constructor
    · intro hn; have := h1 n hn; omega
    · intro hn
      have : n = u := by omega
      rw [this]; exact h
  · refine .inl (same hs trivial fun n => ⟨fun hn => ?_, fun hn => absurd hn (mem_nil n)⟩)
    rw [h1 n hn] at hn; exact absurd hn h
theorem Set_one {p : S23} (hp : ptV p = true) {u : Int} (h : ∀ n, unitP p n ↔ n = u) : Ev (fun k => point_Set.f k p.f0 p.f1 p.f2 p.f3) ([(⟨u, u⟩ : S42)], 0) := by
  obtain ⟨s, s1, s2, s3, s4, s5⟩ := Set_f p hp
  have hr := unitP_range hp ((h u).2 rfl)
  have hK := kcount_pos p.f0.toNat
  have hone := one_set s2 (u := u) (by unfold lim; omega) fun n hn => (h n).1 (s4 n hn)
  have hs : s = [(⟨u, u⟩ : S42)] := by
    rcases hone with e | e
    · exfalso
      rcases s5 with s5 | ⟨_, s5, _⟩
      · have := s5 u ((h u).2 rfl); rw [e] at this; exact mem_nil u this
      · rw [e] at s5; simp at s5
    · exact e
  have hw : wideV p.f0 s = false := by
    rw [hs]; unfold wideV
    split
    · rfl
    · show decide ((u - u + 1) + 0 > 400) = false
      exact decide_eq_false (by omega)
  rw [hw] at s1
  rw [hs] at s1
  exact s1
def good (d : Int) (q : S23) : Prop := ∃ u, Ev (fun k => point_Set.f k q.f0 q.f1 q.f2 q.f3) ([(⟨u, u⟩ : S42)], 0) ∧ Ev (fun k => unit_Of.f k q.f0 d) (u, true)
theorem Only_loop (d m e : Int) (ys : ByteArray) (R : Bool) : ∀ (t p : List S23), (∀ q, q ∈ t → good d q) → (p ++ t).length ≤ 100 →
    Ev (fun k => lustrumlaw08_PointOnly.l0 k true d m e ys (p ++ t) ((p ++ t).length : Int)) R → Ev (fun k => lustrumlaw08_PointOnly.l0 k true d m e ys (p ++ t) (p.length : Int)) R
  | [], p, _, _, h => by simpa using h
  | q :: t, p, hg, hl, h => by
    obtain ⟨u, g1, g2⟩ := hg q List.mem_cons_self
    have hrd : rd_T23 (p ++ q :: t) (p.length : Int) = q := by simp [rd_T23]
    have hsame := Same_t (s := [(⟨u, u⟩ : S42)]) (t := [(⟨u, u⟩ : S42)]) (by simp) rfl
    refine Ev.step (fun k => by rw [lustrumlaw08_PointOnly.l0, if_pos (at_lt p q t), if_pos (at_0 p), hrd]) ?_
    refine Ev.bind g1 (Ev.bind g2 (Ev.ift rfl (Ev.ift rfl (Ev.bind hsame (Ev.ift rfl ?_)))))
    rw [at_next (p := p) (r := q) (t := t) (by omega)]
    have := Only_loop d m e ys R t (p ++ [q]) (fun x hx => hg x (List.mem_cons_of_mem _ hx)) (by rw [← at_app]; exact hl) (by rw [← at_app]; exact h)
    rw [← at_app] at this
    exact this
theorem PointOnly_t (a : Int) : Ev (fun k => lustrumlaw08_PointOnly.f k a) true := by
  have hr : 0 ≤ Go.bits .and .i64 a 1073741823 := (and_range a 1073741823 (by decide)).1
  obtain ⟨d, hd⟩ : ∃ d, d = Int.tmod (Go.bits .and .i64 a 1073741823) 3652425 := ⟨_, rfl⟩
  have hd0 : 0 ≤ d ∧ d ≤ 3652424 := by
    rw [hd, tm_ hr]
    have h1 := Int.emod_nonneg (Go.bits .and .i64 a 1073741823) (show (3652425 : Int) ≠ 0 by omega)
    have h2 := Int.emod_lt_of_pos (Go.bits .and .i64 a 1073741823) (show (0 : Int) < 3652425 by omega)
    omega
  have hy := date_year hd0.1 hd0.2
  obtain ⟨hnum, hm1, hm2, he1, he2⟩ := date_num d
  have hdim := dim_any (y := (dateD d).1) (m := (dateD d).2.1)
  obtain ⟨y, hyy⟩ : ∃ y : Nat, (dateD d).1 = (y : Int) := ⟨(dateD d).1.toNat, by omega⟩
  obtain ⟨m, hmm⟩ : ∃ m : Nat, (dateD d).2.1 = (m : Int) := ⟨(dateD d).2.1.toNat, by omega⟩
  obtain ⟨e, hee⟩ : ∃ e : Nat, (dateD d).2.2 = (e : Int) := ⟨(dateD d).2.2.toNat, by omega⟩
  have by1 : y ≤ 9999 := by omega
  have bm : 1 ≤ m ∧ m ≤ 12 := by omega
  have be : 1 ≤ e ∧ e ≤ 31 := by omega
  have hdate := Date_f d
  unfold dateV at hdate
  rw [if_neg (by omega)] at hdate
  have hdd : dateD d = ((y : Int), (m : Int), (e : Int)) := by rw [← hyy, ← hmm, ← hee]
  rw [hdd] at hdate
  have dY := digits_f y 4 (by omega) (by omega)
  have dM := digits_f m 2 (by omega) (by omega)
  have dE := digits_f e 2 (by omega) (by omega)
  have z4 : (bA (digL y 4)).size = 4 := by rw [bA_size, digL_len]
  have z2 : ∀ n, (bA (digL n 2)).size = 2 := fun n => by rw [bA_size, digL_len]
  have x3 : (bA (digL y 4)).extract 0 3 = bA (digL (y / 10) 3) := by
    have := ext_to (digL (y / 10) 3) [UInt8.ofNat (48 + y % 10)]
    rw [digL_len] at this
    exact this
  have x2 : (bA (digL y 4)).extract 0 2 = bA (digL (y / 100) 2) := by
    have := ext_to (digL (y / 10 / 10) 2) ([UInt8.ofNat (48 + y / 10 % 10)] ++ [UInt8.ofNat (48 + y % 10)])
    rw [digL_len, ← List.append_assoc] at this
    rw [show y / 100 = y / 10 / 10 by omega]
    exact this
  have eE : emptyV (⟨#[]⟩ : ByteArray) = true := by unfold emptyV; rw [ba_toList]; rfl
  have some12 : someV (bA (digL m 2)) 2 12 = true := by
    unfold someV
    rw [z2, decide_eq_true (show ((2 : Nat) : Int) = 2 from rfl), Bool.true_and, anyV_iff]
    exact ⟨m, by omega, by omega, by rw [bA_data]; exact (refV_dig (by omega) (by omega) (by omega) _).2 rfl⟩
  have some31 : someV (bA (digL e 2)) 2 31 = true := by
    unfold someV
    rw [z2, decide_eq_true (show ((2 : Nat) : Int) = 2 from rfl), Bool.true_and, anyV_iff]
    exact ⟨e, by omega, by omega, by rw [bA_data]; exact (refV_dig (by omega) (by omega) (by omega) _).2 rfl⟩
  have sY : saneL (bA (digL y 4)).data.toList = true := by rw [bA_data]; exact dig_sane (by omega) (by omega)
  have p0 : ptV (⟨0, bA (digL y 4), bA (digL m 2), bA (digL e 2)⟩ : S23) = true := by
    unfold ptV; simp only; rw [sY, if_pos trivial, z4, some12, some31]; rfl
  have p1 : ptV (⟨1, bA (digL y 4), bA (digL m 2), ⟨#[]⟩⟩ : S23) = true := by
    unfold ptV; simp only; rw [sY, if_neg (show ¬ (1 : Int) = 0 by decide), if_pos trivial, z4, some12, eE]; rfl
  have p3 : ptV (⟨3, bA (digL y 4), ⟨#[]⟩, ⟨#[]⟩⟩ : S23) = true := by
    unfold ptV; simp only; rw [sY, if_neg (show ¬ (3 : Int) = 0 by decide), if_neg (show ¬ (3 : Int) = 1 by decide), if_neg (show ¬ (3 : Int) = 2 by decide), if_pos trivial, z4, eE]; rfl
  have p4 : ptV (⟨4, bA (digL (y / 10) 3), ⟨#[]⟩, ⟨#[]⟩⟩ : S23) = true := by
    unfold ptV; simp only; rw [bA_data, dig_sane (by omega) (by omega), if_neg (show ¬ (4 : Int) = 0 by decide), if_neg (show ¬ (4 : Int) = 1 by decide), if_neg (show ¬ (4 : Int) = 2 by decide), if_neg (show ¬ (4 : Int) = 3 by decide), if_pos trivial, bA_size, digL_len, eE]; rfl
  have p5 : ptV (⟨5, bA (digL (y / 100) 2), ⟨#[]⟩, ⟨#[]⟩⟩ : S23) = true := by
    unfold ptV; simp only; rw [bA_data, dig_sane (by omega) (by omega), if_neg (show ¬ (5 : Int) = 0 by decide), if_neg (show ¬ (5 : Int) = 1 by decide), if_neg (show ¬ (5 : Int) = 2 by decide), if_neg (show ¬ (5 : Int) = 3 by decide), if_neg (show ¬ (5 : Int) = 4 by decide), if_pos trivial, bA_size, digL_len, eE]; rfl
  have rY : ∀ x, refV (digL y 4) x = true ↔ x = y := refV_dig (by omega) (by omega) (by omega)
  have rM : ∀ x, refV (digL m 2) x = true ↔ x = m := refV_dig (by omega) (by omega) (by omega)
  have rE : ∀ x, refV (digL e 2) x = true ↔ x = e := refV_dig (by omega) (by omega) (by omega)
  have g0 : good d (⟨0, bA (digL y 4), bA (digL m 2), bA (digL e 2)⟩ : S23) := ⟨d, Set_one p0 fun n => by
    unfold unitP dayP
    rw [if_pos rfl, bA_data, bA_data, bA_data, rY, rM, rE]
    constructor
    · rintro ⟨_, _, a1, a2, a3⟩
      have hn := (date_num n).1
      rw [a1, a2, a3] at hn
      rw [hyy, hmm, hee] at hnum
      omega
    · rintro rfl
      exact ⟨hd0.1, hd0.2, hyy, hmm, hee⟩, Of_day hd0.1 hd0.2⟩
  have hmon : 12 * (dateD d).1 + (dateD d).2.1 - 1 = ((12 * y + m - 1 : Nat) : Int) := by rw [hyy, hmm]; omega
  have g1 : good d (⟨1, bA (digL y 4), bA (digL m 2), ⟨#[]⟩⟩ : S23) := ⟨((12 * y + m - 1 : Nat) : Int), Set_one p1 fun n => by
    unfold unitP
    simp only
    rw [if_neg (show ¬ (1 : Int) = 0 by decide), if_pos trivial, bA_data, bA_data, rY, rM]
    omega, by
      have := Of_kind (kind := 1) 1 (by omega) (.inl ⟨rfl, rfl⟩) hd0.1 hd0.2
      rw [hmon] at this
      exact Ev.eq this (by rw [show (((12 * y + m - 1 : Nat) : Int) / ((1 : Nat) : Int)) = ((12 * y + m - 1 : Nat) : Int) by omega])⟩
  have g3 : good d (⟨3, bA (digL y 4), ⟨#[]⟩, ⟨#[]⟩⟩ : S23) := ⟨(y : Int), Set_one p3 fun n => by
    unfold unitP
    simp only
    rw [if_neg (show ¬ (3 : Int) = 0 by decide), if_neg (show ¬ (3 : Int) = 1 by decide), if_neg (show ¬ (3 : Int) = 2 by decide), bA_data, rY], by
      have := Of_kind (kind := 3) 12 (by omega) (.inr (.inl ⟨rfl, rfl⟩)) hd0.1 hd0.2
      rw [hmon] at this
      exact Ev.eq this (by rw [show (((12 * y + m - 1 : Nat) : Int) / ((12 : Nat) : Int)) = (y : Int) by omega])⟩
  have g4 : good d (⟨4, bA (digL (y / 10) 3), ⟨#[]⟩, ⟨#[]⟩⟩ : S23) := ⟨((y / 10 : Nat) : Int), Set_one p4 fun n => by
    unfold unitP
    simp only
    rw [if_neg (show ¬ (4 : Int) = 0 by decide), if_neg (show ¬ (4 : Int) = 1 by decide), if_neg (show ¬ (4 : Int) = 2 by decide), bA_data]
    exact refV_dig (by omega) (by omega) (by omega) n, by
      have := Of_kind (kind := 4) 120 (by omega) (.inr (.inr (.inl ⟨rfl, rfl⟩))) hd0.1 hd0.2
      rw [hmon] at this
      exact Ev.eq this (by rw [show (((12 * y + m - 1 : Nat) : Int) / ((120 : Nat) : Int)) = ((y / 10 : Nat) : Int) by omega])⟩
  have g5 : good d (⟨5, bA (digL (y / 100) 2), ⟨#[]⟩, ⟨#[]⟩⟩ : S23) := ⟨((y / 100 : Nat) : Int), Set_one p5 fun n => by
    unfold unitP
    simp only
    rw [if_neg (show ¬ (5 : Int) = 0 by decide), if_neg (show ¬ (5 : Int) = 1 by decide), if_neg (show ¬ (5 : Int) = 2 by decide), bA_data]
    exact refV_dig (by omega) (by omega) (by omega) n, by
      have := Of_kind (kind := 5) 1200 (by omega) (.inr (.inr (.inr ⟨rfl, rfl⟩))) hd0.1 hd0.2
      rw [hmon] at this
      exact Ev.eq this (by rw [show (((12 * y + m - 1 : Nat) : Int) / ((1200 : Nat) : Int)) = ((y / 100 : Nat) : Int) by omega])⟩
  unfold lustrumlaw08_PointOnly.f
  rw [← hd]
  refine Ev.bind awake8 (Ev.bind hdate (Ev.bind dY (Ev.bind dM (Ev.bind dE (Ev.bind dM (Ev.ift (by omega) (Ev.ift (by rw [z4]; omega) (Ev.ift (by omega) (Ev.ift (by rw [z4]; omega) ?_)))))))))
  rw [x3, x2]
  obtain ⟨L, hL⟩ : ∃ L : List S23, L = [(⟨0, bA (digL y 4), bA (digL m 2), bA (digL e 2)⟩ : S23), ⟨1, bA (digL y 4), bA (digL m 2), ⟨#[]⟩⟩, ⟨3, bA (digL y 4), ⟨#[]⟩, ⟨#[]⟩⟩, ⟨4, bA (digL (y / 10) 3), ⟨#[]⟩, ⟨#[]⟩⟩, ⟨5, bA (digL (y / 100) 2), ⟨#[]⟩, ⟨#[]⟩⟩] := ⟨_, rfl⟩
  have hgood : ∀ q, q ∈ L → good d q := fun q hq => by
    rw [hL] at hq
    simp only [List.mem_cons, List.not_mem_nil, or_false] at hq
    rcases hq with rfl | rfl | rfl | rfl | rfl
    · exact g0
    · exact g1
    · exact g3
    · exact g4
    · exact g5
  have hlen : L.length = 5 := by rw [hL]; rfl
  have hrd0 : rd_T23 L 0 = (⟨0, bA (digL y 4), bA (digL m 2), bA (digL e 2)⟩ : S23) := by rw [hL]; rfl
  have hend : Ev (fun k => lustrumlaw08_PointOnly.l0 k true d (m : Int) (e : Int) (bA (digL y 4)) L (L.length : Int)) true := by
    refine Ev.step (fun k => by rw [lustrumlaw08_PointOnly.l0, if_neg (by omega), if_pos rfl, if_pos (by omega), hrd0]) ?_
    have htx := ptText_f (⟨0, bA (digL y 4), bA (digL m 2), bA (digL e 2)⟩ : S23)
    have z1 : (⟨#[45]⟩ : ByteArray).size = 1 := rfl
    refine Ev.bind htx (Ev.ift (by rw [z4]; omega) (Ev.bind dM (Ev.ift (by rw [ByteArray.size_append, z4, z2, z1]; omega) (Ev.ift (by rw [ByteArray.size_append, ByteArray.size_append, z4, z2, z1]; omega) (Ev.bind dE (Ev.ift (by rw [ByteArray.size_append, ByteArray.size_append, ByteArray.size_append, z4, z2, z2, z1]; omega) (Ev.eq (Ev.now _) ?_)))))))
    unfold ptTxt ptRaw
    rw [if_pos p0]
    simp only [beq_iff_eq, ba_toList, ba_app, bA_data]
    simp
  have := Only_loop d m e (bA (digL y 4)) true L [] hgood (by simp; omega) (by simpa using hend)
  rw [hL] at this
  simpa using this
end Go.Proofs.YthppfagfmjchoaaDoor.A