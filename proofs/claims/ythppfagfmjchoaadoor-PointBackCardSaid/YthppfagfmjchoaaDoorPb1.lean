/- Walks of functions, and plain facts about what they compute. No conditions. -/
import Derived.Test.YthppfagfmjchoaaDoorPb0
import Derived.Sort.AssemblyPlain
import Derived.Lib.BitFns
import Derived.Sort.LotD5
import Derived.Sort.LotD1
import Derived.Laws.Bits64b
import Derived.Sort.Walk13a
set_option linter.unusedVariables false
set_option linter.unusedSimpArgs false
namespace Go.Proofs.YthppfagfmjchoaaDoor.A
open Go.RowKit Go.Proofs.YthppfagfmjchoaaDoorW.PrintWords Go.Proofs.YthppfagfmjchoaaDoorW.PrintLast Go.Proofs.YthppfagfmjchoaaDoorW.PrintMore
attribute [local go_sem] max2_int min2_int max_two min_two max_three min_three max_four min_four
end Go.Proofs.YthppfagfmjchoaaDoor.A
namespace Go.Proofs.YthppfagfmjchoaaDoor.A.So
open Go.RowKit Go.Proofs.YthppfagfmjchoaaDoorW.PrintWords Go.Proofs.YthppfagfmjchoaaDoorW.PrintLast Go.Proofs.YthppfagfmjchoaaDoorW.PrintMore
attribute [local go_sem] max2_int min2_int max_two min_two max_three min_three max_four min_four
set_option linter.unusedVariables false
set_option linter.unusedSimpArgs false
def cmp_isNaN_int.f (a0 : Int) : Option (Bool) := some (a0 != a0)
def cmp_Compare_int.f (a0 : Int) (a1 : Int) : Option (Int) := (cmp_isNaN_int.f a0).bind fun t101 => ((cmp_isNaN_int.f a1).bind fun t102 => (if t101 = true then (if t102 = true then (some 0) else (some (-1))) else (if t102 = true then (some 1) else (if a0 < a1 then (some (-1)) else (if a0 > a1 then (some 1) else (some 0))))))
def runs_order_compare.f (a0_0 : Bool) (a1_0 : Int) (a1_1 : Int) (a2_0 : Int) (a2_1 : Int) : Option (Int) := if a0_0 = true then ((cmp_Compare_int.f a2_0 a1_0).bind fun t106 => (some t106)) else ((cmp_Compare_int.f a1_0 a2_0).bind fun t107 => (some t107))
end Go.Proofs.YthppfagfmjchoaaDoor.A.So
namespace Go.Proofs.YthppfagfmjchoaaDoor.A.So
open Go.RowKit Go.Proofs.YthppfagfmjchoaaDoorW.PrintWords Go.Proofs.YthppfagfmjchoaaDoorW.PrintLast Go.Proofs.YthppfagfmjchoaaDoorW.PrintMore
attribute [local go_sem] max2_int min2_int max_two min_two max_three min_three max_four min_four
set_option linter.unusedVariables false
set_option linter.unusedSimpArgs false
mutual
def api_Run_64.l0 : Nat → List (S42) → Int → Int → Int → Option ((List (S42)))
  | 0, _, _, _, _ => none
  | k + 1, x0, x1, x2, x8 => if x8 < x2 then (api_Run_64.l1 k x0 x1 x2 x8 x8) else (some x0)
def api_Run_64.l1 : Nat → List (S42) → Int → Int → Int → Int → Option ((List (S42)))
  | 0, _, _, _, _, _ => none
  | k + 1, x0, x1, x2, x8, x9 => if x9 > x1 then (if 0 ≤ x9 then (if x9 < (x0.length : Int) then (if 0 ≤ (wrap64 (x9 - 1)) then (if (wrap64 (x9 - 1)) < (x0.length : Int) then ((runs_order_compare.f false ((rd_T42 x0 x9).f0) ((rd_T42 x0 x9).f1) ((rd_T42 x0 (wrap64 (x9 - 1))).f0) ((rd_T42 x0 (wrap64 (x9 - 1))).f1)).bind fun t110 => (if t110 < 0 then (api_Run_64.l1 k ((x0.set (x9 : Int).toNat (⟨(rd_T42 x0 (wrap64 (x9 - 1))).f0, (rd_T42 x0 (wrap64 (x9 - 1))).f1⟩ : S42)).set ((wrap64 (x9 - 1)) : Int).toNat (⟨(rd_T42 x0 x9).f0, (rd_T42 x0 x9).f1⟩ : S42)) x1 x2 x8 (wrap64 (x9 - 1))) else (api_Run_64.l0 k x0 x1 x2 (wrap64 (x8 + 1))))) else (none)) else (none)) else (none)) else (none)) else (api_Run_64.l0 k x0 x1 x2 (wrap64 (x8 + 1)))
end
def api_Run_64.f (k : Nat) (l0 : List (S42)) (a1 : Int) (a2 : Int)  : Option ((List (S42))) := api_Run_64.l0 k l0 a1 a2 (wrap64 (a1 + 1))
end Go.Proofs.YthppfagfmjchoaaDoor.A.So
namespace Go.Proofs.YthppfagfmjchoaaDoor.A.So
open Go.RowKit Go.Proofs.YthppfagfmjchoaaDoorW.PrintWords Go.Proofs.YthppfagfmjchoaaDoorW.PrintLast Go.Proofs.YthppfagfmjchoaaDoorW.PrintMore
attribute [local go_sem] max2_int min2_int max_two min_two max_three min_three max_four min_four
set_option linter.unusedVariables false
set_option linter.unusedSimpArgs false
mutual
def api_Run_74.l0 : Nat → List (S42) → Int → Int → Int → Option ((List (S42)))
  | 0, _, _, _, _ => none
  | k + 1, x0, x2, x3, x10 => if (wrap64 ((wrap64 (2 * x10)) + 1)) ≥ x2 then (some x0) else (if (wrap64 ((wrap64 ((wrap64 (2 * x10)) + 1)) + 1)) < x2 then (if 0 ≤ (wrap64 (x3 + (wrap64 ((wrap64 (2 * x10)) + 1)))) then (if (wrap64 (x3 + (wrap64 ((wrap64 (2 * x10)) + 1)))) < (x0.length : Int) then (if 0 ≤ (wrap64 ((wrap64 (x3 + (wrap64 ((wrap64 (2 * x10)) + 1)))) + 1)) then (if (wrap64 ((wrap64 (x3 + (wrap64 ((wrap64 (2 * x10)) + 1)))) + 1)) < (x0.length : Int) then ((runs_order_compare.f false ((rd_T42 x0 (wrap64 (x3 + (wrap64 ((wrap64 (2 * x10)) + 1))))).f0) ((rd_T42 x0 (wrap64 (x3 + (wrap64 ((wrap64 (2 * x10)) + 1))))).f1) ((rd_T42 x0 (wrap64 ((wrap64 (x3 + (wrap64 ((wrap64 (2 * x10)) + 1)))) + 1))).f0) ((rd_T42 x0 (wrap64 ((wrap64 (x3 + (wrap64 ((wrap64 (2 * x10)) + 1)))) + 1))).f1)).bind fun t117 => (api_Run_74.j1 k x0 x2 x3 x10 (wrap64 ((wrap64 (2 * x10)) + 1)) (decide (t117 < 0)))) else (none)) else (none)) else (none)) else (none)) else (api_Run_74.j1 k x0 x2 x3 x10 (wrap64 ((wrap64 (2 * x10)) + 1)) false))
def api_Run_74.j1 : Nat → List (S42) → Int → Int → Int → Int → Bool → Option ((List (S42)))
  | 0, _, _, _, _, _, _ => none
  | k + 1, x0, x2, x3, x10, x11, x40 => if x40 = true then (if 0 ≤ (wrap64 (x3 + x10)) then (if (wrap64 (x3 + x10)) < (x0.length : Int) then (if 0 ≤ (wrap64 (x3 + (wrap64 (x11 + 1)))) then (if (wrap64 (x3 + (wrap64 (x11 + 1)))) < (x0.length : Int) then ((runs_order_compare.f false ((rd_T42 x0 (wrap64 (x3 + x10))).f0) ((rd_T42 x0 (wrap64 (x3 + x10))).f1) ((rd_T42 x0 (wrap64 (x3 + (wrap64 (x11 + 1))))).f0) ((rd_T42 x0 (wrap64 (x3 + (wrap64 (x11 + 1))))).f1)).bind fun t120 => (if t120 < 0 then (api_Run_74.l0 k ((x0.set ((wrap64 (x3 + x10)) : Int).toNat (⟨(rd_T42 x0 (wrap64 (x3 + (wrap64 (x11 + 1))))).f0, (rd_T42 x0 (wrap64 (x3 + (wrap64 (x11 + 1))))).f1⟩ : S42)).set ((wrap64 (x3 + (wrap64 (x11 + 1)))) : Int).toNat (⟨(rd_T42 x0 (wrap64 (x3 + x10))).f0, (rd_T42 x0 (wrap64 (x3 + x10))).f1⟩ : S42)) x2 x3 (wrap64 (x11 + 1))) else (some x0))) else (none)) else (none)) else (none)) else (none)) else (if 0 ≤ (wrap64 (x3 + x10)) then (if (wrap64 (x3 + x10)) < (x0.length : Int) then (if 0 ≤ (wrap64 (x3 + x11)) then (if (wrap64 (x3 + x11)) < (x0.length : Int) then ((runs_order_compare.f false ((rd_T42 x0 (wrap64 (x3 + x10))).f0) ((rd_T42 x0 (wrap64 (x3 + x10))).f1) ((rd_T42 x0 (wrap64 (x3 + x11))).f0) ((rd_T42 x0 (wrap64 (x3 + x11))).f1)).bind fun t127 => (if t127 < 0 then (api_Run_74.l0 k ((x0.set ((wrap64 (x3 + x10)) : Int).toNat (⟨(rd_T42 x0 (wrap64 (x3 + x11))).f0, (rd_T42 x0 (wrap64 (x3 + x11))).f1⟩ : S42)).set ((wrap64 (x3 + x11)) : Int).toNat (⟨(rd_T42 x0 (wrap64 (x3 + x10))).f0, (rd_T42 x0 (wrap64 (x3 + x10))).f1⟩ : S42)) x2 x3 x11) else (some x0))) else (none)) else (none)) else (none)) else (none))
end
def api_Run_74.f (k : Nat) (l0 : List (S42)) (a1 : Int) (a2 : Int) (a3 : Int)  : Option ((List (S42))) := api_Run_74.l0 k l0 a2 a3 a1
end Go.Proofs.YthppfagfmjchoaaDoor.A.So
namespace Go.Proofs.YthppfagfmjchoaaDoor.A.So
open Go.RowKit Go.Proofs.YthppfagfmjchoaaDoorW.PrintWords Go.Proofs.YthppfagfmjchoaaDoorW.PrintLast Go.Proofs.YthppfagfmjchoaaDoorW.PrintMore
attribute [local go_sem] max2_int min2_int max_two min_two max_three min_three max_four min_four
set_option linter.unusedVariables false
set_option linter.unusedSimpArgs false
mutual
def api_Run_65.l0 : Nat → List (S42) → Int → Int → Int → Int → Option ((List (S42)))
  | 0, _, _, _, _, _ => none
  | k + 1, x0, x8, x9, x10, x11 => if x11 ≥ 0 then ((api_Run_74.f k x0 x11 x10 x8).bind fun t132 => (api_Run_65.l0 k t132 x8 x9 x10 (wrap64 (x11 - 1)))) else (api_Run_65.l1 k x0 x8 x9 (wrap64 (x10 - 1)))
def api_Run_65.l1 : Nat → List (S42) → Int → Int → Int → Option ((List (S42)))
  | 0, _, _, _, _ => none
  | k + 1, x0, x8, x9, x12 => if x12 ≥ 0 then (if 0 ≤ (wrap64 (x8 + x12)) then (if (wrap64 (x8 + x12)) < (x0.length : Int) then (if 0 ≤ x8 then (if x8 < (x0.length : Int) then ((api_Run_74.f k ((x0.set (x8 : Int).toNat (⟨(rd_T42 x0 (wrap64 (x8 + x12))).f0, (rd_T42 x0 (wrap64 (x8 + x12))).f1⟩ : S42)).set ((wrap64 (x8 + x12)) : Int).toNat (⟨(rd_T42 x0 x8).f0, (rd_T42 x0 x8).f1⟩ : S42)) x9 x12 x8).bind fun t137 => (api_Run_65.l1 k t137 x8 x9 (wrap64 (x12 - 1)))) else (none)) else (none)) else (none)) else (none)) else (some x0)
end
def api_Run_65.f (k : Nat) (l0 : List (S42)) (a1 : Int) (a2 : Int)  : Option ((List (S42))) := api_Run_65.l0 k l0 a1 0 (wrap64 (a2 - a1)) (wrap64 (Int.tdiv (wrap64 ((wrap64 (a2 - a1)) - 1)) 2))
def api_Run_68.l0 : Nat → List (S42) → Int → Int → Option ((List (S42)))
  | 0, _, _, _ => none
  | k + 1, x0, x8, x9 => if x8 < x9 then (if 0 ≤ x9 then (if x9 < (x0.length : Int) then (if 0 ≤ x8 then (if x8 < (x0.length : Int) then (api_Run_68.l0 k ((x0.set (x8 : Int).toNat (⟨(rd_T42 x0 x9).f0, (rd_T42 x0 x9).f1⟩ : S42)).set (x9 : Int).toNat (⟨(rd_T42 x0 x8).f0, (rd_T42 x0 x8).f1⟩ : S42)) (wrap64 (x8 + 1)) (wrap64 (x9 - 1))) else (none)) else (none)) else (none)) else (none)) else (some x0)
def api_Run_68.f (k : Nat) (l0 : List (S42)) (a1 : Int) (a2 : Int)  : Option ((List (S42))) := api_Run_68.l0 k l0 a1 (wrap64 (a2 - 1))
end Go.Proofs.YthppfagfmjchoaaDoor.A.So
namespace Go.Proofs.YthppfagfmjchoaaDoor.A.So
open Go.RowKit Go.Proofs.YthppfagfmjchoaaDoorW.PrintWords Go.Proofs.YthppfagfmjchoaaDoorW.PrintLast Go.Proofs.YthppfagfmjchoaaDoorW.PrintMore Go.Sort
set_option linter.unusedVariables false
theorem Ev.ift {α : Type} {c : Prop} [Decidable c] {g f : Nat → Option α} {r : α} (hc : c) (h : Ev g r) : Ev (fun k => if c then g k else f k) r := Ev.congr (fun k => if_pos hc) h
theorem Ev.iff_ {α : Type} {c : Prop} [Decidable c] {g f : Nat → Option α} {r : α} (hc : ¬ c) (h : Ev f r) : Ev (fun k => if c then g k else f k) r := Ev.congr (fun k => if_neg hc) h
theorem Ev.bnow {α β : Type} {a : Option α} {f : Nat → α → Option β} {x : α} {r : β} (h : a = some x) (k : Ev (fun n => f n x) r) : Ev (fun n => a.bind (f n)) r := Ev.congr (fun n => by rw [h]; rfl) k
theorem Ev.eq {α : Type} {g : Nat → Option α} {r q : α} (h : Ev g r) (e : r = q) : Ev g q := e ▸ h
instance instRun : Inhabited S42 := ⟨z42⟩
def ltR (x y : S42) : Bool := decide (x.f0 < y.f0)
theorem w64 {x : Int} (h1 : -9223372036854775808 ≤ x) (h2 : x ≤ 9223372036854775807) : wrap64 x = x := by unfold wrap64; omega
theorem rdA (d : Array S42) (i : Nat) : rd_T42 d.toList (i : Int) = d[i]! := by
  simp only [rd_T42, Int.toNat_natCast, getElem!_def]
  by_cases h : i < d.size
  · simp [List.getD, h]
  · simp [List.getD, h, default, instRun]
theorem cmpR (a b c d : Int) : runs_order_compare.f false a b c d = some (if a < c then -1 else if a > c then 1 else 0) := by
  simp only [runs_order_compare.f, cmp_Compare_int.f, cmp_isNaN_int.f]
  simp
  split
  · rfl
  · split <;> rfl
theorem cmpNeg (a c : Int) : ((if a < c then (-1 : Int) else if a > c then 1 else 0) < 0) = (a < c) := by
  by_cases h : a < c
  · simp [h]
  · by_cases h' : a > c <;> simp [h, h']
theorem stA (d : Array S42) (i j : Nat) : ((d.toList.set i (⟨(rd_T42 d.toList (j : Int)).f0, (rd_T42 d.toList (j : Int)).f1⟩ : S42)).set j (⟨(rd_T42 d.toList (i : Int)).f0, (rd_T42 d.toList (i : Int)).f1⟩ : S42)) = (swp d i j).toList := by
  simp [swp, rdA]
theorem lenA (d : Array S42) (i : Nat) (h : i < d.size) : (i : Int) < (d.toList.length : Int) := by simp; exact h
theorem ins_l1 (a b : Nat) (i : Int) (r : List S42) : ∀ (j : Nat) (d : Array S42), j < d.size → d.size < 4611686018427387904 →
    Ev (fun k => api_Run_64.l0 k (insInner ltR a j d).toList (a : Int) (b : Int) (wrap64 (i + 1))) r → Ev (fun k => api_Run_64.l1 k d.toList (a : Int) (b : Int) i (j : Int)) r
  | 0, d, hj, hs, h => Ev.step (fun k => by simp only [api_Run_64.l1]; rw [if_neg (by omega)]; rfl) h
  | j + 1, d, hj, hs, h => by
    refine Ev.step (fun k => by simp only [api_Run_64.l1]; rfl) ?_
    have e1 : wrap64 (((j + 1 : Nat) : Int) - 1) = (j : Int) := by rw [w64 (by omega) (by omega)]; omega
    rw [e1]
    by_cases c : a < j + 1
    · refine Ev.ift (by omega) (Ev.ift (by omega) (Ev.ift (lenA d _ hj) (Ev.ift (by omega) (Ev.ift (lenA d _ (by omega)) (Ev.bnow (cmpR _ _ _ _) ?_)))))
      rw [rdA, rdA] at *
      by_cases c2 : (d[j + 1]!).f0 < (d[j]!).f0
      · refine Ev.ift (by rw [cmpNeg]; exact c2) ?_
        have e2 := stA d (j + 1) j
        rw [rdA, rdA] at e2
        simp only [Int.toNat_natCast]
        rw [e2]
        have e3 : insInner ltR a (j + 1) d = insInner ltR a j (swp d (j + 1) j) := by rw [insInner]; simp [ltR, c2, c]
        rw [e3] at h
        exact ins_l1 a b i r j _ (by simp [swp]; omega) (by simp [swp]; omega) h
      · refine Ev.iff_ (by rw [cmpNeg]; exact c2) ?_
        have e3 : insInner ltR a (j + 1) d = d := by rw [insInner]; simp [ltR, c2]
        rw [e3] at h
        exact h
    · refine Ev.iff_ (by omega) ?_
      have e3 : insInner ltR a (j + 1) d = d := by rw [insInner]; simp [c]
      rw [e3] at h
      exact h
theorem swp_size {α : Type} [Inhabited α] (d : Array α) (i j : Nat) : (swp d i j).size = d.size := by simp [swp]
theorem insInner_size {α : Type} [Inhabited α] (lt : α → α → Bool) (a : Nat) : ∀ (j : Nat) (d : Array α), (insInner lt a j d).size = d.size
  | 0, d => rfl
  | j + 1, d => by
    rw [insInner]
    split
    · rw [insInner_size lt a j, swp_size]
    · rfl
theorem ins_l0 (a b : Nat) : ∀ (n i : Nat) (d : Array S42), b - i = n → b ≤ d.size → d.size < 4611686018427387904 →
    Ev (fun k => api_Run_64.l0 k d.toList (a : Int) (b : Int) (i : Int)) (insOuter ltR a b i d).toList
  | 0, i, d, hn, hb, hs => by
    rw [insOuter, if_neg (by omega)]
    exact Ev.step (fun k => by simp only [api_Run_64.l0]; rw [if_neg (by omega)]) (Ev.now _)
  | n + 1, i, d, hn, hb, hs => by
    rw [insOuter, if_pos (by omega)]
    refine Ev.step (fun k => by simp only [api_Run_64.l0]; rw [if_pos (by omega)]) ?_
    refine ins_l1 a b i _ i d (by omega) hs ?_
    have e : wrap64 ((i : Int) + 1) = ((i + 1 : Nat) : Int) := by rw [w64 (by omega) (by omega)]; omega
    rw [e]
    exact ins_l0 a b n (i + 1) _ (by omega) (by rw [insInner_size]; exact hb) (by rw [insInner_size]; exact hs)
theorem ins_f (a b : Nat) (d : Array S42) (hab : a < 4611686018427387904) (hb : b ≤ d.size) (hs : d.size < 4611686018427387904) :
    Ev (fun k => api_Run_64.f k d.toList (a : Int) (b : Int)) (insertionSort ltR d a b).toList := by
  have e : wrap64 ((a : Int) + 1) = ((a + 1 : Nat) : Int) := by rw [w64 (by omega) (by omega)]; omega
  refine Ev.congr (fun k => by simp only [api_Run_64.f]; rw [e]) ?_
  exact ins_l0 a b _ (a + 1) d rfl hb hs
theorem rev_l0 : ∀ (n i j : Nat) (d : Array S42), j - i = n → j < d.size → d.size < 4611686018427387904 →
    Ev (fun k => api_Run_68.l0 k d.toList (i : Int) (j : Int)) (reverseLoop i j d).toList := by
  intro n
  induction n using Nat.strongRecOn with
  | _ n ih =>
    intro i j d hn hj hs
    rw [reverseLoop]
    by_cases c : i < j
    · rw [if_pos c]
      refine Ev.step (fun k => by simp only [api_Run_68.l0]; rfl) ?_
      refine Ev.ift (by omega) (Ev.ift (by omega) (Ev.ift (lenA d _ hj) (Ev.ift (by omega) (Ev.ift (lenA d _ (by omega)) ?_))))
      have e2 := stA d i j
      simp only [Int.toNat_natCast]
      rw [e2]
      have e : wrap64 ((i : Int) + 1) = ((i + 1 : Nat) : Int) := by rw [w64 (by omega) (by omega)]; omega
      have e' : wrap64 ((j : Int) - 1) = ((j - 1 : Nat) : Int) := by rw [w64 (by omega) (by omega)]; omega
      rw [e, e']
      exact ih (j - 1 - (i + 1)) (by omega) (i + 1) (j - 1) _ rfl (by rw [swp_size]; omega) (by rw [swp_size]; exact hs)
    · rw [if_neg c]
      exact Ev.step (fun k => by simp only [api_Run_68.l0]; rw [if_neg (by omega)]) (Ev.now _)
theorem rev_f (a b : Nat) (d : Array S42) (hb0 : 0 < b) (hb : b ≤ d.size) (hs : d.size < 4611686018427387904) :
    Ev (fun k => api_Run_68.f k d.toList (a : Int) (b : Int)) (reverseRange d a b).toList := by
  have e : wrap64 ((b : Int) - 1) = ((b - 1 : Nat) : Int) := by rw [w64 (by omega) (by omega)]; omega
  refine Ev.congr (fun k => by simp only [api_Run_68.f]; rw [e]) ?_
  exact rev_l0 _ a (b - 1) d rfl (by omega) hs
end Go.Proofs.YthppfagfmjchoaaDoor.A.So
namespace Go.Proofs.YthppfagfmjchoaaDoor.A.So
open Go.RowKit Go.Proofs.YthppfagfmjchoaaDoorW.PrintWords Go.Proofs.YthppfagfmjchoaaDoorW.PrintLast Go.Proofs.YthppfagfmjchoaaDoorW.PrintMore Go.Sort
set_option linter.unusedVariables false
theorem sift_f (hi first : Nat) : ∀ (n root : Nat) (d : Array S42), hi - root = n → first + hi ≤ d.size → d.size < 2305843009213693952 → root ≤ hi →
    Ev (fun k => api_Run_74.l0 k d.toList (hi : Int) (first : Int) (root : Int)) (siftDown ltR hi first root d).toList := by
  intro n
  induction n using Nat.strongRecOn with
  | _ n ih =>
    intro root d hn hd hs hr
    have e1 : Aside0 (wrap64 (wrap64 (2 * (root : Int)) + 1) = ((2 * root + 1 : Nat) : Int)) := ⟨by rw [w64 (x := 2 * (root : Int)) (by omega) (by omega), w64 (by omega) (by omega)]; omega⟩
    have e2 : Aside0 (wrap64 (((2 * root + 1 : Nat) : Int) + 1) = ((2 * root + 2 : Nat) : Int)) := ⟨by rw [w64 (by omega) (by omega)]; omega⟩
    rw [siftDown]
    refine Ev.step (fun k => by simp only [api_Run_74.l0]; rfl) ?_
    simp only [e1.out, e2.out]
    by_cases c : 2 * root + 1 ≥ hi
    · rw [dif_pos c]
      exact Ev.ift (by omega) (Ev.now _)
    · rw [dif_neg c]
      have e3 : Aside0 (wrap64 ((first : Int) + ((2 * root + 1 : Nat) : Int)) = ((first + (2 * root + 1) : Nat) : Int)) := ⟨by rw [w64 (by omega) (by omega)]; omega⟩
      have e4 : Aside0 (wrap64 (((first + (2 * root + 1) : Nat) : Int) + 1) = ((first + (2 * root + 1) + 1 : Nat) : Int)) := ⟨by rw [w64 (by omega) (by omega)]; omega⟩
      have e5 : Aside0 (wrap64 ((first : Int) + (root : Int)) = ((first + root : Nat) : Int)) := ⟨by rw [w64 (by omega) (by omega)]; omega⟩
      have e6 : Aside0 (wrap64 ((first : Int) + ((2 * root + 2 : Nat) : Int)) = ((first + (2 * root + 2) : Nat) : Int)) := ⟨by rw [w64 (by omega) (by omega)]; omega⟩
      have J0 : ∀ r, r = (if !ltR d[first + root]! d[first + (2 * root + 1)]! then d else siftDown ltR hi first (2 * root + 1) (swp d (first + root) (first + (2 * root + 1)))).toList → Ev (fun k => api_Run_74.j1 k d.toList (hi : Int) (first : Int) (root : Int) ((2 * root + 1 : Nat) : Int) false) r := by
        intro r hr'
        refine Ev.step (fun k => by simp only [api_Run_74.j1]; rfl) ?_
        simp only [e2.out, e3.out, e5.out, e6.out]
        refine Ev.iff_ (by simp) (Ev.ift (by omega) (Ev.ift (lenA d _ (by omega)) (Ev.ift (by omega) (Ev.ift (lenA d _ (by omega)) (Ev.bnow (cmpR _ _ _ _) ?_)))))
        rw [rdA, rdA] at *
        by_cases c2 : (d[first + root]!).f0 < (d[first + (2 * root + 1)]!).f0
        · refine Ev.ift (by rw [cmpNeg]; exact c2) ?_
          rw [if_neg (by simp [ltR, c2])] at hr'
          subst hr'
          have e7 := stA d (first + root) (first + (2 * root + 1))
          rw [rdA, rdA] at e7
          simp only [Int.toNat_natCast]
          rw [e7]
          exact ih (hi - (2 * root + 1)) (by omega) (2 * root + 1) _ rfl (by rw [swp_size]; exact hd) (by rw [swp_size]; exact hs) (by omega)
        · refine Ev.iff_ (by rw [cmpNeg]; exact c2) ?_
          rw [if_pos (by simp [ltR, c2])] at hr'
          subst hr'
          exact Ev.now _
      by_cases c1 : 2 * root + 2 < hi
      · refine Ev.iff_ (by omega) (Ev.ift (by omega) ?_)
        simp only [e3.out, e4.out]
        refine Ev.ift (by omega) (Ev.ift (lenA d _ (by omega)) (Ev.ift (by omega) (Ev.ift (lenA d _ (by omega)) (Ev.bnow (cmpR _ _ _ _) ?_))))
        rw [rdA, rdA]
        simp only [cmpNeg]
        by_cases c3 : (d[first + (2 * root + 1)]!).f0 < (d[first + (2 * root + 1) + 1]!).f0
        · rw [if_pos (by simp [ltR, c3]; omega)]
          rw [decide_eq_true c3]
          refine Ev.step (fun k => by simp only [api_Run_74.j1]; rfl) ?_
          simp only [e2.out, e3.out, e5.out, e6.out]
          refine Ev.ift (by simp) (Ev.ift (by omega) (Ev.ift (lenA d _ (by omega)) (Ev.ift (by omega) (Ev.ift (lenA d _ (by omega)) (Ev.bnow (cmpR _ _ _ _) ?_)))))
          rw [rdA, rdA]
          by_cases c2 : (d[first + root]!).f0 < (d[first + (2 * root + 2)]!).f0
          · refine Ev.ift (by rw [cmpNeg]; exact c2) ?_
            rw [if_neg (by simp [ltR, c2]), dif_pos c1]
            have e7 := stA d (first + root) (first + (2 * root + 2))
            rw [rdA, rdA] at e7
            simp only [Int.toNat_natCast]
            rw [e7]
            exact ih (hi - (2 * root + 2)) (by omega) (2 * root + 2) _ rfl (by rw [swp_size]; exact hd) (by rw [swp_size]; exact hs) (by omega)
          · refine Ev.iff_ (by rw [cmpNeg]; exact c2) ?_
            rw [if_pos (by simp [ltR, c2])]
            exact Ev.now _
        · rw [if_neg (by simp [ltR, c3])]
          rw [decide_eq_false c3]
          exact J0 _ rfl
      · refine Ev.iff_ (by omega) (Ev.iff_ (by omega) ?_)
        rw [if_neg (by simp; omega)]
        exact J0 _ rfl
theorem siftDown_size {α : Type} [Inhabited α] (lt : α → α → Bool) (hi first : Nat) : ∀ (n root : Nat) (d : Array α), hi - root = n → (siftDown lt hi first root d).size = d.size := by
  intro n
  induction n using Nat.strongRecOn with
  | _ n ih =>
    intro root d hn
    rw [siftDown]
    split
    · rfl
    · split
      · split
        · rfl
        · split
          · rw [ih _ (by omega) _ _ rfl, swp_size]
          · rfl
      · split
        · rfl
        · rw [ih _ (by omega) _ _ rfl, swp_size]
theorem heap_l1 (a : Nat) (r9 : Int) (h9 : r9 = 0) : ∀ (m : Nat) (d : Array S42), a + m ≤ d.size → d.size < 2305843009213693952 →
    Ev (fun k => api_Run_65.l1 k d.toList (a : Int) r9 ((m : Int) - 1)) (heapPop ltR a m d).toList
  | 0, d, hm, hs => Ev.step (fun k => by simp only [api_Run_65.l1]; rw [if_neg (by omega)]; rfl) (Ev.now _)
  | m + 1, d, hm, hs => by
    have e1 : Aside0 (((m + 1 : Nat) : Int) - 1 = (m : Int)) := ⟨by omega⟩
    have e2 : Aside0 (wrap64 ((a : Int) + (m : Int)) = ((a + m : Nat) : Int)) := ⟨by rw [w64 (by omega) (by omega)]; omega⟩
    have e3 : Aside0 (wrap64 ((m : Int) - 1) = (m : Int) - 1) := ⟨by rw [w64 (by omega) (by omega)]⟩
    refine Ev.step (fun k => by simp only [api_Run_65.l1]; rfl) ?_
    simp only [e1.out, e2.out, e3.out]
    refine Ev.ift (by omega) (Ev.ift (by omega) (Ev.ift (lenA d _ (by omega)) (Ev.ift (by omega) (Ev.ift (lenA d _ (by omega)) ?_))))
    have e7 := stA d a (a + m)
    simp only [Int.toNat_natCast]
    rw [e7, h9]
    have hsz : (swp d a (a + m)).size = d.size := swp_size _ _ _
    refine Ev.bind (a := (siftDown ltR m a 0 (swp d a (a + m))).toList) (sift_f m a _ 0 _ rfl (by omega) (by omega) (by omega)) ?_
    have := heap_l1 a 0 rfl m (siftDown ltR m a 0 (swp d a (a + m))) (by rw [siftDown_size ltR m a _ _ _ rfl]; omega) (by rw [siftDown_size ltR m a _ _ _ rfl]; omega)
    exact this
theorem heap_l0 (a hi : Nat) (d : Array S42) : ∀ (m : Nat) (d : Array S42), a + hi ≤ d.size → m ≤ hi + 1 → d.size < 2305843009213693952 →
    Ev (fun k => api_Run_65.l0 k d.toList (a : Int) 0 (hi : Int) ((m : Int) - 1)) (heapPop ltR a hi (heapBuild ltR hi a m d)).toList
  | 0, d, hm, hr, hs => by
    refine Ev.step (fun k => by simp only [api_Run_65.l0]; rw [if_neg (by omega)]) ?_
    have e3 : wrap64 ((hi : Int) - 1) = (hi : Int) - 1 := by rw [w64 (by omega) (by omega)]
    rw [e3]
    exact heap_l1 a 0 rfl hi d hm hs
  | m + 1, d, hm, hr, hs => by
    have e1 : Aside0 (((m + 1 : Nat) : Int) - 1 = (m : Int)) := ⟨by omega⟩
    have e3 : Aside0 (wrap64 ((m : Int) - 1) = (m : Int) - 1) := ⟨by rw [w64 (by omega) (by omega)]⟩
    refine Ev.step (fun k => by simp only [api_Run_65.l0]; rfl) ?_
    simp only [e1.out, e3.out]
    refine Ev.ift (by omega) ?_
    refine Ev.bind (a := (siftDown ltR hi a m d).toList) (sift_f hi a _ m _ rfl (by omega) (by omega) (by omega)) ?_
    have := heap_l0 a hi d m (siftDown ltR hi a m d) (by rw [siftDown_size ltR hi a _ _ _ rfl]; omega) (by omega) (by rw [siftDown_size ltR hi a _ _ _ rfl]; omega)
    exact this
theorem heap_f (a b : Nat) (d : Array S42) (hab : a ≤ b) (hb : b ≤ d.size) (hs : d.size < 2305843009213693952) :
    Ev (fun k => api_Run_65.f k d.toList (a : Int) (b : Int)) (heapSort ltR d a b).toList := by
  have e1 : Aside0 (wrap64 ((b : Int) - (a : Int)) = ((b - a : Nat) : Int)) := ⟨by rw [w64 (by omega) (by omega)]; omega⟩
  have e2 : Aside0 (wrap64 (((b - a : Nat) : Int) - 1) = ((b - a : Nat) : Int) - 1) := ⟨by rw [w64 (by omega) (by omega)]⟩
  have e3 : Aside0 (wrap64 (Int.tdiv (((b - a : Nat) : Int) - 1) 2) = (((b - a - 1) / 2 + 1 : Nat) : Int) - 1) := ⟨by
    rcases Nat.eq_zero_or_pos (b - a) with h | h
    · have h0 : Int.tdiv (((0 : Nat) : Int) - 1) 2 = 0 := by decide
      rw [h, h0, w64 (by omega) (by omega)]; rfl
    · have : ((b - a : Nat) : Int) - 1 = ((b - a - 1 : Nat) : Int) := by omega
      have ht : Int.tdiv ((b - a - 1 : Nat) : Int) 2 = (((b - a - 1) / 2 : Nat) : Int) := rfl
      rw [this, ht, w64 (by omega) (by omega)]
      omega⟩
  refine Ev.congr (fun k => by simp only [api_Run_65.f, e1.out, e2.out, e3.out]; rfl) ?_
  exact heap_l0 a (b - a) d ((b - a - 1) / 2 + 1) d (by omega) (by omega) hs
end Go.Proofs.YthppfagfmjchoaaDoor.A.So
namespace Go.Proofs.YthppfagfmjchoaaDoor.A.So
open Go.RowKit Go.Proofs.YthppfagfmjchoaaDoorW.PrintWords Go.Proofs.YthppfagfmjchoaaDoorW.PrintLast Go.Proofs.YthppfagfmjchoaaDoorW.PrintMore
attribute [local go_sem] max2_int min2_int max_two min_two max_three min_three max_four min_four
set_option linter.unusedVariables false
set_option linter.unusedSimpArgs false
mutual
def api_Run_69.l0 : Nat → List (S42) → Int → Int → Int → Int → Option (Bool × (List (S42)))
  | 0, _, _, _, _, _ => none
  | k + 1, x0, x1, x2, x9, x10 => if x10 < 5 then (api_Run_69.l1 k x0 x1 x2 x9 x10) else (some (false, x0))
def api_Run_69.j2 : Nat → List (S42) → Int → Int → Int → Int → Option (Bool × (List (S42)))
  | 0, _, _, _, _, _ => none
  | k + 1, x0, x1, x2, x9, x10 => if x9 = x2 then (some (true, x0)) else (if (wrap64 (x2 - x1)) < 50 then (some (false, x0)) else (if 0 ≤ (wrap64 (x9 - 1)) then (if (wrap64 (x9 - 1)) < (x0.length : Int) then (if 0 ≤ x9 then (if x9 < (x0.length : Int) then ((some ((x0.set (x9 : Int).toNat (⟨(rd_T42 x0 (wrap64 (x9 - 1))).f0, (rd_T42 x0 (wrap64 (x9 - 1))).f1⟩ : S42)).set ((wrap64 (x9 - 1)) : Int).toNat (⟨(rd_T42 x0 x9).f0, (rd_T42 x0 x9).f1⟩ : S42) : List (S42))).bind fun y148 => (if (wrap64 (x9 - x1)) ≥ 2 then (api_Run_69.l2 k y148 x1 x2 x9 x10 (wrap64 (x9 - 1))) else (api_Run_69.j4 k y148 x1 x2 x9 x10))) else (none)) else (none)) else (none)) else (none)))
def api_Run_69.j4 : Nat → List (S42) → Int → Int → Int → Int → Option (Bool × (List (S42)))
  | 0, _, _, _, _, _ => none
  | k + 1, x0, x1, x2, x9, x10 => if (wrap64 (x2 - x9)) ≥ 2 then (api_Run_69.l3 k x0 x1 x2 x9 x10 (wrap64 (x9 + 1))) else (api_Run_69.l0 k x0 x1 x2 x9 (wrap64 (x10 + 1)))
def api_Run_69.l3 : Nat → List (S42) → Int → Int → Int → Int → Int → Option (Bool × (List (S42)))
  | 0, _, _, _, _, _, _ => none
  | k + 1, x0, x1, x2, x9, x10, x12 => if x12 < x2 then (if 0 ≤ x12 then (if x12 < (x0.length : Int) then (if 0 ≤ (wrap64 (x12 - 1)) then (if (wrap64 (x12 - 1)) < (x0.length : Int) then ((runs_order_compare.f false ((rd_T42 x0 x12).f0) ((rd_T42 x0 x12).f1) ((rd_T42 x0 (wrap64 (x12 - 1))).f0) ((rd_T42 x0 (wrap64 (x12 - 1))).f1)).bind fun t158 => (if t158 < 0 then (api_Run_69.l3 k ((x0.set (x12 : Int).toNat (⟨(rd_T42 x0 (wrap64 (x12 - 1))).f0, (rd_T42 x0 (wrap64 (x12 - 1))).f1⟩ : S42)).set ((wrap64 (x12 - 1)) : Int).toNat (⟨(rd_T42 x0 x12).f0, (rd_T42 x0 x12).f1⟩ : S42)) x1 x2 x9 x10 (wrap64 (x12 + 1))) else (api_Run_69.l0 k x0 x1 x2 x9 (wrap64 (x10 + 1))))) else (none)) else (none)) else (none)) else (none)) else (api_Run_69.l0 k x0 x1 x2 x9 (wrap64 (x10 + 1)))
def api_Run_69.l2 : Nat → List (S42) → Int → Int → Int → Int → Int → Option (Bool × (List (S42)))
  | 0, _, _, _, _, _, _ => none
  | k + 1, x0, x1, x2, x9, x10, x11 => if x11 ≥ 1 then (if 0 ≤ x11 then (if x11 < (x0.length : Int) then (if 0 ≤ (wrap64 (x11 - 1)) then (if (wrap64 (x11 - 1)) < (x0.length : Int) then ((runs_order_compare.f false ((rd_T42 x0 x11).f0) ((rd_T42 x0 x11).f1) ((rd_T42 x0 (wrap64 (x11 - 1))).f0) ((rd_T42 x0 (wrap64 (x11 - 1))).f1)).bind fun t151 => (if t151 < 0 then (api_Run_69.l2 k ((x0.set (x11 : Int).toNat (⟨(rd_T42 x0 (wrap64 (x11 - 1))).f0, (rd_T42 x0 (wrap64 (x11 - 1))).f1⟩ : S42)).set ((wrap64 (x11 - 1)) : Int).toNat (⟨(rd_T42 x0 x11).f0, (rd_T42 x0 x11).f1⟩ : S42)) x1 x2 x9 x10 (wrap64 (x11 - 1))) else (api_Run_69.j4 k x0 x1 x2 x9 x10))) else (none)) else (none)) else (none)) else (none)) else (api_Run_69.j4 k x0 x1 x2 x9 x10)
def api_Run_69.l1 : Nat → List (S42) → Int → Int → Int → Int → Option (Bool × (List (S42)))
  | 0, _, _, _, _, _ => none
  | k + 1, x0, x1, x2, x9, x10 => if x9 < x2 then (if 0 ≤ x9 then (if x9 < (x0.length : Int) then (if 0 ≤ (wrap64 (x9 - 1)) then (if (wrap64 (x9 - 1)) < (x0.length : Int) then ((runs_order_compare.f false ((rd_T42 x0 x9).f0) ((rd_T42 x0 x9).f1) ((rd_T42 x0 (wrap64 (x9 - 1))).f0) ((rd_T42 x0 (wrap64 (x9 - 1))).f1)).bind fun t144 => (if t144 < 0 then (api_Run_69.j2 k x0 x1 x2 x9 x10) else (api_Run_69.l1 k x0 x1 x2 (wrap64 (x9 + 1)) x10))) else (none)) else (none)) else (none)) else (none)) else (api_Run_69.j2 k x0 x1 x2 x9 x10)
end
def api_Run_69.f (k : Nat) (l0 : List (S42)) (a1 : Int) (a2 : Int)  : Option (Bool × (List (S42))) := api_Run_69.l0 k l0 a1 a2 (wrap64 (a1 + 1)) 0
end Go.Proofs.YthppfagfmjchoaaDoor.A.So
namespace Go.Proofs.YthppfagfmjchoaaDoor.A.So
open Go.RowKit Go.Proofs.YthppfagfmjchoaaDoorW.PrintWords Go.Proofs.YthppfagfmjchoaaDoorW.PrintLast Go.Proofs.YthppfagfmjchoaaDoorW.PrintMore Go.Sort
set_option linter.unusedVariables false
theorem wN {x : Int} {n : Nat} (h : x = (n : Int)) (hn : n < 4611686018427387904) : wrap64 x = (n : Int) := by subst h; exact w64 (by omega) (by omega)
theorem shiftDown_size {α : Type} [Inhabited α] (lt : α → α → Bool) : ∀ (j : Nat) (d : Array α), (shiftDown lt j d).size = d.size
  | 0, d => rfl
  | j + 1, d => by
    rw [shiftDown]
    split
    · rfl
    · rw [shiftDown_size lt j, swp_size]
theorem shiftUp_size {α : Type} [Inhabited α] (lt : α → α → Bool) (b : Nat) : ∀ (n j : Nat) (d : Array α), b - j = n → (shiftUp lt b j d).size = d.size
  | 0, j, d, h => by rw [shiftUp, if_neg (by omega)]
  | n + 1, j, d, h => by
    rw [shiftUp, if_pos (by omega)]
    split
    · rfl
    · rw [shiftUp_size lt b n _ _ (by omega), swp_size]
theorem scanSorted_ge {α : Type} [Inhabited α] (lt : α → α → Bool) (d : Array α) (b : Nat) : ∀ (n i : Nat), b - i = n → i ≤ b → i ≤ scanSorted lt d b i ∧ scanSorted lt d b i ≤ b
  | 0, i, h, hi => by rw [scanSorted, if_neg (by simp; omega)]; exact ⟨Nat.le_refl _, hi⟩
  | n + 1, i, h, hi => by
    rw [scanSorted]
    split
    · have := scanSorted_ge lt d b n (i + 1) (by omega) (by omega)
      omega
    · exact ⟨Nat.le_refl _, hi⟩
theorem pi_l3 (a b i : Nat) (s : Int) (r : Bool × List S42) : ∀ (n j : Nat) (d : Array S42), b - j = n → 1 ≤ j → b ≤ d.size → d.size < 2305843009213693952 →
    Ev (fun k => api_Run_69.l0 k (shiftUp ltR b j d).toList (a : Int) (b : Int) (i : Int) (wrap64 (s + 1))) r → Ev (fun k => api_Run_69.l3 k d.toList (a : Int) (b : Int) (i : Int) s (j : Int)) r
  | 0, j, d, hn, hj, hb, hs, h => by
    rw [shiftUp, if_neg (by omega)] at h
    exact Ev.step (fun k => by simp only [api_Run_69.l3]; rw [if_neg (by omega)]) h
  | n + 1, j, d, hn, hj, hb, hs, h => by
    have e1 : Aside0 (wrap64 ((j : Int) - 1) = ((j - 1 : Nat) : Int)) := ⟨wN (by omega) (by omega)⟩
    have e2 : Aside0 (wrap64 ((j : Int) + 1) = ((j + 1 : Nat) : Int)) := ⟨wN (by omega) (by omega)⟩
    rw [shiftUp, if_pos (by omega)] at h
    refine Ev.step (fun k => by simp only [api_Run_69.l3]; rfl) ?_
    simp only [e1.out, e2.out]
    refine Ev.ift (by omega) (Ev.ift (by omega) (Ev.ift (lenA d _ (by omega)) (Ev.ift (by omega) (Ev.ift (lenA d _ (by omega)) (Ev.bnow (cmpR _ _ _ _) ?_)))))
    have e7 := stA d j (j - 1)
    rw [rdA, rdA] at e7 ⊢
    by_cases c2 : (d[j]!).f0 < (d[j - 1]!).f0
    · refine Ev.ift (by rw [cmpNeg]; exact c2) ?_
      rw [if_neg (by simp [ltR, c2])] at h
      simp only [Int.toNat_natCast]
      rw [e7]
      exact pi_l3 a b i s r n (j + 1) _ (by omega) (by omega) (by rw [swp_size]; exact hb) (by rw [swp_size]; exact hs) h
    · refine Ev.iff_ (by rw [cmpNeg]; exact c2) ?_
      rw [if_pos (by simp [ltR, c2])] at h
      exact h
theorem pi_l2 (a b i : Nat) (s : Int) (r : Bool × List S42) : ∀ (j : Nat) (d : Array S42), j < d.size → d.size < 2305843009213693952 →
    Ev (fun k => api_Run_69.j4 k (shiftDown ltR j d).toList (a : Int) (b : Int) (i : Int) s) r → Ev (fun k => api_Run_69.l2 k d.toList (a : Int) (b : Int) (i : Int) s (j : Int)) r
  | 0, d, hj, hs, h => Ev.step (fun k => by simp only [api_Run_69.l2]; rw [if_neg (by omega)]; rfl) h
  | j + 1, d, hj, hs, h => by
    have e1 : Aside0 (wrap64 (((j + 1 : Nat) : Int) - 1) = (j : Int)) := ⟨wN (by omega) (by omega)⟩
    rw [shiftDown] at h
    refine Ev.step (fun k => by simp only [api_Run_69.l2]; rfl) ?_
    simp only [e1.out]
    refine Ev.ift (by omega) (Ev.ift (by omega) (Ev.ift (lenA d _ (by omega)) (Ev.ift (by omega) (Ev.ift (lenA d _ (by omega)) (Ev.bnow (cmpR _ _ _ _) ?_)))))
    have e7 := stA d (j + 1) j
    rw [rdA, rdA] at e7 ⊢
    by_cases c2 : (d[j + 1]!).f0 < (d[j]!).f0
    · refine Ev.ift (by rw [cmpNeg]; exact c2) ?_
      rw [if_neg (by simp [ltR, c2])] at h
      simp only [Int.toNat_natCast]
      rw [e7]
      exact pi_l2 a b i s r j _ (by rw [swp_size]; omega) (by rw [swp_size]; exact hs) h
    · refine Ev.iff_ (by rw [cmpNeg]; exact c2) ?_
      rw [if_pos (by simp [ltR, c2])] at h
      exact h
theorem pi_l1 (a b : Nat) (s : Int) (r : Bool × List S42) (d : Array S42) (hb : b ≤ d.size) (hs : d.size < 2305843009213693952) : ∀ (n i : Nat), b - i = n → 1 ≤ i →
    Ev (fun k => api_Run_69.j2 k d.toList (a : Int) (b : Int) ((scanSorted ltR d b i : Nat) : Int) s) r → Ev (fun k => api_Run_69.l1 k d.toList (a : Int) (b : Int) (i : Int) s) r
  | 0, i, hn, hi, h => by
    rw [scanSorted, if_neg (by simp; omega)] at h
    exact Ev.step (fun k => by simp only [api_Run_69.l1]; rw [if_neg (by omega)]) h
  | n + 1, i, hn, hi, h => by
    have e1 : Aside0 (wrap64 ((i : Int) - 1) = ((i - 1 : Nat) : Int)) := ⟨wN (by omega) (by omega)⟩
    have e2 : Aside0 (wrap64 ((i : Int) + 1) = ((i + 1 : Nat) : Int)) := ⟨wN (by omega) (by omega)⟩
    rw [scanSorted] at h
    refine Ev.step (fun k => by simp only [api_Run_69.l1]; rfl) ?_
    simp only [e1.out, e2.out]
    refine Ev.ift (by omega) (Ev.ift (by omega) (Ev.ift (lenA d _ (by omega)) (Ev.ift (by omega) (Ev.ift (lenA d _ (by omega)) (Ev.bnow (cmpR _ _ _ _) ?_)))))
    rw [rdA, rdA]
    by_cases c2 : (d[i]!).f0 < (d[i - 1]!).f0
    · refine Ev.ift (by rw [cmpNeg]; exact c2) ?_
      rw [if_neg (by simp [ltR, c2])] at h
      exact h
    · refine Ev.iff_ (by rw [cmpNeg]; exact c2) ?_
      rw [if_pos (by simp [ltR, c2]; omega)] at h
      exact pi_l1 a b s r d hb hs n (i + 1) (by omega) (by omega) h
theorem pi_j4 (a b i : Nat) (s : Int) (r : Bool × List S42) (d : Array S42) (hi : i ≤ b) (hb : b ≤ d.size) (hs : d.size < 2305843009213693952)
    (h : Ev (fun k => api_Run_69.l0 k (if b - i ≥ 2 then shiftUp ltR b (i + 1) d else d).toList (a : Int) (b : Int) (i : Int) (wrap64 (s + 1))) r) :
    Ev (fun k => api_Run_69.j4 k d.toList (a : Int) (b : Int) (i : Int) s) r := by
  have e1 : Aside0 (wrap64 ((b : Int) - (i : Int)) = ((b - i : Nat) : Int)) := ⟨wN (by omega) (by omega)⟩
  have e2 : Aside0 (wrap64 ((i : Int) + 1) = ((i + 1 : Nat) : Int)) := ⟨wN (by omega) (by omega)⟩
  refine Ev.step (fun k => by simp only [api_Run_69.j4]; rfl) ?_
  simp only [e1.out, e2.out]
  by_cases c : b - i ≥ 2
  · rw [if_pos c] at h
    exact Ev.ift (by omega) (pi_l3 a b i s r _ (i + 1) d rfl (by omega) hb hs h)
  · rw [if_neg c] at h
    exact Ev.iff_ (by omega) h
theorem pi_l0 (a b : Nat) : ∀ (s i : Nat) (d : Array S42), s ≤ 5 → a < i → i ≤ b → b ≤ d.size → d.size < 2305843009213693952 →
    Ev (fun k => api_Run_69.l0 k d.toList (a : Int) (b : Int) (i : Int) (5 - (s : Int))) ((partialIns ltR a b s i d).2, (partialIns ltR a b s i d).1.toList)
  | 0, i, d, h5, ha, hi, hb, hs => Ev.step (fun k => by simp only [api_Run_69.l0]; rw [if_neg (by omega)]; rfl) (Ev.now _)
  | s + 1, i, d, h5, ha, hi, hb, hs => by
    have hx : Aside0 (wrap64 (5 - ((s + 1 : Nat) : Int) + 1) = 5 - (s : Int)) := ⟨by rw [w64 (by omega) (by omega)]; omega⟩
    refine Ev.step (fun k => by simp only [api_Run_69.l0]; rw [if_pos (by omega)]) ?_
    have hsc := scanSorted_ge ltR d b _ i rfl hi
    refine pi_l1 a b _ _ d hb hs _ i rfl (by omega) ?_
    rw [partialIns]
    generalize scanSorted ltR d b i = i2 at hsc ⊢
    simp only
    refine Ev.step (fun k => by simp only [api_Run_69.j2]; rfl) ?_
    by_cases c : i2 = b
    · subst c
      simp only [if_true]
      exact Ev.now _
    · rw [if_neg c]
      refine Ev.iff_ (by omega) ?_
      have e1 : Aside0 (wrap64 ((b : Int) - (a : Int)) = ((b - a : Nat) : Int)) := ⟨wN (by omega) (by omega)⟩
      have e2 : Aside0 (wrap64 ((i2 : Int) - 1) = ((i2 - 1 : Nat) : Int)) := ⟨wN (by omega) (by omega)⟩
      have e3 : Aside0 (wrap64 ((i2 : Int) - (a : Int)) = ((i2 - a : Nat) : Int)) := ⟨wN (by omega) (by omega)⟩
      simp only [e1.out, e2.out, e3.out]
      by_cases c5 : b - a < 50
      · rw [if_pos c5]
        exact Ev.ift (by omega) (Ev.now _)
      · rw [if_neg c5]
        refine Ev.iff_ (by omega) (Ev.ift (by omega) (Ev.ift (lenA d _ (by omega)) (Ev.ift (by omega) (Ev.ift (lenA d _ (by omega)) ?_))))
        have e7 := stA d i2 (i2 - 1)
        simp only [Int.toNat_natCast]
        rw [e7]
        refine Ev.bnow rfl ?_
        have hsz : (swp d i2 (i2 - 1)).size = d.size := swp_size _ _ _
        generalize swp d i2 (i2 - 1) = d2 at hsz ⊢
        have J : ∀ d3 : Array S42, d3.size = d.size → Ev (fun k => api_Run_69.j4 k d3.toList (a : Int) (b : Int) (i2 : Int) (5 - ((s + 1 : Nat) : Int))) ((partialIns ltR a b s i2 (if b - i2 ≥ 2 then shiftUp ltR b (i2 + 1) d3 else d3)).2, (partialIns ltR a b s i2 (if b - i2 ≥ 2 then shiftUp ltR b (i2 + 1) d3 else d3)).1.toList) := by
          intro d3 h3
          refine pi_j4 a b i2 _ _ d3 hsc.2 (by omega) (by omega) ?_
          simp only [hx.out]
          have h4 : (if b - i2 ≥ 2 then shiftUp ltR b (i2 + 1) d3 else d3).size = d.size := by
            split
            · rw [shiftUp_size ltR b _ _ _ rfl]; exact h3
            · exact h3
          exact pi_l0 a b s i2 _ (by omega) (by omega) hsc.2 (by omega) (by omega)
        by_cases c6 : i2 - a ≥ 2
        · rw [if_pos c6]
          refine Ev.ift (by omega) ?_
          exact pi_l2 a b i2 _ _ (i2 - 1) d2 (by omega) (by omega) (J _ (by rw [shiftDown_size]; exact hsz))
        · rw [if_neg c6]
          exact Ev.iff_ (by omega) (J _ hsz)
theorem pi_f (a b : Nat) (d : Array S42) (hab : a < b) (hb : b ≤ d.size) (hs : d.size < 2305843009213693952) :
    Ev (fun k => api_Run_69.f k d.toList (a : Int) (b : Int)) ((partialInsertionSort ltR d a b).2, (partialInsertionSort ltR d a b).1.toList) := by
  have e : wrap64 ((a : Int) + 1) = ((a + 1 : Nat) : Int) := wN (by omega) (by omega)
  refine Ev.congr (fun k => by simp only [api_Run_69.f, e]; rfl) ?_
  exact pi_l0 a b 5 (a + 1) d (by omega) (by omega) (by omega) hb hs
end Go.Proofs.YthppfagfmjchoaaDoor.A.So
namespace Go.Proofs.YthppfagfmjchoaaDoor.A.So
open Go.RowKit Go.Proofs.YthppfagfmjchoaaDoorW.PrintWords Go.Proofs.YthppfagfmjchoaaDoorW.PrintLast Go.Proofs.YthppfagfmjchoaaDoorW.PrintMore
attribute [local go_sem] max2_int min2_int max_two min_two max_three min_three max_four min_four
set_option linter.unusedVariables false
set_option linter.unusedSimpArgs false
mutual
def api_Run_70.l0 : Nat → List (S42) → Int → Int → Int → Option (Int × (List (S42)))
  | 0, _, _, _, _ => none
  | k + 1, x0, x1, x11, x12 => api_Run_70.l1 k x0 x1 x11 x12
def api_Run_70.j2 : Nat → List (S42) → Int → Int → Int → Option (Int × (List (S42)))
  | 0, _, _, _, _ => none
  | k + 1, x0, x1, x11, x12 => api_Run_70.l2 k x0 x1 x11 x12
def api_Run_70.l2 : Nat → List (S42) → Int → Int → Int → Option (Int × (List (S42)))
  | 0, _, _, _, _ => none
  | k + 1, x0, x1, x11, x12 => if x11 ≤ x12 then (if 0 ≤ x1 then (if x1 < (x0.length : Int) then (if 0 ≤ x12 then (if x12 < (x0.length : Int) then ((runs_order_compare.f false ((rd_T42 x0 x1).f0) ((rd_T42 x0 x1).f1) ((rd_T42 x0 x12).f0) ((rd_T42 x0 x12).f1)).bind fun t172 => (if t172 < 0 then (api_Run_70.l2 k x0 x1 x11 (wrap64 (x12 - 1))) else (if x11 > x12 then (some (x11, x0)) else (if 0 ≤ x11 then (if x11 < (x0.length : Int) then (api_Run_70.l0 k ((x0.set (x11 : Int).toNat (⟨(rd_T42 x0 x12).f0, (rd_T42 x0 x12).f1⟩ : S42)).set (x12 : Int).toNat (⟨(rd_T42 x0 x11).f0, (rd_T42 x0 x11).f1⟩ : S42)) x1 (wrap64 (x11 + 1)) (wrap64 (x12 - 1))) else (none)) else (none))))) else (none)) else (none)) else (none)) else (none)) else (if x11 > x12 then (some (x11, x0)) else (if 0 ≤ x12 then (if x12 < (x0.length : Int) then (if 0 ≤ x11 then (if x11 < (x0.length : Int) then (api_Run_70.l0 k ((x0.set (x11 : Int).toNat (⟨(rd_T42 x0 x12).f0, (rd_T42 x0 x12).f1⟩ : S42)).set (x12 : Int).toNat (⟨(rd_T42 x0 x11).f0, (rd_T42 x0 x11).f1⟩ : S42)) x1 (wrap64 (x11 + 1)) (wrap64 (x12 - 1))) else (none)) else (none)) else (none)) else (none)))
def api_Run_70.l1 : Nat → List (S42) → Int → Int → Int → Option (Int × (List (S42)))
  | 0, _, _, _, _ => none
  | k + 1, x0, x1, x11, x12 => if x11 ≤ x12 then (if 0 ≤ x1 then (if x1 < (x0.length : Int) then (if 0 ≤ x11 then (if x11 < (x0.length : Int) then ((runs_order_compare.f false ((rd_T42 x0 x1).f0) ((rd_T42 x0 x1).f1) ((rd_T42 x0 x11).f0) ((rd_T42 x0 x11).f1)).bind fun t169 => (if t169 < 0 then (api_Run_70.j2 k x0 x1 x11 x12) else (api_Run_70.l1 k x0 x1 (wrap64 (x11 + 1)) x12))) else (none)) else (none)) else (none)) else (none)) else (api_Run_70.j2 k x0 x1 x11 x12)
end
def api_Run_70.f (k : Nat) (l0 : List (S42)) (a1 : Int) (a2 : Int) (a3 : Int)  : Option (Int × (List (S42))) := if 0 ≤ a3 then (if a3 < (l0.length : Int) then (if 0 ≤ a1 then (if a1 < (l0.length : Int) then (api_Run_70.l0 k ((l0.set (a1 : Int).toNat (⟨(rd_T42 l0 a3).f0, (rd_T42 l0 a3).f1⟩ : S42)).set (a3 : Int).toNat (⟨(rd_T42 l0 a1).f0, (rd_T42 l0 a1).f1⟩ : S42)) a1 (wrap64 (a1 + 1)) (wrap64 (a2 - 1))) else (none)) else (none)) else (none)) else (none)
end Go.Proofs.YthppfagfmjchoaaDoor.A.So
namespace Go.Proofs.YthppfagfmjchoaaDoor.A.So
open Go.RowKit Go.Proofs.YthppfagfmjchoaaDoorW.PrintWords Go.Proofs.YthppfagfmjchoaaDoorW.PrintLast Go.Proofs.YthppfagfmjchoaaDoorW.PrintMore
attribute [local go_sem] max2_int min2_int max_two min_two max_three min_three max_four min_four
set_option linter.unusedVariables false
set_option linter.unusedSimpArgs false
mutual
def api_Run_71.j1 : Nat → List (S42) → Int → Int → Int → Option (Int × Bool × (List (S42)))
  | 0, _, _, _, _ => none
  | k + 1, x0, x1, x12, x13 => api_Run_71.l1 k x0 x1 x12 x13
def api_Run_71.j3 : Nat → List (S42) → Int → Int → Int → Option (Int × Bool × (List (S42)))
  | 0, _, _, _, _ => none
  | k + 1, x0, x1, x12, x13 => if x12 > x13 then (if 0 ≤ x1 then (if x1 < (x0.length : Int) then (if 0 ≤ x13 then (if x13 < (x0.length : Int) then (some (x13, true, ((x0.set (x13 : Int).toNat (⟨(rd_T42 x0 x1).f0, (rd_T42 x0 x1).f1⟩ : S42)).set (x1 : Int).toNat (⟨(rd_T42 x0 x13).f0, (rd_T42 x0 x13).f1⟩ : S42)))) else (none)) else (none)) else (none)) else (none)) else (if 0 ≤ x13 then (if x13 < (x0.length : Int) then (if 0 ≤ x12 then (if x12 < (x0.length : Int) then (api_Run_71.l2 k ((x0.set (x12 : Int).toNat (⟨(rd_T42 x0 x13).f0, (rd_T42 x0 x13).f1⟩ : S42)).set (x13 : Int).toNat (⟨(rd_T42 x0 x12).f0, (rd_T42 x0 x12).f1⟩ : S42)) x1 (wrap64 (x12 + 1)) (wrap64 (x13 - 1))) else (none)) else (none)) else (none)) else (none))
def api_Run_71.l2 : Nat → List (S42) → Int → Int → Int → Option (Int × Bool × (List (S42)))
  | 0, _, _, _, _ => none
  | k + 1, x0, x1, x12, x13 => api_Run_71.l3 k x0 x1 x12 x13
def api_Run_71.j6 : Nat → List (S42) → Int → Int → Int → Option (Int × Bool × (List (S42)))
  | 0, _, _, _, _ => none
  | k + 1, x0, x1, x12, x13 => api_Run_71.l4 k x0 x1 x12 x13
def api_Run_71.l4 : Nat → List (S42) → Int → Int → Int → Option (Int × Bool × (List (S42)))
  | 0, _, _, _, _ => none
  | k + 1, x0, x1, x12, x13 => if x12 ≤ x13 then (if 0 ≤ x13 then (if x13 < (x0.length : Int) then (if 0 ≤ x1 then (if x1 < (x0.length : Int) then ((runs_order_compare.f false ((rd_T42 x0 x13).f0) ((rd_T42 x0 x13).f1) ((rd_T42 x0 x1).f0) ((rd_T42 x0 x1).f1)).bind fun t204 => (if t204 < 0 then (if x12 > x13 then (some (x13, false, ((x0.set (x13 : Int).toNat (⟨(rd_T42 x0 x1).f0, (rd_T42 x0 x1).f1⟩ : S42)).set (x1 : Int).toNat (⟨(rd_T42 x0 x13).f0, (rd_T42 x0 x13).f1⟩ : S42)))) else (if 0 ≤ x12 then (if x12 < (x0.length : Int) then (api_Run_71.l2 k ((x0.set (x12 : Int).toNat (⟨(rd_T42 x0 x13).f0, (rd_T42 x0 x13).f1⟩ : S42)).set (x13 : Int).toNat (⟨(rd_T42 x0 x12).f0, (rd_T42 x0 x12).f1⟩ : S42)) x1 (wrap64 (x12 + 1)) (wrap64 (x13 - 1))) else (none)) else (none))) else (api_Run_71.l4 k x0 x1 x12 (wrap64 (x13 - 1))))) else (none)) else (none)) else (none)) else (none)) else (if x12 > x13 then (if 0 ≤ x1 then (if x1 < (x0.length : Int) then (if 0 ≤ x13 then (if x13 < (x0.length : Int) then (some (x13, false, ((x0.set (x13 : Int).toNat (⟨(rd_T42 x0 x1).f0, (rd_T42 x0 x1).f1⟩ : S42)).set (x1 : Int).toNat (⟨(rd_T42 x0 x13).f0, (rd_T42 x0 x13).f1⟩ : S42)))) else (none)) else (none)) else (none)) else (none)) else (if 0 ≤ x13 then (if x13 < (x0.length : Int) then (if 0 ≤ x12 then (if x12 < (x0.length : Int) then (api_Run_71.l2 k ((x0.set (x12 : Int).toNat (⟨(rd_T42 x0 x13).f0, (rd_T42 x0 x13).f1⟩ : S42)).set (x13 : Int).toNat (⟨(rd_T42 x0 x12).f0, (rd_T42 x0 x12).f1⟩ : S42)) x1 (wrap64 (x12 + 1)) (wrap64 (x13 - 1))) else (none)) else (none)) else (none)) else (none)))
def api_Run_71.l3 : Nat → List (S42) → Int → Int → Int → Option (Int × Bool × (List (S42)))
  | 0, _, _, _, _ => none
  | k + 1, x0, x1, x12, x13 => if x12 ≤ x13 then (if 0 ≤ x12 then (if x12 < (x0.length : Int) then (if 0 ≤ x1 then (if x1 < (x0.length : Int) then ((runs_order_compare.f false ((rd_T42 x0 x12).f0) ((rd_T42 x0 x12).f1) ((rd_T42 x0 x1).f0) ((rd_T42 x0 x1).f1)).bind fun t201 => (if t201 < 0 then (api_Run_71.l3 k x0 x1 (wrap64 (x12 + 1)) x13) else (api_Run_71.j6 k x0 x1 x12 x13))) else (none)) else (none)) else (none)) else (none)) else (api_Run_71.j6 k x0 x1 x12 x13)
def api_Run_71.l1 : Nat → List (S42) → Int → Int → Int → Option (Int × Bool × (List (S42)))
  | 0, _, _, _, _ => none
  | k + 1, x0, x1, x12, x13 => if x12 ≤ x13 then (if 0 ≤ x13 then (if x13 < (x0.length : Int) then (if 0 ≤ x1 then (if x1 < (x0.length : Int) then ((runs_order_compare.f false ((rd_T42 x0 x13).f0) ((rd_T42 x0 x13).f1) ((rd_T42 x0 x1).f0) ((rd_T42 x0 x1).f1)).bind fun t190 => (if t190 < 0 then (api_Run_71.j3 k x0 x1 x12 x13) else (api_Run_71.l1 k x0 x1 x12 (wrap64 (x13 - 1))))) else (none)) else (none)) else (none)) else (none)) else (api_Run_71.j3 k x0 x1 x12 x13)
def api_Run_71.l0 : Nat → List (S42) → Int → Int → Int → Option (Int × Bool × (List (S42)))
  | 0, _, _, _, _ => none
  | k + 1, x0, x1, x12, x13 => if x12 ≤ x13 then (if 0 ≤ x12 then (if x12 < (x0.length : Int) then (if 0 ≤ x1 then (if x1 < (x0.length : Int) then ((runs_order_compare.f false ((rd_T42 x0 x12).f0) ((rd_T42 x0 x12).f1) ((rd_T42 x0 x1).f0) ((rd_T42 x0 x1).f1)).bind fun t187 => (if t187 < 0 then (api_Run_71.l0 k x0 x1 (wrap64 (x12 + 1)) x13) else (api_Run_71.j1 k x0 x1 x12 x13))) else (none)) else (none)) else (none)) else (none)) else (api_Run_71.j1 k x0 x1 x12 x13)
end
def api_Run_71.f (k : Nat) (l0 : List (S42)) (a1 : Int) (a2 : Int) (a3 : Int)  : Option (Int × Bool × (List (S42))) := if 0 ≤ a3 then (if a3 < (l0.length : Int) then (if 0 ≤ a1 then (if a1 < (l0.length : Int) then (api_Run_71.l0 k ((l0.set (a1 : Int).toNat (⟨(rd_T42 l0 a3).f0, (rd_T42 l0 a3).f1⟩ : S42)).set (a3 : Int).toNat (⟨(rd_T42 l0 a1).f0, (rd_T42 l0 a1).f1⟩ : S42)) a1 (wrap64 (a1 + 1)) (wrap64 (a2 - 1))) else (none)) else (none)) else (none)) else (none)
end Go.Proofs.YthppfagfmjchoaaDoor.A.So
namespace Go.Proofs.YthppfagfmjchoaaDoor.A.So
open Go.RowKit Go.Proofs.YthppfagfmjchoaaDoorW.PrintWords Go.Proofs.YthppfagfmjchoaaDoorW.PrintLast Go.Proofs.YthppfagfmjchoaaDoorW.PrintMore Go.Sort
set_option linter.unusedVariables false
theorem scanUp_bds {α : Type} [Inhabited α] (p : α → Bool) (d : Array α) (j : Nat) : ∀ (n i : Nat), j + 1 - i = n → i ≤ scanUp p d j i ∧ (scanUp p d j i ≤ i ∨ scanUp p d j i ≤ j + 1)
  | 0, i, h => by rw [scanUp, if_neg (by simp; omega)]; omega
  | n + 1, i, h => by
    rw [scanUp]
    split
    · have := scanUp_bds p d j n (i + 1) (by omega)
      omega
    · omega
theorem scanDown_le {α : Type} [Inhabited α] (p : α → Bool) (d : Array α) (i : Nat) : ∀ (j : Nat), scanDown p d i j ≤ j
  | 0 => Nat.le_refl _
  | j + 1 => by
    rw [scanDown]
    split
    · have := scanDown_le p d i j
      omega
    · exact Nat.le_refl _
theorem pe_l2 (a i : Nat) (d : Array S42) (r : Int × List S42) (ha : a < d.size) (hi : 1 ≤ i) (hs : d.size < 2305843009213693952) : ∀ (j : Nat), j < d.size →
    (i ≤ scanDown (fun x => ltR d[a]! x) d i j → Ev (fun k => api_Run_70.l0 k (swp d i (scanDown (fun x => ltR d[a]! x) d i j)).toList (a : Int) ((i + 1 : Nat) : Int) ((scanDown (fun x => ltR d[a]! x) d i j - 1 : Nat) : Int)) r) →
    (¬ i ≤ scanDown (fun x => ltR d[a]! x) d i j → r = ((i : Int), d.toList)) →
    Ev (fun k => api_Run_70.l2 k d.toList (a : Int) (i : Int) (j : Int)) r
  | 0, hj, h1, h2 => by
    rw [scanDown] at h2
    have := h2 (by omega)
    subst this
    exact Ev.step (fun k => by simp only [api_Run_70.l2]; rw [if_neg (by omega), if_pos (by omega)]) (Ev.now _)
  | j + 1, hj, h1, h2 => by
    have e1 : Aside0 (wrap64 (((j + 1 : Nat) : Int) - 1) = (j : Int)) := ⟨wN (by omega) (by omega)⟩
    have e2 : Aside0 (wrap64 ((i : Int) + 1) = ((i + 1 : Nat) : Int) ∨ ¬ i ≤ j + 1) := ⟨by
      by_cases c : i ≤ j + 1
      · exact .inl (wN (by omega) (by omega))
      · exact .inr c⟩
    refine Ev.step (fun k => by simp only [api_Run_70.l2]; rfl) ?_
    simp only [e1.out]
    rw [scanDown] at h1 h2
    by_cases c : i ≤ j + 1
    · have e3 := e2.out.resolve_right (fun h => h c)
      have e3 := Aside0.mk e3
      simp only [e3.out]
      refine Ev.ift (by omega) (Ev.ift (by omega) (Ev.ift (lenA d _ (by omega)) (Ev.ift (by omega) (Ev.ift (lenA d _ (by omega)) (Ev.bnow (cmpR _ _ _ _) ?_)))))
      have e7 := stA d i (j + 1)
      rw [rdA, rdA] at e7
      simp only [rdA] at e7 ⊢
      by_cases c2 : (d[a]!).f0 < (d[j + 1]!).f0
      · refine Ev.ift (by rw [cmpNeg]; exact c2) ?_
        rw [if_pos (by simp [ltR, c2, c])] at h1 h2
        exact pe_l2 a i d r ha hi hs j (by omega) h1 h2
      · refine Ev.iff_ (by rw [cmpNeg]; exact c2) (Ev.iff_ (by omega) (Ev.ift (by omega) (Ev.ift (lenA d _ (by omega)) ?_)))
        rw [if_neg (by simp [ltR, c2])] at h1
        simp only [Int.toNat_natCast]
        rw [e7]
        exact h1 c
    · rw [if_neg (by simp [c])] at h2
      have := h2 c
      subst this
      exact Ev.iff_ (by omega) (Ev.ift (by omega) (Ev.now _))
theorem pe_l1 (a j : Nat) (d : Array S42) (r : Int × List S42) (ha : a < d.size) (hj : j < d.size) (hs : d.size < 2305843009213693952) : ∀ (n i : Nat), j + 1 - i = n →
    Ev (fun k => api_Run_70.j2 k d.toList (a : Int) ((scanUp (fun x => !ltR d[a]! x) d j i : Nat) : Int) (j : Int)) r →
    Ev (fun k => api_Run_70.l1 k d.toList (a : Int) (i : Int) (j : Int)) r
  | 0, i, hn, h => by
    rw [scanUp, if_neg (by simp; omega)] at h
    exact Ev.step (fun k => by simp only [api_Run_70.l1]; rw [if_neg (by omega)]) h
  | n + 1, i, hn, h => by
    have e1 : Aside0 (wrap64 ((i : Int) + 1) = ((i + 1 : Nat) : Int)) := ⟨wN (by omega) (by omega)⟩
    refine Ev.step (fun k => by simp only [api_Run_70.l1]; rfl) ?_
    simp only [e1.out]
    rw [scanUp] at h
    refine Ev.ift (by omega) (Ev.ift (by omega) (Ev.ift (lenA d _ (by omega)) (Ev.ift (by omega) (Ev.ift (lenA d _ (by omega)) (Ev.bnow (cmpR _ _ _ _) ?_)))))
    simp only [rdA]
    by_cases c2 : (d[a]!).f0 < (d[i]!).f0
    · refine Ev.ift (by rw [cmpNeg]; exact c2) ?_
      rw [if_neg (by simp [ltR, c2])] at h
      exact h
    · refine Ev.iff_ (by rw [cmpNeg]; exact c2) ?_
      rw [if_pos (by simp [ltR, c2]; omega)] at h
      exact pe_l1 a j d r ha hj hs n (i + 1) (by omega) h
theorem pe_l0 (a : Nat) : ∀ (n i j : Nat) (d : Array S42), j + 1 - i = n → 1 ≤ i → a < d.size → j < d.size → d.size < 2305843009213693952 →
    Ev (fun k => api_Run_70.l0 k d.toList (a : Int) (i : Int) (j : Int)) (((partEqLoop ltR a i j d).1 : Int), (partEqLoop ltR a i j d).2.toList) := by
  intro n
  induction n using Nat.strongRecOn with
  | _ n ih =>
    intro i j d hn hi ha hj hs
    refine Ev.step (fun k => by simp only [api_Run_70.l0]; rfl) ?_
    refine pe_l1 a j d _ ha hj hs _ i rfl ?_
    refine Ev.step (fun k => by simp only [api_Run_70.j2]; rfl) ?_
    have hu := scanUp_bds (fun x => !ltR d[a]! x) d j _ i rfl
    rw [partEqLoop]
    generalize scanUp (fun x => !ltR d[a]! x) d j i = i2 at hu ⊢
    have hd := scanDown_le (fun x => ltR d[a]! x) d i2 j
    refine pe_l2 a i2 d _ ha (by omega) hs j hj ?_ ?_
    · generalize scanDown (fun x => ltR d[a]! x) d i2 j = j2 at hd ⊢
      intro hle
      rw [if_neg (by omega), dif_pos (by omega)]
      exact ih (j2 - 1 + 1 - (i2 + 1)) (by omega) (i2 + 1) (j2 - 1) _ rfl (by omega) (by rw [swp_size]; exact ha) (by rw [swp_size]; omega) (by rw [swp_size]; exact hs)
    · generalize scanDown (fun x => ltR d[a]! x) d i2 j = j2 at hd ⊢
      intro hle
      rw [if_pos (by omega)]
theorem pe_f (a b p : Nat) (d : Array S42) (hab : a < b) (hb : b ≤ d.size) (hp : p < d.size) (hs : d.size < 2305843009213693952) :
    Ev (fun k => api_Run_70.f k d.toList (a : Int) (b : Int) (p : Int)) (((partitionEqual ltR d a b p).1 : Int), (partitionEqual ltR d a b p).2.toList) := by
  have e1 : Aside0 (wrap64 ((a : Int) + 1) = ((a + 1 : Nat) : Int)) := ⟨wN (by omega) (by omega)⟩
  have e2 : Aside0 (wrap64 ((b : Int) - 1) = ((b - 1 : Nat) : Int)) := ⟨wN (by omega) (by omega)⟩
  refine Ev.congr (fun k => by simp only [api_Run_70.f, e1.out, e2.out]; rfl) ?_
  refine Ev.ift (by omega) (Ev.ift (lenA d _ hp) (Ev.ift (by omega) (Ev.ift (lenA d _ (by omega)) ?_)))
  have e7 := stA d a p
  simp only [Int.toNat_natCast]
  rw [e7]
  exact pe_l0 a _ (a + 1) (b - 1) _ rfl (by omega) (by rw [swp_size]; omega) (by rw [swp_size]; omega) (by rw [swp_size]; exact hs)
end Go.Proofs.YthppfagfmjchoaaDoor.A.So
namespace Go.Proofs.YthppfagfmjchoaaDoor.A.So
open Go.RowKit Go.Proofs.YthppfagfmjchoaaDoorW.PrintWords Go.Proofs.YthppfagfmjchoaaDoorW.PrintLast Go.Proofs.YthppfagfmjchoaaDoorW.PrintMore Go.Sort
set_option linter.unusedVariables false
theorem pt_l0 (a j : Nat) (d : Array S42) (r : Int × Bool × List S42) (ha : a < d.size) (hj : j < d.size) (hs : d.size < 2305843009213693952) : ∀ (n i : Nat), j + 1 - i = n →
    Ev (fun k => api_Run_71.j1 k d.toList (a : Int) ((scanUp (fun x => ltR x d[a]!) d j i : Nat) : Int) (j : Int)) r →
    Ev (fun k => api_Run_71.l0 k d.toList (a : Int) (i : Int) (j : Int)) r
  | 0, i, hn, h => by
    rw [scanUp, if_neg (by simp; omega)] at h
    exact Ev.step (fun k => by simp only [api_Run_71.l0]; rw [if_neg (by omega)]) h
  | n + 1, i, hn, h => by
    have e1 : Aside0 (wrap64 ((i : Int) + 1) = ((i + 1 : Nat) : Int)) := ⟨wN (by omega) (by omega)⟩
    refine Ev.step (fun k => by simp only [api_Run_71.l0]; rfl) ?_
    simp only [e1.out]
    rw [scanUp] at h
    refine Ev.ift (by omega) (Ev.ift (by omega) (Ev.ift (lenA d _ (by omega)) (Ev.ift (by omega) (Ev.ift (lenA d _ (by omega)) (Ev.bnow (cmpR _ _ _ _) ?_)))))
    simp only [rdA]
    by_cases c2 : (d[i]!).f0 < (d[a]!).f0
    · refine Ev.ift (by rw [cmpNeg]; exact c2) ?_
      rw [if_pos (by simp [ltR, c2]; omega)] at h
      exact pt_l0 a j d r ha hj hs n (i + 1) (by omega) h
    · refine Ev.iff_ (by rw [cmpNeg]; exact c2) ?_
      rw [if_neg (by simp [ltR, c2])] at h
      exact h
theorem pt_l3 (a j : Nat) (d : Array S42) (r : Int × Bool × List S42) (ha : a < d.size) (hj : j < d.size) (hs : d.size < 2305843009213693952) : ∀ (n i : Nat), j + 1 - i = n →
    Ev (fun k => api_Run_71.j6 k d.toList (a : Int) ((scanUp (fun x => ltR x d[a]!) d j i : Nat) : Int) (j : Int)) r →
    Ev (fun k => api_Run_71.l3 k d.toList (a : Int) (i : Int) (j : Int)) r
  | 0, i, hn, h => by
    rw [scanUp, if_neg (by simp; omega)] at h
    exact Ev.step (fun k => by simp only [api_Run_71.l3]; rw [if_neg (by omega)]) h
  | n + 1, i, hn, h => by
    have e1 : Aside0 (wrap64 ((i : Int) + 1) = ((i + 1 : Nat) : Int)) := ⟨wN (by omega) (by omega)⟩
    refine Ev.step (fun k => by simp only [api_Run_71.l3]; rfl) ?_
    simp only [e1.out]
    rw [scanUp] at h
    refine Ev.ift (by omega) (Ev.ift (by omega) (Ev.ift (lenA d _ (by omega)) (Ev.ift (by omega) (Ev.ift (lenA d _ (by omega)) (Ev.bnow (cmpR _ _ _ _) ?_)))))
    simp only [rdA]
    by_cases c2 : (d[i]!).f0 < (d[a]!).f0
    · refine Ev.ift (by rw [cmpNeg]; exact c2) ?_
      rw [if_pos (by simp [ltR, c2]; omega)] at h
      exact pt_l3 a j d r ha hj hs n (i + 1) (by omega) h
    · refine Ev.iff_ (by rw [cmpNeg]; exact c2) ?_
      rw [if_neg (by simp [ltR, c2])] at h
      exact h
theorem pt_l1 (a i : Nat) (d : Array S42) (r : Int × Bool × List S42) (ha : a < d.size) (hi : 1 ≤ i) (hs : d.size < 2305843009213693952) : ∀ (j : Nat), j < d.size →
    Ev (fun k => api_Run_71.j3 k d.toList (a : Int) (i : Int) ((scanDown (fun x => !ltR x d[a]!) d i j : Nat) : Int)) r →
    Ev (fun k => api_Run_71.l1 k d.toList (a : Int) (i : Int) (j : Int)) r
  | 0, hj, h => by
    rw [scanDown] at h
    exact Ev.step (fun k => by simp only [api_Run_71.l1]; rw [if_neg (by omega)]) h
  | j + 1, hj, h => by
    have e1 : Aside0 (wrap64 (((j + 1 : Nat) : Int) - 1) = (j : Int)) := ⟨wN (by omega) (by omega)⟩
    refine Ev.step (fun k => by simp only [api_Run_71.l1]; rfl) ?_
    simp only [e1.out]
    rw [scanDown] at h
    by_cases c : i ≤ j + 1
    · refine Ev.ift (by omega) (Ev.ift (by omega) (Ev.ift (lenA d _ (by omega)) (Ev.ift (by omega) (Ev.ift (lenA d _ (by omega)) (Ev.bnow (cmpR _ _ _ _) ?_)))))
      simp only [rdA]
      by_cases c2 : (d[j + 1]!).f0 < (d[a]!).f0
      · refine Ev.ift (by rw [cmpNeg]; exact c2) ?_
        rw [if_neg (by simp [ltR, c2])] at h
        exact h
      · refine Ev.iff_ (by rw [cmpNeg]; exact c2) ?_
        rw [if_pos (by simp [ltR, c2, c])] at h
        exact pt_l1 a i d r ha hi hs j (by omega) h
    · rw [if_neg (by simp [c])] at h
      exact Ev.iff_ (by omega) h
theorem pt_l4 (a i : Nat) (d : Array S42) (r : Int × Bool × List S42) (ha : a < d.size) (hi : 1 ≤ i) (hs : d.size < 2305843009213693952) : ∀ (j : Nat), j < d.size →
    (i ≤ scanDown (fun x => !ltR x d[a]!) d i j → Ev (fun k => api_Run_71.l2 k (swp d i (scanDown (fun x => !ltR x d[a]!) d i j)).toList (a : Int) ((i + 1 : Nat) : Int) ((scanDown (fun x => !ltR x d[a]!) d i j - 1 : Nat) : Int)) r) →
    (¬ i ≤ scanDown (fun x => !ltR x d[a]!) d i j → r = (((scanDown (fun x => !ltR x d[a]!) d i j : Nat) : Int), false, (swp d (scanDown (fun x => !ltR x d[a]!) d i j) a).toList)) →
    Ev (fun k => api_Run_71.l4 k d.toList (a : Int) (i : Int) (j : Int)) r
  | 0, hj, h1, h2 => by
    rw [scanDown] at h2
    have := h2 (by omega)
    subst this
    have e7 := stA d 0 a
    refine Ev.step (fun k => by simp only [api_Run_71.l4]; rfl) ?_
    refine Ev.iff_ (by omega) (Ev.ift (by omega) (Ev.ift (by omega) (Ev.ift (lenA d _ (by omega)) (Ev.ift (by omega) (Ev.ift (lenA d 0 (by omega)) ?_)))))
    simp only [Int.toNat_natCast]
    rw [e7]
    exact Ev.now _
  | j + 1, hj, h1, h2 => by
    have e1 : Aside0 (wrap64 (((j + 1 : Nat) : Int) - 1) = (j : Int)) := ⟨wN (by omega) (by omega)⟩
    have e2 : Aside0 (wrap64 ((i : Int) + 1) = ((i + 1 : Nat) : Int) ∨ ¬ i ≤ j + 1) := ⟨by
      by_cases c : i ≤ j + 1
      · exact .inl (wN (by omega) (by omega))
      · exact .inr c⟩
    refine Ev.step (fun k => by simp only [api_Run_71.l4]; rfl) ?_
    simp only [e1.out]
    rw [scanDown] at h1 h2
    by_cases c : i ≤ j + 1
    · have e3 := e2.out.resolve_right (fun h => h c)
      have e3 := Aside0.mk e3
      simp only [e3.out]
      refine Ev.ift (by omega) (Ev.ift (by omega) (Ev.ift (lenA d _ (by omega)) (Ev.ift (by omega) (Ev.ift (lenA d _ (by omega)) (Ev.bnow (cmpR _ _ _ _) ?_)))))
      have e7 := stA d i (j + 1)
      simp only [rdA] at e7 ⊢
      by_cases c2 : (d[j + 1]!).f0 < (d[a]!).f0
      · refine Ev.ift (by rw [cmpNeg]; exact c2) (Ev.iff_ (by omega) (Ev.ift (by omega) (Ev.ift (lenA d _ (by omega)) ?_)))
        rw [if_neg (by simp [ltR, c2])] at h1
        simp only [Int.toNat_natCast]
        rw [e7]
        exact h1 c
      · refine Ev.iff_ (by rw [cmpNeg]; exact c2) ?_
        rw [if_pos (by simp [ltR, c2, c])] at h1 h2
        exact pt_l4 a i d r ha hi hs j (by omega) h1 h2
    · rw [if_neg (by simp [c])] at h2
      have := h2 c
      subst this
      have e7 := stA d (j + 1) a
      refine Ev.iff_ (by omega) (Ev.ift (by omega) (Ev.ift (by omega) (Ev.ift (lenA d _ (by omega)) (Ev.ift (by omega) (Ev.ift (lenA d _ (by omega)) ?_)))))
      simp only [Int.toNat_natCast]
      rw [e7]
      exact Ev.now _
theorem pt_l2 (a : Nat) : ∀ (n i j : Nat) (d : Array S42), j + 1 - i = n → 1 ≤ i → a < d.size → j < d.size → d.size < 2305843009213693952 →
    Ev (fun k => api_Run_71.l2 k d.toList (a : Int) (i : Int) (j : Int)) (((partLoop ltR a i j d).1 : Int), false, (swp (partLoop ltR a i j d).2 (partLoop ltR a i j d).1 a).toList) := by
  intro n
  induction n using Nat.strongRecOn with
  | _ n ih =>
    intro i j d hn hi ha hj hs
    refine Ev.step (fun k => by simp only [api_Run_71.l2]; rfl) ?_
    refine pt_l3 a j d _ ha hj hs _ i rfl ?_
    refine Ev.step (fun k => by simp only [api_Run_71.j6]; rfl) ?_
    have hu := scanUp_bds (fun x => ltR x d[a]!) d j _ i rfl
    rw [partLoop]
    generalize scanUp (fun x => ltR x d[a]!) d j i = i2 at hu ⊢
    have hd := scanDown_le (fun x => !ltR x d[a]!) d i2 j
    refine pt_l4 a i2 d _ ha (by omega) hs j hj ?_ ?_
    · generalize scanDown (fun x => !ltR x d[a]!) d i2 j = j2 at hd ⊢
      intro hle
      rw [if_neg (by omega), dif_pos (by omega)]
      exact ih (j2 - 1 + 1 - (i2 + 1)) (by omega) (i2 + 1) (j2 - 1) _ rfl (by omega) (by rw [swp_size]; exact ha) (by rw [swp_size]; omega) (by rw [swp_size]; exact hs)
    · generalize scanDown (fun x => !ltR x d[a]!) d i2 j = j2 at hd ⊢
      intro hle
      rw [if_pos (by omega)]
theorem pt_f (a b p : Nat) (d : Array S42) (hab : a < b) (hb : b ≤ d.size) (hp : p < d.size) (hs : d.size < 2305843009213693952) :
    Ev (fun k => api_Run_71.f k d.toList (a : Int) (b : Int) (p : Int)) (((Go.Sort.partition ltR d a b p).1 : Int), (Go.Sort.partition ltR d a b p).2.1, (Go.Sort.partition ltR d a b p).2.2.toList) := by
  have e1 : Aside0 (wrap64 ((a : Int) + 1) = ((a + 1 : Nat) : Int)) := ⟨wN (by omega) (by omega)⟩
  have e2 : Aside0 (wrap64 ((b : Int) - 1) = ((b - 1 : Nat) : Int)) := ⟨wN (by omega) (by omega)⟩
  refine Ev.congr (fun k => by simp only [api_Run_71.f, e1.out, e2.out]; rfl) ?_
  refine Ev.ift (by omega) (Ev.ift (lenA d _ hp) (Ev.ift (by omega) (Ev.ift (lenA d _ (by omega)) ?_)))
  have e7 := stA d a p
  simp only [Int.toNat_natCast]
  rw [e7]
  simp only [Go.Sort.partition]
  have hsz : (swp d a p).size = d.size := swp_size _ _ _
  generalize swp d a p = d1 at hsz ⊢
  refine pt_l0 a (b - 1) d1 _ (by omega) (by omega) (by omega) _ (a + 1) rfl ?_
  refine Ev.step (fun k => by simp only [api_Run_71.j1]; rfl) ?_
  have hu := scanUp_bds (fun x => ltR x d1[a]!) d1 (b - 1) _ (a + 1) rfl
  generalize scanUp (fun x => ltR x d1[a]!) d1 (b - 1) (a + 1) = i at hu ⊢
  refine pt_l1 a i d1 _ (by omega) (by omega) (by omega) (b - 1) (by omega) ?_
  have hd := scanDown_le (fun x => !ltR x d1[a]!) d1 i (b - 1)
  generalize scanDown (fun x => !ltR x d1[a]!) d1 i (b - 1) = j at hd ⊢
  refine Ev.step (fun k => by simp only [api_Run_71.j3]; rfl) ?_
  by_cases c : i > j
  · rw [if_pos c]
    have e8 := stA d1 j a
    refine Ev.ift (by omega) (Ev.ift (by omega) (Ev.ift (lenA d1 _ (by omega)) (Ev.ift (by omega) (Ev.ift (lenA d1 _ (by omega)) ?_))))
    simp only [Int.toNat_natCast]
    rw [e8]
    exact Ev.now _
  · rw [if_neg c]
    have e8 := stA d1 i j
    have e4 : Aside0 (wrap64 ((i : Int) + 1) = ((i + 1 : Nat) : Int)) := ⟨wN (by omega) (by omega)⟩
    have e5 : Aside0 (wrap64 ((j : Int) - 1) = ((j - 1 : Nat) : Int)) := ⟨wN (by omega) (by omega)⟩
    simp only [e4.out, e5.out]
    refine Ev.iff_ (by omega) (Ev.ift (by omega) (Ev.ift (lenA d1 _ (by omega)) (Ev.ift (by omega) (Ev.ift (lenA d1 _ (by omega)) ?_))))
    simp only [Int.toNat_natCast]
    rw [e8]
    exact pt_l2 a _ (i + 1) (j - 1) _ rfl (by omega) (by rw [swp_size]; omega) (by rw [swp_size]; omega) (by rw [swp_size]; omega)
end Go.Proofs.YthppfagfmjchoaaDoor.A.So
namespace Go.Proofs.YthppfagfmjchoaaDoor.A.So
open Go.RowKit Go.Proofs.YthppfagfmjchoaaDoorW.PrintWords Go.Proofs.YthppfagfmjchoaaDoorW.PrintLast Go.Proofs.YthppfagfmjchoaaDoorW.PrintMore
def order2.f (l0 : List (S42)) (a1 : Int) (a2 : Int) (n0 : Int) : Option (Int × Int × Int) := if 0 ≤ a2 then (if a2 < (l0.length : Int) then (if 0 ≤ a1 then (if a1 < (l0.length : Int) then ((runs_order_compare.f false ((rd_T42 l0 a2).f0) ((rd_T42 l0 a2).f1) ((rd_T42 l0 a1).f0) ((rd_T42 l0 a1).f1)).bind fun t110 => (if t110 < 0 then (some (a2, a1, wrap64 (n0 + 1))) else (some (a1, a2, n0)))) else (none)) else (none)) else (none)) else (none)
def median.f (l0 : List S42) (a1 a2 a3 n0 : Int) : Option (Int × Int) := (order2.f l0 a1 a2 n0).bind fun x => (order2.f l0 x.2.1 a3 x.2.2).bind fun y => (order2.f l0 x.1 y.1 y.2.2).bind fun z => some (z.2.1, z.2.2)
def medadj.f (l0 : List S42) (a1 n0 : Int) : Option (Int × Int) := median.f l0 (wrap64 (a1 - 1)) a1 (wrap64 (a1 + 1)) n0
def bits_Len.f (a : Int) : Option Int := if 0 ≤ a then (if a ≤ 18446744073709551615 then some (Lib.bitLen a.toNat : Int) else none) else none
def api_Run_67.hint (n : Int) : Int := if n = 0 then 1 else if n = 12 then 2 else 0
def api_Run_67.at (a y : Int) : Int := wrap64 (a + wrap64 y)
def api_Run_67.f (l0 : List S42) (a1 a2 : Int) : Option (Int × Int) :=
  if 8 ≤ wrap64 (a2 - a1) then
    (if 50 ≤ wrap64 (a2 - a1) then
      (medadj.f l0 (api_Run_67.at a1 (wrap64 ((wrap64 (a2 - a1)).tdiv 4))) 0).bind fun x => (medadj.f l0 (api_Run_67.at a1 (wrap64 ((wrap64 (a2 - a1)).tdiv 4) * 2)) x.2).bind fun y => (medadj.f l0 (api_Run_67.at a1 (wrap64 ((wrap64 (a2 - a1)).tdiv 4) * 3)) y.2).bind fun z => median.f l0 x.1 y.1 z.1 z.2
    else median.f l0 (api_Run_67.at a1 (wrap64 ((wrap64 (a2 - a1)).tdiv 4))) (api_Run_67.at a1 (wrap64 ((wrap64 (a2 - a1)).tdiv 4) * 2)) (api_Run_67.at a1 (wrap64 ((wrap64 (a2 - a1)).tdiv 4) * 3)) 0).bind fun m => some (m.1, api_Run_67.hint m.2)
  else some (api_Run_67.at a1 (wrap64 ((wrap64 (a2 - a1)).tdiv 4) * 2), 1)
def slices_xorshift_Next.f (x : Int) : Option Int := if 0 ≤ x ∧ x < 18446744073709551616 then some (Go.Sort.xorNextN x.toNat : Nat) else none
def slices_nextPowerOfTwo.f (x : Int) : Option Int := if 0 ≤ x ∧ x < 4611686018427387904 then some ((1 <<< Go.Sort.bitsLen x.toNat : Nat) : Int) else none
def brk.l0 : Nat → List (S42) → Int → Int → Int → Int → Int → Option ((List (S42)))
  | 0, _, _, _, _, _, _ => none
  | k + 1, x0, x1, x8, x9, x10, x11 => if x11 ≤ (wrap64 ((wrap64 (x1 + (wrap64 ((wrap64 (Int.tdiv x8 4)) * 2)))) + 1)) then ((slices_xorshift_Next.f x9).bind fun t109 => (if (wrap64 (Go.bits .and .u64 t109 (IntKind.u64.wrap (x10 - 1)))) ≥ x8 then (if 0 ≤ (wrap64 (x1 + (wrap64 ((wrap64 (Go.bits .and .u64 t109 (IntKind.u64.wrap (x10 - 1)))) - x8)))) then (if (wrap64 (x1 + (wrap64 ((wrap64 (Go.bits .and .u64 t109 (IntKind.u64.wrap (x10 - 1)))) - x8)))) < (x0.length : Int) then (if 0 ≤ x11 then (if x11 < (x0.length : Int) then (brk.l0 k ((x0.set (x11 : Int).toNat (⟨(rd_T42 x0 (wrap64 (x1 + (wrap64 ((wrap64 (Go.bits .and .u64 t109 (IntKind.u64.wrap (x10 - 1)))) - x8))))).f0, (rd_T42 x0 (wrap64 (x1 + (wrap64 ((wrap64 (Go.bits .and .u64 t109 (IntKind.u64.wrap (x10 - 1)))) - x8))))).f1⟩ : S42)).set ((wrap64 (x1 + (wrap64 ((wrap64 (Go.bits .and .u64 t109 (IntKind.u64.wrap (x10 - 1)))) - x8)))) : Int).toNat (⟨(rd_T42 x0 x11).f0, (rd_T42 x0 x11).f1⟩ : S42)) x1 x8 t109 x10 (wrap64 (x11 + 1))) else (none)) else (none)) else (none)) else (none)) else (if 0 ≤ (wrap64 (x1 + (wrap64 (Go.bits .and .u64 t109 (IntKind.u64.wrap (x10 - 1)))))) then (if (wrap64 (x1 + (wrap64 (Go.bits .and .u64 t109 (IntKind.u64.wrap (x10 - 1)))))) < (x0.length : Int) then (if 0 ≤ x11 then (if x11 < (x0.length : Int) then (brk.l0 k ((x0.set (x11 : Int).toNat (⟨(rd_T42 x0 (wrap64 (x1 + (wrap64 (Go.bits .and .u64 t109 (IntKind.u64.wrap (x10 - 1))))))).f0, (rd_T42 x0 (wrap64 (x1 + (wrap64 (Go.bits .and .u64 t109 (IntKind.u64.wrap (x10 - 1))))))).f1⟩ : S42)).set ((wrap64 (x1 + (wrap64 (Go.bits .and .u64 t109 (IntKind.u64.wrap (x10 - 1)))))) : Int).toNat (⟨(rd_T42 x0 x11).f0, (rd_T42 x0 x11).f1⟩ : S42)) x1 x8 t109 x10 (wrap64 (x11 + 1))) else (none)) else (none)) else (none)) else (none)))) else (some x0)
def brk.f (k : Nat) (l0 : List (S42)) (a1 : Int) (a2 : Int)  : Option ((List (S42))) := if (wrap64 (a2 - a1)) ≥ 8 then ((slices_nextPowerOfTwo.f (wrap64 (a2 - a1))).bind fun t108 => (brk.l0 k l0 a1 (wrap64 (a2 - a1)) (IntKind.u64.wrap (wrap64 (a2 - a1))) t108 (wrap64 ((wrap64 (a1 + (wrap64 ((wrap64 (Int.tdiv (wrap64 (a2 - a1)) 4)) * 2)))) - 1)))) else (some l0)
def api_Run_66.f (l : List S42) (a b : Int) : Option (List S42) := brk.f 5 l a b
end Go.Proofs.YthppfagfmjchoaaDoor.A.So
namespace Go.Proofs.YthppfagfmjchoaaDoor.A.So
open Go.RowKit Go.Proofs.YthppfagfmjchoaaDoorW.PrintWords Go.Proofs.YthppfagfmjchoaaDoorW.PrintLast Go.Proofs.YthppfagfmjchoaaDoorW.PrintMore
set_option linter.unusedVariables false
theorem sw_le {α : Type} [Inhabited α] (lt : α → α → Bool) (d : Array α) (a b n : Nat) : (Go.Sort.order2 lt d a b n).2.2 ≤ n + 1 := by
  unfold Go.Sort.order2
  split <;> simp
theorem md_le {α : Type} [Inhabited α] (lt : α → α → Bool) (d : Array α) (a b c n : Nat) : (Go.Sort.median lt d a b c n).2 ≤ n + 3 := by
  unfold Go.Sort.median
  simp only []
  have h1 := sw_le lt d a b n
  have h2 := sw_le lt d (Go.Sort.order2 lt d a b n).2.1 c (Go.Sort.order2 lt d a b n).2.2
  have h3 := sw_le lt d (Go.Sort.order2 lt d a b n).1 (Go.Sort.order2 lt d (Go.Sort.order2 lt d a b n).2.1 c (Go.Sort.order2 lt d a b n).2.2).1 (Go.Sort.order2 lt d (Go.Sort.order2 lt d a b n).2.1 c (Go.Sort.order2 lt d a b n).2.2).2.2
  omega
theorem o2_eq (d : Array S42) (a b n : Nat) (ha : a < d.size) (hb : b < d.size) (hn : n < 4611686018427387904 - 1) :
    order2.f d.toList (a : Int) (b : Int) (n : Int) = some (((Go.Sort.order2 ltR d a b n).1 : Int), ((Go.Sort.order2 ltR d a b n).2.1 : Int), ((Go.Sort.order2 ltR d a b n).2.2 : Int)) := by
  have e1 : Aside0 (wrap64 ((n : Int) + 1) = ((n + 1 : Nat) : Int)) := ⟨wN (by omega) (by omega)⟩
  unfold order2.f
  simp only [e1.out]
  rw [if_pos (by omega), if_pos (lenA d _ hb), if_pos (by omega), if_pos (lenA d _ ha), cmpR]
  simp only [Option.bind_some, cmpNeg, rdA]
  by_cases c : (d[b]!).f0 < (d[a]!).f0
  · rw [if_pos c]
    simp [Go.Sort.order2, ltR, c]
  · rw [if_neg c]
    simp [Go.Sort.order2, ltR, c]
theorem med_eq (d : Array S42) (a b c n : Nat) (ha : a < d.size) (hb : b < d.size) (hc : c < d.size) (hn : n < 1000) :
    median.f d.toList (a : Int) (b : Int) (c : Int) (n : Int) = some (((Go.Sort.median ltR d a b c n).1 : Int), ((Go.Sort.median ltR d a b c n).2 : Int)) := by
  unfold median.f Go.Sort.median
  simp only []
  have h1 := Go.Sort.order2_mem ltR d a b n
  have s1 := sw_le ltR d a b n
  rw [o2_eq d a b n ha hb (by omega)]
  generalize Go.Sort.order2 ltR d a b n = r1 at h1 s1 ⊢
  simp only [Option.bind_some]
  have h2 := Go.Sort.order2_mem ltR d r1.2.1 c r1.2.2
  have s2 := sw_le ltR d r1.2.1 c r1.2.2
  rw [o2_eq d r1.2.1 c r1.2.2 (by omega) hc (by omega)]
  generalize Go.Sort.order2 ltR d r1.2.1 c r1.2.2 = r2 at h2 s2 ⊢
  simp only [Option.bind_some]
  rw [o2_eq d r1.1 r2.1 r2.2.2 (by omega) (by omega) (by omega)]
  rfl
theorem adj_eq (d : Array S42) (a n : Nat) (h1 : 1 ≤ a) (ha : a + 1 < d.size) (hs : d.size < 2305843009213693952) (hn : n < 1000) :
    medadj.f d.toList (a : Int) (n : Int) = some (((Go.Sort.medianAdjacent ltR d a n).1 : Int), ((Go.Sort.medianAdjacent ltR d a n).2 : Int)) := by
  have e1 : Aside0 (wrap64 ((a : Int) + 1) = ((a + 1 : Nat) : Int)) := ⟨wN (by omega) (by omega)⟩
  have e2 : Aside0 (wrap64 ((a : Int) - 1) = ((a - 1 : Nat) : Int)) := ⟨wN (by omega) (by omega)⟩
  unfold medadj.f Go.Sort.medianAdjacent
  simp only [e1.out, e2.out]
  exact med_eq d (a - 1) a (a + 1) n (by omega) (by omega) (by omega) hn
def hintN : Go.Sort.Hint → Int
  | .unknown => 0
  | .increasing => 1
  | .decreasing => 2
theorem hint_eq (n : Nat) : api_Run_67.hint (n : Int) = hintN (if n = 0 then .increasing else if n = 12 then .decreasing else .unknown) := by
  unfold api_Run_67.hint
  by_cases h0 : n = 0
  · subst h0; rfl
  · by_cases h1 : n = 12
    · subst h1; rfl
    · rw [if_neg (by omega), if_neg (by omega), if_neg h0, if_neg h1]; rfl
theorem pivot_eq (d : Array S42) (a b : Nat) (h8 : 8 ≤ b - a) (hb : b ≤ d.size) (hs : d.size < 2305843009213693952) :
    api_Run_67.f d.toList (a : Int) (b : Int) = some (((Go.Sort.choosePivot ltR d a b).1 : Int), hintN (Go.Sort.choosePivot ltR d a b).2) := by
  have e1 : Aside0 (wrap64 ((b : Int) - (a : Int)) = ((b - a : Nat) : Int)) := ⟨wN (by omega) (by omega)⟩
  have ht : Int.tdiv ((b - a : Nat) : Int) 4 = (((b - a) / 4 : Nat) : Int) := rfl
  have e2 : Aside0 (wrap64 (((b - a) / 4 : Nat) : Int) = (((b - a) / 4 : Nat) : Int)) := ⟨wN rfl (by omega)⟩
  have a1 : Aside0 (api_Run_67.at (a : Int) (((b - a) / 4 : Nat) : Int) = ((a + (b - a) / 4 * 1 : Nat) : Int)) := ⟨by
    have w : wrap64 (((b - a) / 4 : Nat) : Int) = (((b - a) / 4 : Nat) : Int) := wN rfl (by omega)
    unfold api_Run_67.at; rw [w]; clear w; exact wN (by omega) (by omega)⟩
  have a2 : Aside0 (api_Run_67.at (a : Int) ((((b - a) / 4 : Nat) : Int) * 2) = ((a + (b - a) / 4 * 2 : Nat) : Int)) := ⟨by
    have w : wrap64 ((((b - a) / 4 : Nat) : Int) * 2) = (((b - a) / 4 * 2 : Nat) : Int) := wN (by omega) (by omega)
    unfold api_Run_67.at; rw [w]; clear w; exact wN (by omega) (by omega)⟩
  have a3 : Aside0 (api_Run_67.at (a : Int) ((((b - a) / 4 : Nat) : Int) * 3) = ((a + (b - a) / 4 * 3 : Nat) : Int)) := ⟨by
    have w : wrap64 ((((b - a) / 4 : Nat) : Int) * 3) = (((b - a) / 4 * 3 : Nat) : Int) := wN (by omega) (by omega)
    unfold api_Run_67.at; rw [w]; clear w; exact wN (by omega) (by omega)⟩
  unfold api_Run_67.f Go.Sort.choosePivot
  simp only [e1.out, ht, e2.out, a1.out, a2.out, a3.out]
  rw [if_pos (by omega), if_pos (show b - a ≥ 8 from h8)]
  by_cases c : b - a ≥ 50
  · rw [if_pos (by omega), if_pos c]
    have m1 := Go.Sort.medianAdjacent_mem ltR d (a + (b - a) / 4 * 1) 0
    have n1 := md_le ltR d (a + (b - a) / 4 * 1 - 1) (a + (b - a) / 4 * 1) (a + (b - a) / 4 * 1 + 1) 0
    have q1 := adj_eq d (a + (b - a) / 4 * 1) 0 (by omega) (by omega) hs (by omega)
    rw [show ((0 : Nat) : Int) = 0 from rfl] at q1
    rw [q1]
    simp only [Option.bind_some]
    change (Go.Sort.medianAdjacent ltR d (a + (b - a) / 4 * 1) 0).2 ≤ 0 + 3 at n1
    generalize Go.Sort.medianAdjacent ltR d (a + (b - a) / 4 * 1) 0 = x at m1 n1 ⊢
    have m2 := Go.Sort.medianAdjacent_mem ltR d (a + (b - a) / 4 * 2) x.2
    have n2 := md_le ltR d (a + (b - a) / 4 * 2 - 1) (a + (b - a) / 4 * 2) (a + (b - a) / 4 * 2 + 1) x.2
    rw [adj_eq d (a + (b - a) / 4 * 2) x.2 (by omega) (by omega) hs (by omega)]
    simp only [Option.bind_some]
    change (Go.Sort.medianAdjacent ltR d (a + (b - a) / 4 * 2) x.2).2 ≤ x.2 + 3 at n2
    generalize Go.Sort.medianAdjacent ltR d (a + (b - a) / 4 * 2) x.2 = y at m2 n2 ⊢
    have m3 := Go.Sort.medianAdjacent_mem ltR d (a + (b - a) / 4 * 3) y.2
    have n3 := md_le ltR d (a + (b - a) / 4 * 3 - 1) (a + (b - a) / 4 * 3) (a + (b - a) / 4 * 3 + 1) y.2
    rw [adj_eq d (a + (b - a) / 4 * 3) y.2 (by omega) (by omega) hs (by omega)]
    simp only [Option.bind_some]
    change (Go.Sort.medianAdjacent ltR d (a + (b - a) / 4 * 3) y.2).2 ≤ y.2 + 3 at n3
    generalize Go.Sort.medianAdjacent ltR d (a + (b - a) / 4 * 3) y.2 = z at m3 n3 ⊢
    rw [med_eq d x.1 y.1 z.1 z.2 (by omega) (by omega) (by omega) (by omega)]
    simp only [Option.bind_some, hint_eq]
  · rw [if_neg (by omega), if_neg c]
    have q := med_eq d (a + (b - a) / 4 * 1) (a + (b - a) / 4 * 2) (a + (b - a) / 4 * 3) 0 (by omega) (by omega) (by omega) (by omega)
    rw [show ((0 : Nat) : Int) = 0 from rfl] at q
    rw [q]
    simp only [Option.bind_some, hint_eq]
end Go.Proofs.YthppfagfmjchoaaDoor.A.So
namespace Go.Proofs.YthppfagfmjchoaaDoor.A.So
open Go.RowKit Go.Proofs.YthppfagfmjchoaaDoorW.PrintWords Go.Proofs.YthppfagfmjchoaaDoorW.PrintLast Go.Proofs.YthppfagfmjchoaaDoorW.PrintMore
set_option linter.unusedVariables false
theorem u64w {x : Int} {n : Nat} (e : x = (n : Int)) (h : n < 18446744073709551616) : IntKind.u64.wrap x = (n : Int) := by
  subst e
  simp only [IntKind.wrap, IntKind.signed, IntKind.bits]
  simp
  omega
theorem nextR (r : UInt64) : slices_xorshift_Next.f (r.toNat : Int) = some ((Go.Sort.xorNext r).toNat : Int) := by
  have h := r.toNat_lt
  unfold slices_xorshift_Next.f
  rw [if_pos (by omega), Go.Sort.xorNext_toNat, Int.toNat_natCast]
theorem brk_round (k : Nat) (d : Array S42) (a L M idx : Nat) (r : UInt64) (h8 : 8 ≤ L) (hb : a + L ≤ d.size) (hs : d.size < 2305843009213693952) (hM : 1 ≤ M) (hM2 : M ≤ 2 * L) (h1 : a ≤ idx) (h2 : idx < a + L) (h3 : idx ≤ a + L / 4 * 2 + 1) :
    brk.l0 (k + 1) d.toList (a : Int) (L : Int) (r.toNat : Int) (M : Int) (idx : Int) =
      brk.l0 k (Go.Sort.breakStep a L M (r, d) idx).2.toList (a : Int) (L : Int) ((Go.Sort.breakStep a L M (r, d) idx).1.toNat : Int) (M : Int) ((idx + 1 : Nat) : Int) := by
  unfold Go.Sort.breakStep
  rw [brk.l0]
  rw [nextR, Option.bind_some]
  have hr := (Go.Sort.xorNext r).toNat_lt
  generalize Go.Sort.xorNext r = R at hr ⊢
  have ht : Int.tdiv (L : Int) 4 = ((L / 4 : Nat) : Int) := rfl
  have eM : Aside0 (IntKind.u64.wrap ((M : Int) - 1) = ((M - 1 : Nat) : Int)) := ⟨u64w (by omega) (by omega)⟩
  have hand : R.toNat &&& (M - 1) ≤ M - 1 := Nat.and_le_right
  have eB : Aside0 (Go.bits .and .u64 (R.toNat : Int) ((M - 1 : Nat) : Int) = ((R.toNat &&& (M - 1) : Nat) : Int)) := ⟨Go.bits_and_u64_nat _ _ hr (by omega)⟩
  simp only [ht, eM.out, eB.out]
  generalize R.toNat &&& (M - 1) = o at hand ⊢
  have e0 : Aside0 (wrap64 (o : Int) = (o : Int)) := ⟨wN rfl (by omega)⟩
  have e1 : Aside0 (wrap64 ((L / 4 : Nat) : Int) = ((L / 4 : Nat) : Int)) := ⟨wN rfl (by omega)⟩
  have e2 : Aside0 (wrap64 (((L / 4 : Nat) : Int) * 2) = ((L / 4 * 2 : Nat) : Int)) := ⟨wN (by omega) (by omega)⟩
  have e3 : Aside0 (wrap64 ((a : Int) + ((L / 4 * 2 : Nat) : Int)) = ((a + L / 4 * 2 : Nat) : Int)) := ⟨wN (by omega) (by omega)⟩
  have e4 : Aside0 (wrap64 (((a + L / 4 * 2 : Nat) : Int) + 1) = ((a + L / 4 * 2 + 1 : Nat) : Int)) := ⟨wN (by omega) (by omega)⟩
  have e5 : Aside0 (wrap64 ((idx : Int) + 1) = ((idx + 1 : Nat) : Int)) := ⟨wN (by omega) (by omega)⟩
  have e6 : Aside0 (wrap64 ((a : Int) + (o : Int)) = ((a + o : Nat) : Int)) := ⟨wN (by omega) (by omega)⟩
  simp only [e0.out, e1.out, e2.out, e3.out, e4.out, e5.out, e6.out]
  rw [if_pos (by omega)]
  by_cases c : o ≥ L
  · have e7 : Aside0 (wrap64 ((o : Int) - (L : Int)) = ((o - L : Nat) : Int)) := ⟨wN (by omega) (by omega)⟩
    have e8 : Aside0 (wrap64 ((a : Int) + ((o - L : Nat) : Int)) = ((a + (o - L) : Nat) : Int)) := ⟨wN (by omega) (by omega)⟩
    simp only [e7.out, e8.out]
    rw [if_pos (by omega), if_pos (by omega), if_pos (lenA d _ (by omega)), if_pos (by omega), if_pos (lenA d _ (by omega)), if_pos c]
    have e9 := stA d idx (a + (o - L))
    simp only [Int.toNat_natCast]
    rw [e9]
  · rw [if_neg (by omega), if_pos (by omega), if_pos (lenA d _ (by omega)), if_pos (by omega), if_pos (lenA d _ (by omega)), if_neg c]
    have e9 := stA d idx (a + o)
    simp only [Int.toNat_natCast]
    rw [e9]
theorem breakStep_size {α : Type} [Inhabited α] (a L M : Nat) (st : UInt64 × Array α) (idx : Nat) : (Go.Sort.breakStep a L M st idx).2.size = st.2.size := by
  unfold Go.Sort.breakStep
  exact swp_size _ _ _
theorem brk_eq (d : Array S42) (a b : Nat) (hab : a + 8 ≤ b) (hb : b ≤ d.size) (hs : d.size < 2305843009213693952) :
    api_Run_66.f d.toList (a : Int) (b : Int) = some (Go.Sort.breakPatterns d a b).toList := by
  obtain ⟨L, rfl⟩ : ∃ L, b = a + L := ⟨b - a, by omega⟩
  have e1 : Aside0 (wrap64 (((a + L : Nat) : Int) - (a : Int)) = (L : Int)) := ⟨wN (by omega) (by omega)⟩
  have ht : Int.tdiv (L : Int) 4 = ((L / 4 : Nat) : Int) := rfl
  have e2 : Aside0 (wrap64 ((L / 4 : Nat) : Int) = ((L / 4 : Nat) : Int)) := ⟨wN rfl (by omega)⟩
  have e3 : Aside0 (wrap64 (((L / 4 : Nat) : Int) * 2) = ((L / 4 * 2 : Nat) : Int)) := ⟨wN (by omega) (by omega)⟩
  have e4 : Aside0 (wrap64 ((a : Int) + ((L / 4 * 2 : Nat) : Int)) = ((a + L / 4 * 2 : Nat) : Int)) := ⟨wN (by omega) (by omega)⟩
  have e5 : Aside0 (wrap64 (((a + L / 4 * 2 : Nat) : Int) - 1) = ((a + L / 4 * 2 - 1 : Nat) : Int)) := ⟨wN (by omega) (by omega)⟩
  have hU : (UInt64.ofNat L).toNat = L := by rw [UInt64.toNat_ofNat']; exact Nat.mod_eq_of_lt (by omega)
  have e6 : Aside0 (IntKind.u64.wrap (L : Int) = ((UInt64.ofNat L).toNat : Int)) := ⟨by rw [hU]; exact u64w rfl (by omega)⟩
  have hp := Go.Sort.two_pow_bitsLen_le (n := L) (by omega)
  have hpos : 0 < 2 ^ Go.Sort.bitsLen L := Nat.two_pow_pos _
  obtain ⟨M, hM⟩ : ∃ M, 2 ^ Go.Sort.bitsLen L = M := ⟨_, rfl⟩
  rw [hM] at hp hpos
  have HM := Aside0.mk hM
  clear hM
  unfold api_Run_66.f brk.f slices_nextPowerOfTwo.f Go.Sort.breakPatterns
  simp only [e1.out, ht, e2.out, e3.out, e4.out, e5.out, e6.out, Nat.add_sub_cancel_left, Int.toNat_natCast, Nat.one_shiftLeft, HM.out]
  rw [if_pos (by omega), if_pos (by omega), if_pos (by omega)]
  rw [Option.bind_some]
  generalize UInt64.ofNat L = r
  rw [brk_round 4 d a L M _ r (by omega) hb hs hpos hp (by omega) (by omega) (by omega)]
  have z1 := breakStep_size a L M (r, d) (a + L / 4 * 2 - 1)
  generalize Go.Sort.breakStep a L M (r, d) (a + L / 4 * 2 - 1) = s1 at z1 ⊢
  obtain ⟨r1, d1⟩ := s1
  simp only at z1 ⊢
  rw [brk_round 3 d1 a L M _ r1 (by omega) (by omega) (by omega) hpos hp (by omega) (by omega) (by omega)]
  have z2 := breakStep_size a L M (r1, d1) (a + L / 4 * 2 - 1 + 1)
  generalize Go.Sort.breakStep a L M (r1, d1) (a + L / 4 * 2 - 1 + 1) = s2 at z2 ⊢
  obtain ⟨r2, d2⟩ := s2
  simp only at z2 ⊢
  rw [brk_round 2 d2 a L M _ r2 (by omega) (by omega) (by omega) hpos hp (by omega) (by omega) (by omega)]
  have z3 := breakStep_size a L M (r2, d2) (a + L / 4 * 2 - 1 + 1 + 1)
  have hi : a + L / 4 * 2 - 1 + 1 + 1 = a + L / 4 * 2 - 1 + 2 := rfl
  rw [hi] at z3 ⊢
  generalize Go.Sort.breakStep a L M (r2, d2) (a + L / 4 * 2 - 1 + 2) = s3 at z3 ⊢
  obtain ⟨r3, d3⟩ := s3
  rw [brk.l0]
  simp only [ht, e2.out, e3.out, e4.out]
  have e7 : Aside0 (wrap64 (((a + L / 4 * 2 : Nat) : Int) + 1) = ((a + L / 4 * 2 + 1 : Nat) : Int)) := ⟨wN (by omega) (by omega)⟩
  rw [e7.out, if_neg (by omega)]
end Go.Proofs.YthppfagfmjchoaaDoor.A.So
namespace Go.Proofs.YthppfagfmjchoaaDoor.A.So
open Go.RowKit Go.Proofs.YthppfagfmjchoaaDoorW.PrintWords Go.Proofs.YthppfagfmjchoaaDoorW.PrintLast Go.Proofs.YthppfagfmjchoaaDoorW.PrintMore
attribute [local go_sem] max2_int min2_int max_two min_two max_three min_three max_four min_four
set_option linter.unusedVariables false
set_option linter.unusedSimpArgs false
mutual
def api_Run_58.l0 : Nat → List (S42) → Int → Int → Int → Bool → Bool → Option ((List (S42)))
  | 0, _, _, _, _, _, _ => none
  | k + 1, x0, x1, x2, x3, x10, x11 => if (wrap64 (x2 - x1)) ≤ 12 then ((api_Run_64.f k x0 x1 x2).bind fun t221 => (some t221)) else (if x3 = 0 then ((api_Run_65.f k x0 x1 x2).bind fun t222 => (some t222)) else (if x10 = true then (api_Run_58.j1 k x0 x1 x2 x3 x10 x11 (wrap64 (x2 - x1))) else ((api_Run_66.f x0 x1 x2).bind fun t223 => (api_Run_58.j1 k t223 x1 x2 (wrap64 (x3 - 1)) x10 x11 (wrap64 (x2 - x1))))))
def api_Run_58.j1 : Nat → List (S42) → Int → Int → Int → Bool → Bool → Int → Option ((List (S42)))
  | 0, _, _, _, _, _, _, _ => none
  | k + 1, x0, x1, x2, x3, x10, x11, x12 => (api_Run_67.f x0 x1 x2).bind fun bt224 => (if bt224.2 = 2 then ((api_Run_68.f k x0 x1 x2).bind fun t226 => (api_Run_58.j2 k t226 x1 x2 x3 x10 x11 x12 (wrap64 ((wrap64 (x2 - 1)) - (wrap64 (bt224.1 - x1)))) 1)) else (api_Run_58.j2 k x0 x1 x2 x3 x10 x11 x12 bt224.1 bt224.2))
def api_Run_58.j2 : Nat → List (S42) → Int → Int → Int → Bool → Bool → Int → Int → Int → Option ((List (S42)))
  | 0, _, _, _, _, _, _, _, _, _ => none
  | k + 1, x0, x1, x2, x3, x10, x11, x12, x13, x14 => if x10 = true then (if x11 = true then (api_Run_58.j3 k x0 x1 x2 x3 x10 x11 x12 x13 (x14 == 1)) else (api_Run_58.j3 k x0 x1 x2 x3 x10 x11 x12 x13 false)) else (api_Run_58.j3 k x0 x1 x2 x3 x10 x11 x12 x13 false)
def api_Run_58.j3 : Nat → List (S42) → Int → Int → Int → Bool → Bool → Int → Int → Bool → Option ((List (S42)))
  | 0, _, _, _, _, _, _, _, _, _ => none
  | k + 1, x0, x1, x2, x3, x10, x11, x12, x13, x75 => if x75 = true then ((api_Run_69.f k x0 x1 x2).bind fun bt227 => (if bt227.1 = true then (some bt227.2) else (api_Run_58.j4 k bt227.2 x1 x2 x3 x10 x11 x12 x13))) else (api_Run_58.j4 k x0 x1 x2 x3 x10 x11 x12 x13)
def api_Run_58.j4 : Nat → List (S42) → Int → Int → Int → Bool → Bool → Int → Int → Option ((List (S42)))
  | 0, _, _, _, _, _, _, _, _ => none
  | k + 1, x0, x1, x2, x3, x10, x11, x12, x13 => if x1 > 0 then (if 0 ≤ (wrap64 (x1 - 1)) then (if (wrap64 (x1 - 1)) < (x0.length : Int) then (if 0 ≤ x13 then (if x13 < (x0.length : Int) then ((runs_order_compare.f false ((rd_T42 x0 (wrap64 (x1 - 1))).f0) ((rd_T42 x0 (wrap64 (x1 - 1))).f1) ((rd_T42 x0 x13).f0) ((rd_T42 x0 x13).f1)).bind fun t231 => (api_Run_58.j5 k x0 x1 x2 x3 x10 x11 x12 x13 (!(decide (t231 < 0))))) else (none)) else (none)) else (none)) else (none)) else (api_Run_58.j5 k x0 x1 x2 x3 x10 x11 x12 x13 false)
def api_Run_58.j5 : Nat → List (S42) → Int → Int → Int → Bool → Bool → Int → Int → Bool → Option ((List (S42)))
  | 0, _, _, _, _, _, _, _, _, _ => none
  | k + 1, x0, x1, x2, x3, x10, x11, x12, x13, x97 => if x97 = true then ((api_Run_70.f k x0 x1 x2 x13).bind fun bt232 => (api_Run_58.l0 k bt232.2 bt232.1 x2 x3 x10 x11)) else ((api_Run_71.f k x0 x1 x2 x13).bind fun bt234 => (if (wrap64 (bt234.1 - x1)) < (wrap64 (x2 - bt234.1)) then ((api_Run_58.f k bt234.2.2 x1 bt234.1 x3).bind fun t237 => (api_Run_58.l0 k t237 (wrap64 (bt234.1 + 1)) x2 x3 (decide ((wrap64 (bt234.1 - x1)) ≥ (wrap64 (Int.tdiv x12 8)))) bt234.2.1)) else ((api_Run_58.f k bt234.2.2 (wrap64 (bt234.1 + 1)) x2 x3).bind fun t238 => (api_Run_58.l0 k t238 x1 bt234.1 x3 (decide ((wrap64 (x2 - bt234.1)) ≥ (wrap64 (Int.tdiv x12 8)))) bt234.2.1))))
def api_Run_58.f : Nat → List (S42) → Int → Int → Int → Option ((List (S42)))
  | 0, _, _, _, _ => none
  | k + 1, l0, a1, a2, a3 => api_Run_58.l0 k l0 a1 a2 a3 true true
end
end Go.Proofs.YthppfagfmjchoaaDoor.A.So
namespace Go.Proofs.YthppfagfmjchoaaDoor.A.So
open Go.RowKit Go.Proofs.YthppfagfmjchoaaDoorW.PrintWords Go.Proofs.YthppfagfmjchoaaDoorW.PrintLast Go.Proofs.YthppfagfmjchoaaDoorW.PrintMore
attribute [local go_sem] max2_int min2_int max_two min_two max_three min_three max_four min_four
set_option linter.unusedVariables false
set_option linter.unusedSimpArgs false
def api_Run_49.f (k : Nat) (l0 : List (S42))  : Option ((List (S42))) := (bits_Len.f (IntKind.u64.wrap ((l0.length : Int)))).bind fun t239 => ((api_Run_58.f k l0 0 (l0.length : Int) t239).bind fun t240 => (some t240))
end Go.Proofs.YthppfagfmjchoaaDoor.A.So
namespace Go.Proofs.YthppfagfmjchoaaDoor.A.So
open Go.RowKit Go.Proofs.YthppfagfmjchoaaDoorW.PrintWords Go.Proofs.YthppfagfmjchoaaDoorW.PrintLast Go.Proofs.YthppfagfmjchoaaDoorW.PrintMore Go.Sort
set_option linter.unusedVariables false
theorem swoR : SWO ltR where
  irrefl x := by simp [ltR]
  trans x y z h1 h2 := by simp [ltR] at *; omega
  ntrans x y z h1 h2 := by simp [ltR] at *; omega
theorem hintN_2 (h : Hint) : (hintN h = 2) ↔ h = .decreasing := by cases h <;> simp [hintN]
theorem hintN_1 (h : Hint) : (hintN h == 1) = decide (h = .increasing) := by cases h <;> simp [hintN]
theorem pdq_l0 : ∀ (n a b lim : Nat) (wb wp : Bool) (d : Array S42), b - a = n → a ≤ b → b ≤ d.size → d.size < 2305843009213693952 → lim < 1000 → Go.Sort.Below ltR a b d →
    Ev (fun k => api_Run_58.l0 k d.toList (a : Int) (b : Int) (lim : Int) wb wp) (pdq ltR d a b lim wb wp).toList := by
  intro n
  induction n using Nat.strongRecOn with
  | _ n ih =>
    intro a b lim wb wp d hn hab hb hs hl hB
    have e1 : Aside0 (wrap64 ((b : Int) - (a : Int)) = ((b - a : Nat) : Int)) := ⟨wN (by omega) (by omega)⟩
    refine Ev.step (fun k => by simp only [api_Run_58.l0]; rfl) ?_
    simp only [e1.out]
    by_cases c12 : b - a ≤ 12
    · rw [pdq_small c12]
      exact Ev.ift (by omega) (Ev.bind (ins_f a b d (by omega) hb (by omega)) (Ev.now _))
    refine Ev.iff_ (by omega) ?_
    by_cases c0 : lim = 0
    · rw [pdq_heap c12 c0]
      exact Ev.ift (by omega) (Ev.bind (heap_f a b d hab hb hs) (Ev.now _))
    refine Ev.iff_ (by omega) ?_
    obtain ⟨s1, B1, hc, s2, B2, hpv, s3, B3⟩ := rd_facts (lt := ltR) (limit := lim) (wb := wb) (wp := wp) swoR partialInsertionSort_holds reverseRange_holds (show a < b by omega) hb hB
    have hlim : (rd ltR d a b lim wb wp).lim ≤ lim := rd_lim_le
    have J5 : ∀ f : Bool, (decide (a > 0) && !ltR (rd ltR d a b lim wb wp).pi.1[a - 1]! (rd ltR d a b lim wb wp).pi.1[(rd ltR d a b lim wb wp).pivot]!) = f → (rd ltR d a b lim wb wp).pi.2 = false →
        Ev (fun k => api_Run_58.j5 k (rd ltR d a b lim wb wp).pi.1.toList (a : Int) (b : Int) ((rd ltR d a b lim wb wp).lim : Int) wb wp ((b - a : Nat) : Int) ((rd ltR d a b lim wb wp).pivot : Int) f) (pdq ltR d a b lim wb wp).toList := by
      intro f hf hpi
      refine Ev.step (fun k => by simp only [api_Run_58.j5]; rfl) ?_
      cases f with
      | true =>
        have hf2 := hf
        simp only [Bool.and_eq_true, decide_eq_true_eq, Bool.not_eq_true'] at hf2
        have hr := round_eq swoR (partitionEqual_holds ltR) hf2.1 hpv.1 hpv.2 (by omega) B3 hf2.2 (mid := (partitionEqual ltR (rd ltR d a b lim wb wp).pi.1 a b (rd ltR d a b lim wb wp).pivot).1) (d4 := (partitionEqual ltR (rd ltR d a b lim wb wp).pi.1 a b (rd ltR d a b lim wb wp).pivot).2) rfl
        obtain ⟨r1, r2, r3, r4, _⟩ := hr
        rw [pdq_eq c12 c0 hpi hf ⟨r1, r2⟩]
        refine Ev.ift rfl (Ev.bind (pe_f a b _ _ (by omega) (by omega) (by omega) (by omega)) ?_)
        generalize partitionEqual ltR (rd ltR d a b lim wb wp).pi.1 a b (rd ltR d a b lim wb wp).pivot = q at r1 r2 r3 r4 ⊢
        obtain ⟨mid, d4⟩ := q
        simp only at r1 r2 r3 r4 ⊢
        exact ih (b - mid) (by omega) mid b _ wb wp d4 rfl r2 (by omega) (by omega) (by omega) r4
      | false =>
        have hr := round_part swoR (partition_holds ltR) hpv.1 hpv.2 (by omega) B3 (mid := (partition ltR (rd ltR d a b lim wb wp).pi.1 a b (rd ltR d a b lim wb wp).pivot).1) (ap := (partition ltR (rd ltR d a b lim wb wp).pi.1 a b (rd ltR d a b lim wb wp).pivot).2.1) (d4 := (partition ltR (rd ltR d a b lim wb wp).pi.1 a b (rd ltR d a b lim wb wp).pivot).2.2) rfl
        obtain ⟨r1, r2, r3, r4, r5, r6, r7⟩ := hr
        refine Ev.iff_ (by simp) (Ev.bind (pt_f a b _ _ (by omega) (by omega) (by omega) (by omega)) ?_)
        by_cases c4 : (partition ltR (rd ltR d a b lim wb wp).pi.1 a b (rd ltR d a b lim wb wp).pivot).1 - a < b - (partition ltR (rd ltR d a b lim wb wp).pi.1 a b (rd ltR d a b lim wb wp).pivot).1
        · rw [pdq_left c12 c0 hpi hf ⟨r1, r2⟩ c4]
          generalize partition ltR (rd ltR d a b lim wb wp).pi.1 a b (rd ltR d a b lim wb wp).pivot = q at r1 r2 r3 r4 r5 r6 r7 c4 ⊢
          obtain ⟨mid, ap, d4⟩ := q
          simp only at r1 r2 r3 r4 r5 r6 r7 c4 ⊢
          have g1 : Aside0 (wrap64 ((mid : Int) - (a : Int)) = ((mid - a : Nat) : Int)) := ⟨wN (by omega) (by omega)⟩
          have g2 : Aside0 (wrap64 ((b : Int) - (mid : Int)) = ((b - mid : Nat) : Int)) := ⟨wN (by omega) (by omega)⟩
          have g3 : Aside0 (wrap64 ((mid : Int) + 1) = ((mid + 1 : Nat) : Int)) := ⟨wN (by omega) (by omega)⟩
          have g4 : Aside0 (wrap64 (Int.tdiv ((b - a : Nat) : Int) 8) = (((b - a) / 8 : Nat) : Int)) := ⟨wN rfl (by omega)⟩
          simp only [g1.out, g2.out, g3.out, g4.out]
          refine Ev.ift (by omega) (Ev.bind (a := (pdq ltR d4 a mid (rd ltR d a b lim wb wp).lim true true).toList) (Ev.step (fun k => by simp only [api_Run_58.f]) (ih (mid - a) (by omega) a mid _ true true d4 rfl r1 (by omega) (by omega) (by omega) r4)) ?_)
          have hp := pdq_sorts ltR swoR d4 a mid (rd ltR d a b lim wb wp).lim true true r1 (by omega) r4
          have hB' := (r6 _ hp.1 hp.2).1
          have hz := hp.1.1
          have e : decide (((mid - a : Nat) : Int) ≥ (((b - a) / 8 : Nat) : Int)) = decide (mid - a ≥ (b - a) / 8) := decide_eq_decide.2 (by omega)
          simp only [e]
          exact ih (b - (mid + 1)) (by omega) (mid + 1) b _ _ _ _ rfl (by omega) (by omega) (by omega) (by omega) hB'
        · rw [pdq_right c12 c0 hpi hf ⟨r1, r2⟩ c4]
          generalize partition ltR (rd ltR d a b lim wb wp).pi.1 a b (rd ltR d a b lim wb wp).pivot = q at r1 r2 r3 r4 r5 r6 r7 c4 ⊢
          obtain ⟨mid, ap, d4⟩ := q
          simp only at r1 r2 r3 r4 r5 r6 r7 c4 ⊢
          have g1 : Aside0 (wrap64 ((mid : Int) - (a : Int)) = ((mid - a : Nat) : Int)) := ⟨wN (by omega) (by omega)⟩
          have g2 : Aside0 (wrap64 ((b : Int) - (mid : Int)) = ((b - mid : Nat) : Int)) := ⟨wN (by omega) (by omega)⟩
          have g3 : Aside0 (wrap64 ((mid : Int) + 1) = ((mid + 1 : Nat) : Int)) := ⟨wN (by omega) (by omega)⟩
          have g4 : Aside0 (wrap64 (Int.tdiv ((b - a : Nat) : Int) 8) = (((b - a) / 8 : Nat) : Int)) := ⟨wN rfl (by omega)⟩
          simp only [g1.out, g2.out, g3.out, g4.out]
          refine Ev.iff_ (by omega) (Ev.bind (a := (pdq ltR d4 (mid + 1) b (rd ltR d a b lim wb wp).lim true true).toList) (Ev.step (fun k => by simp only [api_Run_58.f]) (ih (b - (mid + 1)) (by omega) (mid + 1) b _ true true d4 rfl (by omega) (by omega) (by omega) (by omega) r5)) ?_)
          have hp := pdq_sorts ltR swoR d4 (mid + 1) b (rd ltR d a b lim wb wp).lim true true (by omega) (by omega) r5
          have hB' := (r7 _ hp.1 hp.2).1
          have hz := hp.1.1
          have e : decide (((b - mid : Nat) : Int) ≥ (((b - a) / 8 : Nat) : Int)) = decide (b - mid ≥ (b - a) / 8) := decide_eq_decide.2 (by omega)
          simp only [e]
          exact ih (mid - a) (by omega) a mid _ _ _ _ rfl r1 (by omega) (by omega) (by omega) hB'
    have J4 : (rd ltR d a b lim wb wp).pi.2 = false →
        Ev (fun k => api_Run_58.j4 k (rd ltR d a b lim wb wp).pi.1.toList (a : Int) (b : Int) ((rd ltR d a b lim wb wp).lim : Int) wb wp ((b - a : Nat) : Int) ((rd ltR d a b lim wb wp).pivot : Int)) (pdq ltR d a b lim wb wp).toList := by
      intro hpi
      refine Ev.step (fun k => by simp only [api_Run_58.j4]; rfl) ?_
      by_cases ca : a > 0
      · have g1 : Aside0 (wrap64 ((a : Int) - 1) = ((a - 1 : Nat) : Int)) := ⟨wN (by omega) (by omega)⟩
        simp only [g1.out]
        refine Ev.ift (by omega) (Ev.ift (by omega) (Ev.ift (lenA _ _ (by omega)) (Ev.ift (by omega) (Ev.ift (lenA _ _ (by omega)) (Ev.bnow (cmpR _ _ _ _) ?_)))))
        simp only [cmpNeg, rdA]
        exact J5 _ (by simp [ca, ltR]) hpi
      · exact Ev.iff_ (by omega) (J5 false (by simp [ca]) hpi)
    have J3 : Ev (fun k => api_Run_58.j3 k (rd ltR d a b lim wb wp).d2.toList (a : Int) (b : Int) ((rd ltR d a b lim wb wp).lim : Int) wb wp ((b - a : Nat) : Int) ((rd ltR d a b lim wb wp).pivot : Int) (wb && wp && decide ((rd ltR d a b lim wb wp).hint = .increasing))) (pdq ltR d a b lim wb wp).toList := by
      refine Ev.step (fun k => by simp only [api_Run_58.j3]; rfl) ?_
      cases hf : (wb && wp && decide ((rd ltR d a b lim wb wp).hint = .increasing)) with
      | true =>
        have hpi := rd_pi_yes hf
        refine Ev.ift rfl (Ev.bind (pi_f a b _ (by omega) (by omega) (by omega)) ?_)
        rw [← hpi]
        cases hd : (rd ltR d a b lim wb wp).pi.2 with
        | true =>
          rw [pdq_done c12 c0 hd]
          exact Ev.ift rfl (Ev.now _)
        | false => exact Ev.iff_ (by simp) (J4 hd)
      | false =>
        have hpi := rd_pi_no hf
        have j := J4 (by rw [hpi])
        rw [hpi] at j
        exact Ev.iff_ (by simp) j
    have J2 : Ev (fun k => api_Run_58.j2 k (rd ltR d a b lim wb wp).d2.toList (a : Int) (b : Int) ((rd ltR d a b lim wb wp).lim : Int) wb wp ((b - a : Nat) : Int) ((rd ltR d a b lim wb wp).pivot : Int) (hintN (rd ltR d a b lim wb wp).hint)) (pdq ltR d a b lim wb wp).toList := by
      refine Ev.step (fun k => by simp only [api_Run_58.j2]; rfl) ?_
      simp only [hintN_1]
      cases wb with
      | false => exact Ev.iff_ (by simp) J3
      | true =>
        refine Ev.ift rfl ?_
        cases wp with
        | false => exact Ev.iff_ (by simp) J3
        | true =>
          simp only [Bool.and_self, Bool.true_and] at J3
          exact Ev.ift rfl J3
    have J1 : Ev (fun k => api_Run_58.j1 k (rd ltR d a b lim wb wp).d1.toList (a : Int) (b : Int) ((rd ltR d a b lim wb wp).lim : Int) wb wp ((b - a : Nat) : Int)) (pdq ltR d a b lim wb wp).toList := by
      refine Ev.step (fun k => by simp only [api_Run_58.j1]; rfl) ?_
      refine Ev.bnow (pivot_eq _ a b (by omega) (by omega) (by omega)) ?_
      simp only []
      by_cases hh : (rd ltR d a b lim wb wp).c.2 = .decreasing
      · obtain ⟨q1, q2, q3⟩ := rd_dec hh
        refine Ev.ift ((hintN_2 _).2 hh) (Ev.bind (rev_f a b _ (by omega) (by omega) (by omega)) ?_)
        have g1 : Aside0 (wrap64 ((b : Int) - 1) = ((b - 1 : Nat) : Int)) := ⟨wN (by omega) (by omega)⟩
        have g2 : Aside0 (wrap64 (((rd ltR d a b lim wb wp).c.1 : Int) - (a : Int)) = (((rd ltR d a b lim wb wp).c.1 - a : Nat) : Int)) := ⟨wN (by omega) (by omega)⟩
        have g3 : Aside0 (wrap64 (((b - 1 : Nat) : Int) - (((rd ltR d a b lim wb wp).c.1 - a : Nat) : Int)) = ((rd ltR d a b lim wb wp).pivot : Int)) := ⟨wN (by omega) (by omega)⟩
        have j := J2
        rw [q1, q3] at j
        simp only [← rd_c, g1.out, g2.out, g3.out]
        exact j
      · obtain ⟨q1, q2, q3⟩ := rd_not hh
        have j := J2
        rw [q1, q2, q3] at j
        exact Ev.iff_ (fun h => hh ((hintN_2 _).1 h)) j
    cases wb with
    | true => exact Ev.ift rfl J1
    | false =>
      have g1 : Aside0 (wrap64 ((lim : Int) - 1) = ((lim - 1 : Nat) : Int)) := ⟨wN (by omega) (by omega)⟩
      refine Ev.iff_ (by simp) (Ev.bnow (brk_eq d a b (by omega) hb hs) ?_)
      simp only [g1.out]
      exact J1
theorem bla_le : ∀ (f x : Nat), Lib.bitLenAux f x ≤ f
  | 0, x => by rw [Lib.bitLenAux]; exact Nat.le_refl _
  | f + 1, x => by
    rw [Lib.bitLenAux]
    have := bla_le f (x / 2)
    split <;> omega
theorem sort_f (d : Array S42) (hs : d.size < 2305843009213693952) :
    ∃ d' : Array S42, Ev (fun k => api_Run_49.f k d.toList) d'.toList ∧ PermIn 0 d.size d d' ∧ SortedIn ltR 0 d.size d' := by
  have hB : Go.Sort.Below ltR 0 d.size d := Or.inl rfl
  have hl : Lib.bitLen d.size < 1000 := Nat.lt_of_le_of_lt (bla_le 64 d.size) (by decide)
  have e1 : Aside0 (IntKind.u64.wrap ((d.toList.length : Int)) = ((d.size : Nat) : Int)) := ⟨u64w (by simp) (by omega)⟩
  have hp := pdq_sorts ltR swoR d 0 d.size (Lib.bitLen d.size) true true (Nat.zero_le _) (Nat.le_refl _) hB
  refine ⟨pdq ltR d 0 d.size (Lib.bitLen d.size) true true, ?_, hp.1, hp.2⟩
  refine Ev.congr (fun k => by simp only [api_Run_49.f, e1.out, bits_Len.f]; rfl) ?_
  refine Ev.bnow (x := (Lib.bitLen d.size : Int)) (by rw [if_pos (by omega), if_pos (by omega), Int.toNat_natCast]) ?_
  refine Ev.bind (a := (pdq ltR d 0 d.size (Lib.bitLen d.size) true true).toList) (Ev.step (fun k => by simp only [api_Run_58.f]; rfl) ?_) (Ev.now _)
  have h := pdq_l0 d.size 0 d.size (Lib.bitLen d.size) true true d (by omega) (Nat.zero_le _) (Nat.le_refl _) hs hl hB
  simpa using h
end Go.Proofs.YthppfagfmjchoaaDoor.A.So
namespace Go.Proofs.YthppfagfmjchoaaDoor.A.So
open Go.RowKit Go.Proofs.YthppfagfmjchoaaDoorW.PrintWords Go.Proofs.YthppfagfmjchoaaDoorW.PrintLast Go.Proofs.YthppfagfmjchoaaDoorW.PrintMore
attribute [local go_sem] max2_int min2_int max_two min_two max_three min_three max_four min_four
set_option linter.unusedVariables false
set_option linter.unusedSimpArgs false
mutual
def runs_Make.l0 : Nat → List (S42) → List (S42) → Int → Int → Option ((List (S42)))
  | 0, _, _, _, _ => none
  | k + 1, x3, x11, x12, x13 => if x13 < x12 then (if 0 ≤ x13 then (if x13 < (x11.length : Int) then (if (mx ((rd_T42 x11 x13).f0) (-1099511627776)) ≤ (mn ((rd_T42 x11 x13).f1) 1099511627776) then (if x3.length < 8796093022208 then (runs_Make.l0 k (x3 ++ [(⟨mx ((rd_T42 x11 x13).f0) (-1099511627776), mn ((rd_T42 x11 x13).f1) 1099511627776⟩ : S42)]) x11 x12 (wrap64 (x13 + 1))) else (none)) else (runs_Make.l0 k x3 x11 x12 (wrap64 (x13 + 1)))) else (none)) else (none)) else ((api_Run_49.f k x3).bind fun t246 => (runs_Make.l1 k ([] : List (S42)) t246 (x3.length : Int) 0))
def runs_Make.l1 : Nat → List (S42) → List (S42) → Int → Int → Option ((List (S42)))
  | 0, _, _, _, _ => none
  | k + 1, x7, x39, x40, x41 => if x41 < x40 then (if 0 ≤ x41 then (if x41 < (x39.length : Int) then (if (wrap64 ((x7.length : Int) - 1)) ≥ 0 then (if 0 ≤ (wrap64 ((x7.length : Int) - 1)) then (if (wrap64 ((x7.length : Int) - 1)) < (x7.length : Int) then (if ((rd_T42 x39 x41).f0) ≤ (wrap64 (((rd_T42 x7 (wrap64 ((x7.length : Int) - 1))).f1) + 1)) then (runs_Make.l1 k (x7.set ((wrap64 ((x7.length : Int) - 1)) : Int).toNat (⟨(rd_T42 x7 (wrap64 ((x7.length : Int) - 1))).f0, mx ((rd_T42 x7 (wrap64 ((x7.length : Int) - 1))).f1) ((rd_T42 x39 x41).f1)⟩ : S42)) x39 x40 (wrap64 (x41 + 1))) else (if x7.length < 8796093022208 then (runs_Make.l1 k (x7 ++ [(⟨(rd_T42 x39 x41).f0, (rd_T42 x39 x41).f1⟩ : S42)]) x39 x40 (wrap64 (x41 + 1))) else (none))) else (none)) else (none)) else (if x7.length < 8796093022208 then (runs_Make.l1 k (x7 ++ [(⟨(rd_T42 x39 x41).f0, (rd_T42 x39 x41).f1⟩ : S42)]) x39 x40 (wrap64 (x41 + 1))) else (none))) else (none)) else (none)) else (some x7)
end
def runs_Make.f (k : Nat) (l0 : List (S42)) : Option ((List (S42))) := runs_Make.l0 k ([] : List (S42)) l0 (l0.length : Int) 0
end Go.Proofs.YthppfagfmjchoaaDoor.A.So
namespace Go.Proofs.YthppfagfmjchoaaDoor.A.So
open Go.RowKit Go.Proofs.YthppfagfmjchoaaDoorW.PrintWords Go.Proofs.YthppfagfmjchoaaDoorW.PrintLast Go.Proofs.YthppfagfmjchoaaDoorW.PrintMore Go.Sort
set_option linter.unusedVariables false
theorem sane_last {x q : S42} (h0 : x.f0 = q.f0) (h1 : q.f1 ≤ x.f1) (h2 : x.f1 ≤ lim) : ∀ (o : List S42) (a : Int), saneF a (o ++ [q]) → saneF a (o ++ [x])
  | [], a, ⟨s1, s2, s3, _⟩ => ⟨by omega, by omega, h2, trivial⟩
  | r :: t, a, ⟨s1, s2, s3, s4⟩ => ⟨s1, s2, s3, sane_last h0 h1 h2 t _ s4⟩
theorem sane_more {r q : S42} (h0 : q.f1 + 2 ≤ r.f0) (h1 : r.f0 ≤ r.f1) (h2 : r.f1 ≤ lim) : ∀ (o : List S42) (a : Int), saneF a (o ++ [q]) → saneF a (o ++ [q] ++ [r])
  | [], a, ⟨s1, s2, s3, _⟩ => ⟨s1, s2, s3, h0, h1, h2, trivial⟩
  | p :: t, a, ⟨s1, s2, s3, s4⟩ => ⟨s1, s2, s3, sane_more h0 h1 h2 t _ s4⟩
theorem sane_lim : ∀ (o : List S42) (a : Int) (q : S42), saneF a (o ++ [q]) → q.f1 ≤ lim ∧ a + 2 ≤ q.f0 ∧ q.f0 ≤ q.f1
  | [], a, q, ⟨s1, s2, s3, _⟩ => ⟨s3, s1, s2⟩
  | p :: t, a, q, ⟨s1, s2, s3, s4⟩ => by
    have := sane_lim t _ q s4
    omega
def okR (r : S42) : Prop := -lim ≤ r.f0 ∧ r.f0 ≤ r.f1 ∧ r.f1 ≤ lim
theorem rd_last (o : List S42) (q : S42) : rd_T42 (o ++ [q]) (o.length : Int) = q := by simp [rd_T42]
theorem mk_l1 : ∀ (t p o : List S42), (p ++ t).length < 4398046511104 → o.length ≤ p.length → sane o → (∀ r ∈ t, okR r) → t.Pairwise (fun x y => x.f0 ≤ y.f0) → (∀ o' q, o = o' ++ [q] → ∀ r ∈ t, q.f0 ≤ r.f0) →
    ∃ res, Ev (fun k => runs_Make.l1 k o (p ++ t) ((p ++ t).length : Int) (p.length : Int)) res ∧ sane res ∧ ∀ n, mem res n ↔ mem o n ∨ mem t n
  | [], p, o, hl, ho, hs, hv, hp, hq => ⟨o, Ev.step (fun k => by simp only [runs_Make.l1]; rw [if_neg (by simp)]) (Ev.now _), hs, fun n => by simp [mem_nil]⟩
  | r :: t, p, o, hl, ho, hs, hv, hp, hq => by
    have hlen : p.length + (t.length + 1) < 4398046511104 := by simpa using hl
    have hr : rd_T42 (p ++ r :: t) (p.length : Int) = r := by simp [rd_T42]
    have hi : wrap64 ((p.length : Int) + 1) = ((p ++ [r]).length : Int) := by rw [wN (n := p.length + 1) (by omega) (by omega)]; simp
    have happ : p ++ r :: t = (p ++ [r]) ++ t := by simp
    have hok := hv r List.mem_cons_self
    have hlim : lim = 1099511627776 := rfl
    unfold okR at hok
    have hgo : ∀ o2 : List S42, o2.length ≤ p.length + 1 → sane o2 → (∀ o' q, o2 = o' ++ [q] → ∀ x ∈ t, q.f0 ≤ x.f0) →
        ∃ res, Ev (fun k => runs_Make.l1 k o2 (p ++ r :: t) ((p ++ r :: t).length : Int) (wrap64 ((p.length : Int) + 1))) res ∧ sane res ∧ ∀ n, mem res n ↔ mem o2 n ∨ mem t n := by
      intro o2 h1 h2 h3
      rw [hi, happ]
      exact mk_l1 t (p ++ [r]) o2 (by rw [← happ]; exact hl) (by simpa using h1) h2 (fun x hx => hv x (List.mem_cons_of_mem _ hx)) (List.pairwise_cons.1 hp).2 h3
    have hlt : (p.length : Int) < ((p ++ r :: t).length : Int) := by simp; omega
    rcases List.eq_nil_or_concat o with ho0 | ⟨o', q, ho'⟩
    · subst ho0
      obtain ⟨res, e, s, m⟩ := hgo [r] (by simp) ⟨by omega, by omega, by omega, trivial⟩ (fun o' q e x hx => by
        have : q = r := by
          have h := congrArg List.getLast? e
          simpa using h.symm
        subst this
        exact (List.pairwise_cons.1 hp).1 x hx)
      refine ⟨res, Ev.step (fun k => by simp only [runs_Make.l1]; rfl) ?_, s, fun n => by rw [m n, mem_cons, mem_cons (r := r) (t := t)]; simp [mem_nil]⟩
      refine Ev.ift hlt (Ev.ift (by omega) (Ev.ift hlt ?_))
      simp only [hr]
      refine Ev.iff_ (by simp [wrap64]) (Ev.ift (by simp) ?_)
      exact e
    · have ho2 : o = o' ++ [q] := by simpa using ho'
      subst ho2
      have hk : wrap64 (((o' ++ [q]).length : Int) - 1) = (o'.length : Int) := by
        simp only [List.length_append, List.length_cons, List.length_nil] at ho ⊢
        exact wN (by omega) (by omega)
      have hsl := sane_lim o' _ q hs
      have hqr := hq o' q rfl r List.mem_cons_self
      have hw : wrap64 (q.f1 + 1) = q.f1 + 1 := w64 (by omega) (by omega)
      have hlo : (o'.length : Int) < ((o' ++ [q]).length : Int) := by simp; omega
      by_cases c : r.f0 ≤ q.f1 + 1
      · have hx : o'.length + 1 ≤ p.length := by simpa using ho
        obtain ⟨res, e, s, m⟩ := hgo (o' ++ [(⟨q.f0, mx q.f1 r.f1⟩ : S42)]) (by simp; omega) (sane_last (x := (⟨q.f0, mx q.f1 r.f1⟩ : S42)) (q := q) rfl (by show q.f1 ≤ mx q.f1 r.f1; unfold mx; split <;> omega) (by show mx q.f1 r.f1 ≤ lim; unfold mx; split <;> omega) o' _ hs) (fun o2 q2 e x hx2 => by
          have h := congrArg List.getLast? e
          have : q2 = ⟨q.f0, mx q.f1 r.f1⟩ := by simpa using h.symm
          subst this
          exact hq o' q rfl x (List.mem_cons_of_mem _ hx2))
        refine ⟨res, Ev.step (fun k => by simp only [runs_Make.l1]; rfl) ?_, s, fun n => ?_⟩
        · refine Ev.ift hlt (Ev.ift (by omega) (Ev.ift hlt ?_))
          simp only [hr, hk, rd_last, hw]
          refine Ev.ift (by omega) (Ev.ift (by omega) (Ev.ift hlo (Ev.ift c ?_)))
          simp only [Int.toNat_natCast, List.set_append_right _ _ (Nat.le_refl _), Nat.sub_self, List.set_cons_zero]
          exact e
        · rw [m n, mem_append, mem_append, mem_cons, mem_cons, mem_cons]
          simp only [mem_nil, or_false, mx]
          constructor
          · rintro ((h | h) | h)
            · exact .inl (.inl h)
            · by_cases hn : n ≤ q.f1
              · exact .inl (.inr (by omega))
              · refine .inr (.inl ?_)
                split at h <;> omega
            · exact .inr (.inr h)
          · rintro ((h | h) | (h | h))
            · exact .inl (.inl h)
            · refine .inl (.inr ?_)
              split <;> omega
            · refine .inl (.inr ?_)
              split <;> omega
            · exact .inr h
      · obtain ⟨res, e, s, m⟩ := hgo ((o' ++ [q]) ++ [r]) (by simp only [List.length_append, List.length_cons, List.length_nil] at ho ⊢; omega) (sane_more (by omega) (by omega) (by omega) o' _ hs) (fun o2 q2 e x hx2 => by
          have h := congrArg List.getLast? e
          have : q2 = r := by simpa using h.symm
          subst this
          exact (List.pairwise_cons.1 hp).1 x hx2)
        refine ⟨res, Ev.step (fun k => by simp only [runs_Make.l1]; rfl) ?_, s, fun n => ?_⟩
        · refine Ev.ift hlt (Ev.ift (by omega) (Ev.ift hlt ?_))
          simp only [hr, hk, rd_last, hw]
          refine Ev.ift (by omega) (Ev.ift (by omega) (Ev.ift hlo (Ev.iff_ c (Ev.ift (by omega) ?_))))
          exact e
        · rw [m n, mem_append (s := o' ++ [q]), mem_cons (r := r) (t := t), mem_cons (r := r) (t := [])]
          simp only [mem_nil, or_false, or_assoc]
def cut (l : List S42) : List S42 := (l.map clamp).filter (fun r => decide (r.f0 ≤ r.f1))
theorem mk_l0 (r : List S42) : ∀ (t p acc : List S42), (p ++ t).length < 4398046511104 → acc.length ≤ p.length →
    Ev (fun k => (api_Run_49.f k (acc ++ cut t)).bind fun t246 => runs_Make.l1 k ([] : List S42) t246 ((acc ++ cut t).length : Int) 0) r →
    Ev (fun k => runs_Make.l0 k acc (p ++ t) ((p ++ t).length : Int) (p.length : Int)) r
  | [], p, acc, hl, ha, h => by
    simp only [cut, List.map_nil, List.filter_nil, List.append_nil] at h
    exact Ev.step (fun k => by simp only [runs_Make.l0]; rw [if_neg (by simp)]) h
  | q :: t, p, acc, hl, ha, h => by
    have hlen : p.length + (t.length + 1) < 4398046511104 := by simpa using hl
    have hr : rd_T42 (p ++ q :: t) (p.length : Int) = q := by simp [rd_T42]
    have hi : wrap64 ((p.length : Int) + 1) = ((p ++ [q]).length : Int) := by rw [wN (n := p.length + 1) (by omega) (by omega)]; simp
    have happ : p ++ q :: t = (p ++ [q]) ++ t := by simp
    have hlt : (p.length : Int) < ((p ++ q :: t).length : Int) := by simp; omega
    have hlim : lim = 1099511627776 := rfl
    have hc : (⟨mx q.f0 (-1099511627776), mn q.f1 1099511627776⟩ : S42) = clamp q := by
      unfold clamp mx mn
      congr 1
      · simp only [hlim]; split <;> omega
      · simp only [hlim]; split <;> omega
    have hc0 : mx q.f0 (-1099511627776) = (clamp q).f0 := congrArg (fun x => x.f0) hc
    have hc1 : mn q.f1 1099511627776 = (clamp q).f1 := congrArg (fun x => x.f1) hc
    refine Ev.step (fun k => by simp only [runs_Make.l0]; rfl) ?_
    refine Ev.ift hlt (Ev.ift (by omega) (Ev.ift hlt ?_))
    simp only [hr, hc0, hc1]
    rw [hi, happ]
    by_cases c : (clamp q).f0 ≤ (clamp q).f1
    · refine Ev.ift c (Ev.ift (by omega) ?_)
      refine mk_l0 r t (p ++ [q]) (acc ++ [clamp q]) (by rw [← happ]; exact hl) (by simp; omega) ?_
      have e : acc ++ cut (q :: t) = (acc ++ [clamp q]) ++ cut t := by simp [cut, c]
      rw [e] at h
      exact h
    · refine Ev.iff_ c ?_
      refine mk_l0 r t (p ++ [q]) acc (by rw [← happ]; exact hl) (by simp; omega) ?_
      have e : acc ++ cut (q :: t) = acc ++ cut t := by simp [cut, c]
      rw [e] at h
      exact h
end Go.Proofs.YthppfagfmjchoaaDoor.A.So
namespace Go.Proofs.YthppfagfmjchoaaDoor.A.So
open Go.RowKit Go.Proofs.YthppfagfmjchoaaDoorW.PrintWords Go.Proofs.YthppfagfmjchoaaDoorW.PrintLast Go.Proofs.YthppfagfmjchoaaDoorW.PrintMore
attribute [local go_sem] max2_int min2_int max_two min_two max_three min_three max_four min_four
set_option linter.unusedVariables false
set_option linter.unusedSimpArgs false
attribute [local go_sem] isSome_setCell
set_option maxHeartbeats 8000000 in
set_option maxRecDepth 100000 in
theorem cmp_isNaN_int.calls (a0 : Int) (r : Bool) (w : World) (h : cmp_isNaN_int.f a0 = some r) :
  Calls Tryd.prog 72 #[.int .i64 a0] w fun e w' => e = .returned (.bool r) ∧ Drawn0 w w' := by
 have H : (some (a0 != a0)) = some r := h; clear h; obtain rfl := Option.some.inj H; go_enter Tryd.func72, Tryd.ntmps72; go_wp2; go_ret; exact ⟨by first | rfl | (simp; done) | (simp [*]; done), by repeat (first | exact Drawn0.refl _ | apply Drawn0.step)⟩
set_option maxHeartbeats 8000000 in
set_option maxRecDepth 100000 in
theorem cmp_Compare_int.calls (a0 a1 r : Int) (w : World) (h : cmp_Compare_int.f a0 a1 = some r) :
  Calls Tryd.prog 57 #[.int .i64 a0, .int .i64 a1] w fun e w' => e = .returned (.int .i64 r) ∧ Drawn0 w w' := by
 have H : ((cmp_isNaN_int.f a0).bind fun t101 => ((cmp_isNaN_int.f a1).bind fun t102 => (if t101 = true then (if t102 = true then (some 0) else (some (-1))) else (if t102 = true then (some 1) else (if a0 < a1 then (some (-1)) else (if a0 > a1 then (some 1) else (some 0))))))) = some r := h; clear h; obtain ⟨t101, A3, H⟩ := bi_ H; obtain ⟨t102, A4, H⟩ := bi_ H
 by_cases c5 : t101 = true
 ·subst c5
  replace H := iP_ H
  by_cases c6 : t102 = true
  ·subst c6
   replace H := iP_ H; obtain rfl := Option.some.inj H; go_enter Tryd.func57, Tryd.ntmps57; go_wp2_with (first | ((with_reducible refine gC 72 ?_); refine goesL_ (some 8) rfl rfl Tryd.func72 (by kernel_rfl) rfl #[.int .i64 a0] rfl ml_ ?_; (with_reducible refine (cmp_isNaN_int.calls a0 true _ A3.out).mono ?_); rintro e w' ⟨rfl, ⟨nd, rfl⟩⟩; refine ⟨_, rfl, ?_⟩) | ((with_reducible refine gC 72 ?_); refine goesL_ (some 10) rfl rfl Tryd.func72 (by kernel_rfl) rfl #[.int .i64 a1] rfl ml_ ?_; (with_reducible refine (cmp_isNaN_int.calls a1 true _ A4.out).mono ?_); rintro e w' ⟨rfl, ⟨nd, rfl⟩⟩; refine ⟨_, rfl, ?_⟩)); go_ret; exact ⟨by first | rfl | (simp; done) | (simp [*]; done), by repeat (first | exact Drawn0.refl _ | apply Drawn0.step)⟩
  ·replace c6 := Bool.eq_false_iff.mpr c6
   subst c6; replace H := iN_ H; obtain rfl := Option.some.inj H; go_enter Tryd.func57, Tryd.ntmps57; go_wp2_with (first | ((with_reducible refine gC 72 ?_); refine goesL_ (some 8) rfl rfl Tryd.func72 (by kernel_rfl) rfl #[.int .i64 a0] rfl ml_ ?_; (with_reducible refine (cmp_isNaN_int.calls a0 true _ A3.out).mono ?_); rintro e w' ⟨rfl, ⟨nd, rfl⟩⟩; refine ⟨_, rfl, ?_⟩) | ((with_reducible refine gC 72 ?_); refine goesL_ (some 10) rfl rfl Tryd.func72 (by kernel_rfl) rfl #[.int .i64 a1] rfl ml_ ?_; (with_reducible refine (cmp_isNaN_int.calls a1 false _ A4.out).mono ?_); rintro e w' ⟨rfl, ⟨nd, rfl⟩⟩; refine ⟨_, rfl, ?_⟩)); go_ret; exact ⟨by first | rfl | (simp; done) | (simp [*]; done), by repeat (first | exact Drawn0.refl _ | apply Drawn0.step)⟩
 ·replace c5 := Bool.eq_false_iff.mpr c5
  subst c5; replace H := iN_ H
  by_cases c7 : t102 = true
  ·subst c7
   replace H := iP_ H; obtain rfl := Option.some.inj H; go_enter Tryd.func57, Tryd.ntmps57; go_wp2_with (first | ((with_reducible refine gC 72 ?_); refine goesL_ (some 8) rfl rfl Tryd.func72 (by kernel_rfl) rfl #[.int .i64 a0] rfl ml_ ?_; (with_reducible refine (cmp_isNaN_int.calls a0 false _ A3.out).mono ?_); rintro e w' ⟨rfl, ⟨nd, rfl⟩⟩; refine ⟨_, rfl, ?_⟩) | ((with_reducible refine gC 72 ?_); refine goesL_ (some 10) rfl rfl Tryd.func72 (by kernel_rfl) rfl #[.int .i64 a1] rfl ml_ ?_; (with_reducible refine (cmp_isNaN_int.calls a1 true _ A4.out).mono ?_); rintro e w' ⟨rfl, ⟨nd, rfl⟩⟩; refine ⟨_, rfl, ?_⟩)); go_ret; exact ⟨by first | rfl | (simp; done) | (simp [*]; done), by repeat (first | exact Drawn0.refl _ | apply Drawn0.step)⟩
  ·replace c7 := Bool.eq_false_iff.mpr c7
   subst c7; replace H := iN_ H
   by_cases c8 : a0 < a1
   ·rw [if_pos c8] at H
    have c8b0 := decide_eq_true c8; clear c8; obtain rfl := Option.some.inj H; go_enter Tryd.func57, Tryd.ntmps57; go_wp2_with (first | ((with_reducible refine gC 72 ?_); refine goesL_ (some 8) rfl rfl Tryd.func72 (by kernel_rfl) rfl #[.int .i64 a0] rfl ml_ ?_; (with_reducible refine (cmp_isNaN_int.calls a0 false _ A3.out).mono ?_); rintro e w' ⟨rfl, ⟨nd, rfl⟩⟩; refine ⟨_, rfl, ?_⟩) | ((with_reducible refine gC 72 ?_); refine goesL_ (some 10) rfl rfl Tryd.func72 (by kernel_rfl) rfl #[.int .i64 a1] rfl ml_ ?_; (with_reducible refine (cmp_isNaN_int.calls a1 false _ A4.out).mono ?_); rintro e w' ⟨rfl, ⟨nd, rfl⟩⟩; refine ⟨_, rfl, ?_⟩)); go_ret; exact ⟨by first | rfl | (simp; done) | (simp [*]; done), by repeat (first | exact Drawn0.refl _ | apply Drawn0.step)⟩
   ·rw [if_neg c8] at H
    have c8b0 := decide_eq_false c8; clear c8
    by_cases c9 : a0 > a1
    ·rw [if_pos c9] at H
     have c9b0 := decide_eq_true c9; clear c9; obtain rfl := Option.some.inj H; go_enter Tryd.func57, Tryd.ntmps57; go_wp2_with (first | ((with_reducible refine gC 72 ?_); refine goesL_ (some 8) rfl rfl Tryd.func72 (by kernel_rfl) rfl #[.int .i64 a0] rfl ml_ ?_; (with_reducible refine (cmp_isNaN_int.calls a0 false _ A3.out).mono ?_); rintro e w' ⟨rfl, ⟨nd, rfl⟩⟩; refine ⟨_, rfl, ?_⟩) | ((with_reducible refine gC 72 ?_); refine goesL_ (some 10) rfl rfl Tryd.func72 (by kernel_rfl) rfl #[.int .i64 a1] rfl ml_ ?_; (with_reducible refine (cmp_isNaN_int.calls a1 false _ A4.out).mono ?_); rintro e w' ⟨rfl, ⟨nd, rfl⟩⟩; refine ⟨_, rfl, ?_⟩)); go_ret; exact ⟨by first | rfl | (simp; done) | (simp [*]; done), by repeat (first | exact Drawn0.refl _ | apply Drawn0.step)⟩
    ·rw [if_neg c9] at H
     have c9b0 := decide_eq_false c9; clear c9; obtain rfl := Option.some.inj H; go_enter Tryd.func57, Tryd.ntmps57; go_wp2_with (first | ((with_reducible refine gC 72 ?_); refine goesL_ (some 8) rfl rfl Tryd.func72 (by kernel_rfl) rfl #[.int .i64 a0] rfl ml_ ?_; (with_reducible refine (cmp_isNaN_int.calls a0 false _ A3.out).mono ?_); rintro e w' ⟨rfl, ⟨nd, rfl⟩⟩; refine ⟨_, rfl, ?_⟩) | ((with_reducible refine gC 72 ?_); refine goesL_ (some 10) rfl rfl Tryd.func72 (by kernel_rfl) rfl #[.int .i64 a1] rfl ml_ ?_; (with_reducible refine (cmp_isNaN_int.calls a1 false _ A4.out).mono ?_); rintro e w' ⟨rfl, ⟨nd, rfl⟩⟩; refine ⟨_, rfl, ?_⟩)); go_ret; exact ⟨by first | rfl | (simp; done) | (simp [*]; done), by repeat (first | exact Drawn0.refl _ | apply Drawn0.step)⟩
set_option maxHeartbeats 8000000 in
set_option maxRecDepth 100000 in
theorem runs_order_compare.calls (a0_0 : Bool) (a1_0 a1_1 a2_0 a2_1 r : Int) (w : World) (h : runs_order_compare.f a0_0 a1_0 a1_1 a2_0 a2_1 = some r) :
  Calls Tryd.prog 65 #[.agg #[.bool a0_0], .agg #[.int .i64 a1_0, .int .i64 a1_1], .agg #[.int .i64 a2_0, .int .i64 a2_1]] w fun e w' => e = .returned (.int .i64 r) ∧ Below w.heap.size w w' := by
 have hu90 := Tryd.underlying90; have hu42 := Tryd.underlying42; have HB := A_ (Below.refl w.heap.size w); have H : (if a0_0 = true then ((cmp_Compare_int.f a2_0 a1_0).bind fun t106 => (some t106)) else ((cmp_Compare_int.f a1_0 a2_0).bind fun t107 => (some t107))) = some r := h; clear h
 by_cases c4 : a0_0 = true
 ·subst c4
  replace H := iP_ H; obtain ⟨t106, A5, H⟩ := bi_ H; obtain rfl := Option.some.inj H; go_enter Tryd.func65, Tryd.ntmps65; go_wp2_with (first | ((with_reducible refine gD 3 ?_); refine gx_ w 3 #[.bool true] 90 ?_; clear HB; intro gb103 w6 BK103 GE103 HB; have GW103 := GE103) | ((with_reducible refine gD 4 ?_); refine bxe_ 4 #[.int .i64 a1_0, .int .i64 a1_1] 42 ?_; intro gb104 hg w7 hbox hb; have BK104 := A_ (hbox); have GW104 := gs_ w hg; have GE104 := gs_ w hg; replace HB := bs_ hb; have NB103_104 := nl_ BK103 hg; have NB104_103 := ng_ BK103 hg; replace BK103 := bb_ BK103 hb; clear hb hbox hg) | ((with_reducible refine gD 5 ?_); refine bxe_ 5 #[.int .i64 a2_0, .int .i64 a2_1] 42 ?_; intro gb105 hg w8 hbox hb; have BK105 := A_ (hbox); have GW105 := gs_ w hg; have GE105 := gs_ w hg; replace HB := bs_ hb; have NB103_105 := nl_ BK103 hg; have NB105_103 := ng_ BK103 hg; replace BK103 := bb_ BK103 hb; have NB104_105 := nl_ BK104 hg; have NB105_104 := ng_ BK104 hg; replace BK104 := bb_ BK104 hb; clear hb hbox hg; have hnb9 := NB103_104.out; have hnc9 := NB104_103.out; have hnb10 := NB103_105.out; have hnc10 := NB105_103.out; have Z11 := bz1_ BK103; have hnb12 := NB105_104.out; have hnc12 := NB104_105.out; have Z13 := bz2_ BK105; have Z14 := bz2_ BK104) | ((with_reducible refine gC 57 ?_); refine goesL_ (some 15) rfl rfl Tryd.func57 (by kernel_rfl) rfl #[.int .i64 a2_0, .int .i64 a1_0] rfl ml_ ?_; (with_reducible refine (cmp_Compare_int.calls a2_0 a1_0 t106 _ A5.out).mono ?_); rintro e w' ⟨rfl, ⟨nd, rfl⟩⟩; refine ⟨_, rfl, ?_⟩))
  go_ret; exact ⟨re_, hs_⟩
 ·replace c4 := Bool.eq_false_iff.mpr c4
  subst c4; replace H := iN_ H; obtain ⟨t107, A15, H⟩ := bi_ H; obtain rfl := Option.some.inj H; go_enter Tryd.func65, Tryd.ntmps65; go_wp2_with (first | ((with_reducible refine gD 3 ?_); refine gx_ w 3 #[.bool false] 90 ?_; clear HB; intro gb103 w16 BK103 GE103 HB; have GW103 := GE103) | ((with_reducible refine gD 4 ?_); refine bxe_ 4 #[.int .i64 a1_0, .int .i64 a1_1] 42 ?_; intro gb104 hg w17 hbox hb; have BK104 := A_ (hbox); have GW104 := gs_ w hg; have GE104 := gs_ w hg; replace HB := bs_ hb; have NB103_104 := nl_ BK103 hg; have NB104_103 := ng_ BK103 hg; replace BK103 := bb_ BK103 hb; clear hb hbox hg) | ((with_reducible refine gD 5 ?_); refine bxe_ 5 #[.int .i64 a2_0, .int .i64 a2_1] 42 ?_; intro gb105 hg w18 hbox hb; have BK105 := A_ (hbox); have GW105 := gs_ w hg; have GE105 := gs_ w hg; replace HB := bs_ hb; have NB103_105 := nl_ BK103 hg; have NB105_103 := ng_ BK103 hg; replace BK103 := bb_ BK103 hb; have NB104_105 := nl_ BK104 hg; have NB105_104 := ng_ BK104 hg; replace BK104 := bb_ BK104 hb; clear hb hbox hg; have hnb19 := NB103_104.out; have hnc19 := NB104_103.out; have hnb20 := NB103_105.out; have hnc20 := NB105_103.out; have Z21 := bz1_ BK103; have hnb22 := NB104_105.out; have hnc22 := NB105_104.out; have Z23 := bz2_ BK104; have Z24 := bz2_ BK105) | ((with_reducible refine gC 57 ?_); refine goesL_ (some 15) rfl rfl Tryd.func57 (by kernel_rfl) rfl #[.int .i64 a1_0, .int .i64 a2_0] rfl ml_ ?_; (with_reducible refine (cmp_Compare_int.calls a1_0 a2_0 t107 _ A15.out).mono ?_); rintro e w' ⟨rfl, ⟨nd, rfl⟩⟩; refine ⟨_, rfl, ?_⟩))
  go_ret; exact ⟨re_, hs_⟩
end Go.Proofs.YthppfagfmjchoaaDoor.A.So
namespace Go.Proofs.YthppfagfmjchoaaDoor.A.So
open Go.RowKit Go.Proofs.YthppfagfmjchoaaDoorW.PrintWords Go.Proofs.YthppfagfmjchoaaDoorW.PrintLast Go.Proofs.YthppfagfmjchoaaDoorW.PrintMore
attribute [local go_sem] max2_int min2_int max_two min_two max_three min_three max_four min_four
set_option linter.unusedVariables false
set_option linter.unusedSimpArgs false
def api_Run_64.T4 : Bool × List (List Nat × List Nat) := (true, [([], []), ([], []), ([0, 1], [0, 1]), ([2], [2]), ([3], [3]), ([3], [3]), ([3], [3]), ([5, 6, 3], [3, 5, 6]), ([7, 3], [3, 7]), ([3], [3]), ([3], [3]), ([10, 3], [3, 10]), ([9, 11, 3], [3, 9, 11]), ([12, 3], [3, 12]), ([4, 8, 13, 3, 3], [3, 4, 8, 13]), ([14, 3], [3, 14]), ([3, 15], [3, 15])])
def api_Run_64.B4 : List Nat := [0, 0, 3, 7, 15, 15, 15, 111, 239, 15, 15, 1039, 3599, 7695, 16383, 32767, 65535]
theorem api_Run_64.tab4 : rtab .any (opsOf Tryd.f86 4) = api_Run_64.T4 := by kernel_rfl
theorem api_Run_64.bits4 : waitsOk api_Run_64.T4.2 api_Run_64.B4 = true := by kernel_rfl
def api_Run_64.T6 : Bool × List (List Nat × List Nat) := (true, [([], []), ([], []), ([], []), ([], []), ([3], [3]), ([], []), ([], []), ([6], [6]), ([5, 7], [5, 7]), ([8], [8]), ([], []), ([], []), ([10, 11], [10, 11]), ([12], [12]), ([0, 1, 0, 1, 5, 6, 7, 8, 9, 13], [0, 1]), ([14, 9, 0, 1, 5, 6, 7, 8, 9, 13], [9, 14]), ([2, 4, 0, 1, 2, 3, 4, 5, 6, 7, 8, 9, 10, 11, 12, 13, 14, 15], [2, 4]), ([16, 13, 15, 0, 1, 2, 3, 4, 5, 6, 7, 8, 9, 10, 11, 12, 13, 14, 15], [13, 16])])
def api_Run_64.B6 : List Nat := [0, 0, 0, 0, 8, 0, 0, 64, 224, 480, 0, 0, 3072, 7168, 16355, 32739, 65535, 131071]
theorem api_Run_64.tab6 : rtab .any (opsOf Tryd.f86 6) = api_Run_64.T6 := by kernel_rfl
theorem api_Run_64.bits6 : waitsOk api_Run_64.T6.2 api_Run_64.B6 = true := by kernel_rfl
set_option maxHeartbeats 8000000 in
set_option maxRecDepth 100000 in
theorem api_Run_64.calls (k : Nat) (P0_ : Nat → Prop) (u9000_ : Value) (l0 : List (S42)) (a1 a2 : Int)  (r : List (S42)) (w0 w : World) (hB : Below w0.heap.size w0 w) (ho0 : Kd.R k42 42 w w0.heap.size P0_ u9000_ l0) (h : api_Run_64.f k l0 a1 a2 = some r) :
  Calls Tryd.prog 86 #[u9000_, .int .i64 a1, .int .i64 a2, .func (.func 65) #[.agg #[.bool false]] #[]] w fun e w' => e = .returned (.tuple #[]) ∧ Kd.R k42 42 w' w0.heap.size (fun k_ => (P0_ k_ ∨ w.heap.size ≤ k_)) u9000_ r ∧ Below w0.heap.size w0 w' ∧ Kept w w' (fun k_ => P0_ k_) := by
 have hu42 := Tryd.underlying42; have HO0 := A_ (show Kd.R k42 42 w w0.heap.size (fun k_ => (P0_ k_ ∨ w.heap.size ≤ k_)) u9000_ l0 from Kd.R_mono ho0 (fun k_ hk => (.inl hk))); have HK := A_ (Kept.refl w (fun k_ => P0_ k_)); have HW0 := A_ hB.size; have HB := A_ hB; clear hB; have H : (api_Run_64.l0 k l0 a1 a2 (wrap64 (a1 + 1))) = some r := h; clear h; have H' := A_ H; clear H; go_enter Tryd.func86, Tryd.ntmps86; go_wp2; go_loopg [8] k (fun kq v8 w' => ∃ (x0_1 : List (S42)) (x8_1 : Int), v8 = .int .i64 x8_1 ∧ Aside0 (api_Run_64.l0 kq x0_1 a1 a2 x8_1 = some r) ∧ Aside0 (kq ≤ k) ∧ Aside0 (Kd.R k42 42 w' w0.heap.size (fun k_ => (P0_ k_ ∨ w.heap.size ≤ k_)) u9000_ x0_1) ∧ Aside0 (Kept w w' (fun k_ => P0_ k_)) ∧ Aside0 (Below w0.heap.size w0 w'))
 case atStart => exact ⟨(l0), (wrap64 (a1 + 1)), rf_, H', ⟨Nat.le_refl _⟩, ⟨fxR_ HO0.out⟩, ⟨hk_⟩, ⟨hs_⟩⟩
 case round =>
  clear H'; (try clear p2); obtain ⟨x0_1, x8_1, rfl, HA, HK1, HO_0, HK, HB⟩ := hrel
  cases gk with
  | zero => exact absurd HA.out (by simp [api_Run_64.l0])
  | succ k1 =>
   have H := HA.out; clear HA; simp only [api_Run_64.l0] at H
   by_cases c5 : x8_1 < a2
   ·rw [if_pos c5] at H
    have c5b0 := decide_eq_true c5; clear c5; have H' := A_ H; clear H; go_wp2; go_loopg [9] k1 (fun kq v9 w' => ∃ (x0_2 : List (S42)) (x9_2 : Int), v9 = .int .i64 x9_2 ∧ Aside0 (api_Run_64.l1 kq x0_2 a1 a2 x8_1 x9_2 = some r) ∧ Aside0 (kq ≤ k1) ∧ Aside0 (Kd.R k42 42 w' w0.heap.size (fun k_ => (P0_ k_ ∨ w.heap.size ≤ k_)) u9000_ x0_2) ∧ Aside0 (Kept w w' (fun k_ => P0_ k_)) ∧ Aside0 (Below w0.heap.size w0 w'))
    case atStart => exact ⟨(x0_1), (x8_1), rf_, H', ⟨Nat.le_refl _⟩, ⟨h0_⟩, ⟨hk_⟩, ⟨hs_⟩⟩
    case round =>
     clear H'; (try clear p2); (try clear c5); (try clear c5b0); (try clear p2); obtain ⟨x0_2, x9_2, rfl, HA, HK2, HO_0, HK, HB⟩ := hrel
     cases gk with
     | zero => exact absurd HA.out (by simp [api_Run_64.l1])
     | succ k2 =>
      have H := HA.out; clear HA; simp only [api_Run_64.l1] at H
      by_cases c6 : x9_2 > a1
      ·rw [if_pos c6] at H
       have c6b0 := decide_eq_true c6; clear c6
       by_cases c7 : 0 ≤ x9_2
       ·rw [if_pos c7] at H
        have c7b0 := decide_eq_true c7; clear c7
        by_cases c8 : x9_2 < (x0_2.length : Int)
        ·rw [if_pos c8] at H
         have c8b0 := decide_eq_true c8; clear c8; obtain ⟨ji9, hji9⟩ : ∃ j_ : Int, (wrap64 (x9_2 - 1)) = j_ := ⟨_, rfl⟩; (replace H : (if 0 ≤ (ji9) then (if (ji9) < (x0_2.length : Int) then ((runs_order_compare.f false ((rd_T42 x0_2 x9_2).f0) ((rd_T42 x0_2 x9_2).f1) ((rd_T42 x0_2 (ji9)).f0) ((rd_T42 x0_2 (ji9)).f1)).bind fun t110 => (if t110 < 0 then (api_Run_64.l1 k2 ((x0_2.set (x9_2 : Int).toNat (⟨(rd_T42 x0_2 (ji9)).f0, (rd_T42 x0_2 (ji9)).f1⟩ : S42)).set ((ji9) : Int).toNat (⟨(rd_T42 x0_2 x9_2).f0, (rd_T42 x0_2 x9_2).f1⟩ : S42)) a1 a2 x8_1 ji9) else (api_Run_64.l0 k2 x0_2 a1 a2 (wrap64 (x8_1 + 1))))) else (none)) else (none)) = some r := by first | (rw [hji9] at H; exact H) | (simp only [hji9] at H ⊢; exact H)); have hji9w : (IntKind.i64.wrap (x9_2 - 1)) = ji9 := (i64_w _).trans hji9
         by_cases c10 : 0 ≤ (ji9)
         ·rw [if_pos c10] at H
          have c10b0 := decide_eq_true c10; clear c10
          by_cases c11 : (ji9) < (x0_2.length : Int)
          ·rw [if_pos c11] at H
           have c11b0 := decide_eq_true c11; clear c11; obtain ⟨t110, A12, H⟩ := bi_ H
           by_cases c13 : t110 < 0
           ·rw [if_pos c13] at H
            have c13b0 := decide_eq_true c13; clear c13; obtain ⟨y113, hy113⟩ : ∃ y_ : List (S42), y_ = (x0_2.set (x9_2 : Int).toNat (⟨(rd_T42 x0_2 (ji9)).f0, (rd_T42 x0_2 (ji9)).f1⟩ : S42)) := ⟨_, rfl⟩; (replace H : (api_Run_64.l1 k2 (y113.set ((ji9) : Int).toNat (⟨(rd_T42 x0_2 x9_2).f0, (rd_T42 x0_2 x9_2).f1⟩ : S42)) a1 a2 x8_1 ji9) = some r := by first | (rw [hy113]; with_reducible exact H) | (have H2_ := (Option.bind_some _ _).symm.trans H; rw [hy113]; with_reducible exact H2_) | (have H2_ := (Option.bind_some _ _).symm.trans H; with_reducible exact H2_) | with_reducible exact H | (rw [hy113]; exact H) | exact H); have Ny113 := A_ hy113; clear hy113; obtain ⟨y114, hy114⟩ : ∃ y_ : List (S42), y_ = (y113.set ((ji9) : Int).toNat (⟨(rd_T42 x0_2 x9_2).f0, (rd_T42 x0_2 x9_2).f1⟩ : S42)) := ⟨_, rfl⟩; (replace H : (api_Run_64.l1 k2 y114 a1 a2 x8_1 ji9) = some r := by first | (rw [hy114]; with_reducible exact H) | (have H2_ := (Option.bind_some _ _).symm.trans H; rw [hy114]; with_reducible exact H2_) | (have H2_ := (Option.bind_some _ _).symm.trans H; with_reducible exact H2_) | with_reducible exact H | (rw [hy114]; exact H) | exact H); have Ny114 := A_ hy114; clear hy114; have H' := A_ H; clear H; (try go_wp2); replace HO_0 := A_ (Kd.R_drew HO_0.out); replace HK := A_ (Kept.drew HK.out); replace HB := A_ (below_drew1 HB.out); obtain ⟨Ao17, co17, eo17⟩ := Kd.R_slice HO_0.out; (first | subst eo17 | (injection eo17 with f1_ f2_ f3_; have f4_ := f1_.symm; have f5_ := f3_.symm; clear f1_ f2_ f3_; subst f4_; subst f5_)); have p108 : 0 ≤ (x9_2 : Int) := od_; have q108 : x9_2 < (x0_2.length : Int) := od_; obtain ⟨ad108, e108, hx108_0, hx108_1⟩ := at_T42 (Kd.R_reads' HO_0.out).2.2 x9_2 p108 q108
            cases e108
            replace p108 := eq_true p108; replace q108 := eq_true q108; have p109 : 0 ≤ ((ji9) : Int) := od_; have q109 : (ji9) < (x0_2.length : Int) := od_; obtain ⟨ad109, e109, hx109_0, hx109_1⟩ := at_T42 (Kd.R_reads' HO_0.out).2.2 (ji9) p109 q109; obtain rfl : ad108 = ad109 := (by injection e109); replace p109 := eq_true p109; replace q109 := eq_true q109; refine start_ (n := 17) (S := fun w' => w'.cell? (ad108.add ((x9_2).toNat * 2)) = some (.int .i64 ((rd_T42 x0_2 x9_2).f0)) ∧ w'.cell? ⟨(ad108.add ((x9_2).toNat * 2)).block, (ad108.add ((x9_2).toNat * 2)).off + 1, none⟩ = some (.int .i64 ((rd_T42 x0_2 x9_2).f1)) ∧ w'.cell? (ad108.add (((ji9)).toNat * 2)) = some (.int .i64 ((rd_T42 x0_2 (ji9)).f0)) ∧ w'.cell? ⟨(ad108.add (((ji9)).toNat * 2)).block, (ad108.add (((ji9)).toNat * 2)).off + 1, none⟩ = some (.int .i64 ((rd_T42 x0_2 (ji9)).f1))) (ds := []) (ab 17 0) (by kernel_rfl) rfl rfl ⟨hx108_0, hx108_1, hx109_0, hx109_1⟩ (fun hHeld => ?_); refine with_tabW api_Run_64.tab4 api_Run_64.bits4 (fun HT_ HW_ => ?_); generalize wr.drew = w16 at HO_0 HK HB hx108_0 hx108_1 hx109_0 hx109_1 hHeld ⊢; refine pA 0 18 17 1 ?_; refine pA 1 19 17 3 ?_; refine pA 2 20 17 7 ?_; refine pA 3 21 17 15 ?_; refine pA 4 22 17 31 ?_; refine pA 5 23 17 63 ?_; refine pA 6 24 17 127 ?_; refine pA 7 25 17 255 ?_; refine pA 9 27 17 767 ?_; refine pA 10 28 17 1791 ?_; refine pA 11 29 17 3839 ?_; refine pA 12 30 17 7935 ?_; refine tB 8 26 17 8191 ?_; refine tB 13 31 17 16383 ?_; refine oA 14 (some 32) 17 32767 fun K hK => ?_; refine goesV_ #[.agg #[.bool false]] Tryd.func65 (by kernel_rfl) rfl #[.agg #[.bool false], .agg #[.int .i64 ((rd_T42 x0_2 x9_2).f0), .int .i64 ((rd_T42 x0_2 x9_2).f1)], .agg #[.int .i64 ((rd_T42 x0_2 (ji9)).f0), .int .i64 ((rd_T42 x0_2 (ji9)).f1)]] (by rfl) rfl rfl rfl (by (try simp only [List.map_toArray, List.map_cons, List.map_nil]); first | done | (simp only [hji9]; rfl) | rfl | (simp only [List.length_drop, List.length_take]; rfl)) ?_; refine (runs_order_compare.calls false ((rd_T42 x0_2 x9_2).f0) ((rd_T42 x0_2 x9_2).f1) ((rd_T42 x0_2 (ji9)).f0) ((rd_T42 x0_2 (ji9)).f1) t110 _ A12.out).mono ?_; rintro e w18 ⟨rfl, hb⟩; have r_ := hHeld; have HS0_ := ch_ hb r_.1; replace r_ := r_.2; have HS1_ := ch_ hb r_.1; replace r_ := r_.2; have HS2_ := ch_ hb r_.1; replace r_ := r_.2; have HS3_ := ch_ hb r_; clear r_; refine ⟨_, rfl, ?_⟩; replace HO_0 := A_ (Kd.R_below h0_ hb); replace HK := A_ (Kept.below (S := (fun k_ => P0_ k_)) hk_ hb); replace HB := bs_ hb; (try clear hb); refine hK.out _ _ ⟨HS0_, HS1_, HS2_, HS3_⟩ (fun hHeld => ?_); clear hK K; refine nA ?_; refine pA 15 33 17 65535 ?_; refine pA 16 34 17 131071 ?_; refine done_ (done_of HT_.out (by kernel_rfl)) ?_; (try go_wp2); replace HO_0 := A_ (Kd.R_drew HO_0.out); replace HK := A_ (Kept.drew HK.out); replace HB := A_ (below_drew1 HB.out); have p111 : 0 ≤ ((ji9) : Int) := od_; have q111 : (ji9) < (x0_2.length : Int) := od_; obtain ⟨ad111, e111, hx111_0, hx111_1⟩ := at_T42 (Kd.R_reads' HO_0.out).2.2 (ji9) p111 q111; obtain rfl : ad108 = ad111 := (by injection e111); replace p111 := eq_true p111; replace q111 := eq_true q111; have p112 : 0 ≤ (x9_2 : Int) := od_; have q112 : x9_2 < (x0_2.length : Int) := od_; obtain ⟨ad112, e112, hx112_0, hx112_1⟩ := at_T42 (Kd.R_reads' HO_0.out).2.2 x9_2 p112 q112; obtain rfl : ad108 = ad112 := (by injection e112); replace p112 := eq_true p112; replace q112 := eq_true q112; have p14 : 0 ≤ (x9_2 : Int) := od_; have q14 : (x9_2 : Int) < ((x0_2.length : Int) : Int) := od_; obtain ⟨go14, co14, eo14, gb14, gl14, cl14, HG14⟩ := Kd.R_form HO_0.out (by omega); (first | cases eo14 | (injection eo14 with ea_ en_ ec_; (first | subst ea_ | (injection ea_ with ea_; subst ea_)); subst ec_; clear en_))
            have GB14 := A_ gb14; have GG14 := A_ HG14; clear gb14 gl14 HG14; have HMgo14 := A_ (show (P0_ go14 ∨ w.heap.size ≤ go14) from (HO_0.out.1 _ rfl)); (first | simp only [add_plain] at hx108_0 | skip); (first | simp only [add_plain] at hx108_1 | skip); (first | simp only [add_plain] at hx109_0 | skip); (first | simp only [add_plain] at hx109_1 | skip); (first | simp only [add_plain] at hx111_0 | skip); (first | simp only [add_plain] at hx111_1 | skip); (first | simp only [add_plain] at hx112_0 | skip); (first | simp only [add_plain] at hx112_1 | skip); obtain ⟨ce14, hcl14, hM14, hcc14, hfr14⟩ := Kd.R_elem HO_0.out z42 (x9_2 : Int) p14 q14; obtain rfl := k42_openM hM14; have hx14_0 : World.cell? _ ⟨go14, (x9_2 : Int).toNat * 2, none⟩ = some (.int .i64 ((rd_T42 x0_2 x9_2).f0)) := hcc14 0 _ rfl; have hx14_1 : World.cell? _ ⟨go14, (x9_2 : Int).toNat * 2 + 1, none⟩ = some (.int .i64 ((rd_T42 x0_2 x9_2).f1)) := hcc14 1 _ rfl; have hf14_0 : World.frozen? _ ⟨go14, (x9_2 : Int).toNat * 2, none⟩ = false := hfr14 0; have hf14_1 : World.frozen? _ ⟨go14, (x9_2 : Int).toNat * 2 + 1, none⟩ = false := hfr14 1; clear hcl14 hcc14 hfr14 hM14; replace p14 := eq_true p14; replace q14 := eq_true q14; obtain ⟨ce20, hcl20, hM20, hcc20, hfr20⟩ := Kd.R_elem HO_0.out z42 (x9_2 : Int) od_ (by have h_ : (x9_2 : Int) < ((x0_2.length : Int) : Int) := od_; first | exact h_ | (have e_ := (Kd.R_reads' HO_0.out).1; omega) | simpa using h_); obtain rfl := k42_openM hM20; have HP20 := (Kd.R_seg HO_0.out (x9_2 : Int) od_ (by have h_ : (x9_2 : Int) < ((x0_2.length : Int) : Int) := od_; first | exact h_ | (have e_ := (Kd.R_reads' HO_0.out).1; omega) | simpa using h_) (seg := [.int .i64 ((rd_T42 x0_2 (ji9)).f0), .int .i64 ((rd_T42 x0_2 (ji9)).f1)]) (j := 0) hcl20 hcc20 (show 2 ≤ 2 from by decide) (x' := (⟨(rd_T42 x0_2 (ji9)).f0, (rd_T42 x0_2 (ji9)).f1⟩ : S42)) (k42_mkM _ _ _ (⟨(rd_T42 x0_2 (ji9)).f0, (rd_T42 x0_2 (ji9)).f1⟩ : S42) ) (fun _ hk => hk)).1; rw [← Ny113.out] at HP20; have HQ20 := A_ HP20; clear hcl20 hcc20 hfr20 hM20 HP20; have p15 : 0 ≤ ((ji9) : Int) := od_; have q15 : ((ji9) : Int) < ((x0_2.length : Int) : Int) := od_; obtain ⟨ce15, hcl15, hM15, hcc15, hfr15⟩ := Kd.R_elem HQ20.out z42 ((ji9) : Int) p15 q15; obtain rfl := k42_openM hM15; have hx15_0 : World.cell? _ ⟨go14, ((ji9) : Int).toNat * 2, none⟩ = some (.int .i64 ((rd_T42 y113 (ji9)).f0)) := hcc15 0 _ rfl; have hx15_1 : World.cell? _ ⟨go14, ((ji9) : Int).toNat * 2 + 1, none⟩ = some (.int .i64 ((rd_T42 y113 (ji9)).f1)) := hcc15 1 _ rfl; have hf15_0 : World.frozen? _ ⟨go14, ((ji9) : Int).toNat * 2, none⟩ = false := hfr15 0; have hf15_1 : World.frozen? _ ⟨go14, ((ji9) : Int).toNat * 2 + 1, none⟩ = false := hfr15 1; clear hcl15 hcc15 hfr15 hM15; replace p15 := eq_true p15; replace q15 := eq_true q15; obtain ⟨ce21, hcl21, hM21, hcc21, hfr21⟩ := Kd.R_elem HQ20.out z42 ((ji9) : Int) od_ (by have h_ : ((ji9) : Int) < ((x0_2.length : Int) : Int) := od_; first | exact h_ | (have e_ := (Kd.R_reads' HO_0.out).1; omega) | simpa using h_); obtain rfl := k42_openM hM21; have HP21 := (Kd.R_seg HQ20.out ((ji9) : Int) od_ (by have h_ : ((ji9) : Int) < ((x0_2.length : Int) : Int) := od_; first | exact h_ | (have e_ := (Kd.R_reads' HO_0.out).1; omega) | simpa using h_) (seg := [.int .i64 ((rd_T42 x0_2 x9_2).f0), .int .i64 ((rd_T42 x0_2 x9_2).f1)]) (j := 0) hcl21 hcc21 (show 2 ≤ 2 from by decide) (x' := (⟨(rd_T42 x0_2 x9_2).f0, (rd_T42 x0_2 x9_2).f1⟩ : S42)) (k42_mkM _ _ _ (⟨(rd_T42 x0_2 x9_2).f0, (rd_T42 x0_2 x9_2).f1⟩ : S42) ) (fun _ hk => hk)).1; rw [← Ny114.out] at HP21; have HQ21 := A_ HP21; clear hcl21 hcc21 hfr21 hM21 HP21; refine start_ (n := 18) (S := fun w' => w'.cell? ⟨go14, (((ji9)).toNat * 2), none⟩ = some (.int .i64 ((rd_T42 x0_2 (ji9)).f0)) ∧ w'.cell? ⟨go14, (((ji9)).toNat * 2) + 1, none⟩ = some (.int .i64 ((rd_T42 x0_2 (ji9)).f1)) ∧ w'.cell? ⟨go14, ((x9_2).toNat * 2), none⟩ = some (.int .i64 ((rd_T42 x0_2 x9_2).f0)) ∧ w'.cell? ⟨go14, ((x9_2).toNat * 2) + 1, none⟩ = some (.int .i64 ((rd_T42 x0_2 x9_2).f1))) (ds := [15, 17]) (ab 18 0) (by kernel_rfl) rfl rfl ⟨hx111_0, hx111_1, hx112_0, hx112_1⟩ (fun hHeld => ?_); refine with_tabW api_Run_64.tab6 api_Run_64.bits6 (fun HT_ HW_ => ?_)
            generalize w18.drew = w19 at HO_0 HK HB GG14 HQ20 HQ21 hf14_0 hf14_1 hf15_0 hf15_1 hx108_0 hx108_1 hx109_0 hx109_1 hx111_0 hx111_1 hx112_0 hx112_1 hx14_0 hx14_1 hx15_0 hx15_1 hHeld ⊢; (try (simp only [World.setCells, Nat.add_zero, show (k42).sz = 2 from rfl] at hx15_0; try simp [go_sem] at hx15_0)); (try (simp only [World.setCells, Nat.add_zero, show (k42).sz = 2 from rfl] at hf15_0; try simp [go_sem] at hf15_0)); (try (simp only [World.setCells, Nat.add_zero, show (k42).sz = 2 from rfl] at hx15_1; try simp [go_sem] at hx15_1)); (try (simp only [World.setCells, Nat.add_zero, show (k42).sz = 2 from rfl] at hf15_1; try simp [go_sem] at hf15_1)); refine pA 0 37 18 1 ?_; refine pA 1 38 18 3 ?_; refine pA 2 39 18 7 ?_; refine pA 3 40 18 15 ?_; refine pA 4 41 18 31 ?_; refine pA 5 42 18 63 ?_; refine pA 6 43 18 127 ?_; refine pA 7 44 18 255 ?_; refine pA 8 45 18 511 ?_; refine pA 10 47 18 1535 ?_; refine pA 11 48 18 3583 ?_; refine pA 12 49 18 7679 ?_; refine tB 9 46 18 8191 ?_; refine tB 13 50 18 16383 ?_; refine pA 14 51 18 32767 ?_; refine last_ (i := 15) (N := none) (ab 18 65535) rfl rfl (one_of HT_.out (by kernel_rfl)) (by decide) (fun K hK => ?_); refine sA ?_; refine hK.out _ _ ?_; clear hK K; refine pA 16 52 18 131071 ?_; refine last_ (i := 17) (N := none) (ab 18 262143) rfl rfl (one_of HT_.out (by kernel_rfl)) (by decide) (fun K hK => ?_); refine sA ?_; refine hK.out _ _ ?_; clear hK K; refine done_ (done_of HT_.out (by kernel_rfl)) ?_; (try go_wp2); go_roundg k2
            case measure => have := HK1.out; have := HK2.out; omega
            case rel => exact ⟨(y114), (ji9), (by first | rfl | (simp; done) | (simp only [← hji9] <;> (first | rfl | simp)) | (simp [*]; done)), H', ⟨by have := HK1.out; have := HK2.out; omega⟩, ⟨by (with_reducible repeat (first | apply Kd.R_alloc | apply Kd.R_drewN | apply Kd.R_drew)); exact HQ21.out⟩, ⟨by repeat (first | (with_reducible first | exact HK.out | apply Kept.alloc | apply Kept.drewN | apply Kept.drew | refine Kept.setCell ?_ HMgo14.out _ | refine Kept.setCell ?_ HMgo14.out _ | refine Kept.setCell ?_ HMgo14.out _ | refine Kept.setCell ?_ HMgo14.out _) | exact HK.out)⟩, ⟨hs_⟩⟩
           ·rw [if_neg c13] at H
            have c13b0 := decide_eq_false c13; clear c13; have H' := A_ H; clear H; (try go_wp2); replace HO_0 := A_ (Kd.R_drew HO_0.out); replace HK := A_ (Kept.drew HK.out); replace HB := A_ (below_drew1 HB.out); obtain ⟨Ao23, co23, eo23⟩ := Kd.R_slice HO_0.out; (first | subst eo23 | (injection eo23 with f1_ f2_ f3_; have f4_ := f1_.symm; have f5_ := f3_.symm; clear f1_ f2_ f3_; subst f4_; subst f5_)); have p108 : 0 ≤ (x9_2 : Int) := od_; have q108 : x9_2 < (x0_2.length : Int) := od_; obtain ⟨ad108, e108, hx108_0, hx108_1⟩ := at_T42 (Kd.R_reads' HO_0.out).2.2 x9_2 p108 q108
            cases e108
            replace p108 := eq_true p108; replace q108 := eq_true q108; have p109 : 0 ≤ ((ji9) : Int) := od_; have q109 : (ji9) < (x0_2.length : Int) := od_; obtain ⟨ad109, e109, hx109_0, hx109_1⟩ := at_T42 (Kd.R_reads' HO_0.out).2.2 (ji9) p109 q109; obtain rfl : ad108 = ad109 := (by injection e109); replace p109 := eq_true p109; replace q109 := eq_true q109; refine start_ (n := 17) (S := fun w' => w'.cell? (ad108.add ((x9_2).toNat * 2)) = some (.int .i64 ((rd_T42 x0_2 x9_2).f0)) ∧ w'.cell? ⟨(ad108.add ((x9_2).toNat * 2)).block, (ad108.add ((x9_2).toNat * 2)).off + 1, none⟩ = some (.int .i64 ((rd_T42 x0_2 x9_2).f1)) ∧ w'.cell? (ad108.add (((ji9)).toNat * 2)) = some (.int .i64 ((rd_T42 x0_2 (ji9)).f0)) ∧ w'.cell? ⟨(ad108.add (((ji9)).toNat * 2)).block, (ad108.add (((ji9)).toNat * 2)).off + 1, none⟩ = some (.int .i64 ((rd_T42 x0_2 (ji9)).f1))) (ds := []) (ab 17 0) (by kernel_rfl) rfl rfl ⟨hx108_0, hx108_1, hx109_0, hx109_1⟩ (fun hHeld => ?_); refine with_tabW api_Run_64.tab4 api_Run_64.bits4 (fun HT_ HW_ => ?_); generalize wr.drew = w22 at HO_0 HK HB hx108_0 hx108_1 hx109_0 hx109_1 hHeld ⊢; refine pA 0 18 17 1 ?_; refine pA 1 19 17 3 ?_; refine pA 2 20 17 7 ?_; refine pA 3 21 17 15 ?_; refine pA 4 22 17 31 ?_; refine pA 5 23 17 63 ?_; refine pA 6 24 17 127 ?_; refine pA 7 25 17 255 ?_; refine pA 9 27 17 767 ?_; refine pA 10 28 17 1791 ?_; refine pA 11 29 17 3839 ?_; refine pA 12 30 17 7935 ?_; refine tB 8 26 17 8191 ?_; refine tB 13 31 17 16383 ?_; refine oA 14 (some 32) 17 32767 fun K hK => ?_; refine goesV_ #[.agg #[.bool false]] Tryd.func65 (by kernel_rfl) rfl #[.agg #[.bool false], .agg #[.int .i64 ((rd_T42 x0_2 x9_2).f0), .int .i64 ((rd_T42 x0_2 x9_2).f1)], .agg #[.int .i64 ((rd_T42 x0_2 (ji9)).f0), .int .i64 ((rd_T42 x0_2 (ji9)).f1)]] (by rfl) rfl rfl rfl (by (try simp only [List.map_toArray, List.map_cons, List.map_nil]); first | done | (simp only [hji9]; rfl) | rfl | (simp only [List.length_drop, List.length_take]; rfl)) ?_; refine (runs_order_compare.calls false ((rd_T42 x0_2 x9_2).f0) ((rd_T42 x0_2 x9_2).f1) ((rd_T42 x0_2 (ji9)).f0) ((rd_T42 x0_2 (ji9)).f1) t110 _ A12.out).mono ?_; rintro e w24 ⟨rfl, hb⟩; have r_ := hHeld; have HS0_ := ch_ hb r_.1; replace r_ := r_.2; have HS1_ := ch_ hb r_.1; replace r_ := r_.2; have HS2_ := ch_ hb r_.1; replace r_ := r_.2; have HS3_ := ch_ hb r_; clear r_; refine ⟨_, rfl, ?_⟩; replace HO_0 := A_ (Kd.R_below h0_ hb); replace HK := A_ (Kept.below (S := (fun k_ => P0_ k_)) hk_ hb); replace HB := bs_ hb; (try clear hb); refine hK.out _ _ ⟨HS0_, HS1_, HS2_, HS3_⟩ (fun hHeld => ?_); clear hK K; refine nA ?_; refine pA 15 33 17 65535 ?_; refine pA 16 34 17 131071 ?_; refine done_ (done_of HT_.out (by kernel_rfl)) ?_; (try go_wp2); go_roundg k2
            case measure => have := HK1.out; have := HK2.out; omega
            case rel => exact ⟨(x0_2), (wrap64 (x8_1 + 1)), rf_, H', ⟨by have := HK1.out; have := HK2.out; omega⟩, ⟨h0_⟩, ⟨hk_⟩, ⟨hs_⟩⟩
          ·rw [if_neg c11] at H
           exact absurd H (by simp)
         ·rw [if_neg c10] at H
          exact absurd H (by simp)
        ·rw [if_neg c8] at H
         exact absurd H (by simp)
       ·rw [if_neg c7] at H
        exact absurd H (by simp)
      ·rw [if_neg c6] at H
       have c6b0 := decide_eq_false c6; clear c6; have H' := A_ H; clear H; (try go_wp2); replace HO_0 := A_ (Kd.R_drew HO_0.out); replace HK := A_ (Kept.drew HK.out); replace HB := A_ (below_drew1 HB.out); refine start_ (n := 17) (S := fun w' => True) (ds := []) (ab 17 0) (by kernel_rfl) rfl rfl trivial (fun hHeld => ?_); refine with_tabW api_Run_64.tab4 api_Run_64.bits4 (fun HT_ HW_ => ?_); generalize wr.drew = w25 at HO_0 HK HB hHeld ⊢; refine pA 0 18 17 1 ?_; refine pA 1 19 17 3 ?_; refine pA 2 20 17 7 ?_; refine pA 3 21 17 15 ?_; refine uA 4 22 17 31 ?_; refine uA 5 23 17 63 ?_; refine uA 6 24 17 127 ?_; refine uA 7 25 17 255 ?_; refine uA 8 26 17 511 ?_; refine uA 9 27 17 1023 ?_; refine uA 10 28 17 2047 ?_; refine uA 11 29 17 4095 ?_; refine uA 12 30 17 8191 ?_; refine uA 13 31 17 16383 ?_; refine uA 14 32 17 32767 ?_; refine uA 15 33 17 65535 ?_; refine pA 16 34 17 131071 ?_; refine done_ (done_of HT_.out (by kernel_rfl)) ?_; (try go_wp2); go_roundg k2
       case measure => have := HK1.out; have := HK2.out; omega
       case rel => exact ⟨(x0_2), (wrap64 (x8_1 + 1)), rf_, H', ⟨by have := HK1.out; have := HK2.out; omega⟩, ⟨h0_⟩, ⟨hk_⟩, ⟨hs_⟩⟩
   ·rw [if_neg c5] at H
    have c5b0 := decide_eq_false c5; clear c5; obtain rfl := Option.some.inj H; go_wp2
    first | go_end0 | ((try simp only [Exit.inBlock, Exit.then]); refine bodyPost_ret (results_none rfl _ _ _) rfl ?_)
    exact ⟨re_, h0_, hs_, hk_⟩
end Go.Proofs.YthppfagfmjchoaaDoor.A.So