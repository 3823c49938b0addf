/- Walks of functions, and plain facts about what they compute. No conditions. -/
import Derived.Test.YtkbcmjejfbbcpaaZi0
set_option linter.unusedVariables false
set_option linter.unusedSimpArgs false
namespace Go.Proofs.Ytkbcmjejfbbcpaa.A
open Go.RowKit Go.Proofs.YtkbcmjejfbbcpaaW.PrintWords Go.Proofs.YtkbcmjejfbbcpaaW.PrintLast Go.Proofs.YtkbcmjejfbbcpaaW.PrintMore
attribute [local go_sem] max2_int min2_int max_two min_two max_three min_three max_four min_four
set_option linter.unusedVariables false
set_option linter.unusedSimpArgs false
set_option maxHeartbeats 8000000 in
set_option maxRecDepth 100000 in
theorem lustrumref04_Make.calls (k : Nat) (A0 : Option Addr) (c0 : Nat) (l0 : List (S25)) (r : List (S25)) (w : World) (hr0 : Kd.C k25 w A0 l0.length l0) (hc0 : l0.length ≤ c0) (h : lustrumref04_Make.f k l0 = some r) :
  Calls Try.prog 30 #[.slice A0 l0.length c0] w fun e w' => ∃ v0_ : Value, e = .returned (v0_) ∧ Kd.V k25 25 w' w.heap.size (fun k_ => (w.heap.size ≤ k_)) v0_ r ∧ Below w.heap.size w w' := by
 have hu25 := Try.underlying25; have HR0 := Aside0.mk hr0; have HC0 := Aside0.mk hc0; clear hr0 hc0; have HB := Aside0.mk (Below.refl w.heap.size w); have H : (lustrumref04_Make.l0 k l0 ([] : List (S25)) 0) = some r := h; clear h; have H' := Aside0.mk H; clear H; go_enter Try.func30, Try.ntmps30; go_wp2; go_loopg [3, 4] k (fun kq v3 v4 w' => ∃ (x3_1 : List (S25)) (x4_1 : Int), v4 = .int .i64 x4_1 ∧ Aside0 (lustrumref04_Make.l0 kq l0 x3_1 x4_1 = some r) ∧ Aside0 (kq ≤ k) ∧ Aside0 (Kd.V k25 25 w' w.heap.size (fun k_ => (w.heap.size ≤ k_)) v3 x3_1) ∧ Aside0 (Below w.heap.size w w'))
 case atStart => exact ⟨(([] : List (S25))), (0), rf_, H', ⟨Nat.le_refl _⟩, ⟨Kd.V_nil _ _ _ _ _⟩, ⟨hb_⟩⟩
 case round =>
  clear H'; obtain ⟨x3_1, x4_1, rfl, HA, HK1, HO_3, HB⟩ := hrel
  cases gk with
  | zero => exact absurd HA.out (by simp [lustrumref04_Make.l0])
  | succ k1 =>
   have H := HA.out; clear HA; simp only [lustrumref04_Make.l0] at H
   by_cases c2 : x4_1 < (l0.length : Int)
   ·rw [if_pos c2] at H
    have c2b0 : decide (x4_1 < (l0.length : Int)) = true := decide_eq_true c2; clear c2
    by_cases c3 : 0 ≤ x4_1
    ·rw [if_pos c3] at H
     have c3b0 : decide (0 ≤ x4_1) = true := decide_eq_true c3; clear c3; replace H := Option.bind_eq_some_iff.mp H; obtain ⟨t234, A40, H⟩ := H; replace H : (lustrumref04_Make.l0 k1 l0 t234 (wrap64 (x4_1 + 1))) = some r := H; have A4 := Aside0.mk A40; clear A40; have H' := Aside0.mk H; clear H; have p233 : 0 ≤ (x4_1 : Int) := od_; have q233 : x4_1 < (l0.length : Int) := od_; obtain ⟨ad233, e233, hx233_0, hx233_1⟩ := at_T25 HR0.out x4_1 p233 q233
     cases e233
     replace hx233_0 := (HB.out.cell (World.block_lt_of_cell? w _ hx233_0)).trans hx233_0; replace hx233_1 := (HB.out.cell (World.block_lt_of_cell? w _ hx233_1)).trans hx233_1; replace p233 := eq_true p233; replace q233 := eq_true q233; obtain ⟨Ao5, co5, eo5⟩ := Kd.V_slice HO_3.out; subst eo5; go_wp2_with (first | ((with_reducible refine gate_callee (f := 53) rfl ?_); refine goesL_ (some 16) rfl rfl Try.func53 (by kernel_rfl) rfl #[.slice Ao5 x3_1.length co5, .agg #[.int .i64 ((rd_T25 l0 x4_1).f0), .int .i64 ((rd_T25 l0 x4_1).f1)]] rfl ml_ ?_; (with_reducible refine (lustrumref04_put.calls k1 (fun k_ => (w.heap.size ≤ k_)) _ _ x3_1 ((rd_T25 l0 x4_1).f0) ((rd_T25 l0 x4_1).f1) t234 _ ?side1 A4.out).mono ?_); (case side1 => exact HO_3.out); rintro e w6 ⟨v235, rfl, ho0, hb⟩; refine ⟨_, rfl, ?_⟩; have n0_ := Aside0.mk (Kd.V_below (by (with_reducible repeat (first | apply Kd.V_alloc | apply Kd.V_drewN | apply Kd.V_drew)); exact HO_3.out) hb); have n1_ := Aside0.mk (Kd.V_lower (Kd.V_mono (ok' := fun k_ => (w.heap.size ≤ k_)) ho0 (fun k_ hk_ => Or.elim hk_ (fun hs_ => hs_) (fun hn_ => (Nat.le_trans (below_size hb_) hn_)))) (below_size hb_)); have n2_ := Aside0.mk (below_step hb_ hb); clear HO_3; clear HB; have HO_3 := n0_; have HO236 := n1_; have HB := n2_; clear n0_ n1_ n2_; (try clear hb); (try clear hb2); (try clear hk); (try clear hi); (try clear ho0))); go_roundg k1
     case measure => have := HK1.out; omega
     case rel => exact ⟨(t234), (wrap64 (x4_1 + 1)), rf_, H', ⟨by have := HK1.out; omega⟩, ⟨by (with_reducible repeat (first | apply Kd.V_alloc | apply Kd.V_drewN | apply Kd.V_drew)); exact HO236.out⟩, ⟨hb_⟩⟩
    ·rw [if_neg c3] at H
     exact absurd H (by simp)
   ·rw [if_neg c2] at H
    have c2b0 : decide (x4_1 < (l0.length : Int)) = false := decide_eq_false c2; clear c2; obtain rfl := Option.some.inj H; go_wp2; go_ret; exact ⟨_, by first | rfl | (simp [errW_none, errW_some] <;> rfl) | (simp [*, errW_none, errW_some] <;> rfl), by (with_reducible repeat (first | apply Kd.V_alloc | apply Kd.V_drewN | apply Kd.V_drew)); exact HO_3.out, hb_⟩
set_option maxHeartbeats 8000000 in
set_option maxRecDepth 100000 in
theorem lustrumref04_As.calls (k : Nat) (P0_ : Nat → Prop) (A0 : Option Addr) (c0 : Nat) (l0 : List (S25)) (r : List (S25)) (w : World) (hs0 : Kd.V k25 25 w w.heap.size (fun k_ => P0_ k_) (.slice A0 l0.length c0) l0) (h : lustrumref04_As.f k l0 = some r) :
  Calls Try.prog 52 #[.slice A0 l0.length c0] w fun e w' => ∃ v0_ : Value, e = .returned (v0_) ∧ Kd.V k25 25 w' w.heap.size (fun k_ => (P0_ k_ ∨ w.heap.size ≤ k_)) v0_ r ∧ Below w.heap.size w w' := by
 have HO0 := Aside0.mk (show Kd.V k25 25 w w.heap.size (fun k_ => (P0_ k_ ∨ w.heap.size ≤ k_)) (.slice A0 l0.length c0) l0 from Kd.V_mono hs0 (fun k_ hk => .inl hk)); have HB := Aside0.mk (Below.refl w.heap.size w); have H : ((lustrumref04_Sane.f k l0).bind fun t237 => (if t237 = true then (some l0) else ((lustrumref04_Make.f k l0).bind fun t238 => (some t238)))) = some r := h; clear h; replace H := Option.bind_eq_some_iff.mp H; obtain ⟨t237, A20, H⟩ := H; replace H : (if t237 = true then (some l0) else ((lustrumref04_Make.f k l0).bind fun t238 => (some t238))) = some r := H; have A2 := Aside0.mk A20; clear A20
 by_cases c3 : t237 = true
 ·subst c3
  (have H1 : (some l0) = some r := by rw [if_pos rfl] at H; exact H); clear H; have H := H1; clear H1; obtain rfl := Option.some.inj H; go_enter Try.func52, Try.ntmps52; go_wp2_with (first | ((with_reducible refine gate_callee (f := 29) rfl ?_); refine goesL_ (some 4) rfl rfl Try.func29 (by kernel_rfl) rfl #[.slice A0 l0.length c0] rfl ml_ ?_; (with_reducible refine (lustrumref04_Sane.calls k _ _ l0 true _ ?side1 ?side2 A2.out).mono ?_); (case side1 => repeat (first | exact (Kd.V_reads' HO0.out).2.2 | (with_reducible refine Kd.C_alloc ?_ _) | (with_reducible refine Kd.C_drewN ?_ _) | (with_reducible refine Kd.C_drew ?_))); (case side2 => exact (Kd.V_reads' HO0.out).2.1); rintro e w' ⟨rfl, ⟨nd, rfl⟩⟩; refine ⟨_, rfl, ?_⟩)); go_ret; exact ⟨_, by first | rfl | (simp [errW_none, errW_some] <;> rfl) | (simp [*, errW_none, errW_some] <;> rfl), by (with_reducible repeat (first | apply Kd.V_alloc | apply Kd.V_drewN | apply Kd.V_drew)); exact HO0.out, hb_⟩
 ·replace c3 := Bool.eq_false_iff.mpr c3
  subst c3; (have H1 : ((lustrumref04_Make.f k l0).bind fun t238 => (some t238)) = some r := by rw [if_neg (show ¬ (false = true) by decide)] at H; exact H); clear H; have H := H1; clear H1; replace H := Option.bind_eq_some_iff.mp H; obtain ⟨t238, A40, H⟩ := H; replace H : (some t238) = some r := H; have A4 := Aside0.mk A40; clear A40; obtain rfl := Option.some.inj H; go_enter Try.func52, Try.ntmps52; go_wp2_with (first | ((with_reducible refine gate_callee (f := 29) rfl ?_); refine goesL_ (some 4) rfl rfl Try.func29 (by kernel_rfl) rfl #[.slice A0 l0.length c0] rfl ml_ ?_; (with_reducible refine (lustrumref04_Sane.calls k _ _ l0 false _ ?side1 ?side2 A2.out).mono ?_); (case side1 => repeat (first | exact (Kd.V_reads' HO0.out).2.2 | (with_reducible refine Kd.C_alloc ?_ _) | (with_reducible refine Kd.C_drewN ?_ _) | (with_reducible refine Kd.C_drew ?_))); (case side2 => exact (Kd.V_reads' HO0.out).2.1); rintro e w' ⟨rfl, ⟨nd, rfl⟩⟩; refine ⟨_, rfl, ?_⟩) | ((with_reducible refine gate_callee (f := 30) rfl ?_); refine goesL_ (some 7) rfl rfl Try.func30 (by kernel_rfl) rfl #[.slice A0 l0.length c0] rfl ml_ ?_; (with_reducible refine (lustrumref04_Make.calls k _ _ l0 t238 _ ?side1 ?side2 A4.out).mono ?_); (case side1 => repeat (first | exact (Kd.V_reads' HO0.out).2.2 | (with_reducible refine Kd.C_alloc ?_ _) | (with_reducible refine Kd.C_drewN ?_ _) | (with_reducible refine Kd.C_drew ?_))); (case side2 => exact (Kd.V_reads' HO0.out).2.1); rintro e w5 ⟨v239, rfl, ho0, hb⟩; refine ⟨_, rfl, ?_⟩; have n0_ := Aside0.mk (Kd.V_below (by (with_reducible repeat (first | apply Kd.V_alloc | apply Kd.V_drewN | apply Kd.V_drew)); exact HO0.out) hb); have n1_ := Aside0.mk (Kd.V_lower (Kd.V_mono (ok' := fun k_ => (P0_ k_ ∨ w.heap.size ≤ k_)) ho0 (fun k_ hk_ => (.inr (Nat.le_trans (below_size hb_) hk_)))) (below_size hb_)); have n2_ := Aside0.mk (below_step hb_ hb); clear HO0; clear HB; have HO0 := n0_; have HO240 := n1_; have HB := n2_; clear n0_ n1_ n2_; (try clear hb); (try clear hb2); (try clear hk); (try clear hi); (try clear ho0))); go_ret; exact ⟨_, by first | rfl | (simp [errW_none, errW_some] <;> rfl) | (simp [*, errW_none, errW_some] <;> rfl), by (with_reducible repeat (first | apply Kd.V_alloc | apply Kd.V_drewN | apply Kd.V_drew)); exact HO240.out, hb_⟩
set_option maxHeartbeats 8000000 in
set_option maxRecDepth 100000 in
theorem lustrumref04_Next.calls (k : Nat) (A0 : Option Addr) (c0 : Nat) (l0 : List (S25)) (a1 : Int) (r1 : Int) (r2 : Bool) (w : World) (hr0 : Kd.C k25 w A0 l0.length l0) (hc0 : l0.length ≤ c0) (h : lustrumref04_Next.f k l0 a1 = some (r1, r2)) :
  Calls Try.prog 26 #[.slice A0 l0.length c0, .int .i64 a1] w fun e w' => e = .returned (.tuple #[.int .i64 r1, .bool r2]) ∧ Below w.heap.size w w' := by
 have HR0 := Aside0.mk hr0; have HC0 := Aside0.mk hc0; clear hr0 hc0; have HB := Aside0.mk (Below.refl w.heap.size w); have H : ((lustrumref04_As.f k l0).bind fun t241 => (lustrumref04_Next.l0 k a1 t241 0)) = some (r1, r2) := h; clear h; replace H := Option.bind_eq_some_iff.mp H; obtain ⟨t241, A30, H⟩ := H; replace H : (lustrumref04_Next.l0 k a1 t241 0) = some (r1, r2) := H; have A3 := Aside0.mk A30; clear A30; have H' := Aside0.mk H; clear H; go_enter Try.func26, Try.ntmps26; go_wp2_with (first | ((with_reducible refine gate_callee (f := 52) rfl ?_); refine goesL_ (some 9) rfl rfl Try.func52 (by kernel_rfl) rfl #[.slice A0 l0.length c0] rfl ml_ ?_; (with_reducible refine (lustrumref04_As.calls k (fun k_ => k_ < w.heap.size) _ _ l0 t241 _ ?side1 A3.out).mono ?_); (case side1 => exact Kd.V_mk HC0.out (Kd.F_below (Kd.C_F k25_heap HR0.out) hb_)); rintro e w4 ⟨v242, rfl, ho0, hb⟩; refine ⟨_, rfl, ?_⟩; have n0_ := Aside0.mk (Kd.V_lower (Kd.V_mono (ok' := fun k_ => True) ho0 (fun k_ hk_ => trivial)) (below_size hb_)); have n1_ := Aside0.mk (below_step hb_ hb); clear HB; have HO243 := n0_; have HB := n1_; clear n0_ n1_; (try clear hb); (try clear hb2); (try clear hk); (try clear hi); (try clear ho0))); go_loopg [7] k (fun kq v7 w' => ∃ (x7_1 : Int), v7 = .int .i64 x7_1 ∧ Aside0 (lustrumref04_Next.l0 kq a1 t241 x7_1 = some (r1, r2)) ∧ Aside0 (kq ≤ k) ∧ Aside0 (Kd.V k25 25 w' w.heap.size (fun _ => True) v242 t241) ∧ Aside0 (Below w.heap.size w w'))
 case atStart => exact ⟨(0), rf_, H', ⟨Nat.le_refl _⟩, ⟨by (with_reducible repeat (first | apply Kd.V_alloc | apply Kd.V_drewN | apply Kd.V_drew)); exact HO243.out⟩, ⟨hb_⟩⟩
 case round =>
  clear H'; (try clear c2); (try clear p2); obtain ⟨x7_1, rfl, HA, HK1, HO_6, HB⟩ := hrel
  cases gk with
  | zero => exact absurd HA.out (by simp [lustrumref04_Next.l0])
  | succ k1 =>
   have H := HA.out; clear HA; simp only [lustrumref04_Next.l0] at H
   by_cases c5 : x7_1 < (t241.length : Int)
   ·rw [if_pos c5] at H
    have c5b0 : decide (x7_1 < (t241.length : Int)) = true := decide_eq_true c5; clear c5
    by_cases c6 : 0 ≤ x7_1
    ·rw [if_pos c6] at H
     have c6b0 : decide (0 ≤ x7_1) = true := decide_eq_true c6; clear c6
     by_cases c7 : ((rd_T25 t241 x7_1).f1) ≥ a1
     ·rw [if_pos c7] at H
      have c7b0 : decide (a1 ≤ ((rd_T25 t241 x7_1).f1)) = true := decide_eq_true c7; clear c7; obtain ⟨ji8, hji8⟩ : ∃ j_ : Int, (mx a1 ((rd_T25 t241 x7_1).f0)) = j_ := ⟨_, rfl⟩; (replace H : (some (ji8, true)) = some (r1, r2) := by first | (rw [hji8] at H; exact H) | (simp only [hji8] at H ⊢; exact H)); have hji8_ : (if a1 < ((rd_T25 t241 x7_1).f0) then ((rd_T25 t241 x7_1).f0) else a1) = ji8 := hji8; simp only [Option.some.injEq, Prod.mk.injEq] at H; obtain ⟨rfl, rfl⟩ := H; obtain ⟨Ao9, co9, eo9⟩ := Kd.V_slice HO_6.out; subst eo9; have p244 : 0 ≤ (x7_1 : Int) := od_; have q244 : x7_1 < (t241.length : Int) := od_; obtain ⟨ad244, e244, hx244_0, hx244_1⟩ := at_T25 (Kd.V_reads' HO_6.out).2.2 x7_1 p244 q244
      cases e244
      replace p244 := eq_true p244; replace q244 := eq_true q244; have p245 : 0 ≤ (x7_1 : Int) := od_; have q245 : x7_1 < (t241.length : Int) := od_; obtain ⟨ad245, e245, hx245_0, hx245_1⟩ := at_T25 (Kd.V_reads' HO_6.out).2.2 x7_1 p245 q245; obtain rfl : ad244 = ad245 := (by injection e245); replace p245 := eq_true p245; replace q245 := eq_true q245; go_wp2; go_ret2; exact ⟨by first | rfl | (simp [errW_none, errW_some] <;> rfl) | (simp only [← hji8]; first | rfl | (simp [errW_none, errW_some] <;> rfl)) | (simp [*, errW_none, errW_some] <;> rfl), hb_⟩
     ·rw [if_neg c7] at H
      have c7b0 : decide (a1 ≤ ((rd_T25 t241 x7_1).f1)) = false := decide_eq_false c7; clear c7; have H' := Aside0.mk H; clear H; obtain ⟨Ao10, co10, eo10⟩ := Kd.V_slice HO_6.out; subst eo10; have p244 : 0 ≤ (x7_1 : Int) := od_; have q244 : x7_1 < (t241.length : Int) := od_; obtain ⟨ad244, e244, hx244_0, hx244_1⟩ := at_T25 (Kd.V_reads' HO_6.out).2.2 x7_1 p244 q244
      cases e244
      replace p244 := eq_true p244; replace q244 := eq_true q244; go_wp2; go_roundg k1
      case measure => have := HK1.out; omega
      case rel => exact ⟨(wrap64 (x7_1 + 1)), rf_, H', ⟨by have := HK1.out; omega⟩, ⟨by (with_reducible repeat (first | apply Kd.V_alloc | apply Kd.V_drewN | apply Kd.V_drew)); exact HO_6.out⟩, ⟨hb_⟩⟩
    ·rw [if_neg c6] at H
     exact absurd H (by simp)
   ·rw [if_neg c5] at H
    have c5b0 : decide (x7_1 < (t241.length : Int)) = false := decide_eq_false c5; clear c5; simp only [Option.some.injEq, Prod.mk.injEq] at H; obtain ⟨rfl, rfl⟩ := H; obtain ⟨Ao11, co11, eo11⟩ := Kd.V_slice HO_6.out; subst eo11; go_wp2; go_ret2; exact ⟨re_, hb_⟩
set_option maxHeartbeats 8000000 in
set_option maxRecDepth 100000 in
theorem runs_Prev.calls (k : Nat) (A0 : Option Addr) (c0 : Nat) (l0 : List (S25)) (a1 : Int) (r1 : Int) (r2 : Bool) (w : World) (hr0 : Kd.C k25 w A0 l0.length l0) (hc0 : l0.length ≤ c0) (h : runs_Prev.f k l0 a1 = some (r1, r2)) :
  Calls Try.prog 27 #[.slice A0 l0.length c0, .int .i64 a1] w fun e w' => e = .returned (.tuple #[.int .i64 r1, .bool r2]) ∧ Below w.heap.size w w' := by
 have HR0 := Aside0.mk hr0; have HC0 := Aside0.mk hc0; clear hr0 hc0; have HB := Aside0.mk (Below.refl w.heap.size w); have H : ((runs_known.f k l0).bind fun t246 => ((runs_at.f t246 a1).bind fun t249 => (if t249 < (t246.length : Int) then (if 0 ≤ t249 then (runs_Prev.j0 k t246 a1 t249 (decide (((rd_T25 t246 t249).f0) ≤ a1))) else (none)) else (runs_Prev.j0 k t246 a1 t249 false)))) = some (r1, r2) := h; clear h; replace H := Option.bind_eq_some_iff.mp H; obtain ⟨t246, A30, H⟩ := H; replace H : ((runs_at.f t246 a1).bind fun t249 => (if t249 < (t246.length : Int) then (if 0 ≤ t249 then (runs_Prev.j0 k t246 a1 t249 (decide (((rd_T25 t246 t249).f0) ≤ a1))) else (none)) else (runs_Prev.j0 k t246 a1 t249 false))) = some (r1, r2) := H; have A3 := Aside0.mk A30; clear A30; replace H := Option.bind_eq_some_iff.mp H; obtain ⟨t249, A40, H⟩ := H; replace H : (if t249 < (t246.length : Int) then (if 0 ≤ t249 then (runs_Prev.j0 k t246 a1 t249 (decide (((rd_T25 t246 t249).f0) ≤ a1))) else (none)) else (runs_Prev.j0 k t246 a1 t249 false)) = some (r1, r2) := H; have A4 := Aside0.mk A40; clear A40; have HC5 := Aside0.mk H; clear H; go_enter Try.func27, Try.ntmps27; go_upto_region 3 with (first | ((with_reducible refine gate_callee (f := 50) rfl ?_); refine goesL_ (some 8) rfl rfl Try.func50 (by kernel_rfl) rfl #[.slice A0 l0.length c0] rfl ml_ ?_; (with_reducible refine (runs_known.calls k (fun k_ => k_ < w.heap.size) _ _ l0 t246 _ ?side1 A3.out).mono ?_); (case side1 => exact Kd.V_mk HC0.out (Kd.F_below (Kd.C_F k25_heap HR0.out) hb_)); rintro e w6 ⟨v247, rfl, ho0, hb⟩; refine ⟨_, rfl, ?_⟩; have n0_ := Aside0.mk (Kd.V_lower (Kd.V_mono (ok' := fun k_ => True) ho0 (fun k_ hk_ => trivial)) (below_size hb_)); have n1_ := Aside0.mk (below_step hb_ hb); clear HB; have HO248 := n0_; have HB := n1_; clear n0_ n1_; (try clear hb); (try clear hb2); (try clear hk); (try clear hi); (try clear ho0); obtain ⟨Ao7, co7, eo7⟩ := Kd.V_slice HO248.out; subst eo7) | ((with_reducible refine gate_callee (f := 51) rfl ?_); refine goesL_ (some 11) rfl rfl Try.func51 (by kernel_rfl) rfl #[.slice Ao7 t246.length co7, .int .i64 a1] rfl ml_ ?_; (with_reducible refine (runs_at.calls _ _ t246 a1 t249 _ ?side1 ?side2 A4.out).mono ?_); (case side1 => repeat (first | exact (Kd.V_reads' HO248.out).2.2 | (with_reducible refine Kd.C_alloc ?_ _) | (with_reducible refine Kd.C_drewN ?_ _) | (with_reducible refine Kd.C_drew ?_))); (case side2 => exact (Kd.V_reads' HO248.out).2.1); rintro e w8 ⟨rfl, hb⟩; refine ⟨_, rfl, ?_⟩; have n0_ := Aside0.mk (Kd.V_below (by (with_reducible repeat (first | apply Kd.V_alloc | apply Kd.V_drewN | apply Kd.V_drew)); exact HO248.out) hb); have n1_ := Aside0.mk (below_step hb_ hb); clear HO248; clear HB; have HO248 := n0_; have HB := n1_; clear n0_ n1_; (try clear hb); (try clear hb2); (try clear hk); (try clear hi))); (try simp only [Act.put, List.setIfInBounds_toArray, List.set_cons_zero, List.set_cons_succ]); go_cut [24] (fun v24 wc => ∃ (kq : Nat) (x24_4 : Bool), v24 = .bool x24_4 ∧ Aside0 (runs_Prev.j0 kq t246 a1 t249 x24_4 = some (r1, r2)) ∧ Aside0 (kq ≤ k) ∧ Aside0 (Kd.V k25 25 wc w.heap.size (fun _ => True) (.slice Ao7 t246.length co7) t246) ∧ Aside0 (Below w.heap.size w wc))
 case first =>
  have H := HC5.out; clear HC5
  by_cases c9 : t249 < (t246.length : Int)
  ·rw [if_pos c9] at H
   have c9b0 : decide (t249 < (t246.length : Int)) = true := decide_eq_true c9; clear c9; (first | rw [c9b0] | (simp only [i64_w, i32_w]; rw [c9b0]) | skip)
   by_cases c10 : 0 ≤ t249
   ·rw [if_pos c10] at H
    have c10b0 : decide (0 ≤ t249) = true := decide_eq_true c10; clear c10; have H' := Aside0.mk H; clear H; have p250 : 0 ≤ (t249 : Int) := od_; have q250 : t249 < (t246.length : Int) := od_; obtain ⟨ad250, e250, hx250_0, hx250_1⟩ := at_T25 (Kd.V_reads' HO248.out).2.2 t249 p250 q250
    cases e250
    replace p250 := eq_true p250; replace q250 := eq_true q250; go_wp2; go_meet
    case rel => exact ⟨_, (decide (((rd_T25 t246 t249).f0) ≤ a1)), rf_, H', ⟨by first | omega | exact Nat.le_refl _⟩, ⟨by (with_reducible repeat (first | apply Kd.V_alloc | apply Kd.V_drewN | apply Kd.V_drew)); exact HO248.out⟩, ⟨hb_⟩⟩
   ·rw [if_neg c10] at H
    exact absurd H (by simp)
  ·rw [if_neg c9] at H
   have c9b0 : decide (t249 < (t246.length : Int)) = false := decide_eq_false c9; clear c9; (first | rw [c9b0] | (simp only [i64_w, i32_w]; rw [c9b0]) | skip); have H' := Aside0.mk H; clear H; go_wp2; go_meet
   case rel => exact ⟨_, (false), rf_, H', ⟨by first | omega | exact Nat.le_refl _⟩, ⟨by (with_reducible repeat (first | apply Kd.V_alloc | apply Kd.V_drewN | apply Kd.V_drew)); exact HO248.out⟩, ⟨hb_⟩⟩
 case rest =>
  clear HC5; (try clear c1); (try clear c2); (try clear p2); (try clear q2); (try clear hx2); (try clear c5); (try clear c9); (try clear c9b0); (try clear c10); (try clear c10b0); (try clear hx250_0); (try clear hx250_1); (try clear p250); (try clear q250); obtain ⟨kq, x24_4, rfl, HA, HJ4, HO_0, HB⟩ := hcut
  cases kq with
  | zero => exact absurd HA.out (by simp [runs_Prev.j0])
  | succ kj4 =>
   have H := HA.out; clear HA; simp only [runs_Prev.j0] at H
   by_cases c11 : x24_4 = true
   ·subst c11
    (have H1 : (some (a1, true)) = some (r1, r2) := by rw [if_pos rfl] at H; exact H); clear H; have H := H1; clear H1; simp only [Option.some.injEq, Prod.mk.injEq] at H; obtain ⟨rfl, rfl⟩ := H; go_wp2; go_ret2; exact ⟨re_, hb_⟩
   ·replace c11 := Bool.eq_false_iff.mpr c11
    subst c11; (have H1 : (if t249 = 0 then (some (0, false)) else (if 0 ≤ (wrap64 (t249 - 1)) then (if (wrap64 (t249 - 1)) < (t246.length : Int) then (some ((rd_T25 t246 (wrap64 (t249 - 1))).f1, true)) else (none)) else (none))) = some (r1, r2) := by rw [if_neg (show ¬ (false = true) by decide)] at H; exact H); clear H; have H := H1; clear H1
    by_cases c12 : t249 = 0
    ·rw [if_pos c12] at H
     have c12b0 : (t249 == 0) = true := beq_iff_eq.mpr c12; have c12b1 : (t249 != 0) = false := bne_eq_false_iff_eq.mpr c12; clear c12; simp only [Option.some.injEq, Prod.mk.injEq] at H; obtain ⟨rfl, rfl⟩ := H; go_wp2; go_ret2; exact ⟨re_, hb_⟩
    ·rw [if_neg c12] at H
     have c12b0 : (t249 == 0) = false := beq_eq_false_iff_ne.mpr c12; have c12b1 : (t249 != 0) = true := bne_iff_ne.mpr c12; obtain ⟨ji13, hji13⟩ : ∃ j_ : Int, (wrap64 (t249 - 1)) = j_ := ⟨_, rfl⟩; (replace H : (if 0 ≤ (ji13) then (if (ji13) < (t246.length : Int) then (some ((rd_T25 t246 (ji13)).f1, true)) else (none)) else (none)) = some (r1, r2) := by first | (rw [hji13] at H; exact H) | (simp only [hji13] at H ⊢; exact H)); have hji13w : (IntKind.i64.wrap (t249 - 1)) = ji13 := (i64_w _).trans hji13
     by_cases c14 : 0 ≤ (ji13)
     ·rw [if_pos c14] at H
      have c14b0 : decide (0 ≤ (ji13)) = true := decide_eq_true c14; clear c14
      by_cases c15 : (ji13) < (t246.length : Int)
      ·rw [if_pos c15] at H
       have c15b0 : decide ((ji13) < (t246.length : Int)) = true := decide_eq_true c15; clear c15; simp only [Option.some.injEq, Prod.mk.injEq] at H; obtain ⟨rfl, rfl⟩ := H; have p251 : 0 ≤ ((ji13) : Int) := od_; have q251 : (ji13) < (t246.length : Int) := od_; obtain ⟨ad251, e251, hx251_0, hx251_1⟩ := at_T25 (Kd.V_reads' HO_0.out).2.2 (ji13) p251 q251
       cases e251
       replace p251 := eq_true p251; replace q251 := eq_true q251; go_wp2; go_ret2; exact ⟨by first | rfl | (simp [errW_none, errW_some] <;> rfl) | (simp only [← hji13]; first | rfl | (simp [errW_none, errW_some] <;> rfl)) | (simp [*, errW_none, errW_some] <;> rfl), hb_⟩
      ·rw [if_neg c15] at H
       exact absurd H (by simp)
     ·rw [if_neg c14] at H
      exact absurd H (by simp)
set_option maxHeartbeats 8000000 in
set_option maxRecDepth 100000 in
theorem lustrumref04_Prev.calls (k : Nat) (A0 : Option Addr) (c0 : Nat) (l0 : List (S25)) (a1 : Int) (r1 : Int) (r2 : Bool) (w : World) (hr0 : Kd.C k25 w A0 l0.length l0) (hc0 : l0.length ≤ c0) (h : lustrumref04_Prev.f k l0 a1 = some (r1, r2)) :
  Calls Try.prog 28 #[.slice A0 l0.length c0, .int .i64 a1] w fun e w' => e = .returned (.tuple #[.int .i64 r1, .bool r2]) ∧ Below w.heap.size w w' := by
 have HR0 := Aside0.mk hr0; have HC0 := Aside0.mk hc0; clear hr0 hc0; have HB := Aside0.mk (Below.refl w.heap.size w); have H : ((lustrumref04_As.f k l0).bind fun t252 => (lustrumref04_Prev.l0 k a1 t252 (wrap64 ((t252.length : Int) - 1)))) = some (r1, r2) := h; clear h; replace H := Option.bind_eq_some_iff.mp H; obtain ⟨t252, A30, H⟩ := H; replace H : (lustrumref04_Prev.l0 k a1 t252 (wrap64 ((t252.length : Int) - 1))) = some (r1, r2) := H; have A3 := Aside0.mk A30; clear A30; have H' := Aside0.mk H; clear H; go_enter Try.func28, Try.ntmps28; go_wp2_with (first | ((with_reducible refine gate_callee (f := 52) rfl ?_); refine goesL_ (some 9) rfl rfl Try.func52 (by kernel_rfl) rfl #[.slice A0 l0.length c0] rfl ml_ ?_; (with_reducible refine (lustrumref04_As.calls k (fun k_ => k_ < w.heap.size) _ _ l0 t252 _ ?side1 A3.out).mono ?_); (case side1 => exact Kd.V_mk HC0.out (Kd.F_below (Kd.C_F k25_heap HR0.out) hb_)); rintro e w4 ⟨v253, rfl, ho0, hb⟩; refine ⟨_, rfl, ?_⟩; have n0_ := Aside0.mk (Kd.V_lower (Kd.V_mono (ok' := fun k_ => True) ho0 (fun k_ hk_ => trivial)) (below_size hb_)); have n1_ := Aside0.mk (below_step hb_ hb); clear HB; have HO254 := n0_; have HB := n1_; clear n0_ n1_; (try clear hb); (try clear hb2); (try clear hk); (try clear hi); (try clear ho0); obtain ⟨Ao5, co5, eo5⟩ := Kd.V_slice HO254.out; subst eo5)); go_loopg [7] k (fun kq v7 w' => ∃ (x7_1 : Int), v7 = .int .i64 x7_1 ∧ Aside0 (lustrumref04_Prev.l0 kq a1 t252 x7_1 = some (r1, r2)) ∧ Aside0 (kq ≤ k) ∧ Aside0 (Kd.V k25 25 w' w.heap.size (fun _ => True) (.slice Ao5 t252.length co5) t252) ∧ Aside0 (Below w.heap.size w w'))
 case atStart => exact ⟨(wrap64 ((t252.length : Int) - 1)), rf_, H', ⟨Nat.le_refl _⟩, ⟨by (with_reducible repeat (first | apply Kd.V_alloc | apply Kd.V_drewN | apply Kd.V_drew)); exact HO254.out⟩, ⟨hb_⟩⟩
 case round =>
  clear H'; (try clear c2); (try clear p2); (try clear c5); obtain ⟨x7_1, rfl, HA, HK1, HO_6, HB⟩ := hrel
  cases gk with
  | zero => exact absurd HA.out (by simp [lustrumref04_Prev.l0])
  | succ k1 =>
   have H := HA.out; clear HA; simp only [lustrumref04_Prev.l0] at H
   by_cases c6 : x7_1 ≥ 0
   ·rw [if_pos c6] at H
    have c6b0 : decide (0 ≤ x7_1) = true := decide_eq_true c6; clear c6
    by_cases c7 : 0 ≤ x7_1
    ·rw [if_pos c7] at H
     have c7b0 : decide (0 ≤ x7_1) = true := decide_eq_true c7; clear c7
     by_cases c8 : x7_1 < (t252.length : Int)
     ·rw [if_pos c8] at H
      have c8b0 : decide (x7_1 < (t252.length : Int)) = true := decide_eq_true c8; clear c8
      by_cases c9 : ((rd_T25 t252 x7_1).f0) ≤ a1
      ·rw [if_pos c9] at H
       have c9b0 : decide (((rd_T25 t252 x7_1).f0) ≤ a1) = true := decide_eq_true c9; clear c9; obtain ⟨ji10, hji10⟩ : ∃ j_ : Int, (mn a1 ((rd_T25 t252 x7_1).f1)) = j_ := ⟨_, rfl⟩; (replace H : (some (ji10, true)) = some (r1, r2) := by first | (rw [hji10] at H; exact H) | (simp only [hji10] at H ⊢; exact H)); have hji10_ : (if ((rd_T25 t252 x7_1).f1) < a1 then ((rd_T25 t252 x7_1).f1) else a1) = ji10 := hji10; simp only [Option.some.injEq, Prod.mk.injEq] at H; obtain ⟨rfl, rfl⟩ := H; have p255 : 0 ≤ (x7_1 : Int) := od_; have q255 : x7_1 < (t252.length : Int) := od_; obtain ⟨ad255, e255, hx255_0, hx255_1⟩ := at_T25 (Kd.V_reads' HO_6.out).2.2 x7_1 p255 q255
       cases e255
       replace p255 := eq_true p255; replace q255 := eq_true q255; have p256 : 0 ≤ (x7_1 : Int) := od_; have q256 : x7_1 < (t252.length : Int) := od_; obtain ⟨ad256, e256, hx256_0, hx256_1⟩ := at_T25 (Kd.V_reads' HO_6.out).2.2 x7_1 p256 q256; obtain rfl : ad255 = ad256 := (by injection e256); replace p256 := eq_true p256; replace q256 := eq_true q256; go_wp2; go_ret2; exact ⟨by first | rfl | (simp [errW_none, errW_some] <;> rfl) | (simp only [← hji10]; first | rfl | (simp [errW_none, errW_some] <;> rfl)) | (simp [*, errW_none, errW_some] <;> rfl), hb_⟩
      ·rw [if_neg c9] at H
       have c9b0 : decide (((rd_T25 t252 x7_1).f0) ≤ a1) = false := decide_eq_false c9; clear c9; have H' := Aside0.mk H; clear H; have p255 : 0 ≤ (x7_1 : Int) := od_; have q255 : x7_1 < (t252.length : Int) := od_; obtain ⟨ad255, e255, hx255_0, hx255_1⟩ := at_T25 (Kd.V_reads' HO_6.out).2.2 x7_1 p255 q255
       cases e255
       replace p255 := eq_true p255; replace q255 := eq_true q255; go_wp2; go_roundg k1
       case measure => have := HK1.out; omega
       case rel => exact ⟨(wrap64 (x7_1 - 1)), rf_, H', ⟨by have := HK1.out; omega⟩, ⟨by (with_reducible repeat (first | apply Kd.V_alloc | apply Kd.V_drewN | apply Kd.V_drew)); exact HO_6.out⟩, ⟨hb_⟩⟩
     ·rw [if_neg c8] at H
      exact absurd H (by simp)
    ·rw [if_neg c7] at H
     exact absurd H (by simp)
   ·rw [if_neg c6] at H
    have c6b0 : decide (0 ≤ x7_1) = false := decide_eq_false c6; clear c6; simp only [Option.some.injEq, Prod.mk.injEq] at H; obtain ⟨rfl, rfl⟩ := H; go_wp2; go_ret2; exact ⟨re_, hb_⟩
def lustrumref04_Of.T5 : Bool × List (List Nat × List Nat) := (true, [([], []), ([], []), ([], []), ([1, 2], [1, 2]), ([3], [3]), ([], []), ([], []), ([5, 6], [5, 6]), ([7], [7]), ([4, 8], [4, 8]), ([0, 9], [0, 9]), ([10, 10, 0, 1, 2, 3, 4, 5, 6, 7, 8, 9, 10], [0, 10])])
def lustrumref04_Of.B5 : List Nat := [0, 0, 0, 6, 14, 0, 0, 96, 224, 510, 1023, 2047]
theorem lustrumref04_Of.tab5 : rtab .any (opsOf Try.f31 5) = lustrumref04_Of.T5 := by kernel_rfl
theorem lustrumref04_Of.bits5 : waitsOk lustrumref04_Of.T5.2 lustrumref04_Of.B5 = true := by kernel_rfl
set_option maxHeartbeats 8000000 in
set_option maxRecDepth 100000 in
theorem lustrumref04_Of.calls (k : Nat) (A0 : Option Addr) (c0 : Nat) (l0 : List Int) (r : List (S25)) (w : World) (hr0 : Kd.C (Kd.int .i64) w A0 l0.length l0) (hc0 : l0.length ≤ c0) (h : lustrumref04_Of.f k l0 = some r) :
  Calls Try.prog 31 #[.slice A0 l0.length c0] w fun e w' => ∃ v0_ : Value, e = .returned (v0_) ∧ Kd.V k25 25 w' w.heap.size (fun k_ => (w.heap.size ≤ k_)) v0_ r ∧ Below w.heap.size w w' := by
 have hu25 := Try.underlying25; have HR0 := Aside0.mk hr0; have HC0 := Aside0.mk hc0; clear hr0 hc0; have HB := Aside0.mk (Below.refl w.heap.size w); have H : (lustrumref04_Of.l0 k l0 ([] : List (S25)) 0) = some r := h; clear h; have H' := Aside0.mk H; clear H; go_enter Try.func31, Try.ntmps31; go_wp2; go_loopg [3, 4] k (fun kq v3 v4 w' => ∃ (x3_1 : List (S25)) (x4_1 : Int), v4 = .int .i64 x4_1 ∧ Aside0 (lustrumref04_Of.l0 kq l0 x3_1 x4_1 = some r) ∧ Aside0 (kq ≤ k) ∧ Aside0 (Kd.V k25 25 w' w.heap.size (fun k_ => (w.heap.size ≤ k_)) v3 x3_1) ∧ Aside0 (Below w.heap.size w w'))
 case atStart => exact ⟨(([] : List (S25))), (0), rf_, H', ⟨Nat.le_refl _⟩, ⟨Kd.V_nil _ _ _ _ _⟩, ⟨hb_⟩⟩
 case round =>
  clear H'; obtain ⟨x3_1, x4_1, rfl, HA, HK1, HO_3, HB⟩ := hrel
  cases gk with
  | zero => exact absurd HA.out (by simp [lustrumref04_Of.l0])
  | succ k1 =>
   have H := HA.out; clear HA; simp only [lustrumref04_Of.l0] at H
   by_cases c2 : x4_1 < (l0.length : Int)
   ·rw [if_pos c2] at H
    have c2b0 : decide (x4_1 < (l0.length : Int)) = true := decide_eq_true c2; clear c2
    by_cases c3 : 0 ≤ x4_1
    ·rw [if_pos c3] at H
     have c3b0 : decide (0 ≤ x4_1) = true := decide_eq_true c3; clear c3; replace H := Option.bind_eq_some_iff.mp H; obtain ⟨t259, A40, H⟩ := H; replace H : (lustrumref04_Of.l0 k1 l0 t259 (wrap64 (x4_1 + 1))) = some r := H; have A4 := Aside0.mk A40; clear A40; have H' := Aside0.mk H; clear H; (try go_wp2); replace HO_3 := Aside0.mk (Kd.V_drew HO_3.out); replace HB := Aside0.mk (below_drew1 HB.out); have p257 : 0 ≤ (x4_1 : Int) := od_; have q257 : x4_1 < (l0.length : Int) := od_; obtain ⟨ad257, e257, hx257_0⟩ := Kd.at_int HR0.out x4_1 p257 q257; have hw257_0 := hx257_0
     cases e257
     replace hx257_0 := (HB.out.cell (World.block_lt_of_cell? w _ hx257_0)).trans hx257_0; replace p257 := eq_true p257; replace q257 := eq_true q257; have p258 : 0 ≤ (x4_1 : Int) := od_; have q258 : x4_1 < (l0.length : Int) := od_; obtain ⟨ad258, e258, hx258_0⟩ := Kd.at_int HR0.out x4_1 p258 q258; have hw258_0 := hx258_0; obtain rfl : ad257 = ad258 := (by injection e258); replace hx258_0 := (HB.out.cell (World.block_lt_of_cell? w _ hx258_0)).trans hx258_0; replace p258 := eq_true p258; replace q258 := eq_true q258; obtain ⟨Ao6, co6, eo6⟩ := Kd.V_slice HO_3.out; (first | subst eo6 | (injection eo6 with f1_ f2_ f3_; have f4_ := f1_.symm; have f5_ := f3_.symm; clear f1_ f2_ f3_; subst f4_; subst f5_)); refine start_ (n := 12) (S := fun w' => w'.cell? (ad257.add (x4_1).toNat) = some (.int .i64 (rd l0 x4_1)) ∧ w'.cell? (ad257.add (x4_1).toNat) = some (.int .i64 (rd l0 x4_1))) (ds := []) (ab 12 0) (by kernel_rfl) rfl rfl ⟨((HB.out.cell (World.block_lt_of_cell? w _ hw257_0)).trans hw257_0), ((HB.out.cell (World.block_lt_of_cell? w _ hw258_0)).trans hw258_0)⟩ (fun hHeld => ?_); refine with_tabW lustrumref04_Of.tab5 lustrumref04_Of.bits5 (fun HT_ HW_ => ?_); generalize wr.drew = w5 at HO_3 HB hx257_0 hx258_0 hHeld ⊢; refine pA 0 11 12 1 ?_; refine pA 1 12 12 3 ?_; refine pA 2 13 12 7 ?_; refine pA 3 14 12 15 ?_; refine pA 5 16 12 47 ?_; refine pA 6 17 12 111 ?_; refine pA 7 18 12 239 ?_; refine takeA 4 (some 15) (ab 12 255) rfl rfl (take_ofW HT_.out HW_.out (by kernel_rfl)) (Or.inl ⟨by rfl, by rintro w' ⟨s0, s1⟩; go_simp; with_reducible rfl⟩) hHeld ?_; refine takeA 8 (some 19) (ab 12 511) rfl rfl (take_ofW HT_.out HW_.out (by kernel_rfl)) (Or.inl ⟨by rfl, by rintro w' ⟨s0, s1⟩; go_simp; with_reducible rfl⟩) hHeld ?_; refine pA 9 20 12 1023 ?_; refine one_ (i := 10) (N := some 21) (ab 12 2047) rfl rfl (one_of HT_.out (by kernel_rfl)) (by decide) (fun K hK => ?_); refine goes_ Try.func53 (by kernel_rfl) rfl #[.slice Ao6 x3_1.length co6, .agg #[.int .i64 (rd l0 x4_1), .int .i64 (rd l0 x4_1)]] (by rfl) rfl rfl ml_ ?_; (with_reducible refine (lustrumref04_put.calls k1 (fun k_ => (w.heap.size ≤ k_)) _ _ x3_1 (rd l0 x4_1) (rd l0 x4_1) t259 _ ?side1 A4.out).mono ?_)
     (case side1 => exact HO_3.out)
     rintro e w7 ⟨v260, rfl, ho0, hb⟩; refine ⟨_, rfl, ?_⟩; have n0_ := Aside0.mk (Kd.V_below (by (with_reducible repeat (first | apply Kd.V_alloc | apply Kd.V_drewN | apply Kd.V_drew)); exact HO_3.out) hb); have n1_ := Aside0.mk (Kd.V_lower (Kd.V_mono (ok' := fun k_ => (w.heap.size ≤ k_)) ho0 (fun k_ hk_ => Or.elim hk_ (fun hs_ => hs_) (fun hn_ => (Nat.le_trans (below_size hb_) hn_)))) (below_size hb_)); have n2_ := Aside0.mk (below_step hb_ hb); clear HO_3; clear HB; have HO_3 := n0_; have HO261 := n1_; have HB := n2_; clear n0_ n1_ n2_; (try clear hb); (try clear hb2); (try clear hk); (try clear hi); (try clear ho0); refine hK.out _ _ ⟨((HB.out.cell (World.block_lt_of_cell? w _ hw257_0)).trans hw257_0), ((HB.out.cell (World.block_lt_of_cell? w _ hw258_0)).trans hw258_0)⟩ (fun hHeld => ?_); clear hK K; refine nA ?_; refine pA 11 3 12 4095 ?_; refine done_ (done_of HT_.out (by kernel_rfl)) ?_; (try go_wp2); go_roundg k1
     case measure => have := HK1.out; omega
     case rel => exact ⟨(t259), (wrap64 (x4_1 + 1)), rf_, H', ⟨by have := HK1.out; omega⟩, ⟨by (with_reducible repeat (first | apply Kd.V_alloc | apply Kd.V_drewN | apply Kd.V_drew)); exact HO261.out⟩, ⟨hb_⟩⟩
    ·rw [if_neg c3] at H
     exact absurd H (by simp)
   ·rw [if_neg c2] at H
    have c2b0 : decide (x4_1 < (l0.length : Int)) = false := decide_eq_false c2; clear c2; obtain rfl := Option.some.inj H; go_wp2; go_ret; exact ⟨_, by first | rfl | (simp [errW_none, errW_some] <;> rfl) | (simp [*, errW_none, errW_some] <;> rfl), by (with_reducible repeat (first | apply Kd.V_alloc | apply Kd.V_drewN | apply Kd.V_drew)); exact HO_3.out, hb_⟩
end Go.Proofs.Ytkbcmjejfbbcpaa.A

namespace Go.Proofs.Ytkbcmjejfbbcpaa.A
open Go.RowKit Go.Proofs.YtkbcmjejfbbcpaaW.PrintWords Go.Proofs.YtkbcmjejfbbcpaaW.PrintLast Go.Proofs.YtkbcmjejfbbcpaaW.PrintMore
attribute [local go_sem] max2_int min2_int max_two min_two max_three min_three max_four min_four
set_option linter.unusedVariables false
set_option linter.unusedSimpArgs false
set_option maxHeartbeats 8000000 in
set_option maxRecDepth 100000 in
theorem lustrumref04_Has.calls (k : Nat) (A0 : Option Addr) (c0 : Nat) (l0 : List (S25)) (a1 : Int) (r : Bool) (w : World) (hr0 : Kd.C k25 w A0 l0.length l0) (hc0 : l0.length ≤ c0) (h : lustrumref04_Has.f k l0 a1 = some r) :
  Calls Try.prog 32 #[.slice A0 l0.length c0, .int .i64 a1] w fun e w' => e = .returned (.bool r) ∧ Below w.heap.size w w' := by
 have HR0 := Aside0.mk hr0; have HC0 := Aside0.mk hc0; clear hr0 hc0; have HB := Aside0.mk (Below.refl w.heap.size w); have H : ((lustrumref04_As.f k l0).bind fun t262 => (lustrumref04_Has.l0 k a1 t262 0)) = some r := h; clear h; replace H := Option.bind_eq_some_iff.mp H; obtain ⟨t262, A30, H⟩ := H; replace H : (lustrumref04_Has.l0 k a1 t262 0) = some r := H; have A3 := Aside0.mk A30; clear A30; have H' := Aside0.mk H; clear H; go_enter Try.func32, Try.ntmps32; go_wp2_with (first | ((with_reducible refine gate_callee (f := 52) rfl ?_); refine goesL_ (some 8) rfl rfl Try.func52 (by kernel_rfl) rfl #[.slice A0 l0.length c0] rfl ml_ ?_; (with_reducible refine (lustrumref04_As.calls k (fun k_ => k_ < w.heap.size) _ _ l0 t262 _ ?side1 A3.out).mono ?_); (case side1 => exact Kd.V_mk HC0.out (Kd.F_below (Kd.C_F k25_heap HR0.out) hb_)); rintro e w4 ⟨v263, rfl, ho0, hb⟩; refine ⟨_, rfl, ?_⟩; have n0_ := Aside0.mk (Kd.V_lower (Kd.V_mono (ok' := fun k_ => True) ho0 (fun k_ hk_ => trivial)) (below_size hb_)); have n1_ := Aside0.mk (below_step hb_ hb); clear HB; have HO264 := n0_; have HB := n1_; clear n0_ n1_; (try clear hb); (try clear hb2); (try clear hk); (try clear hi); (try clear ho0))); go_loopg [6] k (fun kq v6 w' => ∃ (x6_1 : Int), v6 = .int .i64 x6_1 ∧ Aside0 (lustrumref04_Has.l0 kq a1 t262 x6_1 = some r) ∧ Aside0 (kq ≤ k) ∧ Aside0 (Kd.V k25 25 w' w.heap.size (fun _ => True) v263 t262) ∧ Aside0 (Below w.heap.size w w'))
 case atStart => exact ⟨(0), rf_, H', ⟨Nat.le_refl _⟩, ⟨by (with_reducible repeat (first | apply Kd.V_alloc | apply Kd.V_drewN | apply Kd.V_drew)); exact HO264.out⟩, ⟨hb_⟩⟩
 case round =>
  clear H'; (try clear p2); (try clear c3); obtain ⟨x6_1, rfl, HA, HK1, HO_5, HB⟩ := hrel
  cases gk with
  | zero => exact absurd HA.out (by simp [lustrumref04_Has.l0])
  | succ k1 =>
   have H := HA.out; clear HA; simp only [lustrumref04_Has.l0] at H
   by_cases c5 : x6_1 < (t262.length : Int)
   ·rw [if_pos c5] at H
    have c5b0 : decide (x6_1 < (t262.length : Int)) = true := decide_eq_true c5; clear c5
    by_cases c6 : 0 ≤ x6_1
    ·rw [if_pos c6] at H
     have c6b0 : decide (0 ≤ x6_1) = true := decide_eq_true c6; clear c6
     by_cases c7 : a1 ≥ ((rd_T25 t262 x6_1).f0)
     ·rw [if_pos c7] at H
      have c7b0 : decide (((rd_T25 t262 x6_1).f0) ≤ a1) = true := decide_eq_true c7; clear c7
      by_cases c8 : a1 ≤ ((rd_T25 t262 x6_1).f1)
      ·rw [if_pos c8] at H
       have c8b0 : decide (a1 ≤ ((rd_T25 t262 x6_1).f1)) = true := decide_eq_true c8; clear c8; obtain rfl := Option.some.inj H; obtain ⟨Ao9, co9, eo9⟩ := Kd.V_slice HO_5.out; subst eo9; have p265 : 0 ≤ (x6_1 : Int) := od_; have q265 : x6_1 < (t262.length : Int) := od_; obtain ⟨ad265, e265, hx265_0, hx265_1⟩ := at_T25 (Kd.V_reads' HO_5.out).2.2 x6_1 p265 q265
       cases e265
       replace p265 := eq_true p265; replace q265 := eq_true q265; have p266 : 0 ≤ (x6_1 : Int) := od_; have q266 : x6_1 < (t262.length : Int) := od_; obtain ⟨ad266, e266, hx266_0, hx266_1⟩ := at_T25 (Kd.V_reads' HO_5.out).2.2 x6_1 p266 q266; obtain rfl : ad265 = ad266 := (by injection e266); replace p266 := eq_true p266; replace q266 := eq_true q266; go_wp2; go_ret; exact ⟨re_, hb_⟩
      ·rw [if_neg c8] at H
       have c8b0 : decide (a1 ≤ ((rd_T25 t262 x6_1).f1)) = false := decide_eq_false c8; clear c8; have H' := Aside0.mk H; clear H; obtain ⟨Ao10, co10, eo10⟩ := Kd.V_slice HO_5.out; subst eo10; have p265 : 0 ≤ (x6_1 : Int) := od_; have q265 : x6_1 < (t262.length : Int) := od_; obtain ⟨ad265, e265, hx265_0, hx265_1⟩ := at_T25 (Kd.V_reads' HO_5.out).2.2 x6_1 p265 q265
       cases e265
       replace p265 := eq_true p265; replace q265 := eq_true q265; have p266 : 0 ≤ (x6_1 : Int) := od_; have q266 : x6_1 < (t262.length : Int) := od_; obtain ⟨ad266, e266, hx266_0, hx266_1⟩ := at_T25 (Kd.V_reads' HO_5.out).2.2 x6_1 p266 q266; obtain rfl : ad265 = ad266 := (by injection e266); replace p266 := eq_true p266; replace q266 := eq_true q266; go_wp2; go_roundg k1
       case measure => have := HK1.out; omega
       case rel => exact ⟨(wrap64 (x6_1 + 1)), rf_, H', ⟨by have := HK1.out; omega⟩, ⟨by (with_reducible repeat (first | apply Kd.V_alloc | apply Kd.V_drewN | apply Kd.V_drew)); exact HO_5.out⟩, ⟨hb_⟩⟩
     ·rw [if_neg c7] at H
      have c7b0 : decide (((rd_T25 t262 x6_1).f0) ≤ a1) = false := decide_eq_false c7; clear c7; have H' := Aside0.mk H; clear H; obtain ⟨Ao11, co11, eo11⟩ := Kd.V_slice HO_5.out; subst eo11; have p265 : 0 ≤ (x6_1 : Int) := od_; have q265 : x6_1 < (t262.length : Int) := od_; obtain ⟨ad265, e265, hx265_0, hx265_1⟩ := at_T25 (Kd.V_reads' HO_5.out).2.2 x6_1 p265 q265
      cases e265
      replace p265 := eq_true p265; replace q265 := eq_true q265; go_wp2; go_roundg k1
      case measure => have := HK1.out; omega
      case rel => exact ⟨(wrap64 (x6_1 + 1)), rf_, H', ⟨by have := HK1.out; omega⟩, ⟨by (with_reducible repeat (first | apply Kd.V_alloc | apply Kd.V_drewN | apply Kd.V_drew)); exact HO_5.out⟩, ⟨hb_⟩⟩
    ·rw [if_neg c6] at H
     exact absurd H (by simp)
   ·rw [if_neg c5] at H
    have c5b0 : decide (x6_1 < (t262.length : Int)) = false := decide_eq_false c5; clear c5; obtain rfl := Option.some.inj H; obtain ⟨Ao12, co12, eo12⟩ := Kd.V_slice HO_5.out; subst eo12; go_wp2; go_ret; exact ⟨re_, hb_⟩
set_option maxHeartbeats 8000000 in
set_option maxRecDepth 100000 in
theorem lustrumref04_Count.calls (k : Nat) (A0 : Option Addr) (c0 : Nat) (l0 : List (S25)) (r : Int) (w : World) (hr0 : Kd.C k25 w A0 l0.length l0) (hc0 : l0.length ≤ c0) (h : lustrumref04_Count.f k l0 = some r) :
  Calls Try.prog 33 #[.slice A0 l0.length c0] w fun e w' => e = .returned (.int .i64 r) ∧ Below w.heap.size w w' := by
 have HR0 := Aside0.mk hr0; have HC0 := Aside0.mk hc0; clear hr0 hc0; have HB := Aside0.mk (Below.refl w.heap.size w); have H : ((lustrumref04_As.f k l0).bind fun t267 => (lustrumref04_Count.l0 k t267 0 0)) = some r := h; clear h; replace H := Option.bind_eq_some_iff.mp H; obtain ⟨t267, A20, H⟩ := H; replace H : (lustrumref04_Count.l0 k t267 0 0) = some r := H; have A2 := Aside0.mk A20; clear A20; have H' := Aside0.mk H; clear H; go_enter Try.func33, Try.ntmps33; go_wp2_with (first | (go_at_call 52; (with_reducible refine (lustrumref04_As.calls k (fun k_ => k_ < w.heap.size) _ _ l0 t267 _ ?side1 A2.out).mono ?_); (case side1 => exact Kd.V_mk HC0.out (Kd.F_below (Kd.C_F k25_heap HR0.out) hb_)); rintro e w3 ⟨v268, rfl, ho0, hb⟩; have n0_ := Aside0.mk (Kd.V_lower (Kd.V_mono (ok' := fun k_ => True) ho0 (fun k_ hk_ => trivial)) (below_size hb_)); have n1_ := Aside0.mk (below_step hb_ hb); clear HB; have HO269 := n0_; have HB := n1_; clear n0_ n1_; (try clear hb); (try clear hb2); (try clear hk); (try clear hi); (try clear ho0)))
 repeat (go_quiet (first | (go_at_call 52; (with_reducible refine (lustrumref04_As.calls k (fun k_ => k_ < w.heap.size) _ _ l0 t267 _ ?side1 A2.out).mono ?_); (case side1 => exact Kd.V_mk HC0.out (Kd.F_below (Kd.C_F k25_heap HR0.out) hb_)); rintro e w3 ⟨v268, rfl, ho0, hb⟩; have n0_ := Aside0.mk (Kd.V_lower (Kd.V_mono (ok' := fun k_ => True) ho0 (fun k_ hk_ => trivial)) (below_size hb_)); have n1_ := Aside0.mk (below_step hb_ hb); clear HB; have HO269 := n0_; have HB := n1_; clear n0_ n1_; (try clear hb); (try clear hb2); (try clear hk); (try clear hi); (try clear ho0))); try go_wp2_with (first | (go_at_call 52; (with_reducible refine (lustrumref04_As.calls k (fun k_ => k_ < w.heap.size) _ _ l0 t267 _ ?side1 A2.out).mono ?_); (case side1 => exact Kd.V_mk HC0.out (Kd.F_below (Kd.C_F k25_heap HR0.out) hb_)); rintro e w3 ⟨v268, rfl, ho0, hb⟩; have n0_ := Aside0.mk (Kd.V_lower (Kd.V_mono (ok' := fun k_ => True) ho0 (fun k_ hk_ => trivial)) (below_size hb_)); have n1_ := Aside0.mk (below_step hb_ hb); clear HB; have HO269 := n0_; have HB := n1_; clear n0_ n1_; (try clear hb); (try clear hb2); (try clear hk); (try clear hi); (try clear ho0))))
 go_loopg [4, 5] k (fun kq v4 v5 w' => ∃ (x4_1 : Int) (x5_1 : Int), v4 = .int .i64 x4_1 ∧ v5 = .int .i64 x5_1 ∧ Aside0 (lustrumref04_Count.l0 kq t267 x4_1 x5_1 = some r) ∧ Aside0 (kq ≤ k) ∧ Aside0 (Kd.V k25 25 w' w.heap.size (fun _ => True) v268 t267) ∧ Aside0 (Below w.heap.size w w'))
 case atStart => exact ⟨(0), (0), rf_, rf_, H', ⟨Nat.le_refl _⟩, ⟨by (with_reducible repeat (first | apply Kd.V_alloc | apply Kd.V_drewN | apply Kd.V_drew)); exact HO269.out⟩, ⟨hb_⟩⟩
 case round =>
  clear H'; (try clear p2); (try clear c3); obtain ⟨x4_1, x5_1, rfl, rfl, HA, HK1, HO_3, HB⟩ := hrel
  cases gk with
  | zero => exact absurd HA.out (by simp [lustrumref04_Count.l0])
  | succ k1 =>
   have H := HA.out; clear HA; simp only [lustrumref04_Count.l0] at H
   by_cases c4 : x5_1 < (t267.length : Int)
   ·rw [if_pos c4] at H
    have c4b0 : decide (x5_1 < (t267.length : Int)) = true := decide_eq_true c4; clear c4
    by_cases c5 : 0 ≤ x5_1
    ·rw [if_pos c5] at H
     have c5b0 : decide (0 ≤ x5_1) = true := decide_eq_true c5; clear c5; have H' := Aside0.mk H; clear H; obtain ⟨Ao6, co6, eo6⟩ := Kd.V_slice HO_3.out; subst eo6; have p270 : 0 ≤ (x5_1 : Int) := od_; have q270 : x5_1 < (t267.length : Int) := od_; obtain ⟨ad270, e270, hx270_0, hx270_1⟩ := at_T25 (Kd.V_reads' HO_3.out).2.2 x5_1 p270 q270
     cases e270
     replace p270 := eq_true p270; replace q270 := eq_true q270; have p271 : 0 ≤ (x5_1 : Int) := od_; have q271 : x5_1 < (t267.length : Int) := od_; obtain ⟨ad271, e271, hx271_0, hx271_1⟩ := at_T25 (Kd.V_reads' HO_3.out).2.2 x5_1 p271 q271; obtain rfl : ad270 = ad271 := (by injection e271); replace p271 := eq_true p271; replace q271 := eq_true q271; go_wp2
     repeat (go_quiet (fail); try go_wp2)
     go_roundg k1
     case measure => have := HK1.out; omega
     case rel => exact ⟨(wrap64 ((wrap64 ((wrap64 (x4_1 + ((rd_T25 t267 x5_1).f1))) - ((rd_T25 t267 x5_1).f0))) + 1)), (wrap64 (x5_1 + 1)), rf_, rf_, H', ⟨by have := HK1.out; omega⟩, ⟨by (with_reducible repeat (first | apply Kd.V_alloc | apply Kd.V_drewN | apply Kd.V_drew)); exact HO_3.out⟩, ⟨hb_⟩⟩
    ·rw [if_neg c5] at H
     exact absurd H (by simp)
   ·rw [if_neg c4] at H
    have c4b0 : decide (x5_1 < (t267.length : Int)) = false := decide_eq_false c4; clear c4; obtain rfl := Option.some.inj H; obtain ⟨Ao7, co7, eo7⟩ := Kd.V_slice HO_3.out; subst eo7; go_wp2
    repeat (go_quiet (fail); try go_wp2)
    go_ret; exact ⟨re_, hb_⟩
set_option maxHeartbeats 8000000 in
set_option maxRecDepth 100000 in
theorem lustrumlaw04_RunsIs.calls (k : Nat) (A0 : Option Addr) (c0 : Nat) (l0 : List (S25)) (A1 : Option Addr) (c1 : Nat) (l1 : List Int) (a2 : Int) (r : Bool) (w : World) (hr0 : Kd.C k25 w A0 l0.length l0) (hc0 : l0.length ≤ c0) (hr1 : Kd.C (Kd.int .i64) w A1 l1.length l1) (hc1 : l1.length ≤ c1) (h : lustrumlaw04_RunsIs.f k l0 l1 a2 = some r) :
  Calls Try.prog 7 #[.slice A0 l0.length c0, .slice A1 l1.length c1, .int .i64 a2] w fun e w' => e = .returned (.bool r) ∧ Below w.heap.size w w' := by
 have HR0 := Aside0.mk hr0; have HC0 := Aside0.mk hc0; clear hr0 hc0; have HR1 := Aside0.mk hr1; have HC1 := Aside0.mk hc1; clear hr1 hc1; have HB := Aside0.mk (Below.refl w.heap.size w); have H : ((lustrumlaw04_awake.f k).bind fun t272 => (if (l0.length : Int) > 40 then (lustrumlaw04_RunsIs.j0 k l0 l1 a2 t272 true) else (lustrumlaw04_RunsIs.j0 k l0 l1 a2 t272 (decide ((l1.length : Int) > 40))))) = some r := h; clear h; replace H := Option.bind_eq_some_iff.mp H; obtain ⟨t272, A40, H⟩ := H; replace H : (if (l0.length : Int) > 40 then (lustrumlaw04_RunsIs.j0 k l0 l1 a2 t272 true) else (lustrumlaw04_RunsIs.j0 k l0 l1 a2 t272 (decide ((l1.length : Int) > 40)))) = some r := H; have A4 := Aside0.mk A40; clear A40; have HC5 := Aside0.mk H; clear H; go_enter Try.func7, Try.ntmps7; go_upto_region 2 with (first | ((with_reducible refine gate_callee (f := 18) rfl ?_); refine goesL_ (some 16) rfl rfl Try.func18 (by kernel_rfl) rfl #[] rfl ml_ ?_; (with_reducible refine (lustrumlaw04_awake.calls k  t272 _ A4.out).mono ?_); rintro e w6 ⟨rfl, hb⟩; refine ⟨_, rfl, ?_⟩; have n0_ := Aside0.mk (below_step hb_ hb); clear HB; have HB := n0_; clear n0_; (try clear hb); (try clear hb2); (try clear hk); (try clear hi))); (try simp only [Act.put, List.setIfInBounds_toArray, List.set_cons_zero, List.set_cons_succ]); go_cut [24] (fun v24 wc => ∃ (kq : Nat) (x24_4 : Bool), v24 = .bool x24_4 ∧ Aside0 (lustrumlaw04_RunsIs.j0 kq l0 l1 a2 t272 x24_4 = some r) ∧ Aside0 (kq ≤ k) ∧ Aside0 (Below w.heap.size w wc))
 case first =>
  have H := HC5.out; clear HC5
  by_cases c7 : (l0.length : Int) > 40
  ·rw [if_pos c7] at H
   have c7b0 : decide (40 < (l0.length : Int)) = true := decide_eq_true c7; have c7b1 : decide (40 < l0.length) = true := decide_eq_true (by omega); clear c7; (first | rw [c7b0] | (simp only [i64_w, i32_w]; rw [c7b0]) | skip); have H' := Aside0.mk H; clear H; go_wp2; go_meet
   case rel => exact ⟨_, (true), rf_, H', ⟨by first | omega | exact Nat.le_refl _⟩, ⟨hb_⟩⟩
  ·rw [if_neg c7] at H
   have c7b0 : decide (40 < (l0.length : Int)) = false := decide_eq_false c7; have c7b1 : decide (40 < l0.length) = false := decide_eq_false (by omega); clear c7; (first | rw [c7b0] | (simp only [i64_w, i32_w]; rw [c7b0]) | skip); have H' := Aside0.mk H; clear H; go_wp2; go_meet
   case rel => exact ⟨_, (decide ((l1.length : Int) > 40)), rf_, H', ⟨by first | omega | exact Nat.le_refl _⟩, ⟨hb_⟩⟩
 case rest =>
  clear HC5; (try clear c1); (try clear p2); (try clear c7); (try clear c7b0); (try clear c7b1); obtain ⟨kq, x24_4, rfl, HA, HJ4, HB⟩ := hcut
  cases kq with
  | zero => exact absurd HA.out (by simp [lustrumlaw04_RunsIs.j0])
  | succ kj4 =>
   have H := HA.out; clear HA; simp only [lustrumlaw04_RunsIs.j0] at H
   by_cases c8 : x24_4 = true
   ·subst c8
    (have H1 : (some t272) = some r := by rw [if_pos rfl] at H; exact H); clear H; have H := H1; clear H1; obtain rfl := Option.some.inj H; go_wp2; go_ret; exact ⟨re_, hb_⟩
   ·replace c8 := Bool.eq_false_iff.mpr c8
    subst c8; (have H1 : ((runs_Next.f kj4 l0 a2).bind fun bt273 => ((lustrumref04_Next.f kj4 l0 a2).bind fun bt275 => ((runs_Prev.f kj4 l0 a2).bind fun bt277 => ((lustrumref04_Prev.f kj4 l0 a2).bind fun bt279 => (if bt273.1 = bt275.1 then (if (bt273.2 != bt275.2) = true then (lustrumlaw04_RunsIs.j1 kj4 l0 l1 a2 t272 true) else (if bt277.1 = bt279.1 then (lustrumlaw04_RunsIs.j1 kj4 l0 l1 a2 t272 (bt277.2 != bt279.2)) else (lustrumlaw04_RunsIs.j1 kj4 l0 l1 a2 t272 true))) else (lustrumlaw04_RunsIs.j1 kj4 l0 l1 a2 t272 true)))))) = some r := by rw [if_neg (show ¬ (false = true) by decide)] at H; exact H); clear H; have H := H1; clear H1; replace H := Option.bind_eq_some_iff.mp H; obtain ⟨⟨t273, t274⟩, A90, H⟩ := H; replace H : ((lustrumref04_Next.f kj4 l0 a2).bind fun bt275 => ((runs_Prev.f kj4 l0 a2).bind fun bt277 => ((lustrumref04_Prev.f kj4 l0 a2).bind fun bt279 => (if t273 = bt275.1 then (if (t274 != bt275.2) = true then (lustrumlaw04_RunsIs.j1 kj4 l0 l1 a2 t272 true) else (if bt277.1 = bt279.1 then (lustrumlaw04_RunsIs.j1 kj4 l0 l1 a2 t272 (bt277.2 != bt279.2)) else (lustrumlaw04_RunsIs.j1 kj4 l0 l1 a2 t272 true))) else (lustrumlaw04_RunsIs.j1 kj4 l0 l1 a2 t272 true))))) = some r := H; have A9 := Aside0.mk A90; clear A90; replace H := Option.bind_eq_some_iff.mp H; obtain ⟨⟨t275, t276⟩, A100, H⟩ := H; replace H : ((runs_Prev.f kj4 l0 a2).bind fun bt277 => ((lustrumref04_Prev.f kj4 l0 a2).bind fun bt279 => (if t273 = t275 then (if (t274 != t276) = true then (lustrumlaw04_RunsIs.j1 kj4 l0 l1 a2 t272 true) else (if bt277.1 = bt279.1 then (lustrumlaw04_RunsIs.j1 kj4 l0 l1 a2 t272 (bt277.2 != bt279.2)) else (lustrumlaw04_RunsIs.j1 kj4 l0 l1 a2 t272 true))) else (lustrumlaw04_RunsIs.j1 kj4 l0 l1 a2 t272 true)))) = some r := H; have A10 := Aside0.mk A100; clear A100; replace H := Option.bind_eq_some_iff.mp H; obtain ⟨⟨t277, t278⟩, A110, H⟩ := H; replace H : ((lustrumref04_Prev.f kj4 l0 a2).bind fun bt279 => (if t273 = t275 then (if (t274 != t276) = true then (lustrumlaw04_RunsIs.j1 kj4 l0 l1 a2 t272 true) else (if t277 = bt279.1 then (lustrumlaw04_RunsIs.j1 kj4 l0 l1 a2 t272 (t278 != bt279.2)) else (lustrumlaw04_RunsIs.j1 kj4 l0 l1 a2 t272 true))) else (lustrumlaw04_RunsIs.j1 kj4 l0 l1 a2 t272 true))) = some r := H; have A11 := Aside0.mk A110; clear A110; replace H := Option.bind_eq_some_iff.mp H; obtain ⟨⟨t279, t280⟩, A120, H⟩ := H; replace H : (if t273 = t275 then (if (t274 != t276) = true then (lustrumlaw04_RunsIs.j1 kj4 l0 l1 a2 t272 true) else (if t277 = t279 then (lustrumlaw04_RunsIs.j1 kj4 l0 l1 a2 t272 (t278 != t280)) else (lustrumlaw04_RunsIs.j1 kj4 l0 l1 a2 t272 true))) else (lustrumlaw04_RunsIs.j1 kj4 l0 l1 a2 t272 true)) = some r := H; have A12 := Aside0.mk A120; clear A120; have HC13 := Aside0.mk H; clear H; go_upto_region 8 with (first | ((with_reducible refine gate_callee (f := 25) rfl ?_); refine goesL_ (some 29) rfl rfl Try.func25 (by kernel_rfl) rfl #[.slice A0 l0.length c0, .int .i64 a2] rfl ml_ ?_; (with_reducible refine (runs_Next.calls kj4 _ _ l0 a2 t273 t274 _ ?side1 ?side2 A9.out).mono ?_); (case side1 => repeat (first | exact (Kd.C_below HR0.out HB.out) | (with_reducible refine Kd.C_alloc ?_ _) | (with_reducible refine Kd.C_drewN ?_ _) | (with_reducible refine Kd.C_drew ?_))); (case side2 => exact HC0.out); rintro e w14 ⟨rfl, hb⟩; refine ⟨_, rfl, ?_⟩; have n0_ := Aside0.mk (below_step hb_ hb); clear HB; have HB := n0_; clear n0_; (try clear hb); (try clear hb2); (try clear hk); (try clear hi)) | ((with_reducible refine gate_callee (f := 26) rfl ?_); refine goesL_ (some 35) rfl rfl Try.func26 (by kernel_rfl) rfl #[.slice A0 l0.length c0, .int .i64 a2] rfl ml_ ?_; (with_reducible refine (lustrumref04_Next.calls kj4 _ _ l0 a2 t275 t276 _ ?side1 ?side2 A10.out).mono ?_); (case side1 => repeat (first | exact (Kd.C_below HR0.out HB.out) | (with_reducible refine Kd.C_alloc ?_ _) | (with_reducible refine Kd.C_drewN ?_ _) | (with_reducible refine Kd.C_drew ?_))); (case side2 => exact HC0.out); rintro e w15 ⟨rfl, hb⟩; refine ⟨_, rfl, ?_⟩; have n0_ := Aside0.mk (below_step hb_ hb); clear HB; have HB := n0_; clear n0_; (try clear hb); (try clear hb2); (try clear hk); (try clear hi)) | ((with_reducible refine gate_callee (f := 27) rfl ?_); refine goesL_ (some 41) rfl rfl Try.func27 (by kernel_rfl) rfl #[.slice A0 l0.length c0, .int .i64 a2] rfl ml_ ?_; (with_reducible refine (runs_Prev.calls kj4 _ _ l0 a2 t277 t278 _ ?side1 ?side2 A11.out).mono ?_); (case side1 => repeat (first | exact (Kd.C_below HR0.out HB.out) | (with_reducible refine Kd.C_alloc ?_ _) | (with_reducible refine Kd.C_drewN ?_ _) | (with_reducible refine Kd.C_drew ?_))); (case side2 => exact HC0.out); rintro e w16 ⟨rfl, hb⟩; refine ⟨_, rfl, ?_⟩; have n0_ := Aside0.mk (below_step hb_ hb); clear HB; have HB := n0_; clear n0_; (try clear hb); (try clear hb2); (try clear hk); (try clear hi)) | ((with_reducible refine gate_callee (f := 28) rfl ?_); refine goesL_ (some 47) rfl rfl Try.func28 (by kernel_rfl) rfl #[.slice A0 l0.length c0, .int .i64 a2] rfl ml_ ?_; (with_reducible refine (lustrumref04_Prev.calls kj4 _ _ l0 a2 t279 t280 _ ?side1 ?side2 A12.out).mono ?_); (case side1 => repeat (first | exact (Kd.C_below HR0.out HB.out) | (with_reducible refine Kd.C_alloc ?_ _) | (with_reducible refine Kd.C_drewN ?_ _) | (with_reducible refine Kd.C_drew ?_))); (case side2 => exact HC0.out); rintro e w17 ⟨rfl, hb⟩; refine ⟨_, rfl, ?_⟩; have n0_ := Aside0.mk (below_step hb_ hb); clear HB; have HB := n0_; clear n0_; (try clear hb); (try clear hb2); (try clear hk); (try clear hi)))
    (try simp only [Act.put, List.setIfInBounds_toArray, List.set_cons_zero, List.set_cons_succ]); go_cut [67] (fun v67 wc => ∃ (kq : Nat) (x67_12 : Bool), v67 = .bool x67_12 ∧ Aside0 (lustrumlaw04_RunsIs.j1 kq l0 l1 a2 t272 x67_12 = some r) ∧ Aside0 (kq ≤ kj4) ∧ Aside0 (Below w.heap.size w wc))
    case first =>
     have H := HC13.out; clear HC13
     by_cases c18 : t273 = t275
     ·rw [if_pos c18] at H
      have c18b0 : (t273 == t275) = true := beq_iff_eq.mpr c18; have c18b1 : (t273 != t275) = false := bne_eq_false_iff_eq.mpr c18; clear c18; (first | rw [c18b0] | (simp only [i64_w, i32_w]; rw [c18b0]) | skip)
      by_cases c19 : (t274 != t276) = true
      ·rw [if_pos c19] at H
       have c19b0 : (t274 != t276) = true := c19; (try (have c19b1 : decide (t274 = t276) = false := by simpa using c19)); (try (have c19b2 : (t274 == t276) = false := by simpa using c19)); (try (have c19b3 : ¬ (t274 = t276) := by simpa using c19)); clear c19; have H' := Aside0.mk H; clear H; go_wp2; go_meet
       case rel => exact ⟨_, (true), rf_, H', ⟨by have := HJ4.out; first | omega | exact Nat.le_refl _⟩, ⟨hb_⟩⟩
      ·rw [if_neg c19] at H
       (have c19b0 : (t274 != t276) = false := by simpa using c19); (try (have c19b1 : decide (t274 = t276) = true := by simpa using c19)); (try (have c19b2 : (t274 == t276) = true := by simpa using c19)); clear c19
       by_cases c20 : t277 = t279
       ·rw [if_pos c20] at H
        have c20b0 : (t277 == t279) = true := beq_iff_eq.mpr c20; have c20b1 : (t277 != t279) = false := bne_eq_false_iff_eq.mpr c20; clear c20; have H' := Aside0.mk H; clear H; go_wp2; go_meet
        case rel => exact ⟨_, ((t278 != t280)), rf_, H', ⟨by have := HJ4.out; first | omega | exact Nat.le_refl _⟩, ⟨hb_⟩⟩
       ·rw [if_neg c20] at H
        have c20b0 : (t277 == t279) = false := beq_eq_false_iff_ne.mpr c20; have c20b1 : (t277 != t279) = true := bne_iff_ne.mpr c20; have H' := Aside0.mk H; clear H; go_wp2; go_meet
        case rel => exact ⟨_, (true), rf_, H', ⟨by have := HJ4.out; first | omega | exact Nat.le_refl _⟩, ⟨hb_⟩⟩
     ·rw [if_neg c18] at H
      have c18b0 : (t273 == t275) = false := beq_eq_false_iff_ne.mpr c18; have c18b1 : (t273 != t275) = true := bne_iff_ne.mpr c18; (first | rw [c18b0] | (simp only [i64_w, i32_w]; rw [c18b0]) | skip); have H' := Aside0.mk H; clear H; go_wp2; go_meet
      case rel => exact ⟨_, (true), rf_, H', ⟨by have := HJ4.out; first | omega | exact Nat.le_refl _⟩, ⟨hb_⟩⟩
    case rest =>
     clear HC13; (try clear c1); (try clear c2); (try clear p2); (try clear c7); (try clear c7b0); (try clear c7b1); (try clear c8); (try clear c18); (try clear c18b0); (try clear c18b1); (try clear c19); (try clear c19b0); (try clear c19b1); (try clear c19b2); (try clear c20); (try clear c20b0); (try clear c20b1); (try clear p2); obtain ⟨kq, x67_12, rfl, HA, HJ12, HB⟩ := hcut
     cases kq with
     | zero => exact absurd HA.out (by simp [lustrumlaw04_RunsIs.j1])
     | succ kj12 =>
      have H := HA.out; clear HA; simp only [lustrumlaw04_RunsIs.j1] at H
      by_cases c21 : x67_12 = true
      ·subst c21
       (have H1 : (some false) = some r := by rw [if_pos rfl] at H; exact H); clear H; have H := H1; clear H1; obtain rfl := Option.some.inj H; go_wp2; go_ret; exact ⟨re_, hb_⟩
      ·replace c21 := Bool.eq_false_iff.mpr c21
       subst c21; (have H1 : (if t272 = true then ((runs_Sane.f kj12 l0).bind fun t281 => ((lustrumref04_Sane.f kj12 l0).bind fun t282 => (if (t281 == t282) = true then ((runs_Make.f l0).bind fun t283 => ((lustrumref04_Make.f kj12 l0).bind fun t286 => ((lustrumref04_Same.f kj12 t283 t286).bind fun t289 => (if t289 = true then ((runs_Of.f kj12 l1).bind fun t290 => ((lustrumref04_Of.f kj12 l1).bind fun t293 => ((lustrumref04_Same.f kj12 t290 t293).bind fun t296 => (if t296 = true then ((runs_Has.f kj12 l0 a2).bind fun t297 => ((lustrumref04_Has.f kj12 l0 a2).bind fun t298 => (if (t297 == t298) = true then ((runs_Count.f kj12 l0).bind fun t299 => ((lustrumref04_Count.f kj12 l0).bind fun t300 => (some (t299 == t300)))) else (some false)))) else (some false))))) else (some false))))) else (some false)))) else (some false)) = some r := by rw [if_neg (show ¬ (false = true) by decide)] at H; exact H); clear H; have H := H1; clear H1
       by_cases c22 : t272 = true
       ·subst c22
        (have H1 : ((runs_Sane.f kj12 l0).bind fun t281 => ((lustrumref04_Sane.f kj12 l0).bind fun t282 => (if (t281 == t282) = true then ((runs_Make.f l0).bind fun t283 => ((lustrumref04_Make.f kj12 l0).bind fun t286 => ((lustrumref04_Same.f kj12 t283 t286).bind fun t289 => (if t289 = true then ((runs_Of.f kj12 l1).bind fun t290 => ((lustrumref04_Of.f kj12 l1).bind fun t293 => ((lustrumref04_Same.f kj12 t290 t293).bind fun t296 => (if t296 = true then ((runs_Has.f kj12 l0 a2).bind fun t297 => ((lustrumref04_Has.f kj12 l0 a2).bind fun t298 => (if (t297 == t298) = true then ((runs_Count.f kj12 l0).bind fun t299 => ((lustrumref04_Count.f kj12 l0).bind fun t300 => (some (t299 == t300)))) else (some false)))) else (some false))))) else (some false))))) else (some false)))) = some r := by rw [if_pos rfl] at H; exact H); clear H; have H := H1; clear H1; replace H := Option.bind_eq_some_iff.mp H; obtain ⟨t281, A230, H⟩ := H; replace H : ((lustrumref04_Sane.f kj12 l0).bind fun t282 => (if (t281 == t282) = true then ((runs_Make.f l0).bind fun t283 => ((lustrumref04_Make.f kj12 l0).bind fun t286 => ((lustrumref04_Same.f kj12 t283 t286).bind fun t289 => (if t289 = true then ((runs_Of.f kj12 l1).bind fun t290 => ((lustrumref04_Of.f kj12 l1).bind fun t293 => ((lustrumref04_Same.f kj12 t290 t293).bind fun t296 => (if t296 = true then ((runs_Has.f kj12 l0 a2).bind fun t297 => ((lustrumref04_Has.f kj12 l0 a2).bind fun t298 => (if (t297 == t298) = true then ((runs_Count.f kj12 l0).bind fun t299 => ((lustrumref04_Count.f kj12 l0).bind fun t300 => (some (t299 == t300)))) else (some false)))) else (some false))))) else (some false))))) else (some false))) = some r := H; have A23 := Aside0.mk A230; clear A230; replace H := Option.bind_eq_some_iff.mp H; obtain ⟨t282, A240, H⟩ := H; replace H : (if (t281 == t282) = true then ((runs_Make.f l0).bind fun t283 => ((lustrumref04_Make.f kj12 l0).bind fun t286 => ((lustrumref04_Same.f kj12 t283 t286).bind fun t289 => (if t289 = true then ((runs_Of.f kj12 l1).bind fun t290 => ((lustrumref04_Of.f kj12 l1).bind fun t293 => ((lustrumref04_Same.f kj12 t290 t293).bind fun t296 => (if t296 = true then ((runs_Has.f kj12 l0 a2).bind fun t297 => ((lustrumref04_Has.f kj12 l0 a2).bind fun t298 => (if (t297 == t298) = true then ((runs_Count.f kj12 l0).bind fun t299 => ((lustrumref04_Count.f kj12 l0).bind fun t300 => (some (t299 == t300)))) else (some false)))) else (some false))))) else (some false))))) else (some false)) = some r := H; have A24 := Aside0.mk A240; clear A240
        by_cases c25 : (t281 == t282) = true
        ·rw [if_pos c25] at H
         have c25b0 : (t281 == t282) = true := c25; (try (have c25b1 : decide (t281 = t282) = true := by simpa using c25)); (try (have c25b2 : (t281 == t282) = true := by simpa using c25)); clear c25; replace H := Option.bind_eq_some_iff.mp H; obtain ⟨t283, A260, H⟩ := H; replace H : ((lustrumref04_Make.f kj12 l0).bind fun t286 => ((lustrumref04_Same.f kj12 t283 t286).bind fun t289 => (if t289 = true then ((runs_Of.f kj12 l1).bind fun t290 => ((lustrumref04_Of.f kj12 l1).bind fun t293 => ((lustrumref04_Same.f kj12 t290 t293).bind fun t296 => (if t296 = true then ((runs_Has.f kj12 l0 a2).bind fun t297 => ((lustrumref04_Has.f kj12 l0 a2).bind fun t298 => (if (t297 == t298) = true then ((runs_Count.f kj12 l0).bind fun t299 => ((lustrumref04_Count.f kj12 l0).bind fun t300 => (some (t299 == t300)))) else (some false)))) else (some false))))) else (some false)))) = some r := H; have A26 := Aside0.mk A260; clear A260; replace H := Option.bind_eq_some_iff.mp H; obtain ⟨t286, A270, H⟩ := H; replace H : ((lustrumref04_Same.f kj12 t283 t286).bind fun t289 => (if t289 = true then ((runs_Of.f kj12 l1).bind fun t290 => ((lustrumref04_Of.f kj12 l1).bind fun t293 => ((lustrumref04_Same.f kj12 t290 t293).bind fun t296 => (if t296 = true then ((runs_Has.f kj12 l0 a2).bind fun t297 => ((lustrumref04_Has.f kj12 l0 a2).bind fun t298 => (if (t297 == t298) = true then ((runs_Count.f kj12 l0).bind fun t299 => ((lustrumref04_Count.f kj12 l0).bind fun t300 => (some (t299 == t300)))) else (some false)))) else (some false))))) else (some false))) = some r := H; have A27 := Aside0.mk A270; clear A270; replace H := Option.bind_eq_some_iff.mp H; obtain ⟨t289, A280, H⟩ := H; replace H : (if t289 = true then ((runs_Of.f kj12 l1).bind fun t290 => ((lustrumref04_Of.f kj12 l1).bind fun t293 => ((lustrumref04_Same.f kj12 t290 t293).bind fun t296 => (if t296 = true then ((runs_Has.f kj12 l0 a2).bind fun t297 => ((lustrumref04_Has.f kj12 l0 a2).bind fun t298 => (if (t297 == t298) = true then ((runs_Count.f kj12 l0).bind fun t299 => ((lustrumref04_Count.f kj12 l0).bind fun t300 => (some (t299 == t300)))) else (some false)))) else (some false))))) else (some false)) = some r := H; have A28 := Aside0.mk A280; clear A280
         by_cases c29 : t289 = true
         ·subst c29
          (have H1 : ((runs_Of.f kj12 l1).bind fun t290 => ((lustrumref04_Of.f kj12 l1).bind fun t293 => ((lustrumref04_Same.f kj12 t290 t293).bind fun t296 => (if t296 = true then ((runs_Has.f kj12 l0 a2).bind fun t297 => ((lustrumref04_Has.f kj12 l0 a2).bind fun t298 => (if (t297 == t298) = true then ((runs_Count.f kj12 l0).bind fun t299 => ((lustrumref04_Count.f kj12 l0).bind fun t300 => (some (t299 == t300)))) else (some false)))) else (some false))))) = some r := by rw [if_pos rfl] at H; exact H); clear H; have H := H1; clear H1; replace H := Option.bind_eq_some_iff.mp H; obtain ⟨t290, A300, H⟩ := H; replace H : ((lustrumref04_Of.f kj12 l1).bind fun t293 => ((lustrumref04_Same.f kj12 t290 t293).bind fun t296 => (if t296 = true then ((runs_Has.f kj12 l0 a2).bind fun t297 => ((lustrumref04_Has.f kj12 l0 a2).bind fun t298 => (if (t297 == t298) = true then ((runs_Count.f kj12 l0).bind fun t299 => ((lustrumref04_Count.f kj12 l0).bind fun t300 => (some (t299 == t300)))) else (some false)))) else (some false)))) = some r := H; have A30 := Aside0.mk A300; clear A300; replace H := Option.bind_eq_some_iff.mp H; obtain ⟨t293, A310, H⟩ := H; replace H : ((lustrumref04_Same.f kj12 t290 t293).bind fun t296 => (if t296 = true then ((runs_Has.f kj12 l0 a2).bind fun t297 => ((lustrumref04_Has.f kj12 l0 a2).bind fun t298 => (if (t297 == t298) = true then ((runs_Count.f kj12 l0).bind fun t299 => ((lustrumref04_Count.f kj12 l0).bind fun t300 => (some (t299 == t300)))) else (some false)))) else (some false))) = some r := H; have A31 := Aside0.mk A310; clear A310; replace H := Option.bind_eq_some_iff.mp H; obtain ⟨t296, A320, H⟩ := H; replace H : (if t296 = true then ((runs_Has.f kj12 l0 a2).bind fun t297 => ((lustrumref04_Has.f kj12 l0 a2).bind fun t298 => (if (t297 == t298) = true then ((runs_Count.f kj12 l0).bind fun t299 => ((lustrumref04_Count.f kj12 l0).bind fun t300 => (some (t299 == t300)))) else (some false)))) else (some false)) = some r := H; have A32 := Aside0.mk A320; clear A320
          by_cases c33 : t296 = true
          ·subst c33
           (have H1 : ((runs_Has.f kj12 l0 a2).bind fun t297 => ((lustrumref04_Has.f kj12 l0 a2).bind fun t298 => (if (t297 == t298) = true then ((runs_Count.f kj12 l0).bind fun t299 => ((lustrumref04_Count.f kj12 l0).bind fun t300 => (some (t299 == t300)))) else (some false)))) = some r := by rw [if_pos rfl] at H; exact H); clear H; have H := H1; clear H1; replace H := Option.bind_eq_some_iff.mp H; obtain ⟨t297, A340, H⟩ := H; replace H : ((lustrumref04_Has.f kj12 l0 a2).bind fun t298 => (if (t297 == t298) = true then ((runs_Count.f kj12 l0).bind fun t299 => ((lustrumref04_Count.f kj12 l0).bind fun t300 => (some (t299 == t300)))) else (some false))) = some r := H; have A34 := Aside0.mk A340; clear A340; replace H := Option.bind_eq_some_iff.mp H; obtain ⟨t298, A350, H⟩ := H; replace H : (if (t297 == t298) = true then ((runs_Count.f kj12 l0).bind fun t299 => ((lustrumref04_Count.f kj12 l0).bind fun t300 => (some (t299 == t300)))) else (some false)) = some r := H; have A35 := Aside0.mk A350; clear A350
           by_cases c36 : (t297 == t298) = true
           ·rw [if_pos c36] at H
            have c36b0 : (t297 == t298) = true := c36; (try (have c36b1 : decide (t297 = t298) = true := by simpa using c36)); (try (have c36b2 : (t297 == t298) = true := by simpa using c36)); clear c36; replace H := Option.bind_eq_some_iff.mp H; obtain ⟨t299, A370, H⟩ := H; replace H : ((lustrumref04_Count.f kj12 l0).bind fun t300 => (some (t299 == t300))) = some r := H; have A37 := Aside0.mk A370; clear A370; replace H := Option.bind_eq_some_iff.mp H; obtain ⟨t300, A380, H⟩ := H; replace H : (some (t299 == t300)) = some r := H; have A38 := Aside0.mk A380; clear A380; obtain rfl := Option.some.inj H; go_wp2_with (first | (go_at_call 20; (with_reducible refine (runs_Sane.calls kj12 _ _ l0 t281 _ ?side1 ?side2 A23.out).mono ?_); (case side1 => repeat (first | exact (Kd.C_below HR0.out HB.out) | (with_reducible refine Kd.C_alloc ?_ _) | (with_reducible refine Kd.C_drewN ?_ _) | (with_reducible refine Kd.C_drew ?_))); (case side2 => exact HC0.out); rintro e w39 ⟨rfl, hb⟩; have n0_ := Aside0.mk (below_step hb_ hb); clear HB; have HB := n0_; clear n0_; (try clear hb); (try clear hb2); (try clear hk); (try clear hi)) | (go_at_call 29; (with_reducible refine (lustrumref04_Sane.calls kj12 _ _ l0 t282 _ ?side1 ?side2 A24.out).mono ?_); (case side1 => repeat (first | exact (Kd.C_below HR0.out HB.out) | (with_reducible refine Kd.C_alloc ?_ _) | (with_reducible refine Kd.C_drewN ?_ _) | (with_reducible refine Kd.C_drew ?_))); (case side2 => exact HC0.out); rintro e w' ⟨rfl, ⟨nd, rfl⟩⟩) | (go_at_call 19; (with_reducible refine (runs_Make.calls _ _ l0 t283 _ ?side1 ?side2 A26.out).mono ?_); (case side1 => repeat (first | exact (Kd.C_below HR0.out hb_) | (with_reducible refine Kd.C_alloc ?_ _) | (with_reducible refine Kd.C_drewN ?_ _) | (with_reducible refine Kd.C_drew ?_))); (case side2 => exact HC0.out); rintro e w40 ⟨v284, rfl, ho0, hb⟩; have n0_ := Aside0.mk (Kd.R_lower ho0 (below_size hb_)); have n1_ := Aside0.mk (below_step hb_ hb); clear HB; have HO285 := n0_; have HB := n1_; clear n0_ n1_; (try clear hb); (try clear hb2); (try clear hk); (try clear hi); (try clear ho0)) | (go_at_call 30; (with_reducible refine (lustrumref04_Make.calls kj12 _ _ l0 t286 _ ?side1 ?side2 A27.out).mono ?_); (case side1 => repeat (first | exact (Kd.C_below HR0.out HB.out) | (with_reducible refine Kd.C_alloc ?_ _) | (with_reducible refine Kd.C_drewN ?_ _) | (with_reducible refine Kd.C_drew ?_))); (case side2 => exact HC0.out); rintro e w41 ⟨v287, rfl, ho0, hb⟩; have n0_ := Aside0.mk (Kd.R_below (by (with_reducible repeat (first | apply Kd.R_alloc | apply Kd.R_drewN | apply Kd.R_drew)); exact HO285.out) hb); have n1_ := Aside0.mk (Kd.V_lower (Kd.V_mono (ok' := fun k_ => some k_ ≠ (v284 : Value).ownBlock) ho0 (fun k_ hk_ => (Kd.fresh' (Kd.R_lt (by (with_reducible repeat (first | apply Kd.R_alloc | apply Kd.R_drewN | apply Kd.R_drew)); exact HO285.out)) k_ hk_))) (below_size hb_)); have n2_ := Aside0.mk (below_step hb_ hb); clear HO285; clear HB; have HO285 := n0_; have HO288 := n1_; have HB := n2_; clear n0_ n1_ n2_; (try clear hb); (try clear hb2); (try clear hk); (try clear hi); (try clear ho0); obtain ⟨Ao42, co42, eo42⟩ := Kd.R_slice HO285.out; subst eo42; obtain ⟨Ao43, co43, eo43⟩ := Kd.V_slice HO288.out; subst eo43) | (go_at_call 21; (with_reducible refine (lustrumref04_Same.calls kj12 _ _ t283 _ _ t286 true _ ?side1 ?side2 ?side3 ?side4 A28.out).mono ?_); (case side1 => repeat (first | exact (Kd.R_reads' HO285.out).2.2 | (with_reducible refine Kd.C_alloc ?_ _) | (with_reducible refine Kd.C_drewN ?_ _) | (with_reducible refine Kd.C_drew ?_))); (case side2 => exact (Kd.R_reads' HO285.out).2.1); (case side3 => repeat (first | exact (Kd.V_reads' HO288.out).2.2 | (with_reducible refine Kd.C_alloc ?_ _) | (with_reducible refine Kd.C_drewN ?_ _) | (with_reducible refine Kd.C_drew ?_))); (case side4 => exact (Kd.V_reads' HO288.out).2.1); rintro e w' ⟨rfl, ⟨nd, rfl⟩⟩) | (go_at_call 23; (with_reducible refine (runs_Of.calls kj12 _ _ l1 t290 _ ?side1 ?side2 A30.out).mono ?_); (case side1 => repeat (first | exact (Kd.C_below HR1.out hb_) | (with_reducible refine Kd.C_alloc ?_ _) | (with_reducible refine Kd.C_drewN ?_ _) | (with_reducible refine Kd.C_drew ?_))); (case side2 => exact HC1.out); rintro e w44 ⟨v291, rfl, ho0, hb⟩; have n0_ := Aside0.mk (Kd.R_elder' (by (with_reducible repeat (first | apply Kd.R_alloc | apply Kd.R_drewN | apply Kd.R_drew)); exact HO285.out) (Kd.R_base ho0) hb); have n1_ := Aside0.mk (Kd.V_elder' (by (with_reducible repeat (first | apply Kd.V_alloc | apply Kd.V_drewN | apply Kd.V_drew)); exact HO288.out) (Kd.R_base ho0) hb); have n2_ := Aside0.mk (Kd.R_lower (Kd.R_new' ho0 (Kd.R_lt (by (with_reducible repeat (first | apply Kd.R_alloc | apply Kd.R_drewN | apply Kd.R_drew)); exact HO285.out))) (below_size hb_)); have n3_ := Aside0.mk (below_step hb_ hb); clear HO285; clear HO288; clear HB; have HO285 := n0_; have HO288 := n1_; have HO292 := n2_; have HB := n3_; clear n0_ n1_ n2_ n3_; (try clear hb); (try clear hb2); (try clear hk); (try clear hi); (try clear ho0)) | (go_at_call 31; (with_reducible refine (lustrumref04_Of.calls kj12 _ _ l1 t293 _ ?side1 ?side2 A31.out).mono ?_); (case side1 => repeat (first | exact (Kd.C_below HR1.out HB.out) | (with_reducible refine Kd.C_alloc ?_ _) | (with_reducible refine Kd.C_drewN ?_ _) | (with_reducible refine Kd.C_drew ?_))); (case side2 => exact HC1.out); rintro e w45 ⟨v294, rfl, ho0, hb⟩; have n0_ := Aside0.mk (Kd.R_below (by (with_reducible repeat (first | apply Kd.R_alloc | apply Kd.R_drewN | apply Kd.R_drew)); exact HO285.out) hb); have n1_ := Aside0.mk (Kd.V_below (by (with_reducible repeat (first | apply Kd.V_alloc | apply Kd.V_drewN | apply Kd.V_drew)); exact HO288.out) hb); have n2_ := Aside0.mk (Kd.R_below (by (with_reducible repeat (first | apply Kd.R_alloc | apply Kd.R_drewN | apply Kd.R_drew)); exact HO292.out) hb); have n3_ := Aside0.mk (Kd.V_lower (Kd.V_mono (ok' := fun k_ => some k_ ≠ (.slice Ao42 t283.length co42 : Value).ownBlock ∧ some k_ ≠ (v291 : Value).ownBlock) ho0 (fun k_ hk_ => ⟨(Kd.fresh' (Kd.R_lt (by (with_reducible repeat (first | apply Kd.R_alloc | apply Kd.R_drewN | apply Kd.R_drew)); exact HO285.out)) k_ hk_), (Kd.fresh' (Kd.R_lt (by (with_reducible repeat (first | apply Kd.R_alloc | apply Kd.R_drewN | apply Kd.R_drew)); exact HO292.out)) k_ hk_)⟩)) (below_size hb_)); have n4_ := Aside0.mk (below_step hb_ hb); clear HO285; clear HO288; clear HO292; clear HB; have HO285 := n0_; have HO288 := n1_; have HO292 := n2_; have HO295 := n3_; have HB := n4_; clear n0_ n1_ n2_ n3_ n4_; (try clear hb); (try clear hb2); (try clear hk); (try clear hi); (try clear ho0); obtain ⟨Ao46, co46, eo46⟩ := Kd.R_slice HO292.out; subst eo46; obtain ⟨Ao47, co47, eo47⟩ := Kd.V_slice HO295.out; subst eo47) | (go_at_call 21; (with_reducible refine (lustrumref04_Same.calls kj12 _ _ t290 _ _ t293 true _ ?side1 ?side2 ?side3 ?side4 A32.out).mono ?_); (case side1 => repeat (first | exact (Kd.R_reads' HO292.out).2.2 | (with_reducible refine Kd.C_alloc ?_ _) | (with_reducible refine Kd.C_drewN ?_ _) | (with_reducible refine Kd.C_drew ?_))); (case side2 => exact (Kd.R_reads' HO292.out).2.1); (case side3 => repeat (first | exact (Kd.V_reads' HO295.out).2.2 | (with_reducible refine Kd.C_alloc ?_ _) | (with_reducible refine Kd.C_drewN ?_ _) | (with_reducible refine Kd.C_drew ?_))); (case side4 => exact (Kd.V_reads' HO295.out).2.1); rintro e w' ⟨rfl, ⟨nd, rfl⟩⟩) | (go_at_call 22; (with_reducible refine (runs_Has.calls kj12 _ _ l0 a2 t297 _ ?side1 ?side2 A34.out).mono ?_); (case side1 => repeat (first | exact (Kd.C_below HR0.out hb_) | (with_reducible refine Kd.C_alloc ?_ _) | (with_reducible refine Kd.C_drewN ?_ _) | (with_reducible refine Kd.C_drew ?_))); (case side2 => exact HC0.out); rintro e w48 ⟨rfl, hb⟩; have n0_ := Aside0.mk (Kd.R_below (by (with_reducible repeat (first | apply Kd.R_alloc | apply Kd.R_drewN | apply Kd.R_drew)); exact HO285.out) hb); have n1_ := Aside0.mk (Kd.V_below (by (with_reducible repeat (first | apply Kd.V_alloc | apply Kd.V_drewN | apply Kd.V_drew)); exact HO288.out) hb); have n2_ := Aside0.mk (Kd.R_below (by (with_reducible repeat (first | apply Kd.R_alloc | apply Kd.R_drewN | apply Kd.R_drew)); exact HO292.out) hb); have n3_ := Aside0.mk (Kd.V_below (by (with_reducible repeat (first | apply Kd.V_alloc | apply Kd.V_drewN | apply Kd.V_drew)); exact HO295.out) hb); have n4_ := Aside0.mk (below_step hb_ hb); clear HO285; clear HO288; clear HO292; clear HO295; clear HB; have HO285 := n0_; have HO288 := n1_; have HO292 := n2_; have HO295 := n3_; have HB := n4_; clear n0_ n1_ n2_ n3_ n4_; (try clear hb); (try clear hb2); (try clear hk); (try clear hi)) | (go_at_call 32; (with_reducible refine (lustrumref04_Has.calls kj12 _ _ l0 a2 t298 _ ?side1 ?side2 A35.out).mono ?_); (case side1 => repeat (first | exact (Kd.C_below HR0.out HB.out) | (with_reducible refine Kd.C_alloc ?_ _) | (with_reducible refine Kd.C_drewN ?_ _) | (with_reducible refine Kd.C_drew ?_))); (case side2 => exact HC0.out); rintro e w49 ⟨rfl, hb⟩; have n0_ := Aside0.mk (Kd.R_below (by (with_reducible repeat (first | apply Kd.R_alloc | apply Kd.R_drewN | apply Kd.R_drew)); exact HO285.out) hb); have n1_ := Aside0.mk (Kd.V_below (by (with_reducible repeat (first | apply Kd.V_alloc | apply Kd.V_drewN | apply Kd.V_drew)); exact HO288.out) hb); have n2_ := Aside0.mk (Kd.R_below (by (with_reducible repeat (first | apply Kd.R_alloc | apply Kd.R_drewN | apply Kd.R_drew)); exact HO292.out) hb); have n3_ := Aside0.mk (Kd.V_below (by (with_reducible repeat (first | apply Kd.V_alloc | apply Kd.V_drewN | apply Kd.V_drew)); exact HO295.out) hb); have n4_ := Aside0.mk (below_step hb_ hb); clear HO285; clear HO288; clear HO292; clear HO295; clear HB; have HO285 := n0_; have HO288 := n1_; have HO292 := n2_; have HO295 := n3_; have HB := n4_; clear n0_ n1_ n2_ n3_ n4_; (try clear hb); (try clear hb2); (try clear hk); (try clear hi)) | (go_at_call 24; (with_reducible refine (runs_Count.calls kj12 _ _ l0 t299 _ ?side1 ?side2 A37.out).mono ?_); (case side1 => repeat (first | exact (Kd.C_below HR0.out HB.out) | (with_reducible refine Kd.C_alloc ?_ _) | (with_reducible refine Kd.C_drewN ?_ _) | (with_reducible refine Kd.C_drew ?_))); (case side2 => exact HC0.out); rintro e w50 ⟨rfl, hb⟩; have n0_ := Aside0.mk (Kd.R_below (by (with_reducible repeat (first | apply Kd.R_alloc | apply Kd.R_drewN | apply Kd.R_drew)); exact HO285.out) hb); have n1_ := Aside0.mk (Kd.V_below (by (with_reducible repeat (first | apply Kd.V_alloc | apply Kd.V_drewN | apply Kd.V_drew)); exact HO288.out) hb); have n2_ := Aside0.mk (Kd.R_below (by (with_reducible repeat (first | apply Kd.R_alloc | apply Kd.R_drewN | apply Kd.R_drew)); exact HO292.out) hb); have n3_ := Aside0.mk (Kd.V_below (by (with_reducible repeat (first | apply Kd.V_alloc | apply Kd.V_drewN | apply Kd.V_drew)); exact HO295.out) hb); have n4_ := Aside0.mk (below_step hb_ hb); clear HO285; clear HO288; clear HO292; clear HO295; clear HB; have HO285 := n0_; have HO288 := n1_; have HO292 := n2_; have HO295 := n3_; have HB := n4_; clear n0_ n1_ n2_ n3_ n4_; (try clear hb); (try clear hb2); (try clear hk); (try clear hi)) | (go_at_call 33; (with_reducible refine (lustrumref04_Count.calls kj12 _ _ l0 t300 _ ?side1 ?side2 A38.out).mono ?_); (case side1 => repeat (first | exact (Kd.C_below HR0.out HB.out) | (with_reducible refine Kd.C_alloc ?_ _) | (with_reducible refine Kd.C_drewN ?_ _) | (with_reducible refine Kd.C_drew ?_))); (case side2 => exact HC0.out); rintro e w51 ⟨rfl, hb⟩; have n0_ := Aside0.mk (Kd.R_below (by (with_reducible repeat (first | apply Kd.R_alloc | apply Kd.R_drewN | apply Kd.R_drew)); exact HO285.out) hb); have n1_ := Aside0.mk (Kd.V_below (by (with_reducible repeat (first | apply Kd.V_alloc | apply Kd.V_drewN | apply Kd.V_drew)); exact HO288.out) hb); have n2_ := Aside0.mk (Kd.R_below (by (with_reducible repeat (first | apply Kd.R_alloc | apply Kd.R_drewN | apply Kd.R_drew)); exact HO292.out) hb); have n3_ := Aside0.mk (Kd.V_below (by (with_reducible repeat (first | apply Kd.V_alloc | apply Kd.V_drewN | apply Kd.V_drew)); exact HO295.out) hb); have n4_ := Aside0.mk (below_step hb_ hb); clear HO285; clear HO288; clear HO292; clear HO295; clear HB; have HO285 := n0_; have HO288 := n1_; have HO292 := n2_; have HO295 := n3_; have HB := n4_; clear n0_ n1_ n2_ n3_ n4_; (try clear hb); (try clear hb2); (try clear hk); (try clear hi)))
            go_ret; exact ⟨re_, hb_⟩
           ·rw [if_neg c36] at H
            (have c36b0 : (t297 == t298) = false := by simpa using c36); (try (have c36b1 : decide (t297 = t298) = false := by simpa using c36)); (try (have c36b2 : (t297 == t298) = false := by simpa using c36)); (try (have c36b3 : ¬ (t297 = t298) := by simpa using c36)); clear c36; obtain rfl := Option.some.inj H; go_wp2_with (first | (go_at_call 20; (with_reducible refine (runs_Sane.calls kj12 _ _ l0 t281 _ ?side1 ?side2 A23.out).mono ?_); (case side1 => repeat (first | exact (Kd.C_below HR0.out HB.out) | (with_reducible refine Kd.C_alloc ?_ _) | (with_reducible refine Kd.C_drewN ?_ _) | (with_reducible refine Kd.C_drew ?_))); (case side2 => exact HC0.out); rintro e w52 ⟨rfl, hb⟩; have n0_ := Aside0.mk (below_step hb_ hb); clear HB; have HB := n0_; clear n0_; (try clear hb); (try clear hb2); (try clear hk); (try clear hi)) | (go_at_call 29; (with_reducible refine (lustrumref04_Sane.calls kj12 _ _ l0 t282 _ ?side1 ?side2 A24.out).mono ?_); (case side1 => repeat (first | exact (Kd.C_below HR0.out HB.out) | (with_reducible refine Kd.C_alloc ?_ _) | (with_reducible refine Kd.C_drewN ?_ _) | (with_reducible refine Kd.C_drew ?_))); (case side2 => exact HC0.out); rintro e w' ⟨rfl, ⟨nd, rfl⟩⟩) | (go_at_call 19; (with_reducible refine (runs_Make.calls _ _ l0 t283 _ ?side1 ?side2 A26.out).mono ?_); (case side1 => repeat (first | exact (Kd.C_below HR0.out hb_) | (with_reducible refine Kd.C_alloc ?_ _) | (with_reducible refine Kd.C_drewN ?_ _) | (with_reducible refine Kd.C_drew ?_))); (case side2 => exact HC0.out); rintro e w53 ⟨v284, rfl, ho0, hb⟩; have n0_ := Aside0.mk (Kd.R_lower ho0 (below_size hb_)); have n1_ := Aside0.mk (below_step hb_ hb); clear HB; have HO285 := n0_; have HB := n1_; clear n0_ n1_; (try clear hb); (try clear hb2); (try clear hk); (try clear hi); (try clear ho0)) | (go_at_call 30; (with_reducible refine (lustrumref04_Make.calls kj12 _ _ l0 t286 _ ?side1 ?side2 A27.out).mono ?_); (case side1 => repeat (first | exact (Kd.C_below HR0.out HB.out) | (with_reducible refine Kd.C_alloc ?_ _) | (with_reducible refine Kd.C_drewN ?_ _) | (with_reducible refine Kd.C_drew ?_))); (case side2 => exact HC0.out); rintro e w54 ⟨v287, rfl, ho0, hb⟩; have n0_ := Aside0.mk (Kd.R_below (by (with_reducible repeat (first | apply Kd.R_alloc | apply Kd.R_drewN | apply Kd.R_drew)); exact HO285.out) hb); have n1_ := Aside0.mk (Kd.V_lower (Kd.V_mono (ok' := fun k_ => some k_ ≠ (v284 : Value).ownBlock) ho0 (fun k_ hk_ => (Kd.fresh' (Kd.R_lt (by (with_reducible repeat (first | apply Kd.R_alloc | apply Kd.R_drewN | apply Kd.R_drew)); exact HO285.out)) k_ hk_))) (below_size hb_)); have n2_ := Aside0.mk (below_step hb_ hb); clear HO285; clear HB; have HO285 := n0_; have HO288 := n1_; have HB := n2_; clear n0_ n1_ n2_; (try clear hb); (try clear hb2); (try clear hk); (try clear hi); (try clear ho0); obtain ⟨Ao55, co55, eo55⟩ := Kd.R_slice HO285.out; subst eo55; obtain ⟨Ao56, co56, eo56⟩ := Kd.V_slice HO288.out; subst eo56) | (go_at_call 21; (with_reducible refine (lustrumref04_Same.calls kj12 _ _ t283 _ _ t286 true _ ?side1 ?side2 ?side3 ?side4 A28.out).mono ?_); (case side1 => repeat (first | exact (Kd.R_reads' HO285.out).2.2 | (with_reducible refine Kd.C_alloc ?_ _) | (with_reducible refine Kd.C_drewN ?_ _) | (with_reducible refine Kd.C_drew ?_))); (case side2 => exact (Kd.R_reads' HO285.out).2.1); (case side3 => repeat (first | exact (Kd.V_reads' HO288.out).2.2 | (with_reducible refine Kd.C_alloc ?_ _) | (with_reducible refine Kd.C_drewN ?_ _) | (with_reducible refine Kd.C_drew ?_))); (case side4 => exact (Kd.V_reads' HO288.out).2.1); rintro e w' ⟨rfl, ⟨nd, rfl⟩⟩) | (go_at_call 23; (with_reducible refine (runs_Of.calls kj12 _ _ l1 t290 _ ?side1 ?side2 A30.out).mono ?_); (case side1 => repeat (first | exact (Kd.C_below HR1.out hb_) | (with_reducible refine Kd.C_alloc ?_ _) | (with_reducible refine Kd.C_drewN ?_ _) | (with_reducible refine Kd.C_drew ?_))); (case side2 => exact HC1.out); rintro e w57 ⟨v291, rfl, ho0, hb⟩; have n0_ := Aside0.mk (Kd.R_elder' (by (with_reducible repeat (first | apply Kd.R_alloc | apply Kd.R_drewN | apply Kd.R_drew)); exact HO285.out) (Kd.R_base ho0) hb); have n1_ := Aside0.mk (Kd.V_elder' (by (with_reducible repeat (first | apply Kd.V_alloc | apply Kd.V_drewN | apply Kd.V_drew)); exact HO288.out) (Kd.R_base ho0) hb); have n2_ := Aside0.mk (Kd.R_lower (Kd.R_new' ho0 (Kd.R_lt (by (with_reducible repeat (first | apply Kd.R_alloc | apply Kd.R_drewN | apply Kd.R_drew)); exact HO285.out))) (below_size hb_)); have n3_ := Aside0.mk (below_step hb_ hb); clear HO285; clear HO288; clear HB; have HO285 := n0_; have HO288 := n1_; have HO292 := n2_; have HB := n3_; clear n0_ n1_ n2_ n3_; (try clear hb); (try clear hb2); (try clear hk); (try clear hi); (try clear ho0)) | (go_at_call 31; (with_reducible refine (lustrumref04_Of.calls kj12 _ _ l1 t293 _ ?side1 ?side2 A31.out).mono ?_); (case side1 => repeat (first | exact (Kd.C_below HR1.out HB.out) | (with_reducible refine Kd.C_alloc ?_ _) | (with_reducible refine Kd.C_drewN ?_ _) | (with_reducible refine Kd.C_drew ?_))); (case side2 => exact HC1.out); rintro e w58 ⟨v294, rfl, ho0, hb⟩; have n0_ := Aside0.mk (Kd.R_below (by (with_reducible repeat (first | apply Kd.R_alloc | apply Kd.R_drewN | apply Kd.R_drew)); exact HO285.out) hb); have n1_ := Aside0.mk (Kd.V_below (by (with_reducible repeat (first | apply Kd.V_alloc | apply Kd.V_drewN | apply Kd.V_drew)); exact HO288.out) hb); have n2_ := Aside0.mk (Kd.R_below (by (with_reducible repeat (first | apply Kd.R_alloc | apply Kd.R_drewN | apply Kd.R_drew)); exact HO292.out) hb); have n3_ := Aside0.mk (Kd.V_lower (Kd.V_mono (ok' := fun k_ => some k_ ≠ (.slice Ao55 t283.length co55 : Value).ownBlock ∧ some k_ ≠ (v291 : Value).ownBlock) ho0 (fun k_ hk_ => ⟨(Kd.fresh' (Kd.R_lt (by (with_reducible repeat (first | apply Kd.R_alloc | apply Kd.R_drewN | apply Kd.R_drew)); exact HO285.out)) k_ hk_), (Kd.fresh' (Kd.R_lt (by (with_reducible repeat (first | apply Kd.R_alloc | apply Kd.R_drewN | apply Kd.R_drew)); exact HO292.out)) k_ hk_)⟩)) (below_size hb_)); have n4_ := Aside0.mk (below_step hb_ hb); clear HO285; clear HO288; clear HO292; clear HB; have HO285 := n0_; have HO288 := n1_; have HO292 := n2_; have HO295 := n3_; have HB := n4_; clear n0_ n1_ n2_ n3_ n4_; (try clear hb); (try clear hb2); (try clear hk); (try clear hi); (try clear ho0); obtain ⟨Ao59, co59, eo59⟩ := Kd.R_slice HO292.out; subst eo59; obtain ⟨Ao60, co60, eo60⟩ := Kd.V_slice HO295.out; subst eo60) | (go_at_call 21; (with_reducible refine (lustrumref04_Same.calls kj12 _ _ t290 _ _ t293 true _ ?side1 ?side2 ?side3 ?side4 A32.out).mono ?_); (case side1 => repeat (first | exact (Kd.R_reads' HO292.out).2.2 | (with_reducible refine Kd.C_alloc ?_ _) | (with_reducible refine Kd.C_drewN ?_ _) | (with_reducible refine Kd.C_drew ?_))); (case side2 => exact (Kd.R_reads' HO292.out).2.1); (case side3 => repeat (first | exact (Kd.V_reads' HO295.out).2.2 | (with_reducible refine Kd.C_alloc ?_ _) | (with_reducible refine Kd.C_drewN ?_ _) | (with_reducible refine Kd.C_drew ?_))); (case side4 => exact (Kd.V_reads' HO295.out).2.1); rintro e w' ⟨rfl, ⟨nd, rfl⟩⟩) | (go_at_call 22; (with_reducible refine (runs_Has.calls kj12 _ _ l0 a2 t297 _ ?side1 ?side2 A34.out).mono ?_); (case side1 => repeat (first | exact (Kd.C_below HR0.out hb_) | (with_reducible refine Kd.C_alloc ?_ _) | (with_reducible refine Kd.C_drewN ?_ _) | (with_reducible refine Kd.C_drew ?_))); (case side2 => exact HC0.out); rintro e w61 ⟨rfl, hb⟩; have n0_ := Aside0.mk (Kd.R_below (by (with_reducible repeat (first | apply Kd.R_alloc | apply Kd.R_drewN | apply Kd.R_drew)); exact HO285.out) hb); have n1_ := Aside0.mk (Kd.V_below (by (with_reducible repeat (first | apply Kd.V_alloc | apply Kd.V_drewN | apply Kd.V_drew)); exact HO288.out) hb); have n2_ := Aside0.mk (Kd.R_below (by (with_reducible repeat (first | apply Kd.R_alloc | apply Kd.R_drewN | apply Kd.R_drew)); exact HO292.out) hb); have n3_ := Aside0.mk (Kd.V_below (by (with_reducible repeat (first | apply Kd.V_alloc | apply Kd.V_drewN | apply Kd.V_drew)); exact HO295.out) hb); have n4_ := Aside0.mk (below_step hb_ hb); clear HO285; clear HO288; clear HO292; clear HO295; clear HB; have HO285 := n0_; have HO288 := n1_; have HO292 := n2_; have HO295 := n3_; have HB := n4_; clear n0_ n1_ n2_ n3_ n4_; (try clear hb); (try clear hb2); (try clear hk); (try clear hi)) | (go_at_call 32; (with_reducible refine (lustrumref04_Has.calls kj12 _ _ l0 a2 t298 _ ?side1 ?side2 A35.out).mono ?_); (case side1 => repeat (first | exact (Kd.C_below HR0.out HB.out) | (with_reducible refine Kd.C_alloc ?_ _) | (with_reducible refine Kd.C_drewN ?_ _) | (with_reducible refine Kd.C_drew ?_))); (case side2 => exact HC0.out); rintro e w62 ⟨rfl, hb⟩; have n0_ := Aside0.mk (Kd.R_below (by (with_reducible repeat (first | apply Kd.R_alloc | apply Kd.R_drewN | apply Kd.R_drew)); exact HO285.out) hb); have n1_ := Aside0.mk (Kd.V_below (by (with_reducible repeat (first | apply Kd.V_alloc | apply Kd.V_drewN | apply Kd.V_drew)); exact HO288.out) hb); have n2_ := Aside0.mk (Kd.R_below (by (with_reducible repeat (first | apply Kd.R_alloc | apply Kd.R_drewN | apply Kd.R_drew)); exact HO292.out) hb); have n3_ := Aside0.mk (Kd.V_below (by (with_reducible repeat (first | apply Kd.V_alloc | apply Kd.V_drewN | apply Kd.V_drew)); exact HO295.out) hb); have n4_ := Aside0.mk (below_step hb_ hb); clear HO285; clear HO288; clear HO292; clear HO295; clear HB; have HO285 := n0_; have HO288 := n1_; have HO292 := n2_; have HO295 := n3_; have HB := n4_; clear n0_ n1_ n2_ n3_ n4_; (try clear hb); (try clear hb2); (try clear hk); (try clear hi)))
            go_ret; exact ⟨re_, hb_⟩
          ·replace c33 := Bool.eq_false_iff.mpr c33
           subst c33; (have H1 : (some false) = some r := by rw [if_neg (show ¬ (false = true) by decide)] at H; exact H); clear H; have H := H1; clear H1; obtain rfl := Option.some.inj H; go_wp2_with (first | (go_at_call 20; (with_reducible refine (runs_Sane.calls kj12 _ _ l0 t281 _ ?side1 ?side2 A23.out).mono ?_); (case side1 => repeat (first | exact (Kd.C_below HR0.out HB.out) | (with_reducible refine Kd.C_alloc ?_ _) | (with_reducible refine Kd.C_drewN ?_ _) | (with_reducible refine Kd.C_drew ?_))); (case side2 => exact HC0.out); rintro e w63 ⟨rfl, hb⟩; have n0_ := Aside0.mk (below_step hb_ hb); clear HB; have HB := n0_; clear n0_; (try clear hb); (try clear hb2); (try clear hk); (try clear hi)) | (go_at_call 29; (with_reducible refine (lustrumref04_Sane.calls kj12 _ _ l0 t282 _ ?side1 ?side2 A24.out).mono ?_); (case side1 => repeat (first | exact (Kd.C_below HR0.out HB.out) | (with_reducible refine Kd.C_alloc ?_ _) | (with_reducible refine Kd.C_drewN ?_ _) | (with_reducible refine Kd.C_drew ?_))); (case side2 => exact HC0.out); rintro e w' ⟨rfl, ⟨nd, rfl⟩⟩) | (go_at_call 19; (with_reducible refine (runs_Make.calls _ _ l0 t283 _ ?side1 ?side2 A26.out).mono ?_); (case side1 => repeat (first | exact (Kd.C_below HR0.out hb_) | (with_reducible refine Kd.C_alloc ?_ _) | (with_reducible refine Kd.C_drewN ?_ _) | (with_reducible refine Kd.C_drew ?_))); (case side2 => exact HC0.out); rintro e w64 ⟨v284, rfl, ho0, hb⟩; have n0_ := Aside0.mk (Kd.R_lower ho0 (below_size hb_)); have n1_ := Aside0.mk (below_step hb_ hb); clear HB; have HO285 := n0_; have HB := n1_; clear n0_ n1_; (try clear hb); (try clear hb2); (try clear hk); (try clear hi); (try clear ho0)) | (go_at_call 30; (with_reducible refine (lustrumref04_Make.calls kj12 _ _ l0 t286 _ ?side1 ?side2 A27.out).mono ?_); (case side1 => repeat (first | exact (Kd.C_below HR0.out HB.out) | (with_reducible refine Kd.C_alloc ?_ _) | (with_reducible refine Kd.C_drewN ?_ _) | (with_reducible refine Kd.C_drew ?_))); (case side2 => exact HC0.out); rintro e w65 ⟨v287, rfl, ho0, hb⟩; have n0_ := Aside0.mk (Kd.R_below (by (with_reducible repeat (first | apply Kd.R_alloc | apply Kd.R_drewN | apply Kd.R_drew)); exact HO285.out) hb); have n1_ := Aside0.mk (Kd.V_lower (Kd.V_mono (ok' := fun k_ => some k_ ≠ (v284 : Value).ownBlock) ho0 (fun k_ hk_ => (Kd.fresh' (Kd.R_lt (by (with_reducible repeat (first | apply Kd.R_alloc | apply Kd.R_drewN | apply Kd.R_drew)); exact HO285.out)) k_ hk_))) (below_size hb_)); have n2_ := Aside0.mk (below_step hb_ hb); clear HO285; clear HB; have HO285 := n0_; have HO288 := n1_; have HB := n2_; clear n0_ n1_ n2_; (try clear hb); (try clear hb2); (try clear hk); (try clear hi); (try clear ho0); obtain ⟨Ao66, co66, eo66⟩ := Kd.R_slice HO285.out; subst eo66; obtain ⟨Ao67, co67, eo67⟩ := Kd.V_slice HO288.out; subst eo67) | (go_at_call 21; (with_reducible refine (lustrumref04_Same.calls kj12 _ _ t283 _ _ t286 true _ ?side1 ?side2 ?side3 ?side4 A28.out).mono ?_); (case side1 => repeat (first | exact (Kd.R_reads' HO285.out).2.2 | (with_reducible refine Kd.C_alloc ?_ _) | (with_reducible refine Kd.C_drewN ?_ _) | (with_reducible refine Kd.C_drew ?_))); (case side2 => exact (Kd.R_reads' HO285.out).2.1); (case side3 => repeat (first | exact (Kd.V_reads' HO288.out).2.2 | (with_reducible refine Kd.C_alloc ?_ _) | (with_reducible refine Kd.C_drewN ?_ _) | (with_reducible refine Kd.C_drew ?_))); (case side4 => exact (Kd.V_reads' HO288.out).2.1); rintro e w' ⟨rfl, ⟨nd, rfl⟩⟩) | (go_at_call 23; (with_reducible refine (runs_Of.calls kj12 _ _ l1 t290 _ ?side1 ?side2 A30.out).mono ?_); (case side1 => repeat (first | exact (Kd.C_below HR1.out hb_) | (with_reducible refine Kd.C_alloc ?_ _) | (with_reducible refine Kd.C_drewN ?_ _) | (with_reducible refine Kd.C_drew ?_))); (case side2 => exact HC1.out); rintro e w68 ⟨v291, rfl, ho0, hb⟩; have n0_ := Aside0.mk (Kd.R_elder' (by (with_reducible repeat (first | apply Kd.R_alloc | apply Kd.R_drewN | apply Kd.R_drew)); exact HO285.out) (Kd.R_base ho0) hb); have n1_ := Aside0.mk (Kd.V_elder' (by (with_reducible repeat (first | apply Kd.V_alloc | apply Kd.V_drewN | apply Kd.V_drew)); exact HO288.out) (Kd.R_base ho0) hb); have n2_ := Aside0.mk (Kd.R_lower (Kd.R_new' ho0 (Kd.R_lt (by (with_reducible repeat (first | apply Kd.R_alloc | apply Kd.R_drewN | apply Kd.R_drew)); exact HO285.out))) (below_size hb_)); have n3_ := Aside0.mk (below_step hb_ hb); clear HO285; clear HO288; clear HB; have HO285 := n0_; have HO288 := n1_; have HO292 := n2_; have HB := n3_; clear n0_ n1_ n2_ n3_; (try clear hb); (try clear hb2); (try clear hk); (try clear hi); (try clear ho0)) | (go_at_call 31; (with_reducible refine (lustrumref04_Of.calls kj12 _ _ l1 t293 _ ?side1 ?side2 A31.out).mono ?_); (case side1 => repeat (first | exact (Kd.C_below HR1.out HB.out) | (with_reducible refine Kd.C_alloc ?_ _) | (with_reducible refine Kd.C_drewN ?_ _) | (with_reducible refine Kd.C_drew ?_))); (case side2 => exact HC1.out); rintro e w69 ⟨v294, rfl, ho0, hb⟩; have n0_ := Aside0.mk (Kd.R_below (by (with_reducible repeat (first | apply Kd.R_alloc | apply Kd.R_drewN | apply Kd.R_drew)); exact HO285.out) hb); have n1_ := Aside0.mk (Kd.V_below (by (with_reducible repeat (first | apply Kd.V_alloc | apply Kd.V_drewN | apply Kd.V_drew)); exact HO288.out) hb); have n2_ := Aside0.mk (Kd.R_below (by (with_reducible repeat (first | apply Kd.R_alloc | apply Kd.R_drewN | apply Kd.R_drew)); exact HO292.out) hb); have n3_ := Aside0.mk (Kd.V_lower (Kd.V_mono (ok' := fun k_ => some k_ ≠ (.slice Ao66 t283.length co66 : Value).ownBlock ∧ some k_ ≠ (v291 : Value).ownBlock) ho0 (fun k_ hk_ => ⟨(Kd.fresh' (Kd.R_lt (by (with_reducible repeat (first | apply Kd.R_alloc | apply Kd.R_drewN | apply Kd.R_drew)); exact HO285.out)) k_ hk_), (Kd.fresh' (Kd.R_lt (by (with_reducible repeat (first | apply Kd.R_alloc | apply Kd.R_drewN | apply Kd.R_drew)); exact HO292.out)) k_ hk_)⟩)) (below_size hb_)); have n4_ := Aside0.mk (below_step hb_ hb); clear HO285; clear HO288; clear HO292; clear HB; have HO285 := n0_; have HO288 := n1_; have HO292 := n2_; have HO295 := n3_; have HB := n4_; clear n0_ n1_ n2_ n3_ n4_; (try clear hb); (try clear hb2); (try clear hk); (try clear hi); (try clear ho0); obtain ⟨Ao70, co70, eo70⟩ := Kd.R_slice HO292.out; subst eo70; obtain ⟨Ao71, co71, eo71⟩ := Kd.V_slice HO295.out; subst eo71) | (go_at_call 21; (with_reducible refine (lustrumref04_Same.calls kj12 _ _ t290 _ _ t293 false _ ?side1 ?side2 ?side3 ?side4 A32.out).mono ?_); (case side1 => repeat (first | exact (Kd.R_reads' HO292.out).2.2 | (with_reducible refine Kd.C_alloc ?_ _) | (with_reducible refine Kd.C_drewN ?_ _) | (with_reducible refine Kd.C_drew ?_))); (case side2 => exact (Kd.R_reads' HO292.out).2.1); (case side3 => repeat (first | exact (Kd.V_reads' HO295.out).2.2 | (with_reducible refine Kd.C_alloc ?_ _) | (with_reducible refine Kd.C_drewN ?_ _) | (with_reducible refine Kd.C_drew ?_))); (case side4 => exact (Kd.V_reads' HO295.out).2.1); rintro e w' ⟨rfl, ⟨nd, rfl⟩⟩))
           go_ret; exact ⟨re_, hb_⟩
         ·replace c29 := Bool.eq_false_iff.mpr c29
          subst c29; (have H1 : (some false) = some r := by rw [if_neg (show ¬ (false = true) by decide)] at H; exact H); clear H; have H := H1; clear H1; obtain rfl := Option.some.inj H; go_wp2_with (first | (go_at_call 20; (with_reducible refine (runs_Sane.calls kj12 _ _ l0 t281 _ ?side1 ?side2 A23.out).mono ?_); (case side1 => repeat (first | exact (Kd.C_below HR0.out HB.out) | (with_reducible refine Kd.C_alloc ?_ _) | (with_reducible refine Kd.C_drewN ?_ _) | (with_reducible refine Kd.C_drew ?_))); (case side2 => exact HC0.out); rintro e w72 ⟨rfl, hb⟩; have n0_ := Aside0.mk (below_step hb_ hb); clear HB; have HB := n0_; clear n0_; (try clear hb); (try clear hb2); (try clear hk); (try clear hi)) | (go_at_call 29; (with_reducible refine (lustrumref04_Sane.calls kj12 _ _ l0 t282 _ ?side1 ?side2 A24.out).mono ?_); (case side1 => repeat (first | exact (Kd.C_below HR0.out HB.out) | (with_reducible refine Kd.C_alloc ?_ _) | (with_reducible refine Kd.C_drewN ?_ _) | (with_reducible refine Kd.C_drew ?_))); (case side2 => exact HC0.out); rintro e w' ⟨rfl, ⟨nd, rfl⟩⟩) | (go_at_call 19; (with_reducible refine (runs_Make.calls _ _ l0 t283 _ ?side1 ?side2 A26.out).mono ?_); (case side1 => repeat (first | exact (Kd.C_below HR0.out hb_) | (with_reducible refine Kd.C_alloc ?_ _) | (with_reducible refine Kd.C_drewN ?_ _) | (with_reducible refine Kd.C_drew ?_))); (case side2 => exact HC0.out); rintro e w73 ⟨v284, rfl, ho0, hb⟩; have n0_ := Aside0.mk (Kd.R_lower ho0 (below_size hb_)); have n1_ := Aside0.mk (below_step hb_ hb); clear HB; have HO285 := n0_; have HB := n1_; clear n0_ n1_; (try clear hb); (try clear hb2); (try clear hk); (try clear hi); (try clear ho0)) | (go_at_call 30; (with_reducible refine (lustrumref04_Make.calls kj12 _ _ l0 t286 _ ?side1 ?side2 A27.out).mono ?_); (case side1 => repeat (first | exact (Kd.C_below HR0.out HB.out) | (with_reducible refine Kd.C_alloc ?_ _) | (with_reducible refine Kd.C_drewN ?_ _) | (with_reducible refine Kd.C_drew ?_))); (case side2 => exact HC0.out); rintro e w74 ⟨v287, rfl, ho0, hb⟩; have n0_ := Aside0.mk (Kd.R_below (by (with_reducible repeat (first | apply Kd.R_alloc | apply Kd.R_drewN | apply Kd.R_drew)); exact HO285.out) hb); have n1_ := Aside0.mk (Kd.V_lower (Kd.V_mono (ok' := fun k_ => some k_ ≠ (v284 : Value).ownBlock) ho0 (fun k_ hk_ => (Kd.fresh' (Kd.R_lt (by (with_reducible repeat (first | apply Kd.R_alloc | apply Kd.R_drewN | apply Kd.R_drew)); exact HO285.out)) k_ hk_))) (below_size hb_)); have n2_ := Aside0.mk (below_step hb_ hb); clear HO285; clear HB; have HO285 := n0_; have HO288 := n1_; have HB := n2_; clear n0_ n1_ n2_; (try clear hb); (try clear hb2); (try clear hk); (try clear hi); (try clear ho0); obtain ⟨Ao75, co75, eo75⟩ := Kd.R_slice HO285.out; subst eo75; obtain ⟨Ao76, co76, eo76⟩ := Kd.V_slice HO288.out; subst eo76) | (go_at_call 21; (with_reducible refine (lustrumref04_Same.calls kj12 _ _ t283 _ _ t286 false _ ?side1 ?side2 ?side3 ?side4 A28.out).mono ?_); (case side1 => repeat (first | exact (Kd.R_reads' HO285.out).2.2 | (with_reducible refine Kd.C_alloc ?_ _) | (with_reducible refine Kd.C_drewN ?_ _) | (with_reducible refine Kd.C_drew ?_))); (case side2 => exact (Kd.R_reads' HO285.out).2.1); (case side3 => repeat (first | exact (Kd.V_reads' HO288.out).2.2 | (with_reducible refine Kd.C_alloc ?_ _) | (with_reducible refine Kd.C_drewN ?_ _) | (with_reducible refine Kd.C_drew ?_))); (case side4 => exact (Kd.V_reads' HO288.out).2.1); rintro e w' ⟨rfl, ⟨nd, rfl⟩⟩)); go_ret; exact ⟨re_, hb_⟩
        ·rw [if_neg c25] at H
         (have c25b0 : (t281 == t282) = false := by simpa using c25); (try (have c25b1 : decide (t281 = t282) = false := by simpa using c25)); (try (have c25b2 : (t281 == t282) = false := by simpa using c25)); (try (have c25b3 : ¬ (t281 = t282) := by simpa using c25)); clear c25; obtain rfl := Option.some.inj H; go_wp2_with (first | (go_at_call 20; (with_reducible refine (runs_Sane.calls kj12 _ _ l0 t281 _ ?side1 ?side2 A23.out).mono ?_); (case side1 => repeat (first | exact (Kd.C_below HR0.out HB.out) | (with_reducible refine Kd.C_alloc ?_ _) | (with_reducible refine Kd.C_drewN ?_ _) | (with_reducible refine Kd.C_drew ?_))); (case side2 => exact HC0.out); rintro e w77 ⟨rfl, hb⟩; have n0_ := Aside0.mk (below_step hb_ hb); clear HB; have HB := n0_; clear n0_; (try clear hb); (try clear hb2); (try clear hk); (try clear hi)) | (go_at_call 29; (with_reducible refine (lustrumref04_Sane.calls kj12 _ _ l0 t282 _ ?side1 ?side2 A24.out).mono ?_); (case side1 => repeat (first | exact (Kd.C_below HR0.out HB.out) | (with_reducible refine Kd.C_alloc ?_ _) | (with_reducible refine Kd.C_drewN ?_ _) | (with_reducible refine Kd.C_drew ?_))); (case side2 => exact HC0.out); rintro e w' ⟨rfl, ⟨nd, rfl⟩⟩)); go_ret; exact ⟨re_, hb_⟩
       ·replace c22 := Bool.eq_false_iff.mpr c22
        subst c22; (have H1 : (some false) = some r := by rw [if_neg (show ¬ (false = true) by decide)] at H; exact H); clear H; have H := H1; clear H1; obtain rfl := Option.some.inj H; go_wp2; go_ret; exact ⟨re_, hb_⟩
end Go.Proofs.Ytkbcmjejfbbcpaa.A

namespace Go.Proofs.Ytkbcmjejfbbcpaa.A
open Go.RowKit Go.Proofs.YtkbcmjejfbbcpaaW.PrintWords Go.Proofs.YtkbcmjejfbbcpaaW.PrintLast Go.Proofs.YtkbcmjejfbbcpaaW.PrintMore
set_option linter.unusedVariables false
theorem w64 {x : Int} (h1 : -9223372036854775808 ≤ x) (h2 : x ≤ 9223372036854775807) : wrap64 x = x := by unfold wrap64; omega
theorem at_rd (p : List S25) (r : S25) (t : List S25) : rd_T25 (p ++ r :: t) (p.length : Int) = r := by simp [rd_T25]
theorem at_rdi (p : List Int) (r : Int) (t : List Int) : rd (p ++ r :: t) (p.length : Int) = r := by simp [rd]
theorem at_lt {α : Type} (p : List α) (r : α) (t : List α) : (p.length : Int) < ((p ++ r :: t).length : Int) := by simp; omega
theorem at_end {α : Type} (p : List α) : ¬ (p.length : Int) < ((p ++ []).length : Int) := by simp
theorem at_0 {α : Type} (p : List α) : 0 ≤ (p.length : Int) := Int.natCast_nonneg _
theorem at_next {α : Type} {p : List α} {r : α} {t : List α} (h : (p ++ r :: t).length ≤ 4611686018427387904) : wrap64 ((p.length : Int) + 1) = ((p ++ [r]).length : Int) := by
  simp at h
  rw [w64 (by omega) (by omega)]
  simp
theorem at_app {α : Type} (p : List α) (r : α) (t : List α) : p ++ r :: t = (p ++ [r]) ++ t := by simp
theorem Ev.ift {α : Type} {c : Prop} [Decidable c] {g f : Nat → Option α} {r : α} (hc : c) (h : Ev g r) : Ev (fun k => if c then g k else f k) r := Ev.congr (fun k => if_pos hc) h
theorem Ev.iff_ {α : Type} {c : Prop} [Decidable c] {g f : Nat → Option α} {r : α} (hc : ¬ c) (h : Ev f r) : Ev (fun k => if c then g k else f k) r := Ev.congr (fun k => if_neg hc) h
theorem Ev.bnow {α β : Type} {a : Option α} {f : Nat → α → Option β} {x : α} {r : β} (h : a = some x) (k : Ev (fun n => f n x) r) : Ev (fun n => a.bind (f n)) r := Ev.congr (fun n => by rw [h]; rfl) k
theorem Ev.eq {α : Type} {g : Nat → Option α} {r q : α} (h : Ev g r) (e : r = q) : Ev g q := e ▸ h
theorem Sane_l0 : ∀ (t p : List S25) (last : Int), (p ++ t).length ≤ 4611686018427387904 → -lim - 2 ≤ last → last ≤ lim →
    ∃ b, Ev (fun k => runs_Sane.l0 k last (p ++ t) ((p ++ t).length : Int) (p.length : Int)) b ∧ (b = true ↔ saneF last t)
  | [], p, last, _, _, _ => ⟨true, Ev.step (f := fun _ => some true) (fun k => by simp only [runs_Sane.l0]; rw [if_neg (at_end p)]) (Ev.now true), by simp [saneF]⟩
  | r :: t, p, last, hn, h1, h2 => by
    have e : ∀ k, runs_Sane.l0 (k + 1) last (p ++ r :: t) ((p ++ r :: t).length : Int) (p.length : Int) = (if r.f0 > r.f1 then some false else if r.f0 < last + 2 then some false else if r.f1 > 1099511627776 then some false else runs_Sane.l0 k r.f1 (p ++ r :: t) ((p ++ r :: t).length : Int) ((p ++ [r]).length : Int)) := fun k => by
      simp only [runs_Sane.l0]
      rw [if_pos (at_lt p r t), if_pos (at_0 p), if_pos (at_lt p r t), at_rd, at_next hn, w64 (by unfold lim at h1; omega) (by unfold lim at h2; omega)]
    by_cases c1 : r.f0 > r.f1
    · exact ⟨false, Ev.step (f := fun _ => some false) (fun k => by rw [e, if_pos c1]) (Ev.now _), by simp [saneF]; omega⟩
    by_cases c2 : r.f0 < last + 2
    · exact ⟨false, Ev.step (f := fun _ => some false) (fun k => by rw [e, if_neg c1, if_pos c2]) (Ev.now _), by simp [saneF]; omega⟩
    by_cases c3 : r.f1 > 1099511627776
    · exact ⟨false, Ev.step (f := fun _ => some false) (fun k => by rw [e, if_neg c1, if_neg c2, if_pos c3]) (Ev.now _), by simp [saneF, lim]; omega⟩
    obtain ⟨b, hb, hs⟩ := Sane_l0 t (p ++ [r]) r.f1 (by rw [← at_app]; exact hn) (by omega) (by unfold lim; omega)
    rw [← at_app] at hb
    refine ⟨b, Ev.step (fun k => by rw [e, if_neg c1, if_neg c2, if_neg c3]) hb, ?_⟩
    rw [hs, saneF]
    unfold lim
    exact ⟨fun h => ⟨by omega, by omega, by omega, h⟩, fun h => h.2.2.2⟩
theorem Sane_f (l : List S25) (hn : l.length ≤ 4611686018427387904) : ∃ b, Ev (fun k => runs_Sane.f k l) b ∧ (b = true ↔ sane l) := by
  obtain ⟨b, hb, hs⟩ := Sane_l0 l [] (-lim - 2) (by simpa using hn) (by omega) (by unfold lim; omega)
  exact ⟨b, hb, hs⟩
theorem Make_f {l : List S25} (hn : l.length < 4398046511104) : Ev (fun _ => runs_Make.f l) (norm l) := ⟨0, fun _ _ => by unfold runs_Make.f; rw [if_pos hn]⟩
theorem known_f (l : List S25) (hn : l.length < 4398046511104) : Ev (fun k => runs_known.f k l) (norm l) := by
  obtain ⟨b, hb, hs⟩ := Sane_f l (by omega)
  refine Ev.bind hb ?_
  cases b with
  | true => exact Ev.congr (fun k => by rw [if_pos rfl, norm_of_sane (hs.1 rfl)]) (Ev.now (norm l))
  | false => exact Ev.congr (f := fun k => (runs_Make.f l).bind fun t => some t) (fun k => by rw [if_neg (by simp)]) (Ev.bind (Make_f hn) (Ev.now _))
theorem ins_len : ∀ (s : List S25) (x : S25), (ins x s).length ≤ s.length + 1
  | [], x => by unfold ins; simp
  | q :: t, x => by
    unfold ins
    split
    · have := ins_len t x; simp; omega
    · split
      · simp
      · have := ins_len t ⟨min x.f0 q.f0, max x.f1 q.f1⟩; simp; omega
theorem fold_len : ∀ (l s : List S25), (l.foldl step s).length ≤ s.length + l.length
  | [], s => by simp
  | r :: l, s => by
    have h1 := fold_len l (step s r)
    have h2 : (step s r).length ≤ s.length + 1 := by unfold step; split; exact ins_len _ _; omega
    simp; omega
theorem norm_len (l : List S25) : (norm l).length ≤ l.length := by have := fold_len l []; simpa [norm] using this
theorem saneF_rising : ∀ {a : Int} {l : List S25}, saneF a l → risingHi l = true ∧ ∀ q, q ∈ l → a < q.f1
  | _, [], _ => ⟨rfl, fun q h => by simp at h⟩
  | a, r :: t, ⟨h1, h2, h3, h4⟩ => by
    obtain ⟨i1, i2⟩ := saneF_rising h4
    refine ⟨?_, ?_⟩
    · unfold risingHi
      rw [i1, Bool.and_true, List.all_eq_true]
      intro q hq
      have := i2 q hq
      simp; omega
    · intro q hq
      rcases List.mem_cons.1 hq with rfl | hq
      · omega
      · have := i2 q hq; omega
theorem at_f {l : List S25} (h : sane l) (hn : l.length < 4398046511104) (n : Int) : runs_at.f l n = some ((l.countP fun r => decide (r.f1 < n) : Nat) : Int) := by
  unfold runs_at.f
  rw [if_pos ⟨(saneF_rising h).1, hn⟩]
theorem parted : ∀ {a : Int} {l : List S25} (_ : saneF a l) (n : Int), ∃ p t, l = p ++ t ∧ p.length = l.countP (fun r => decide (r.f1 < n)) ∧ (∀ r, r ∈ p → r.f1 < n) ∧ (∀ r, r ∈ t → n ≤ r.f1)
  | _, [], _, n => ⟨[], [], rfl, rfl, fun r h => by simp at h, fun r h => by simp at h⟩
  | a, r :: t, ⟨h1, h2, h3, h4⟩, n => by
    by_cases c : r.f1 < n
    · obtain ⟨p, s, e1, e2, e3, e4⟩ := parted h4 n
      refine ⟨r :: p, s, by rw [e1]; rfl, ?_, ?_, e4⟩
      · rw [List.countP_cons_of_pos (by simpa using c), ← e2]; rfl
      · intro q hq
        rcases List.mem_cons.1 hq with rfl | hq
        · exact c
        · exact e3 q hq
    · have hall : ∀ q, q ∈ r :: t → n ≤ q.f1 := fun q hq => by
        rcases List.mem_cons.1 hq with rfl | hq
        · omega
        · have := (saneF_rising h4).2 q hq; omega
      refine ⟨[], r :: t, rfl, ?_, fun q h => by simp at h, hall⟩
      rw [eq_comm, List.length_nil, List.countP_eq_zero]
      intro q hq
      have := hall q hq
      simp; omega
theorem mx_max (a b : Int) : mx a b = max a b := by unfold mx; omega
theorem mn_min (a b : Int) : mn a b = min a b := by unfold mn; omega
def nextOf (s : List S25) (n : Int) (r : Int × Bool) : Prop := (r.2 = true ∧ mem s r.1 ∧ n ≤ r.1 ∧ ∀ m, mem s m → n ≤ m → r.1 ≤ m) ∨ (r = (0, false) ∧ ∀ m, mem s m → m < n)
theorem nextOf_one {s : List S25} {n : Int} {r q : Int × Bool} (h : nextOf s n r) (k : nextOf s n q) : r = q := by
  obtain ⟨r1, r2⟩ := r
  obtain ⟨q1, q2⟩ := q
  rcases h with ⟨h1, h2, h3, h4⟩ | ⟨h1, h2⟩ <;> rcases k with ⟨k1, k2, k3, k4⟩ | ⟨k1, k2⟩
  · simp only at *
    have := h4 _ k2 k3
    have := k4 _ h2 h3
    rw [h1, k1, show r1 = q1 by omega]
  · have := k2 _ h2; simp only at h3; omega
  · have := h2 _ k2; simp only at k3; omega
  · rw [h1, k1]
theorem nextOf_at {a : Int} {p t : List S25} {r : S25} {n : Int} (h : saneF a (p ++ r :: t)) (hp : ∀ q, q ∈ p → q.f1 < n) (hr : n ≤ r.f1) : nextOf (p ++ r :: t) n (max n r.f0, true) := by
  have hs : ∀ {a : Int} {p : List S25}, saneF a (p ++ r :: t) → (∃ b, saneF b (r :: t)) := by
    intro a p
    induction p generalizing a with
    | nil => exact fun h => ⟨a, h⟩
    | cons q p ih => exact fun h => ih h.2.2.2
  obtain ⟨b, h1, h2, h3, h4⟩ := hs h
  left
  refine ⟨rfl, ?_, by simp only; omega, ?_⟩
  · rw [mem_append, mem_cons]
    right; left; simp only; omega
  · intro m hm hn
    rw [mem_append, mem_cons] at hm
    rcases hm with ⟨q, hq, hm⟩ | hm | hm
    · have := hp q hq; omega
    · simp only; omega
    · have := saneF_mem h4 hm; simp only; omega
theorem nextOf_none {s : List S25} {n : Int} (h : ∀ q, q ∈ s → q.f1 < n) : nextOf s n (0, false) :=
  .inr ⟨rfl, fun m ⟨q, hq, hm⟩ => by have := h q hq; omega⟩
theorem Next_f (l : List S25) (hn : l.length < 4398046511104) (n : Int) : ∃ r, Ev (fun k => runs_Next.f k l n) r ∧ nextOf (norm l) n r := by
  have hs := norm_sane l
  have hl := norm_len l
  obtain ⟨p, t, e1, e2, e3, e4⟩ := parted hs n
  have hat := at_f hs (by omega) n
  rw [← e2] at hat
  cases t with
  | nil =>
    refine ⟨(0, false), Ev.bind (known_f l hn) (Ev.congr (fun k => ?_) (Ev.now (0, false))), nextOf_none (by rw [e1]; simpa using e3)⟩
    rw [hat, Option.bind_some, if_pos (by rw [e1]; simp)]
  | cons r t =>
    have h1 := nextOf_at (n := n) (by rw [← e1]; exact hs) e3 (e4 r List.mem_cons_self)
    rw [← e1] at h1
    refine ⟨_, Ev.bind (known_f l hn) (Ev.congr (fun k => ?_) (Ev.now _)), h1⟩
    rw [hat, Option.bind_some, e1, if_neg (by simp; omega), if_pos (at_0 p), if_pos (at_lt p r t), at_rd, mx_max]
theorem nextOf_has {s : List S25} {n : Int} {r : Int × Bool} (h : nextOf s n r) : (r.2 = true ∧ r.1 = n) ↔ mem s n := by
  constructor
  · rintro ⟨h1, h2⟩
    rcases h with ⟨_, h, _⟩ | ⟨h, _⟩
    · rwa [h2] at h
    · rw [h] at h1; simp at h1
  · intro hm
    rcases h with ⟨h1, h2, h3, h4⟩ | ⟨_, h⟩
    · have := h4 n hm (Int.le_refl _)
      exact ⟨h1, by omega⟩
    · have := h n hm; omega
theorem Has_f (l : List S25) (hn : l.length < 4398046511104) (n : Int) : ∃ b, Ev (fun k => runs_Has.f k l n) b ∧ (b = true ↔ mem (norm l) n) := by
  obtain ⟨⟨m, ok⟩, hr, h⟩ := Next_f l hn n
  rw [← nextOf_has h]
  cases ok with
  | true => exact ⟨m == n, Ev.bind hr (Ev.congr (fun k => by rw [if_pos rfl]) (Ev.now _)), by simp⟩
  | false => exact ⟨false, Ev.bind hr (Ev.congr (fun k => by rw [if_neg (by simp)]) (Ev.now _)), by simp⟩
end Go.Proofs.Ytkbcmjejfbbcpaa.A

namespace Go.Proofs.Ytkbcmjejfbbcpaa.A
open Go.RowKit Go.Proofs.YtkbcmjejfbbcpaaW.PrintWords Go.Proofs.YtkbcmjejfbbcpaaW.PrintLast Go.Proofs.YtkbcmjejfbbcpaaW.PrintMore
set_option linter.unusedVariables false
def prevOf (s : List S25) (n : Int) (r : Int × Bool) : Prop := (r.2 = true ∧ mem s r.1 ∧ r.1 ≤ n ∧ ∀ m, mem s m → m ≤ n → m ≤ r.1) ∨ (r = (0, false) ∧ ∀ m, mem s m → n < m)
theorem prevOf_one {s : List S25} {n : Int} {r q : Int × Bool} (h : prevOf s n r) (k : prevOf s n q) : r = q := by
  obtain ⟨r1, r2⟩ := r
  obtain ⟨q1, q2⟩ := q
  rcases h with ⟨h1, h2, h3, h4⟩ | ⟨h1, h2⟩ <;> rcases k with ⟨k1, k2, k3, k4⟩ | ⟨k1, k2⟩
  · simp only at *
    have := h4 _ k2 k3
    have := k4 _ h2 h3
    rw [h1, k1, show r1 = q1 by omega]
  · have := k2 _ h2; simp only at h3; omega
  · have := h2 _ k2; simp only at k3; omega
  · rw [h1, k1]
theorem saneF_tail : ∀ {p : List S25} {a : Int} {t : List S25}, saneF a (p ++ t) → ∃ b, saneF b t ∧ a ≤ b ∧ ∀ q, q ∈ p → q.f1 ≤ b
  | [], a, t, h => ⟨a, h, Int.le_refl _, fun q hq => by simp at hq⟩
  | r :: p, a, t, ⟨h1, h2, h3, h4⟩ => by
    obtain ⟨b, e1, e2, e3⟩ := saneF_tail (p := p) h4
    exact ⟨b, e1, by omega, fun q hq => by
      rcases List.mem_cons.1 hq with rfl | hq
      · exact e2
      · exact e3 q hq⟩
theorem prev_in {a : Int} {p t : List S25} {r : S25} {n : Int} (h : saneF a (p ++ r :: t)) (h1 : r.f0 ≤ n) (h2 : n ≤ r.f1) : prevOf (p ++ r :: t) n (n, true) :=
  .inl ⟨rfl, ⟨r, by simp, h1, h2⟩, Int.le_refl _, fun m _ hm => hm⟩
theorem prev_ahead {a : Int} {p t : List S25} {n : Int} (h : saneF a (p ++ t)) (hp : ∀ r, r ∈ p → r.f1 < n) (ht : ∀ r, r ∈ t → n < r.f0) : (p = [] → prevOf (p ++ t) n (0, false)) ∧ ∀ q r, p = q ++ [r] → prevOf (p ++ t) n (r.f1, true) := by
  have hm : ∀ m, mem (p ++ t) m → m ≤ n → mem p m := fun m h1 h2 => by
    rcases (mem_append _ _ _).1 h1 with h1 | ⟨r, hr, h3, h4⟩
    · exact h1
    · have := ht r hr; omega
  constructor
  · rintro rfl
    refine .inr ⟨rfl, fun m h1 => ?_⟩
    by_cases h : n < m
    · exact h
    · exact absurd (hm m h1 (by omega)) (mem_nil _)
  · rintro q r rfl
    rw [List.append_assoc] at h
    obtain ⟨b, ⟨e1, e2, e3, e4⟩, _, e5⟩ := saneF_tail h
    have hr := hp r (by simp)
    refine .inl ⟨rfl, ⟨r, by simp, by simp only; omega, by simp only; omega⟩, by simp only; omega, fun m h1 h2 => ?_⟩
    rcases (mem_append _ _ _).1 (hm m h1 h2) with ⟨s, hs, h3, h4⟩ | h3
    · have := e5 s hs; simp only; omega
    · rcases (mem_cons _ _ _).1 h3 with h3 | h3
      · exact h3.2
      · exact absurd h3 (mem_nil _)
theorem Prev_f (l : List S25) (hn : l.length < 4398046511104) (n : Int) : ∃ r, Ev (fun k => runs_Prev.f k l n) r ∧ prevOf (norm l) n r := by
  have hs := norm_sane l
  have hl := norm_len l
  obtain ⟨p, t, e1, e2, e3, e4⟩ := parted hs n
  have hat := at_f hs (by omega) n
  rw [← e2] at hat
  have hback : ∀ (hh : ∀ r, r ∈ t → n < r.f0), ∃ r, Ev (fun k => runs_Prev.j0 k (norm l) n (p.length : Int) false) r ∧ prevOf (norm l) n r := fun hh => by
    obtain ⟨g1, g2⟩ := prev_ahead (n := n) (by rw [← e1]; exact hs) e3 hh
    rw [← e1] at g1 g2
    rcases List.eq_nil_or_concat p with hp | ⟨q, r, hp⟩
    · refine ⟨(0, false), Ev.step (f := fun _ => some (0, false)) (fun k => ?_) (Ev.now _), g1 hp⟩
      simp only [runs_Prev.j0]
      rw [if_neg (by simp), if_pos (by rw [hp]; rfl)]
    · rw [List.concat_eq_append] at hp
      refine ⟨(r.f1, true), Ev.step (f := fun _ => some (r.f1, true)) (fun k => ?_) (Ev.now _), g2 q r hp⟩
      have hlen : (norm l).length = q.length + 1 + t.length := by rw [e1, hp]; simp; omega
      simp only [runs_Prev.j0]
      have hpl : p.length = q.length + 1 := by rw [hp]; simp
      rw [if_neg (by simp), if_neg (by omega), w64 (by omega) (by omega), show ((p.length : Nat) : Int) - 1 = (q.length : Int) by omega, if_pos (by omega), if_pos (by omega), e1, hp, List.append_assoc]
      simp only [List.cons_append, List.nil_append]
      rw [at_rd]
  cases t with
  | nil =>
    obtain ⟨r, hr, h⟩ := hback (fun r hr => by simp at hr)
    refine ⟨r, Ev.bind (known_f l hn) (Ev.congr (fun k => ?_) hr), h⟩
    rw [hat, Option.bind_some, if_neg (by rw [e1]; simp)]
  | cons r t =>
    by_cases c : r.f0 ≤ n
    · refine ⟨(n, true), Ev.bind (known_f l hn) (Ev.congr (fun k => ?_) (Ev.step (g := fun k => runs_Prev.j0 k (norm l) n (p.length : Int) true) (f := fun _ => some (n, true)) (fun k => by simp [runs_Prev.j0]) (Ev.now _))), ?_⟩
      · rw [hat, Option.bind_some, if_pos (by rw [e1]; exact at_lt p r t), if_pos (at_0 p)]
        rw [show rd_T25 (norm l) (p.length : Int) = r by rw [e1]; exact at_rd p r t, decide_eq_true c]
      · rw [e1]; exact prev_in (by rw [← e1]; exact hs) c (e4 r List.mem_cons_self)
    · obtain ⟨x, hx, h⟩ := hback (fun q hq => by
        obtain ⟨b, ⟨g1, g2, g3, g4⟩, _⟩ := saneF_tail (p := p) (by rw [← e1]; exact hs)
        rcases List.mem_cons.1 hq with rfl | hq
        · omega
        · have : mem t q.f0 := by
            obtain ⟨u, v, hu⟩ := List.append_of_mem hq
            rw [hu] at g4 ⊢
            obtain ⟨b', ⟨k1, k2, _⟩, _⟩ := saneF_tail g4
            exact ⟨q, by simp, by omega, by omega⟩
          have := saneF_mem g4 this
          omega)
      refine ⟨x, Ev.bind (known_f l hn) (Ev.congr (fun k => ?_) hx), h⟩
      rw [hat, Option.bind_some, if_pos (by rw [e1]; exact at_lt p r t), if_pos (at_0 p)]
      rw [show rd_T25 (norm l) (p.length : Int) = r by rw [e1]; exact at_rd p r t, decide_eq_false c]
theorem Count_l0 : ∀ (t p : List S25) (a b : Int), (p ++ t).length ≤ 4611686018427387904 → saneF b t → -lim - 2 ≤ b → b ≤ lim → 0 ≤ a → a ≤ b + lim + 2 →
    Ev (fun k => runs_Count.l0 k a (p ++ t) ((p ++ t).length : Int) (p.length : Int)) (a + cnt t)
  | [], p, a, b, _, _, _, _, _, _ => Ev.step (f := fun _ => some (a + cnt [])) (fun k => by simp only [runs_Count.l0]; rw [if_neg (at_end p)]; simp [cnt]) (Ev.now _)
  | r :: t, p, a, b, hn, ⟨s1, s2, s3, s4⟩, h1, h2, h3, h4 => by
    have ih := Count_l0 t (p ++ [r]) (a + (r.f1 - r.f0 + 1)) r.f1 (by rw [← at_app]; exact hn) s4 (by omega) s3 (by omega) (by omega)
    rw [← at_app] at ih
    refine Ev.step (fun k => ?_) (show Ev _ (a + cnt (r :: t)) by rw [show a + cnt (r :: t) = a + (r.f1 - r.f0 + 1) + cnt t by show a + (_ + _) = _; omega]; exact ih)
    unfold lim at h1 h2 s3 h4
    simp only [runs_Count.l0]
    rw [if_pos (at_lt p r t), if_pos (at_0 p), if_pos (at_lt p r t), at_rd, at_next hn, w64 (x := r.f1 - r.f0) (by omega) (by omega), w64 (x := r.f1 - r.f0 + 1) (by omega) (by omega), w64 (by omega) (by omega)]
theorem Count_f (l : List S25) (hn : l.length < 4398046511104) : Ev (fun k => runs_Count.f k l) (cnt (norm l)) := by
  have h := Count_l0 (norm l) [] 0 (-lim - 2) (by have := norm_len l; simp; omega) (norm_sane l) (Int.le_refl _) (by unfold lim; omega) (Int.le_refl _) (by unfold lim; omega)
  rw [Int.zero_add] at h
  exact Ev.bind (known_f l hn) h
def single (n : Int) : S25 := ⟨n, n⟩
theorem Of_l0 : ∀ (t p : List Int) (acc : List S25), (p ++ t).length ≤ 4398046511103 → acc.length + t.length < 4398046511104 →
    Ev (fun k => runs_Of.l0 k acc (p ++ t) ((p ++ t).length : Int) (p.length : Int)) (norm (acc ++ t.map single))
  | [], p, acc, hn, ha => by
    refine Ev.step (f := fun _ => (runs_Make.f acc).bind fun t => some t) (fun k => by simp only [runs_Of.l0]; rw [if_neg (at_end p)]) (Ev.bind (Make_f (by simpa using ha)) ?_)
    simp
    exact Ev.now _
  | r :: t, p, acc, hn, ha => by
    have ih := Of_l0 t (p ++ [r]) (acc ++ [single r]) (by rw [← at_app]; exact hn) (by simp at ha ⊢; omega)
    rw [← at_app] at ih
    refine Ev.step (fun k => ?_) (show Ev _ (norm (acc ++ (r :: t).map single)) by rw [show acc ++ (r :: t).map single = (acc ++ [single r]) ++ t.map single by simp]; exact ih)
    simp only [runs_Of.l0]
    rw [if_pos (at_lt p r t), if_pos (at_0 p), if_pos (at_lt p r t), if_pos (by omega), at_rdi, at_next (show (p ++ r :: t).length ≤ _ by omega)]
    rfl
theorem Of_f (l : List Int) (hn : l.length < 4398046511104) : Ev (fun k => runs_Of.f k l) (norm (l.map single)) := by
  exact Of_l0 l [] [] (by simp; omega) (by simpa using hn)
theorem Same_l0 : ∀ (t u p q : List S25), (p ++ t).length ≤ 4611686018427387904 → p.length = q.length → t.length = u.length →
    ∃ b, Ev (fun k => lustrumref04_Same.l0 k (p ++ t) (q ++ u) (p.length : Int)) b ∧ (b = true ↔ t = u)
  | [], [], p, q, _, _, _ => ⟨true, Ev.step (f := fun _ => some true) (fun k => by simp only [lustrumref04_Same.l0]; rw [if_neg (at_end p)]) (Ev.now _), by simp⟩
  | [], y :: u, _, _, _, _, h => by simp at h
  | x :: t, [], _, _, _, _, h => by simp at h
  | x :: t, y :: u, p, q, hn, hl, h => by
    by_cases c : x.f0 = y.f0 ∧ x.f1 = y.f1
    · obtain ⟨b, hb, hs⟩ := Same_l0 t u (p ++ [x]) (q ++ [y]) (by rw [← at_app]; exact hn) (by simp [hl]) (by simpa using h)
      rw [← at_app, ← at_app] at hb
      refine ⟨b, Ev.step (fun k => ?_) hb, ?_⟩
      · simp only [lustrumref04_Same.l0]
        rw [if_pos (at_lt p x t), if_pos (at_0 p), if_pos (by rw [hl]; exact at_lt q y u), at_rd, show rd_T25 (q ++ y :: u) (p.length : Int) = y by rw [hl]; exact at_rd q y u, if_neg (by simp [c.1, c.2]), at_next hn]
      · rw [hs, show x = y from S25.ext2 c.1 c.2]; simp
    · refine ⟨false, Ev.step (f := fun _ => some false) (fun k => ?_) (Ev.now _), ?_⟩
      · simp only [lustrumref04_Same.l0]
        rw [if_pos (at_lt p x t), if_pos (at_0 p), if_pos (by rw [hl]; exact at_lt q y u), at_rd, show rd_T25 (q ++ y :: u) (p.length : Int) = y by rw [hl]; exact at_rd q y u, if_pos]
        by_cases h0 : x.f0 = y.f0
        · simp [h0]; exact fun h1 => c ⟨h0, h1⟩
        · simp [h0]
      · constructor
        · intro h; simp at h
        · intro h
          obtain ⟨rfl, _⟩ := List.cons.inj h
          exact absurd ⟨rfl, rfl⟩ c
theorem Same_f (s t : List S25) (hn : s.length ≤ 4611686018427387904) : ∃ b, Ev (fun k => lustrumref04_Same.f k s t) b ∧ (b = true ↔ s = t) := by
  by_cases c : s.length = t.length
  · obtain ⟨b, hb, hs⟩ := Same_l0 s t [] [] (by simpa using hn) rfl c
    exact ⟨b, Ev.congr (fun k => by unfold lustrumref04_Same.f; rw [if_pos (by rw [c])]; rfl) hb, hs⟩
  · exact ⟨false, Ev.congr (fun k => by unfold lustrumref04_Same.f; rw [if_neg (by omega)]) (Ev.now _), by simp; intro h; exact c (by rw [h])⟩
theorem Same_t {s t : List S25} (hn : s.length ≤ 4611686018427387904) (h : s = t) : Ev (fun k => lustrumref04_Same.f k s t) true := by
  obtain ⟨b, hb, hs⟩ := Same_f s t hn
  rwa [hs.2 h] at hb
end Go.Proofs.Ytkbcmjejfbbcpaa.A

namespace Go.Proofs.Ytkbcmjejfbbcpaa.A
open Go.RowKit Go.Proofs.YtkbcmjejfbbcpaaW.PrintWords Go.Proofs.YtkbcmjejfbbcpaaW.PrintLast Go.Proofs.YtkbcmjejfbbcpaaW.PrintMore
set_option linter.unusedVariables false
def endsAt (p : List S25) (b : Int) : Prop := (p = [] ∧ b = -lim - 2) ∨ ∃ q s, p = q ++ [s] ∧ b = s.f1 ∧ -lim ≤ b
theorem rSane_l0 : ∀ (t p : List S25) (b : Int), (p ++ t).length ≤ 4611686018427387904 → endsAt p b → b ≤ lim →
    ∃ r, Ev (fun k => lustrumref04_Sane.l0 k (p ++ t) (p.length : Int)) r ∧ (r = true ↔ saneF b t)
  | [], p, b, _, _, _ => ⟨true, Ev.step (f := fun _ => some true) (fun k => by simp only [lustrumref04_Sane.l0]; rw [if_neg (at_end p)]) (Ev.now true), by simp [saneF]⟩
  | x :: t, p, b, hn, he, hb => by
    have hlen : p.length + 1 ≤ 4611686018427387904 := by simp at hn; omega
    have e : ∀ k, lustrumref04_Sane.l0 (k + 1) (p ++ x :: t) (p.length : Int) = (if x.f0 > x.f1 then some false else if x.f0 < -1099511627776 then some false else if x.f1 > 1099511627776 then some false else if p ≠ [] ∧ x.f0 - 1 ≤ b then some false else lustrumref04_Sane.l0 k (p ++ x :: t) ((p ++ [x]).length : Int)) := fun k => by
      simp only [lustrumref04_Sane.l0]
      rw [if_pos (at_lt p x t), if_pos (at_0 p), at_rd, at_next hn]
      by_cases c1 : x.f0 > x.f1
      · rw [if_pos c1, if_pos c1]
      rw [if_neg c1, if_neg c1]
      by_cases c2 : x.f0 < -1099511627776
      · rw [if_pos c2, if_pos c2]
      rw [if_neg c2, if_neg c2]
      by_cases c3 : x.f1 > 1099511627776
      · rw [if_pos c3, if_pos c3]
      rw [if_neg c3, if_neg c3]
      rcases he with ⟨rfl, rfl⟩ | ⟨q, s, rfl, rfl, hs⟩
      · rw [if_neg (by simp), if_neg (by simp)]
      · have hql : (q ++ [s]).length = q.length + 1 := by simp
        rw [if_pos (by omega), w64 (by omega) (by omega), show (((q ++ [s]).length : Nat) : Int) - 1 = (q.length : Int) by omega, if_pos (by omega), if_pos (by simp; omega), w64 (by omega) (by omega),
          show rd_T25 (q ++ [s] ++ x :: t) (q.length : Int) = s by rw [List.append_assoc]; exact at_rd q s _]
        by_cases c4 : x.f0 - 1 ≤ s.f1
        · rw [if_pos c4, if_pos ⟨by simp, c4⟩]
        · rw [if_neg c4, if_neg (fun h => c4 h.2)]
    have hb2 : p = [] ∨ -lim ≤ b := by rcases he with ⟨h, _⟩ | ⟨_, _, _, _, h⟩; exact .inl h; exact .inr h
    have hb3 : p = [] → b = -lim - 2 := fun h => by rcases he with ⟨_, h⟩ | ⟨q, s, h', _⟩; exact h; rw [h] at h'; simp at h'
    by_cases c1 : x.f0 > x.f1
    · exact ⟨false, Ev.step (f := fun _ => some false) (fun k => by rw [e, if_pos c1]) (Ev.now _), by simp [saneF]; omega⟩
    by_cases c2 : x.f0 < -1099511627776
    · exact ⟨false, Ev.step (f := fun _ => some false) (fun k => by rw [e, if_neg c1, if_pos c2]) (Ev.now _), by simp [saneF]; unfold lim at *; intro h; rcases hb2 with h2 | h2; have := hb3 h2; omega; omega⟩
    by_cases c3 : x.f1 > 1099511627776
    · exact ⟨false, Ev.step (f := fun _ => some false) (fun k => by rw [e, if_neg c1, if_neg c2, if_pos c3]) (Ev.now _), by simp [saneF, lim]; omega⟩
    by_cases c4 : p ≠ [] ∧ x.f0 - 1 ≤ b
    · exact ⟨false, Ev.step (f := fun _ => some false) (fun k => by rw [e, if_neg c1, if_neg c2, if_neg c3, if_pos c4]) (Ev.now _), by simp [saneF]; omega⟩
    obtain ⟨r, hr, hs⟩ := rSane_l0 t (p ++ [x]) x.f1 (by rw [← at_app]; exact hn) (.inr ⟨p, x, rfl, rfl, by unfold lim; omega⟩) (by unfold lim; omega)
    rw [← at_app] at hr
    refine ⟨r, Ev.step (fun k => by rw [e, if_neg c1, if_neg c2, if_neg c3, if_neg c4]) hr, ?_⟩
    rw [hs, saneF]
    unfold lim at *
    refine ⟨fun h => ⟨?_, by omega, by omega, h⟩, fun h => h.2.2.2⟩
    by_cases hp : p = []
    · have := hb3 hp; omega
    · have : ¬ x.f0 - 1 ≤ b := fun h' => c4 ⟨hp, h'⟩
      omega
theorem rSane_f (l : List S25) (hn : l.length ≤ 4611686018427387904) : ∃ b, Ev (fun k => lustrumref04_Sane.f k l) b ∧ (b = true ↔ sane l) :=
  rSane_l0 l [] (-lim - 2) (by simpa using hn) (.inl ⟨rfl, rfl⟩) (by unfold lim; omega)
theorem put_after (x : S25) (hx1 : -lim ≤ x.f0) (hx2 : x.f0 ≤ x.f1) (hx3 : x.f1 ≤ lim) : ∀ (t p B A : List S25), (p ++ t).length < 4398046511104 → B.length + A.length + t.length < 4398046511104 → (∀ q, q ∈ t → x.f1 + 1 < q.f0 ∧ q.f0 ≤ q.f1) →
    Ev (fun k => lustrumref04_put.l0 k (p ++ t) B A (p.length : Int) x.f0 x.f1) (B ++ [x] ++ A ++ t)
  | [], p, B, A, hn, hl, _ => by
    refine Ev.step (f := fun _ => some (B ++ [x] ++ A ++ [])) (fun k => ?_) (Ev.now _)
    simp only [lustrumref04_put.l0]
    simp at hl
    rw [if_neg (at_end p), if_pos (by omega), Option.bind_some, if_pos (by simp; omega)]
    simp
  | q :: t, p, B, A, hn, hl, h => by
    obtain ⟨h1, h2⟩ := h q List.mem_cons_self
    have ih := put_after x hx1 hx2 hx3 t (p ++ [q]) B (A ++ [q]) (by rw [← at_app]; exact hn) (by simp at hl ⊢; omega) (fun r hr => h r (List.mem_cons_of_mem _ hr))
    rw [← at_app] at ih
    refine Ev.step (fun k => ?_) (show Ev _ (B ++ [x] ++ A ++ q :: t) by rw [show B ++ [x] ++ A ++ q :: t = B ++ [x] ++ (A ++ [q]) ++ t by simp]; exact ih)
    unfold lim at hx1 hx3
    simp only [lustrumref04_put.l0]
    rw [if_pos (at_lt p q t), if_pos (at_0 p), at_rd, at_next (show (p ++ q :: t).length ≤ _ by omega), w64 (x := x.f0 - 1) (by omega) (by omega), w64 (x := x.f1 + 1) (by omega) (by omega), if_neg (by omega), if_pos (by omega), if_pos (by simp at hl; omega)]
theorem saneF_all : ∀ {a : Int} {l : List S25}, saneF a l → ∀ q, q ∈ l → a + 2 ≤ q.f0 ∧ q.f0 ≤ q.f1 ∧ q.f1 ≤ lim
  | _, [], _, q, h => by simp at h
  | a, r :: t, ⟨h1, h2, h3, h4⟩, q, hq => by
    rcases List.mem_cons.1 hq with rfl | hq
    · exact ⟨h1, h2, h3⟩
    · have := saneF_all h4 q hq; omega
theorem put_l0 : ∀ (t p B : List S25) (x : S25) (a : Int), -lim ≤ x.f0 → x.f0 ≤ x.f1 → x.f1 ≤ lim → (p ++ t).length < 4398046511104 → B.length + t.length < 4398046511104 → saneF a t → -lim - 2 ≤ a →
    Ev (fun k => lustrumref04_put.l0 k (p ++ t) B [] (p.length : Int) x.f0 x.f1) (B ++ ins x t)
  | [], p, B, x, a, hx1, hx2, hx3, hn, hl, _, _ => by
    have h := put_after x hx1 hx2 hx3 [] p B [] hn (by simpa using hl) (fun q h => by simp at h)
    simpa [ins] using h
  | q :: t, p, B, x, a, hx1, hx2, hx3, hn, hl, ⟨s1, s2, s3, s4⟩, ha => by
    unfold ins
    by_cases c1 : q.f1 < x.f0 - 1
    · rw [if_pos c1]
      have ih := put_l0 t (p ++ [q]) (B ++ [q]) x q.f1 hx1 hx2 hx3 (by rw [← at_app]; exact hn) (by simp at hl ⊢; omega) s4 (by omega)
      rw [← at_app] at ih
      refine Ev.step (fun k => ?_) (show Ev _ (B ++ q :: ins x t) by rw [show B ++ q :: ins x t = (B ++ [q]) ++ ins x t by simp]; exact ih)
      unfold lim at hx1 hx3
      simp only [lustrumref04_put.l0]
      rw [if_pos (at_lt p q t), if_pos (at_0 p), at_rd, at_next (show (p ++ q :: t).length ≤ _ by omega), w64 (x := x.f0 - 1) (by omega) (by omega), if_pos (by omega), if_pos (by simp at hl; omega)]
    · rw [if_neg c1]
      by_cases c2 : x.f1 + 1 < q.f0
      · rw [if_pos c2]
        have h := put_after x hx1 hx2 hx3 (q :: t) p B [] hn (by simpa using hl) (fun r hr => by
          rcases List.mem_cons.1 hr with rfl | hr
          · exact ⟨c2, s2⟩
          · have := saneF_all s4 r hr; omega)
        simpa using h
      · rw [if_neg c2]
        have ih := put_l0 t (p ++ [q]) B ⟨min x.f0 q.f0, max x.f1 q.f1⟩ q.f1 (by simp only; omega) (by simp only; omega) (by simp only; omega) (by rw [← at_app]; exact hn) (by simp at hl ⊢; omega) s4 (by omega)
        rw [← at_app] at ih
        refine Ev.step (fun k => ?_) ih
        unfold lim at hx1 hx3
        simp only [lustrumref04_put.l0]
        rw [if_pos (at_lt p q t), if_pos (at_0 p), at_rd, at_next (show (p ++ q :: t).length ≤ _ by omega), w64 (x := x.f0 - 1) (by omega) (by omega), w64 (x := x.f1 + 1) (by omega) (by omega), if_neg (by omega), if_neg (by omega), mn_min, mx_max]
theorem put_f {s : List S25} (hs : sane s) (hn : s.length < 4398046511104) (lo hi : Int) : Ev (fun k => lustrumref04_put.f k s lo hi) (step s ⟨lo, hi⟩) := by
  unfold step clamp lustrumref04_put.f
  simp only [mx_max, mn_min]
  by_cases c : max lo (-lim) ≤ min hi lim
  · have h := put_l0 s [] [] ⟨max lo (-lim), min hi lim⟩ (-lim - 2) (by simp only; omega) c (by simp only; omega) (by simpa using hn) (by simpa using hn) hs (Int.le_refl _)
    rw [if_pos c]
    unfold lim at c
    refine Ev.congr (fun k => ?_) h
    rw [if_neg (by omega)]
    rfl
  · rw [if_neg c]
    unfold lim at c
    exact Ev.congr (fun k => by rw [if_pos (by omega)]) (Ev.now _)
theorem step_len (s : List S25) (r : S25) : (step s r).length ≤ s.length + 1 := by unfold step; split; exact ins_len _ _; omega
theorem rMake_l0 : ∀ (t p s : List S25), (p ++ t).length < 4398046511104 → s.length + t.length < 4398046511104 → sane s →
    Ev (fun k => lustrumref04_Make.l0 k (p ++ t) s (p.length : Int)) (t.foldl step s)
  | [], p, s, _, _, _ => Ev.step (f := fun _ => some s) (fun k => by simp only [lustrumref04_Make.l0]; rw [if_neg (at_end p)]) (Ev.now _)
  | r :: t, p, s, hn, hl, hs => by
    have ih := rMake_l0 t (p ++ [r]) (step s r) (by rw [← at_app]; exact hn) (by have := step_len s r; simp at hl; omega) (step_sane hs r)
    rw [← at_app] at ih
    refine Ev.step (fun k => ?_) (Ev.bind (f := fun k t284 => lustrumref04_Make.l0 k (p ++ r :: t) t284 ((p ++ [r]).length : Int)) (put_f hs (by simp at hl; omega) r.f0 r.f1) ih)
    simp only [lustrumref04_Make.l0]
    rw [if_pos (at_lt p r t), if_pos (at_0 p), at_rd, at_next (show (p ++ r :: t).length ≤ _ by omega)]
theorem rMake_f (l : List S25) (hn : l.length < 4398046511104) : Ev (fun k => lustrumref04_Make.f k l) (norm l) :=
  rMake_l0 l [] [] (by simpa using hn) (by simpa using hn) trivial
theorem rOf_l0 : ∀ (t p : List Int) (s : List S25), (p ++ t).length < 4398046511104 → s.length + t.length < 4398046511104 → sane s →
    Ev (fun k => lustrumref04_Of.l0 k (p ++ t) s (p.length : Int)) ((t.map single).foldl step s)
  | [], p, s, _, _, _ => Ev.step (f := fun _ => some s) (fun k => by simp only [lustrumref04_Of.l0]; rw [if_neg (at_end p)]) (Ev.now _)
  | r :: t, p, s, hn, hl, hs => by
    have ih := rOf_l0 t (p ++ [r]) (step s (single r)) (by rw [← at_app]; exact hn) (by have := step_len s (single r); simp at hl; omega) (step_sane hs _)
    rw [← at_app] at ih
    refine Ev.step (fun k => ?_) (Ev.bind (f := fun k t284 => lustrumref04_Of.l0 k (p ++ r :: t) t284 ((p ++ [r]).length : Int)) (put_f hs (by simp at hl; omega) r r) ih)
    simp only [lustrumref04_Of.l0]
    rw [if_pos (at_lt p r t), if_pos (at_0 p), at_rdi, at_next (show (p ++ r :: t).length ≤ _ by omega)]
theorem rOf_f (l : List Int) (hn : l.length < 4398046511104) : Ev (fun k => lustrumref04_Of.f k l) (norm (l.map single)) :=
  rOf_l0 l [] [] (by simpa using hn) (by simpa using hn) trivial
theorem As_f (l : List S25) (hn : l.length < 4398046511104) : Ev (fun k => lustrumref04_As.f k l) (norm l) := by
  obtain ⟨b, hb, hs⟩ := rSane_f l (by omega)
  refine Ev.bind hb ?_
  cases b with
  | true => exact Ev.congr (fun k => by rw [if_pos rfl, norm_of_sane (hs.1 rfl)]) (Ev.now (norm l))
  | false => exact Ev.congr (f := fun k => (lustrumref04_Make.f k l).bind fun t => some t) (fun k => by rw [if_neg (by simp)]) (Ev.bind (rMake_f l hn) (Ev.now _))
theorem rHas_l0 (n : Int) : ∀ (t p : List S25), (p ++ t).length < 4398046511104 → ∃ b, Ev (fun k => lustrumref04_Has.l0 k n (p ++ t) (p.length : Int)) b ∧ (b = true ↔ mem t n)
  | [], p, _ => ⟨false, Ev.step (f := fun _ => some false) (fun k => by simp only [lustrumref04_Has.l0]; rw [if_neg (at_end p)]) (Ev.now _), by simp [mem_nil]⟩
  | r :: t, p, hn => by
    by_cases c : r.f0 ≤ n ∧ n ≤ r.f1
    · refine ⟨true, Ev.step (f := fun _ => some true) (fun k => ?_) (Ev.now _), by rw [mem_cons]; simp [c]⟩
      simp only [lustrumref04_Has.l0]
      rw [if_pos (at_lt p r t), if_pos (at_0 p), at_rd, if_pos c.1, if_pos c.2]
    · obtain ⟨b, hb, hs⟩ := rHas_l0 n t (p ++ [r]) (by rw [← at_app]; exact hn)
      rw [← at_app] at hb
      refine ⟨b, Ev.step (fun k => ?_) hb, by rw [mem_cons, hs]; simp [c]⟩
      simp only [lustrumref04_Has.l0]
      rw [if_pos (at_lt p r t), if_pos (at_0 p), at_rd, at_next (show (p ++ r :: t).length ≤ _ by omega)]
      by_cases c1 : n ≥ r.f0
      · rw [if_pos c1, if_neg (fun h => c ⟨c1, h⟩)]
      · rw [if_neg c1]
theorem rHas_f (l : List S25) (hn : l.length < 4398046511104) (n : Int) : ∃ b, Ev (fun k => lustrumref04_Has.f k l n) b ∧ (b = true ↔ mem (norm l) n) := by
  obtain ⟨b, hb, hs⟩ := rHas_l0 n (norm l) [] (by have := norm_len l; simp; omega)
  exact ⟨b, Ev.bind (As_f l hn) hb, hs⟩
theorem rCount_l0 : ∀ (t p : List S25) (a b : Int), (p ++ t).length ≤ 4611686018427387904 → saneF b t → -lim - 2 ≤ b → b ≤ lim → 0 ≤ a → a ≤ b + lim + 2 →
    Ev (fun k => lustrumref04_Count.l0 k (p ++ t) a (p.length : Int)) (a + cnt t)
  | [], p, a, b, _, _, _, _, _, _ => Ev.step (f := fun _ => some (a + cnt [])) (fun k => by simp only [lustrumref04_Count.l0]; rw [if_neg (at_end p)]; simp [cnt]) (Ev.now _)
  | r :: t, p, a, b, hn, ⟨s1, s2, s3, s4⟩, h1, h2, h3, h4 => by
    have ih := rCount_l0 t (p ++ [r]) (a + r.f1 - r.f0 + 1) r.f1 (by rw [← at_app]; exact hn) s4 (by omega) s3 (by omega) (by omega)
    rw [← at_app] at ih
    refine Ev.step (fun k => ?_) (show Ev _ (a + cnt (r :: t)) by rw [show a + cnt (r :: t) = a + r.f1 - r.f0 + 1 + cnt t by show a + (_ + _) = _; omega]; exact ih)
    unfold lim at h1 h2 s3 h4
    simp only [lustrumref04_Count.l0]
    rw [if_pos (at_lt p r t), if_pos (at_0 p), at_rd, at_next hn, w64 (x := a + r.f1) (by omega) (by omega), w64 (x := a + r.f1 - r.f0) (by omega) (by omega), w64 (by omega) (by omega)]
theorem rCount_f (l : List S25) (hn : l.length < 4398046511104) : Ev (fun k => lustrumref04_Count.f k l) (cnt (norm l)) := by
  have h := rCount_l0 (norm l) [] 0 (-lim - 2) (by have := norm_len l; simp; omega) (norm_sane l) (Int.le_refl _) (by unfold lim; omega) (Int.le_refl _) (by unfold lim; omega)
  rw [Int.zero_add] at h
  exact Ev.bind (As_f l hn) h
theorem rNext_l0 (n : Int) : ∀ (t p : List S25) (a : Int), (p ++ t).length < 4398046511104 → saneF a (p ++ t) → (∀ q, q ∈ p → q.f1 < n) →
    ∃ r, Ev (fun k => lustrumref04_Next.l0 k n (p ++ t) (p.length : Int)) r ∧ nextOf (p ++ t) n r
  | [], p, a, _, _, h => ⟨(0, false), Ev.step (f := fun _ => some (0, false)) (fun k => by simp only [lustrumref04_Next.l0]; rw [if_neg (at_end p)]) (Ev.now _), nextOf_none (by simpa using h)⟩
  | x :: t, p, a, hn, hs, h => by
    by_cases c : x.f1 ≥ n
    · refine ⟨(max n x.f0, true), Ev.step (f := fun _ => some (max n x.f0, true)) (fun k => ?_) (Ev.now _), nextOf_at hs h c⟩
      simp only [lustrumref04_Next.l0]
      rw [if_pos (at_lt p x t), if_pos (at_0 p), at_rd, if_pos c, mx_max]
    · obtain ⟨r, hr, hh⟩ := rNext_l0 n t (p ++ [x]) a (by rw [← at_app]; exact hn) (by rw [← at_app]; exact hs) (fun q hq => by
        rcases List.mem_append.1 hq with hq | hq
        · exact h q hq
        · rw [List.mem_singleton.1 hq]; omega)
      rw [← at_app] at hr hh
      refine ⟨r, Ev.step (fun k => ?_) hr, hh⟩
      simp only [lustrumref04_Next.l0]
      rw [if_pos (at_lt p x t), if_pos (at_0 p), at_rd, if_neg c, at_next (show (p ++ x :: t).length ≤ _ by omega)]
theorem rNext_f (l : List S25) (hn : l.length < 4398046511104) (n : Int) : ∃ r, Ev (fun k => lustrumref04_Next.f k l n) r ∧ nextOf (norm l) n r := by
  obtain ⟨r, hr, h⟩ := rNext_l0 n (norm l) [] (-lim - 2) (by have := norm_len l; simp; omega) (norm_sane l) (fun q hq => by simp at hq)
  exact ⟨r, Ev.bind (As_f l hn) hr, h⟩
theorem rPrev_l0 (n : Int) : ∀ (m : Nat) (p t : List S25) (a : Int), p.length = m → (p ++ t).length < 4398046511104 → saneF a (p ++ t) → (∀ q, q ∈ t → n < q.f0) →
    ∃ r, Ev (fun k => lustrumref04_Prev.l0 k n (p ++ t) ((p.length : Int) - 1)) r ∧ prevOf (p ++ t) n r
  | 0, p, t, a, hp, _, hs, h => by
    obtain rfl : p = [] := List.eq_nil_of_length_eq_zero hp
    refine ⟨(0, false), Ev.step (f := fun _ => some (0, false)) (fun k => by simp only [lustrumref04_Prev.l0]; rw [if_neg (by simp)]) (Ev.now _), .inr ⟨rfl, fun m ⟨r, hr, h1, h2⟩ => ?_⟩⟩
    have := h r (by simpa using hr)
    omega
  | m + 1, p, t, a, hp, hn, hs, h => by
    obtain ⟨q, x, rfl⟩ : ∃ q x, p = q ++ [x] := by
      rcases List.eq_nil_or_concat p with h | ⟨q, x, h⟩
      · rw [h] at hp; simp at hp
      · exact ⟨q, x, by rw [h, List.concat_eq_append]⟩
    have hql : (q ++ [x]).length = q.length + 1 := by simp
    have e1 : (((q ++ [x]).length : Nat) : Int) - 1 = (q.length : Int) := by omega
    have e2 : q ++ [x] ++ t = q ++ x :: t := by simp
    rw [e1, e2]
    rw [e2] at hn hs
    by_cases c : x.f0 ≤ n
    · refine ⟨(min n x.f1, true), Ev.step (f := fun _ => some (min n x.f1, true)) (fun k => ?_) (Ev.now _), ?_⟩
      · simp only [lustrumref04_Prev.l0]
        rw [if_pos (at_0 q), if_pos (at_0 q), if_pos (at_lt q x t), at_rd, if_pos c, mn_min]
      · obtain ⟨b, ⟨s1, s2, s3, s4⟩, _, s5⟩ := saneF_tail hs
        refine .inl ⟨rfl, ⟨x, by simp, by simp only; omega, by simp only; omega⟩, by simp only; omega, fun m h1 h2 => ?_⟩
        simp only
        rcases (mem_append _ _ _).1 h1 with ⟨r, hr, h3, h4⟩ | h3
        · have := s5 r hr; omega
        · rcases (mem_cons _ _ _).1 h3 with h3 | ⟨r, hr, h3, h4⟩
          · omega
          · have := h r hr; omega
    · obtain ⟨r, hr, hh⟩ := rPrev_l0 n m q (x :: t) a (by omega) hn hs (fun y hy => by
        rcases List.mem_cons.1 hy with rfl | hy
        · omega
        · exact h y hy)
      have hq : q.length < 4398046511104 := by simp at hn; omega
      refine ⟨r, Ev.step (fun k => ?_) hr, hh⟩
      simp only [lustrumref04_Prev.l0]
      rw [if_pos (at_0 q), if_pos (at_0 q), if_pos (at_lt q x t), at_rd, if_neg c, w64 (by omega) (by omega)]
theorem rPrev_f (l : List S25) (hn : l.length < 4398046511104) (n : Int) : ∃ r, Ev (fun k => lustrumref04_Prev.f k l n) r ∧ prevOf (norm l) n r := by
  have hl := norm_len l
  obtain ⟨r, hr, h⟩ := rPrev_l0 n (norm l).length (norm l) [] (-lim - 2) rfl (by simp; omega) (by rw [List.append_nil]; exact norm_sane l) (fun q hq => by simp at hq)
  rw [List.append_nil] at hr h
  refine ⟨r, Ev.bind (As_f l hn) (Ev.congr (fun k => ?_) hr), h⟩
  rw [w64 (by omega) (by omega)]
end Go.Proofs.Ytkbcmjejfbbcpaa.A

namespace Go.Proofs.Ytkbcmjejfbbcpaa.A
open Go.RowKit Go.Proofs.YtkbcmjejfbbcpaaW.PrintWords Go.Proofs.YtkbcmjejfbbcpaaW.PrintLast Go.Proofs.YtkbcmjejfbbcpaaW.PrintMore
set_option linter.unusedVariables false
theorem awake4 : Ev (fun k => lustrumlaw04_awake.f k) true := Ev.of lustrumlaw04_awake.mono (k := 8) (by decide +kernel)
theorem RunsIs_j1 (l : List S25) (m : List Int) (n : Int) (hl : l.length ≤ 40) (hm : m.length ≤ 40) : Ev (fun k => lustrumlaw04_RunsIs.j1 k l m n true false) true := by
  refine Ev.step (fun k => by rw [lustrumlaw04_RunsIs.j1]) ?_
  refine Ev.iff_ (by simp) (Ev.ift rfl ?_)
  obtain ⟨b1, h1, s1⟩ := Sane_f l (by omega)
  obtain ⟨b2, h2, s2⟩ := rSane_f l (by omega)
  obtain ⟨b3, h3, s3⟩ := Has_f l (by omega) n
  obtain ⟨b4, h4, s4⟩ := rHas_f l (by omega) n
  have e1 : b1 = b2 := by rw [Bool.eq_iff_iff, s1, s2]
  have e3 : b3 = b4 := by rw [Bool.eq_iff_iff, s3, s4]
  subst e1; subst e3
  have hn1 := norm_len l
  have hn2 := norm_len (m.map single)
  rw [List.length_map] at hn2
  exact Ev.bind h1 (Ev.bind h2 (Ev.ift (by simp) (Ev.bind (Make_f (l := l) (by omega)) (Ev.bind (rMake_f l (by omega)) (Ev.bind (Same_t (by omega) rfl) (Ev.ift rfl (Ev.bind (Of_f m (by omega)) (Ev.bind (rOf_f m (by omega)) (Ev.bind (Same_t (by omega) rfl) (Ev.ift rfl
    (Ev.bind h3 (Ev.bind h4 (Ev.ift (by simp) (Ev.bind (Count_f l (by omega)) (Ev.bind (rCount_f l (by omega)) (Ev.eq (Ev.now _) (by simp)))))))))))))))))
theorem RunsIs_t (l : List S25) (m : List Int) (n : Int) : Ev (fun k => lustrumlaw04_RunsIs.f k l m n) true := by
  refine Ev.bind awake4 ?_
  have hj : ∀ b, (b = false → l.length ≤ 40 ∧ m.length ≤ 40) → Ev (fun k => lustrumlaw04_RunsIs.j0 k l m n true b) true := fun b hb => by
    refine Ev.step (fun k => by rw [lustrumlaw04_RunsIs.j0]) ?_
    cases b with
    | true => exact Ev.ift rfl (Ev.now _)
    | false =>
      obtain ⟨h1, h2⟩ := hb rfl
      obtain ⟨r1, g1, s1⟩ := Next_f l (by omega) n
      obtain ⟨r2, g2, s2⟩ := rNext_f l (by omega) n
      obtain ⟨q1, k1, u1⟩ := Prev_f l (by omega) n
      obtain ⟨q2, k2, u2⟩ := rPrev_f l (by omega) n
      obtain rfl := nextOf_one s1 s2
      obtain rfl := prevOf_one u1 u2
      refine Ev.iff_ (by simp) (Ev.bind g1 (Ev.bind g2 (Ev.bind k1 (Ev.bind k2 (Ev.ift rfl (Ev.iff_ (by simp) (Ev.ift rfl ?_)))))))
      rw [bne_self_eq_false]
      exact RunsIs_j1 l m n h1 h2
  by_cases c : l.length ≤ 40
  · refine Ev.iff_ (by omega) (hj _ fun h => ⟨c, ?_⟩)
    have := of_decide_eq_false h
    omega
  · exact Ev.ift (by omega) (hj true (by simp))
section
variable (l : List Int) (n : Int) (hl : l.length ≤ 40)
include hl
end
end Go.Proofs.Ytkbcmjejfbbcpaa.A
