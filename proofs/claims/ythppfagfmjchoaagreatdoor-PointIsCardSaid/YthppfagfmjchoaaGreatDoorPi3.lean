/- Walks of functions, and plain facts about what they compute. No conditions. -/
import Derived.Test.YthppfagfmjchoaaGreatDoorPi2
set_option linter.unusedVariables false
set_option linter.unusedSimpArgs false
namespace Go.Proofs.YthppfagfmjchoaaGreatDoor.A
open Go.RowKit Go.Proofs.YthppfagfmjchoaaGreatDoorW.PrintWords Go.Proofs.YthppfagfmjchoaaGreatDoorW.PrintLast Go.Proofs.YthppfagfmjchoaaGreatDoorW.PrintMore
attribute [local go_sem] max2_int min2_int max_two min_two max_three min_three max_four min_four
set_option maxHeartbeats 8000000 in
set_option maxRecDepth 100000 in
theorem lustrumref03_First.calls (k : Nat) (a0 a1 r1 : Int) (r2 : Bool) (w : World) (h : lustrumref03_First.f k a0 a1 = some (r1, r2)) :
  Calls Tryz.prog 122 #[.int .i64 a0, .int .i64 a1] w fun e w' => e = .returned (.tuple #[.int .i64 r1, .bool r2]) ∧ Drawn0 w w' := by
 have H : (if a1 < 0 then (lustrumref03_First.j0 k a0 a1 true) else ((lustrumref03_Count.f a0).bind fun t284 => (lustrumref03_First.j0 k a0 a1 (decide (a1 ≥ t284))))) = some (r1, r2) := h; clear h; have HC3 := A_ H; clear H; go_enter Tryz.func122, Tryz.ntmps122; go_upto_region 1 with (fail); go_cut [13] (fun v13 wc => ∃ (kq : Nat) (x13_2 : Bool), v13 = .bool x13_2 ∧ Aside0 (lustrumref03_First.j0 kq a0 a1 x13_2 = some (r1, r2)) ∧ Aside0 (kq ≤ k) ∧ Drawn0 w wc)
 case first =>
  have H := HC3.out; clear HC3
  obtain ⟨c4b0, H⟩ | ⟨c4b0, H⟩ := ic_ H
  ·(first | rw [c4b0] | (simp only [i64_w, i32_w]; rw [c4b0]) | skip); have H' := A_ H; clear H; go_wp2; go_meet
   case rel => exact ⟨_, (true), rf_, H', ⟨by first | omega | exact Nat.le_refl _⟩, by repeat (first | exact Drawn0.refl _ | apply Drawn0.step)⟩
  ·(first | rw [c4b0] | (simp only [i64_w, i32_w]; rw [c4b0]) | skip); obtain ⟨t284, A5, H⟩ := bi_ H; have H' := A_ H; clear H; go_wp2_with (first | (go_at_call 110; (with_reducible refine (lustrumref03_Count.calls a0 t284 _ A5.out).mono ?_); rintro e w' ⟨rfl, ⟨nd, rfl⟩⟩)); go_meet
   case rel => exact ⟨_, (decide (a1 ≥ t284)), rf_, H', ⟨by first | omega | exact Nat.le_refl _⟩, by repeat (first | exact Drawn0.refl _ | apply Drawn0.step)⟩
 case rest =>
  clear HC3; obtain ⟨kq, x13_2, rfl, HA, HJ2, ⟨mc2, rfl⟩⟩ := hcut
  cases kq with
  | zero => exact absurd HA.out (by simp [lustrumref03_First.j0])
  | succ kj2 =>
   have H := HA.out; clear HA; simp only [lustrumref03_First.j0] at H
   by_cases c6 : x13_2 = true
   ·subst c6
    (have H1 : (some (0, false)) = some (r1, r2) := by rw [if_pos rfl] at H; exact H); clear H; have H := H1; clear H1; simp only [Option.some.injEq, Prod.mk.injEq] at H; obtain ⟨rfl, rfl⟩ := H; go_wp2; go_ret2; exact ⟨by first | rfl | (simp; done) | (simp [*]; done), by repeat (first | exact Drawn0.refl _ | apply Drawn0.step)⟩
   ·replace c6 := Bool.eq_false_iff.mpr c6
    subst c6; (have H1 : (if a0 = 0 then (some (a1, true)) else (if a0 = 1 then ((lustrumref02_Number.f kj2 (wrap64 (Int.tdiv a1 12)) (wrap64 ((Int.tmod a1 12) + 1)) 1).bind fun bt285 => (some (bt285.1, bt285.2))) else (if a0 = 2 then ((lustrumref02_Number.f kj2 (wrap64 (Int.tdiv a1 4)) (wrap64 ((wrap64 ((Int.tmod a1 4) * 3)) + 3)) 1).bind fun bt287 => (some (bt287.1, bt287.2))) else (if a0 = 3 then ((lustrumref02_Number.f kj2 a1 1 1).bind fun bt289 => (some (bt289.1, bt289.2))) else (if a0 = 4 then ((lustrumref02_Number.f kj2 (wrap64 (a1 * 10)) 1 1).bind fun bt291 => (some (bt291.1, bt291.2))) else ((lustrumref02_Number.f kj2 (wrap64 (a1 * 100)) 1 1).bind fun bt293 => (some (bt293.1, bt293.2)))))))) = some (r1, r2) := by rw [if_neg (show ¬ (false = true) by decide)] at H; exact H); clear H; have H := H1; clear H1
    obtain ⟨c7b0, c7b1, H⟩ | ⟨c7, c7b0, c7b1, H⟩ := ie_ H
    ·simp only [Option.some.injEq, Prod.mk.injEq] at H; obtain ⟨rfl, rfl⟩ := H; go_wp2; go_ret2; exact ⟨by first | rfl | (simp; done) | (simp [*]; done), by repeat (first | exact Drawn0.refl _ | apply Drawn0.step)⟩
    ·obtain ⟨c8b0, c8b1, H⟩ | ⟨c8, c8b0, c8b1, H⟩ := ie_ H
     ·obtain ⟨⟨t285, t286⟩, A9, H⟩ := bi_ H; simp only [Option.some.injEq, Prod.mk.injEq] at H; obtain ⟨rfl, rfl⟩ := H; go_wp2_with (first | ((with_reducible refine gC 156 ?_); refine goesL_ (some 25) rfl rfl Tryz.func156 (by kernel_rfl) rfl #[.int .i64 (wrap64 (Int.tdiv a1 12)), .int .i64 (wrap64 ((Int.tmod a1 12) + 1)), .int .i64 1] rfl ml_ ?_; (with_reducible refine (lustrumref02_Number.calls kj2 (wrap64 (Int.tdiv a1 12)) (wrap64 ((Int.tmod a1 12) + 1)) 1 t285 t286 _ A9.out).mono ?_); rintro e w' ⟨rfl, ⟨nd, rfl⟩⟩; refine ⟨_, rfl, ?_⟩)); go_ret2; exact ⟨by first | rfl | (simp; done) | (simp [*]; done), by repeat (first | exact Drawn0.refl _ | apply Drawn0.step)⟩
     ·obtain ⟨c10b0, c10b1, H⟩ | ⟨c10, c10b0, c10b1, H⟩ := ie_ H
      ·obtain ⟨⟨t287, t288⟩, A11, H⟩ := bi_ H; simp only [Option.some.injEq, Prod.mk.injEq] at H; obtain ⟨rfl, rfl⟩ := H; go_wp2_with (first | ((with_reducible refine gC 156 ?_); refine goesL_ (some 36) rfl rfl Tryz.func156 (by kernel_rfl) rfl #[.int .i64 (wrap64 (Int.tdiv a1 4)), .int .i64 (wrap64 ((wrap64 ((Int.tmod a1 4) * 3)) + 3)), .int .i64 1] rfl ml_ ?_; (with_reducible refine (lustrumref02_Number.calls kj2 (wrap64 (Int.tdiv a1 4)) (wrap64 ((wrap64 ((Int.tmod a1 4) * 3)) + 3)) 1 t287 t288 _ A11.out).mono ?_); rintro e w' ⟨rfl, ⟨nd, rfl⟩⟩; refine ⟨_, rfl, ?_⟩)); go_ret2; exact ⟨by first | rfl | (simp; done) | (simp [*]; done), by repeat (first | exact Drawn0.refl _ | apply Drawn0.step)⟩
      ·obtain ⟨c12b0, c12b1, H⟩ | ⟨c12, c12b0, c12b1, H⟩ := ie_ H
       ·obtain ⟨⟨t289, t290⟩, A13, H⟩ := bi_ H; simp only [Option.some.injEq, Prod.mk.injEq] at H; obtain ⟨rfl, rfl⟩ := H; go_wp2_with (first | ((with_reducible refine gC 156 ?_); refine goesL_ (some 42) rfl rfl Tryz.func156 (by kernel_rfl) rfl #[.int .i64 a1, .int .i64 1, .int .i64 1] rfl ml_ ?_; (with_reducible refine (lustrumref02_Number.calls kj2 a1 1 1 t289 t290 _ A13.out).mono ?_); rintro e w' ⟨rfl, ⟨nd, rfl⟩⟩; refine ⟨_, rfl, ?_⟩)); go_ret2; exact ⟨by first | rfl | (simp; done) | (simp [*]; done), by repeat (first | exact Drawn0.refl _ | apply Drawn0.step)⟩
       ·obtain ⟨c14b0, c14b1, H⟩ | ⟨c14, c14b0, c14b1, H⟩ := ie_ H
        ·obtain ⟨⟨t291, t292⟩, A15, H⟩ := bi_ H; simp only [Option.some.injEq, Prod.mk.injEq] at H; obtain ⟨rfl, rfl⟩ := H; go_wp2_with (first | ((with_reducible refine gC 156 ?_); refine goesL_ (some 49) rfl rfl Tryz.func156 (by kernel_rfl) rfl #[.int .i64 (wrap64 (a1 * 10)), .int .i64 1, .int .i64 1] rfl ml_ ?_; (with_reducible refine (lustrumref02_Number.calls kj2 (wrap64 (a1 * 10)) 1 1 t291 t292 _ A15.out).mono ?_); rintro e w' ⟨rfl, ⟨nd, rfl⟩⟩; refine ⟨_, rfl, ?_⟩)); go_ret2; exact ⟨by first | rfl | (simp; done) | (simp [*]; done), by repeat (first | exact Drawn0.refl _ | apply Drawn0.step)⟩
        ·obtain ⟨⟨t293, t294⟩, A16, H⟩ := bi_ H; simp only [Option.some.injEq, Prod.mk.injEq] at H; obtain ⟨rfl, rfl⟩ := H; go_wp2_with (first | ((with_reducible refine gC 156 ?_); refine goesL_ (some 54) rfl rfl Tryz.func156 (by kernel_rfl) rfl #[.int .i64 (wrap64 (a1 * 100)), .int .i64 1, .int .i64 1] rfl ml_ ?_; (with_reducible refine (lustrumref02_Number.calls kj2 (wrap64 (a1 * 100)) 1 1 t293 t294 _ A16.out).mono ?_); rintro e w' ⟨rfl, ⟨nd, rfl⟩⟩; refine ⟨_, rfl, ?_⟩)); go_ret2; exact ⟨by first | rfl | (simp; done) | (simp [*]; done), by repeat (first | exact Drawn0.refl _ | apply Drawn0.step)⟩
set_option maxHeartbeats 8000000 in
set_option maxRecDepth 100000 in
theorem lustrumref03_Last.calls (k : Nat) (a0 a1 r1 : Int) (r2 : Bool) (w : World) (h : lustrumref03_Last.f k a0 a1 = some (r1, r2)) :
  Calls Tryz.prog 123 #[.int .i64 a0, .int .i64 a1] w fun e w' => e = .returned (.tuple #[.int .i64 r1, .bool r2]) ∧ Drawn0 w w' := by
 have H : (if a1 < 0 then (lustrumref03_Last.j0 k a0 a1 true) else ((lustrumref03_Count.f a0).bind fun t295 => (lustrumref03_Last.j0 k a0 a1 (decide (a1 ≥ t295))))) = some (r1, r2) := h; clear h; have HC3 := A_ H; clear H; go_enter Tryz.func123, Tryz.ntmps123; go_upto_region 1 with (fail); go_cut [15] (fun v15 wc => ∃ (kq : Nat) (x15_2 : Bool), v15 = .bool x15_2 ∧ Aside0 (lustrumref03_Last.j0 kq a0 a1 x15_2 = some (r1, r2)) ∧ Aside0 (kq ≤ k) ∧ Drawn0 w wc)
 case first =>
  have H := HC3.out; clear HC3
  obtain ⟨c4b0, H⟩ | ⟨c4b0, H⟩ := ic_ H
  ·(first | rw [c4b0] | (simp only [i64_w, i32_w]; rw [c4b0]) | skip); have H' := A_ H; clear H; go_wp2; go_meet
   case rel => exact ⟨_, (true), rf_, H', ⟨by first | omega | exact Nat.le_refl _⟩, by repeat (first | exact Drawn0.refl _ | apply Drawn0.step)⟩
  ·(first | rw [c4b0] | (simp only [i64_w, i32_w]; rw [c4b0]) | skip); obtain ⟨t295, A5, H⟩ := bi_ H; have H' := A_ H; clear H; go_wp2_with (first | (go_at_call 110; (with_reducible refine (lustrumref03_Count.calls a0 t295 _ A5.out).mono ?_); rintro e w' ⟨rfl, ⟨nd, rfl⟩⟩)); go_meet
   case rel => exact ⟨_, (decide (a1 ≥ t295)), rf_, H', ⟨by first | omega | exact Nat.le_refl _⟩, by repeat (first | exact Drawn0.refl _ | apply Drawn0.step)⟩
 case rest =>
  clear HC3; obtain ⟨kq, x15_2, rfl, HA, HJ2, ⟨mc2, rfl⟩⟩ := hcut
  cases kq with
  | zero => exact absurd HA.out (by simp [lustrumref03_Last.j0])
  | succ kj2 =>
   have H := HA.out; clear HA; simp only [lustrumref03_Last.j0] at H
   by_cases c6 : x15_2 = true
   ·subst c6
    (have H1 : (some (0, false)) = some (r1, r2) := by rw [if_pos rfl] at H; exact H); clear H; have H := H1; clear H1; simp only [Option.some.injEq, Prod.mk.injEq] at H; obtain ⟨rfl, rfl⟩ := H; go_wp2; go_ret2; exact ⟨by first | rfl | (simp; done) | (simp [*]; done), by repeat (first | exact Drawn0.refl _ | apply Drawn0.step)⟩
   ·replace c6 := Bool.eq_false_iff.mpr c6
    subst c6; (have H1 : ((lustrumref03_First.f kj2 a0 (wrap64 (a1 + 1))).bind fun bt296 => (if bt296.2 = true then (some (wrap64 (bt296.1 - 1), true)) else (some (3652424, true)))) = some (r1, r2) := by rw [if_neg (show ¬ (false = true) by decide)] at H; exact H); clear H; have H := H1; clear H1; obtain ⟨⟨t296, t297⟩, A7, H⟩ := bi_ H
    by_cases c8 : t297 = true
    ·subst c8
     (have H1 : (some (wrap64 (t296 - 1), true)) = some (r1, r2) := by rw [if_pos rfl] at H; exact H); clear H; have H := H1; clear H1; simp only [Option.some.injEq, Prod.mk.injEq] at H; obtain ⟨rfl, rfl⟩ := H; go_wp2_with (first | ((with_reducible refine gC 122 ?_); refine goesL_ (some 20) rfl rfl Tryz.func122 (by kernel_rfl) rfl #[.int .i64 a0, .int .i64 (wrap64 (a1 + 1))] rfl ml_ ?_; (with_reducible refine (lustrumref03_First.calls kj2 a0 (wrap64 (a1 + 1)) t296 true _ A7.out).mono ?_); rintro e w' ⟨rfl, ⟨nd, rfl⟩⟩; refine ⟨_, rfl, ?_⟩)); go_ret2; exact ⟨by first | rfl | (simp; done) | (simp [*]; done), by repeat (first | exact Drawn0.refl _ | apply Drawn0.step)⟩
    ·replace c8 := Bool.eq_false_iff.mpr c8
     subst c8; (have H1 : (some (3652424, true)) = some (r1, r2) := by rw [if_neg (show ¬ (false = true) by decide)] at H; exact H); clear H; have H := H1; clear H1; simp only [Option.some.injEq, Prod.mk.injEq] at H; obtain ⟨rfl, rfl⟩ := H; go_wp2_with (first | ((with_reducible refine gC 122 ?_); refine goesL_ (some 20) rfl rfl Tryz.func122 (by kernel_rfl) rfl #[.int .i64 a0, .int .i64 (wrap64 (a1 + 1))] rfl ml_ ?_; (with_reducible refine (lustrumref03_First.calls kj2 a0 (wrap64 (a1 + 1)) t296 false _ A7.out).mono ?_); rintro e w' ⟨rfl, ⟨nd, rfl⟩⟩; refine ⟨_, rfl, ?_⟩)); go_ret2; exact ⟨by first | rfl | (simp; done) | (simp [*]; done), by repeat (first | exact Drawn0.refl _ | apply Drawn0.step)⟩
set_option maxHeartbeats 8000000 in
set_option maxRecDepth 100000 in
theorem lustrumref07_ends.calls (k : Nat) (a0 : Int) (A1 : Option Addr) (c1 : Nat) (l1 : List (S71)) (a2 : Bool) (r1 : List (S71)) (r2 : Bool) (w : World) (hr1 : Kd.C k71 w A1 l1.length l1) (hc1 : l1.length ≤ c1) (h : lustrumref07_ends.f k a0 l1 a2 = some (r1, r2)) :
  Calls Tryz.prog 106 #[.int .i64 a0, .slice A1 l1.length c1, .bool a2] w fun e w' => ∃ v0_ : Value, e = .returned (.tuple #[v0_, .bool r2]) ∧ Kd.R k71 71 w' w.heap.size (fun _ => True) v0_ r1 ∧ Below w.heap.size w w' := by
 have hu71 := Tryz.underlying71; have HR1 := A_ hr1; have HC1 := A_ hc1; clear hr1 hc1; have HB := A_ (Below.refl w.heap.size w); have H : ((lustrumref07_Units.f k a0 l1).bind fun t298 => (if a0 = 0 then (some (t298, decide ((t298.length : Int) ≤ 400))) else (lustrumref07_ends.l0 k a0 a2 t298 ([] : List (S71)) 0))) = some (r1, r2) := h; clear h; obtain ⟨t298, A4, H⟩ := bi_ H
 obtain ⟨c5b0, c5b1, H⟩ | ⟨c5, c5b0, c5b1, H⟩ := ie_ H
 ·simp only [Option.some.injEq, Prod.mk.injEq] at H; obtain ⟨rfl, rfl⟩ := H; go_enter Tryz.func106, Tryz.ntmps106; go_wp2_with (first | ((with_reducible refine gC 62 ?_); refine goesL_ (some 18) rfl rfl Tryz.func62 (by kernel_rfl) rfl #[.int .i64 a0, .slice A1 l1.length c1] rfl ml_ ?_; (with_reducible refine (lustrumref07_Units.calls k a0 _ _ l1 t298 _ ?side1 ?side2 A4.out).mono ?_); (case side1 => repeat (first | exact HR1.out | (with_reducible refine Kd.C_alloc ?_ _) | (with_reducible refine Kd.C_drewN ?_ _) | (with_reducible refine Kd.C_drew ?_))); (case side2 => exact HC1.out); rintro e w6 ⟨v299, rfl, ho0, hb⟩; refine ⟨_, rfl, ?_⟩; have HO300 := A_ (Kd.R_lower ho0 (below_size hs_)); replace HB := bs_ hb; obtain ⟨Ao7, co7, eo7⟩ := Kd.R_slice HO300.out; subst eo7)); go_ret2; exact ⟨_, by first | rfl | (simp [errW_none, errW_some] <;> rfl) | (simp [*, errW_none, errW_some] <;> rfl), fxR_ HO300.out, hs_⟩
 ·have H' := A_ H; clear H; go_enter Tryz.func106, Tryz.ntmps106; go_wp2_with (first | ((with_reducible refine gC 62 ?_); refine goesL_ (some 18) rfl rfl Tryz.func62 (by kernel_rfl) rfl #[.int .i64 a0, .slice A1 l1.length c1] rfl ml_ ?_; (with_reducible refine (lustrumref07_Units.calls k a0 _ _ l1 t298 _ ?side1 ?side2 A4.out).mono ?_); (case side1 => repeat (first | exact HR1.out | (with_reducible refine Kd.C_alloc ?_ _) | (with_reducible refine Kd.C_drewN ?_ _) | (with_reducible refine Kd.C_drew ?_))); (case side2 => exact HC1.out); rintro e w8 ⟨v299, rfl, ho0, hb⟩; refine ⟨_, rfl, ?_⟩; have HO300 := A_ (Kd.R_lower ho0 (below_size hs_)); replace HB := bs_ hb; (try clear ho0))); go_loopg [9, 10] k (fun kq v9 v10 w' => ∃ (x9_1 : List (S71)) (x10_1 : Int), v10 = .int .i64 x10_1 ∧ Aside0 (lustrumref07_ends.l0 kq a0 a2 t298 x9_1 x10_1 = some (r1, r2)) ∧ Aside0 (kq ≤ k) ∧ Aside0 (Kd.R k71 71 w' w.heap.size (fun k_ => nv_ k_ v9) v299 t298) ∧ Aside0 (Kd.R k71 71 w' w.heap.size (fun k_ => nv_ k_ v299) v9 x9_1) ∧ Aside0 (Below w.heap.size w w'))
  case atStart => exact ⟨(([] : List (S71))), (0), rf_, H', ⟨Nat.le_refl _⟩, ⟨by (with_reducible repeat (first | apply Kd.R_alloc | apply Kd.R_drewN | apply Kd.R_drew)); exact Kd.R_mono HO300.out (fun _ hk => (by simp [Value.ownBlock]))⟩, ⟨by first | exact Kd.R_nil _ _ _ _ _ | exact Kd.N_nil _ _ _ _ _ | exact Kd.V_nil _ _ _ _ _ | exact Kd.Q_nil _ _ _ _ _ | exact Kd.S_nil _ _ _ _ _⟩, ⟨hs_⟩⟩
  case round =>
   clear H'; obtain ⟨x9_1, x10_1, rfl, HA, HK1, HO_8, HO_9, HB⟩ := hrel
   cases gk with
   | zero => exact absurd HA.out (by simp [lustrumref07_ends.l0])
   | succ k1 =>
    have H := HA.out; clear HA; simp only [lustrumref07_ends.l0] at H
    obtain ⟨c9b0, H⟩ | ⟨c9b0, H⟩ := ic_ H
    ·obtain ⟨c10b0, H⟩ := gd_ H; have H' := A_ H; clear H; obtain ⟨Ao11, co11, eo11⟩ := Kd.R_slice HO_8.out; subst eo11; have p301 : 0 ≤ (x10_1 : Int) := od_; have q301 : x10_1 < (t298.length : Int) := od_; obtain ⟨ad301, e301, hx301_0, hx301_1⟩ := at_T71 (Kd.R_reads' HO_8.out).2.2 x10_1 p301 q301
     cases e301
     replace p301 := eq_true p301; replace q301 := eq_true q301; go_wp2; go_loopg [9, 11] k1 (fun kq v9 v11 w' => ∃ (x9_2 : List (S71)) (x11_2 : Int), v11 = .int .i64 x11_2 ∧ Aside0 (lustrumref07_ends.l1 kq a0 a2 t298 x9_2 x10_1 x11_2 = some (r1, r2)) ∧ Aside0 (kq ≤ k1) ∧ Aside0 (Kd.R k71 71 w' w.heap.size (fun k_ => nv_ k_ v9) (.slice (some ad301) t298.length co11) t298) ∧ Aside0 (Kd.R k71 71 w' w.heap.size (fun k_ => some k_ ≠ ((.slice (some ad301) t298.length co11) : Value).ownBlock) v9 x9_2) ∧ Aside0 (Below w.heap.size w w'))
     case atStart => exact ⟨(x9_1), ((rd_T71 t298 x10_1).f0), rf_, H', ⟨Nat.le_refl _⟩, ⟨fxR_ HO_8.out⟩, ⟨fxR_ HO_9.out⟩, ⟨hs_⟩⟩
     case round =>
      clear H'; obtain ⟨x9_2, x11_2, rfl, HA, HK2, HO_8, HO_9, HB⟩ := hrel
      cases gk with
      | zero => exact absurd HA.out (by simp [lustrumref07_ends.l1])
      | succ k2 =>
       have H := HA.out; clear HA; simp only [lustrumref07_ends.l1] at H
       obtain ⟨c12b0, H⟩ := gd_ H
       obtain ⟨c13b0, H⟩ := gd_ H
       obtain ⟨c14b0, H⟩ | ⟨c14b0, H⟩ := ic_ H
       ·obtain ⟨⟨t303, t304⟩, A15, H⟩ := bi_ H
        by_cases c16 : a2 = true
        ·subst c16
         (have H1 : ((lustrumref03_Last.f k2 a0 x11_2).bind fun bt305 => (if x9_2.length < 8796093022208 then ((some (x9_2 ++ [(⟨bt305.1, bt305.1⟩ : S71)] : List (S71))).bind fun y307 => (if (y307.length : Int) > 400 then (some (([] : List (S71)), false)) else (lustrumref07_ends.l1 k2 a0 true t298 y307 x10_1 (wrap64 (x11_2 + 1))))) else (none))) = some (r1, r2) := by rw [if_pos rfl] at H; exact H); clear H; have H := H1; clear H1; obtain ⟨⟨t305, t306⟩, A17, H⟩ := bi_ H
         obtain ⟨c18, H⟩ := gc_ H; have LMc18 := A_ c18; clear c18; obtain ⟨y307, hy307⟩ : ∃ y_ : List (S71), y_ = (x9_2 ++ [(⟨t305, t305⟩ : S71)]) := ⟨_, rfl⟩; (replace H : (if (y307.length : Int) > 400 then (some (([] : List (S71)), false)) else (lustrumref07_ends.l1 k2 a0 true t298 y307 x10_1 (wrap64 (x11_2 + 1)))) = some (r1, r2) := by first | (rw [hy307]; with_reducible exact H) | (have H2_ := (Option.bind_some _ _).symm.trans H; rw [hy307]; with_reducible exact H2_) | (have H2_ := (Option.bind_some _ _).symm.trans H; with_reducible exact H2_) | with_reducible exact H | (rw [hy307]; exact H) | exact H); have Ny307 := A_ hy307; clear hy307
         obtain ⟨c19, H⟩ | ⟨c19, H⟩ := iq_ H
         ·have c19b0 := decide_eq_true c19; have c19b1 : decide (400 < y307.length) = true := decide_eq_true (by omega); clear c19; simp only [Option.some.injEq, Prod.mk.injEq] at H; obtain ⟨rfl, rfl⟩ := H; have p302 : 0 ≤ (x10_1 : Int) := od_; have q302 : x10_1 < (t298.length : Int) := od_; obtain ⟨ad302, e302, hx302_0, hx302_1⟩ := at_T71 (Kd.R_reads' HO_8.out).2.2 x10_1 p302 q302; obtain rfl : ad301 = ad302 := (by injection e302); replace p302 := eq_true p302; replace q302 := eq_true q302; go_wp2_with (first | ((with_reducible refine gC 122 ?_); refine goesL_ (some 48) rfl rfl Tryz.func122 (by kernel_rfl) rfl #[.int .i64 a0, .int .i64 x11_2] rfl ml_ ?_; (with_reducible refine (lustrumref03_First.calls k2 a0 x11_2 t303 t304 _ A15.out).mono ?_); rintro e w' ⟨rfl, ⟨nd, rfl⟩⟩; refine ⟨_, rfl, ?_⟩) | ((with_reducible refine gC 123 ?_); refine goesL_ (some 55) rfl rfl Tryz.func123 (by kernel_rfl) rfl #[.int .i64 a0, .int .i64 x11_2] rfl ml_ ?_; (with_reducible refine (lustrumref03_Last.calls k2 a0 x11_2 t305 t306 _ A17.out).mono ?_); rintro e w' ⟨rfl, ⟨nd, rfl⟩⟩; refine ⟨_, rfl, ?_⟩) | ((with_reducible refine gate_builtin (b := .append) (xs := #[.tmp 59, .tmp 63]) rfl ?_); at_builtin; refine Kd.R_append k71 (w0 := w) w.heap.size rfl (.tmp 59) (.tmp 63) 28 71 (.agg #[(.int .i64 0), (.int .i64 0)]) 16 rfl Tryz.underlying28 info71 rfl (by decide) (by omega) u9 x9_2 (⟨t305, t305⟩ : S71) [.int .i64 t305, .int .i64 t305] (fun k_ => nv_ k_ (.slice (some ad301) t298.length co11)) (fun _ => False) rfl rfl ?aP (fun _ hk => hk.elim) ?aF ?aO ?aB ?aS ?aL ?_; (case aP => exact k71_mkM _ _ _ (⟨t305, t305⟩ : S71)); (case aB => exact hs_); (case aF => exact (fun k_ hk => Kd.fresh' (Kd.R_lt (fxR_ HO_8.out)) k_ hk)); (case aO => exact (fxR_ HO_9.out)); (case aS => exact (below_size hs_)); (case aL => have := LMc18.out; omega); intro v308 w20 ho hb hg hat; rw [← Ny307.out] at ho; replace HO_8 := A_ (Kd.R_after (ok := (fun _ => True)) (fmR_ HO_8.out) hg hat); replace HB := A_ (hb); have HO309 := A_ (ho); clear HO_9; clear ho hb hg hat; obtain ⟨Ao21, co21, eo21⟩ := Kd.R_slice HO309.out; subst eo21)); go_ret2; exact ⟨_, by first | rfl | (simp [errW_none, errW_some] <;> rfl) | (simp [*, errW_none, errW_some] <;> rfl), by first | exact Kd.R_nil _ _ _ _ _ | exact Kd.N_nil _ _ _ _ _ | exact Kd.V_nil _ _ _ _ _ | exact Kd.Q_nil _ _ _ _ _ | exact Kd.S_nil _ _ _ _ _, hs_⟩
         ·have c19b0 := decide_eq_false c19; have c19b1 : decide (400 < y307.length) = false := decide_eq_false (by omega); clear c19; have H' := A_ H; clear H; have p302 : 0 ≤ (x10_1 : Int) := od_; have q302 : x10_1 < (t298.length : Int) := od_; obtain ⟨ad302, e302, hx302_0, hx302_1⟩ := at_T71 (Kd.R_reads' HO_8.out).2.2 x10_1 p302 q302; obtain rfl : ad301 = ad302 := (by injection e302); replace p302 := eq_true p302; replace q302 := eq_true q302; go_wp2_with (first | ((with_reducible refine gC 122 ?_); refine goesL_ (some 48) rfl rfl Tryz.func122 (by kernel_rfl) rfl #[.int .i64 a0, .int .i64 x11_2] rfl ml_ ?_; (with_reducible refine (lustrumref03_First.calls k2 a0 x11_2 t303 t304 _ A15.out).mono ?_); rintro e w' ⟨rfl, ⟨nd, rfl⟩⟩; refine ⟨_, rfl, ?_⟩) | ((with_reducible refine gC 123 ?_); refine goesL_ (some 55) rfl rfl Tryz.func123 (by kernel_rfl) rfl #[.int .i64 a0, .int .i64 x11_2] rfl ml_ ?_; (with_reducible refine (lustrumref03_Last.calls k2 a0 x11_2 t305 t306 _ A17.out).mono ?_); rintro e w' ⟨rfl, ⟨nd, rfl⟩⟩; refine ⟨_, rfl, ?_⟩) | ((with_reducible refine gate_builtin (b := .append) (xs := #[.tmp 59, .tmp 63]) rfl ?_); at_builtin; refine Kd.R_append k71 (w0 := w) w.heap.size rfl (.tmp 59) (.tmp 63) 28 71 (.agg #[(.int .i64 0), (.int .i64 0)]) 16 rfl Tryz.underlying28 info71 rfl (by decide) (by omega) u9 x9_2 (⟨t305, t305⟩ : S71) [.int .i64 t305, .int .i64 t305] (fun k_ => nv_ k_ (.slice (some ad301) t298.length co11)) (fun _ => False) rfl rfl ?aP (fun _ hk => hk.elim) ?aF ?aO ?aB ?aS ?aL ?_; (case aP => exact k71_mkM _ _ _ (⟨t305, t305⟩ : S71)); (case aB => exact hs_); (case aF => exact (fun k_ hk => Kd.fresh' (Kd.R_lt (fxR_ HO_8.out)) k_ hk)); (case aO => exact (fxR_ HO_9.out)); (case aS => exact (below_size hs_)); (case aL => have := LMc18.out; omega); intro v308 w22 ho hb hg hat; rw [← Ny307.out] at ho; replace HO_8 := A_ (Kd.R_after (ok := (fun _ => True)) (fmR_ HO_8.out) hg hat); replace HB := A_ (hb); have HO309 := A_ (ho); clear HO_9; clear ho hb hg hat; obtain ⟨Ao23, co23, eo23⟩ := Kd.R_slice HO309.out; subst eo23)); go_roundg k2
          case measure => have := HK1.out; have := HK2.out; omega
          case rel => exact ⟨(y307), (wrap64 (x11_2 + 1)), rf_, H', ⟨by have := HK1.out; have := HK2.out; omega⟩, ⟨by (with_reducible repeat (first | apply Kd.R_alloc | apply Kd.R_drewN | apply Kd.R_drew)); exact Kd.R_mono HO_8.out (fun _ hk => hk.2)⟩, ⟨fxR_ HO309.out⟩, ⟨hs_⟩⟩
        ·replace c16 := Bool.eq_false_iff.mpr c16
         subst c16; (have H1 : (if x9_2.length < 8796093022208 then ((some (x9_2 ++ [(⟨t303, t303⟩ : S71)] : List (S71))).bind fun y310 => (if (y310.length : Int) > 400 then (some (([] : List (S71)), false)) else (lustrumref07_ends.l1 k2 a0 false t298 y310 x10_1 (wrap64 (x11_2 + 1))))) else (none)) = some (r1, r2) := by rw [if_neg (show ¬ (false = true) by decide)] at H; exact H); clear H; have H := H1; clear H1
         obtain ⟨c24, H⟩ := gc_ H; have LMc24 := A_ c24; clear c24; obtain ⟨y310, hy310⟩ : ∃ y_ : List (S71), y_ = (x9_2 ++ [(⟨t303, t303⟩ : S71)]) := ⟨_, rfl⟩; (replace H : (if (y310.length : Int) > 400 then (some (([] : List (S71)), false)) else (lustrumref07_ends.l1 k2 a0 false t298 y310 x10_1 (wrap64 (x11_2 + 1)))) = some (r1, r2) := by first | (rw [hy310]; with_reducible exact H) | (have H2_ := (Option.bind_some _ _).symm.trans H; rw [hy310]; with_reducible exact H2_) | (have H2_ := (Option.bind_some _ _).symm.trans H; with_reducible exact H2_) | with_reducible exact H | (rw [hy310]; exact H) | exact H); have Ny310 := A_ hy310; clear hy310
         obtain ⟨c25, H⟩ | ⟨c25, H⟩ := iq_ H
         ·have c25b0 := decide_eq_true c25; have c25b1 : decide (400 < y310.length) = true := decide_eq_true (by omega); clear c25; simp only [Option.some.injEq, Prod.mk.injEq] at H; obtain ⟨rfl, rfl⟩ := H; have p302 : 0 ≤ (x10_1 : Int) := od_; have q302 : x10_1 < (t298.length : Int) := od_; obtain ⟨ad302, e302, hx302_0, hx302_1⟩ := at_T71 (Kd.R_reads' HO_8.out).2.2 x10_1 p302 q302; obtain rfl : ad301 = ad302 := (by injection e302); replace p302 := eq_true p302; replace q302 := eq_true q302; go_wp2_with (first | ((with_reducible refine gC 122 ?_); refine goesL_ (some 48) rfl rfl Tryz.func122 (by kernel_rfl) rfl #[.int .i64 a0, .int .i64 x11_2] rfl ml_ ?_; (with_reducible refine (lustrumref03_First.calls k2 a0 x11_2 t303 t304 _ A15.out).mono ?_); rintro e w' ⟨rfl, ⟨nd, rfl⟩⟩; refine ⟨_, rfl, ?_⟩) | ((with_reducible refine gate_builtin (b := .append) (xs := #[.tmp 59, .tmp 63]) rfl ?_); at_builtin; refine Kd.R_append k71 (w0 := w) w.heap.size rfl (.tmp 59) (.tmp 63) 28 71 (.agg #[(.int .i64 0), (.int .i64 0)]) 16 rfl Tryz.underlying28 info71 rfl (by decide) (by omega) u9 x9_2 (⟨t303, t303⟩ : S71) [.int .i64 t303, .int .i64 t303] (fun k_ => nv_ k_ (.slice (some ad301) t298.length co11)) (fun _ => False) rfl rfl ?aP (fun _ hk => hk.elim) ?aF ?aO ?aB ?aS ?aL ?_; (case aP => exact k71_mkM _ _ _ (⟨t303, t303⟩ : S71)); (case aB => exact hs_); (case aF => exact (fun k_ hk => Kd.fresh' (Kd.R_lt (fxR_ HO_8.out)) k_ hk)); (case aO => exact (fxR_ HO_9.out)); (case aS => exact (below_size hs_)); (case aL => have := LMc24.out; omega); intro v311 w26 ho hb hg hat; rw [← Ny310.out] at ho; replace HO_8 := A_ (Kd.R_after (ok := (fun _ => True)) (fmR_ HO_8.out) hg hat); replace HB := A_ (hb); have HO312 := A_ (ho); clear HO_9; clear ho hb hg hat; obtain ⟨Ao27, co27, eo27⟩ := Kd.R_slice HO312.out; subst eo27)); go_ret2; exact ⟨_, by first | rfl | (simp [errW_none, errW_some] <;> rfl) | (simp [*, errW_none, errW_some] <;> rfl), by first | exact Kd.R_nil _ _ _ _ _ | exact Kd.N_nil _ _ _ _ _ | exact Kd.V_nil _ _ _ _ _ | exact Kd.Q_nil _ _ _ _ _ | exact Kd.S_nil _ _ _ _ _, hs_⟩
         ·have c25b0 := decide_eq_false c25; have c25b1 : decide (400 < y310.length) = false := decide_eq_false (by omega); clear c25; have H' := A_ H; clear H; have p302 : 0 ≤ (x10_1 : Int) := od_; have q302 : x10_1 < (t298.length : Int) := od_; obtain ⟨ad302, e302, hx302_0, hx302_1⟩ := at_T71 (Kd.R_reads' HO_8.out).2.2 x10_1 p302 q302; obtain rfl : ad301 = ad302 := (by injection e302); replace p302 := eq_true p302; replace q302 := eq_true q302; go_wp2_with (first | ((with_reducible refine gC 122 ?_); refine goesL_ (some 48) rfl rfl Tryz.func122 (by kernel_rfl) rfl #[.int .i64 a0, .int .i64 x11_2] rfl ml_ ?_; (with_reducible refine (lustrumref03_First.calls k2 a0 x11_2 t303 t304 _ A15.out).mono ?_); rintro e w' ⟨rfl, ⟨nd, rfl⟩⟩; refine ⟨_, rfl, ?_⟩) | ((with_reducible refine gate_builtin (b := .append) (xs := #[.tmp 59, .tmp 63]) rfl ?_); at_builtin; refine Kd.R_append k71 (w0 := w) w.heap.size rfl (.tmp 59) (.tmp 63) 28 71 (.agg #[(.int .i64 0), (.int .i64 0)]) 16 rfl Tryz.underlying28 info71 rfl (by decide) (by omega) u9 x9_2 (⟨t303, t303⟩ : S71) [.int .i64 t303, .int .i64 t303] (fun k_ => nv_ k_ (.slice (some ad301) t298.length co11)) (fun _ => False) rfl rfl ?aP (fun _ hk => hk.elim) ?aF ?aO ?aB ?aS ?aL ?_; (case aP => exact k71_mkM _ _ _ (⟨t303, t303⟩ : S71)); (case aB => exact hs_); (case aF => exact (fun k_ hk => Kd.fresh' (Kd.R_lt (fxR_ HO_8.out)) k_ hk)); (case aO => exact (fxR_ HO_9.out)); (case aS => exact (below_size hs_)); (case aL => have := LMc24.out; omega); intro v311 w28 ho hb hg hat; rw [← Ny310.out] at ho; replace HO_8 := A_ (Kd.R_after (ok := (fun _ => True)) (fmR_ HO_8.out) hg hat); replace HB := A_ (hb); have HO312 := A_ (ho); clear HO_9; clear ho hb hg hat; obtain ⟨Ao29, co29, eo29⟩ := Kd.R_slice HO312.out; subst eo29)); go_roundg k2
          case measure => have := HK1.out; have := HK2.out; omega
          case rel => exact ⟨(y310), (wrap64 (x11_2 + 1)), rf_, H', ⟨by have := HK1.out; have := HK2.out; omega⟩, ⟨by (with_reducible repeat (first | apply Kd.R_alloc | apply Kd.R_drewN | apply Kd.R_drew)); exact Kd.R_mono HO_8.out (fun _ hk => hk.2)⟩, ⟨fxR_ HO312.out⟩, ⟨hs_⟩⟩
       ·have H' := A_ H; clear H; have p302 : 0 ≤ (x10_1 : Int) := od_; have q302 : x10_1 < (t298.length : Int) := od_; obtain ⟨ad302, e302, hx302_0, hx302_1⟩ := at_T71 (Kd.R_reads' HO_8.out).2.2 x10_1 p302 q302; obtain rfl : ad301 = ad302 := (by injection e302); replace p302 := eq_true p302; replace q302 := eq_true q302; go_wp2; go_roundg k2
        case measure => have := HK1.out; have := HK2.out; omega
        case rel => exact ⟨(x9_2), (wrap64 (x10_1 + 1)), rf_, H', ⟨by have := HK1.out; have := HK2.out; omega⟩, ⟨fxR_ HO_8.out⟩, ⟨fxR_ HO_9.out⟩, ⟨hs_⟩⟩
    ·simp only [Option.some.injEq, Prod.mk.injEq] at H; obtain ⟨rfl, rfl⟩ := H; obtain ⟨Ao30, co30, eo30⟩ := Kd.R_slice HO_8.out; subst eo30; go_wp2; go_ret2; exact ⟨_, by first | rfl | (simp [errW_none, errW_some] <;> rfl) | (simp [*, errW_none, errW_some] <;> rfl), by (with_reducible repeat (first | apply Kd.R_alloc | apply Kd.R_drewN | apply Kd.R_drew)); exact Kd.R_mono HO_9.out (fun _ hk => trivial), hs_⟩
set_option maxHeartbeats 8000000 in
set_option maxRecDepth 100000 in
theorem lustrumref07_Starts.calls (k : Nat) (a0 : Int) (A1 : Option Addr) (c1 : Nat) (l1 r1 : List (S71)) (r2 : Bool) (w : World) (hr1 : Kd.C k71 w A1 l1.length l1) (hc1 : l1.length ≤ c1) (h : lustrumref07_Starts.f k a0 l1 = some (r1, r2)) :
  Calls Tryz.prog 59 #[.int .i64 a0, .slice A1 l1.length c1] w fun e w' => ∃ v0_ : Value, e = .returned (.tuple #[v0_, .bool r2]) ∧ Kd.R k71 71 w' w.heap.size (fun _ => True) v0_ r1 ∧ Below w.heap.size w w' := by
 have HR1 := A_ hr1; have HC1 := A_ hc1; clear hr1 hc1; have HB := A_ (Below.refl w.heap.size w); have H : ((lustrumref07_ends.f k a0 l1 false).bind fun bt313 => (if bt313.2 = true then (some (bt313.1, true)) else (some (([] : List (S71)), false)))) = some (r1, r2) := h; clear h; obtain ⟨⟨t313, t314⟩, A3, H⟩ := bi_ H
 by_cases c4 : t314 = true
 ·subst c4
  (have H1 : (some (t313, true)) = some (r1, r2) := by rw [if_pos rfl] at H; exact H); clear H; have H := H1; clear H1; simp only [Option.some.injEq, Prod.mk.injEq] at H; obtain ⟨rfl, rfl⟩ := H; go_enter Tryz.func59, Tryz.ntmps59; go_wp2_with (first | ((with_reducible refine gC 106 ?_); refine goesL_ (some 11) rfl rfl Tryz.func106 (by kernel_rfl) rfl #[.int .i64 a0, .slice A1 l1.length c1, .bool false] rfl ml_ ?_; (with_reducible refine (lustrumref07_ends.calls k a0 _ _ l1 false t313 true _ ?side1 ?side2 A3.out).mono ?_); (case side1 => repeat (first | exact HR1.out | (with_reducible refine Kd.C_alloc ?_ _) | (with_reducible refine Kd.C_drewN ?_ _) | (with_reducible refine Kd.C_drew ?_))); (case side2 => exact HC1.out); rintro e w5 ⟨v315, rfl, ho0, hb⟩; refine ⟨_, rfl, ?_⟩; have HO316 := A_ (Kd.R_lower ho0 (below_size hs_)); replace HB := bs_ hb; (try clear hb); (try clear ho0))); go_ret2; exact ⟨_, by first | rfl | (simp [errW_none, errW_some] <;> rfl) | (simp [*, errW_none, errW_some] <;> rfl), fxR_ HO316.out, hs_⟩
 ·replace c4 := Bool.eq_false_iff.mpr c4
  subst c4; (have H1 : (some (([] : List (S71)), false)) = some (r1, r2) := by rw [if_neg (show ¬ (false = true) by decide)] at H; exact H); clear H; have H := H1; clear H1; simp only [Option.some.injEq, Prod.mk.injEq] at H; obtain ⟨rfl, rfl⟩ := H; go_enter Tryz.func59, Tryz.ntmps59; go_wp2_with (first | ((with_reducible refine gC 106 ?_); refine goesL_ (some 11) rfl rfl Tryz.func106 (by kernel_rfl) rfl #[.int .i64 a0, .slice A1 l1.length c1, .bool false] rfl ml_ ?_; (with_reducible refine (lustrumref07_ends.calls k a0 _ _ l1 false t313 false _ ?side1 ?side2 A3.out).mono ?_); (case side1 => repeat (first | exact HR1.out | (with_reducible refine Kd.C_alloc ?_ _) | (with_reducible refine Kd.C_drewN ?_ _) | (with_reducible refine Kd.C_drew ?_))); (case side2 => exact HC1.out); rintro e w6 ⟨v315, rfl, ho0, hb⟩; refine ⟨_, rfl, ?_⟩; have HO316 := A_ (Kd.R_lower ho0 (below_size hs_)); replace HB := bs_ hb; (try clear hb); (try clear ho0))); go_ret2; exact ⟨_, by first | rfl | (simp [errW_none, errW_some] <;> rfl) | (simp [*, errW_none, errW_some] <;> rfl), by first | exact Kd.R_nil _ _ _ _ _ | exact Kd.N_nil _ _ _ _ _ | exact Kd.V_nil _ _ _ _ _ | exact Kd.Q_nil _ _ _ _ _ | exact Kd.S_nil _ _ _ _ _, hs_⟩
end Go.Proofs.YthppfagfmjchoaaGreatDoor.A
namespace Go.Proofs.YthppfagfmjchoaaGreatDoor.A
open Go.RowKit Go.Proofs.YthppfagfmjchoaaGreatDoorW.PrintWords Go.Proofs.YthppfagfmjchoaaGreatDoorW.PrintLast Go.Proofs.YthppfagfmjchoaaGreatDoorW.PrintMore
attribute [local go_sem] max2_int min2_int max_two min_two max_three min_three max_four min_four
attribute [local go_sem] isSome_setCell
set_option maxHeartbeats 8000000 in
set_option maxRecDepth 100000 in
theorem lustrumref08_Set.calls (k : Nat) (a0_0 : Int) (a0_1 a0_2 a0_3 : ByteArray) (r1 : List (S71)) (r2 : Int) (w : World) (h : lustrumref08_Set.f k a0_0 a0_1 a0_2 a0_3 = some (r1, r2)) :
  Calls Tryz.prog 16 #[.agg #[.int .i64 a0_0, .string a0_1, .string a0_2, .string a0_3]] w fun e w' => ∃ v0_ : Value, e = .returned (.tuple #[v0_, .int .i64 r2]) ∧ Kd.R k71 71 w' w.heap.size (fun _ => True) v0_ r1 ∧ Below w.heap.size w w' := by
 have hu23 := Tryz.underlying23; have HB := A_ (Below.refl w.heap.size w); have H : ((lustrumref08_Sane.f k a0_0 a0_1 a0_2 a0_3).bind fun t318 => (if t318 = true then ((lustrumref08_units.f k a0_0 a0_1 a0_2 a0_3).bind fun t319 => ((lustrumref07_Starts.f k a0_0 t319).bind fun bt322 => (if bt322.2 = true then (some (t319, 0)) else (some (([] : List (S71)), 8))))) else (some (([] : List (S71)), 2)))) = some (r1, r2) := h; clear h; obtain ⟨t318, A2, H⟩ := bi_ H
 by_cases c3 : t318 = true
 ·subst c3
  (have H1 : ((lustrumref08_units.f k a0_0 a0_1 a0_2 a0_3).bind fun t319 => ((lustrumref07_Starts.f k a0_0 t319).bind fun bt322 => (if bt322.2 = true then (some (t319, 0)) else (some (([] : List (S71)), 8))))) = some (r1, r2) := by rw [if_pos rfl] at H; exact H); clear H; have H := H1; clear H1; obtain ⟨t319, A4, H⟩ := bi_ H; obtain ⟨⟨t322, t323⟩, A5, H⟩ := bi_ H
  by_cases c6 : t323 = true
  ·subst c6
   (have H1 : (some (t319, 0)) = some (r1, r2) := by rw [if_pos rfl] at H; exact H); clear H; have H := H1; clear H1; simp only [Option.some.injEq, Prod.mk.injEq] at H; obtain ⟨rfl, rfl⟩ := H; go_enter Tryz.func16, Tryz.ntmps16; go_wp2_with (first | ((with_reducible refine gD 1 ?_); refine gx_ w 1 (n4_ a0_0 a0_1 a0_2 a0_3) 23 ?_; clear HB; intro gb317 w7 BK317 GE317 HB; have GW317 := GE317; have Z8 := bz4_ BK317) | ((with_reducible refine gC 21 ?_); refine goesL_ (some 8) rfl rfl Tryz.func21 (by kernel_rfl) rfl #[.agg #[.int .i64 a0_0, .string a0_1, .string a0_2, .string a0_3]] rfl ml_ ?_; (with_reducible refine (lustrumref08_Sane.calls k a0_0 a0_1 a0_2 a0_3 true _ A2.out).mono ?_); rintro e w9 ⟨rfl, hb⟩; refine ⟨_, rfl, ?_⟩; replace BK317 := bb_ BK317 hb; replace HB := bs_ hb; (try clear hb); have Z10 := bz4_ BK317) | ((with_reducible refine gC 58 ?_); refine goesL_ (some 11) rfl rfl Tryz.func58 (by kernel_rfl) rfl #[.agg #[.int .i64 a0_0, .string a0_1, .string a0_2, .string a0_3]] rfl ml_ ?_; (with_reducible refine (lustrumref08_units.calls k a0_0 a0_1 a0_2 a0_3 t319 _ A4.out).mono ?_); rintro e w11 ⟨v320, rfl, ho0, hb⟩; refine ⟨_, rfl, ?_⟩; have HO321 := A_ (Kd.R_lower ho0 (below_size hs_)); replace BK317 := bb_ BK317 hb; replace HB := bs_ hb; (try clear hb); (try clear ho0); have Z12 := bz4_ BK317; obtain ⟨Ao13, co13, eo13⟩ := Kd.R_slice HO321.out; subst eo13) | ((with_reducible refine gC 59 ?_); refine goesL_ (some 16) rfl rfl Tryz.func59 (by kernel_rfl) rfl #[.int .i64 a0_0, .slice Ao13 t319.length co13] rfl ml_ ?_; (with_reducible refine (lustrumref07_Starts.calls k a0_0 _ _ t319 t322 true _ ?side1 ?side2 A5.out).mono ?_); (case side1 => repeat (first | exact (Kd.R_reads' HO321.out).2.2 | (with_reducible refine Kd.C_alloc ?_ _) | (with_reducible refine Kd.C_drewN ?_ _) | (with_reducible refine Kd.C_drew ?_))); (case side2 => exact (Kd.R_reads' HO321.out).2.1); rintro e w14 ⟨v324, rfl, ho0, hb⟩; refine ⟨_, rfl, ?_⟩; have HO325 := A_ (Kd.R_lower (Kd.R_new' ho0 (Kd.R_lt (fxR_ HO321.out))) (below_size hs_)); replace HO321 := A_ (Kd.R_elder' (fxR_ HO321.out) (Kd.R_base ho0) hb); replace BK317 := bb_ BK317 hb; replace HB := bs_ hb; (try clear hb); (try clear ho0)))
   go_ret2; exact ⟨_, by first | rfl | (simp [errW_none, errW_some] <;> rfl) | (simp [*, errW_none, errW_some] <;> rfl), by (with_reducible repeat (first | apply Kd.R_alloc | apply Kd.R_drewN | apply Kd.R_drew)); exact Kd.R_mono HO321.out (fun _ hk => trivial), hs_⟩
  ·replace c6 := Bool.eq_false_iff.mpr c6
   subst c6; (have H1 : (some (([] : List (S71)), 8)) = some (r1, r2) := by rw [if_neg (show ¬ (false = true) by decide)] at H; exact H); clear H; have H := H1; clear H1; simp only [Option.some.injEq, Prod.mk.injEq] at H; obtain ⟨rfl, rfl⟩ := H; go_enter Tryz.func16, Tryz.ntmps16; go_wp2_with (first | ((with_reducible refine gD 1 ?_); refine gx_ w 1 (n4_ a0_0 a0_1 a0_2 a0_3) 23 ?_; clear HB; intro gb317 w15 BK317 GE317 HB; have GW317 := GE317; have Z16 := bz4_ BK317) | ((with_reducible refine gC 21 ?_); refine goesL_ (some 8) rfl rfl Tryz.func21 (by kernel_rfl) rfl #[.agg #[.int .i64 a0_0, .string a0_1, .string a0_2, .string a0_3]] rfl ml_ ?_; (with_reducible refine (lustrumref08_Sane.calls k a0_0 a0_1 a0_2 a0_3 true _ A2.out).mono ?_); rintro e w17 ⟨rfl, hb⟩; refine ⟨_, rfl, ?_⟩; replace BK317 := bb_ BK317 hb; replace HB := bs_ hb; (try clear hb); have Z18 := bz4_ BK317) | ((with_reducible refine gC 58 ?_); refine goesL_ (some 11) rfl rfl Tryz.func58 (by kernel_rfl) rfl #[.agg #[.int .i64 a0_0, .string a0_1, .string a0_2, .string a0_3]] rfl ml_ ?_; (with_reducible refine (lustrumref08_units.calls k a0_0 a0_1 a0_2 a0_3 t319 _ A4.out).mono ?_); rintro e w19 ⟨v320, rfl, ho0, hb⟩; refine ⟨_, rfl, ?_⟩; have HO321 := A_ (Kd.R_lower ho0 (below_size hs_)); replace BK317 := bb_ BK317 hb; replace HB := bs_ hb; (try clear hb); (try clear ho0); have Z20 := bz4_ BK317; obtain ⟨Ao21, co21, eo21⟩ := Kd.R_slice HO321.out; subst eo21) | ((with_reducible refine gC 59 ?_); refine goesL_ (some 16) rfl rfl Tryz.func59 (by kernel_rfl) rfl #[.int .i64 a0_0, .slice Ao21 t319.length co21] rfl ml_ ?_; (with_reducible refine (lustrumref07_Starts.calls k a0_0 _ _ t319 t322 false _ ?side1 ?side2 A5.out).mono ?_); (case side1 => repeat (first | exact (Kd.R_reads' HO321.out).2.2 | (with_reducible refine Kd.C_alloc ?_ _) | (with_reducible refine Kd.C_drewN ?_ _) | (with_reducible refine Kd.C_drew ?_))); (case side2 => exact (Kd.R_reads' HO321.out).2.1); rintro e w22 ⟨v324, rfl, ho0, hb⟩; refine ⟨_, rfl, ?_⟩; have HO325 := A_ (Kd.R_lower (Kd.R_new' ho0 (Kd.R_lt (fxR_ HO321.out))) (below_size hs_)); replace HO321 := A_ (Kd.R_elder' (fxR_ HO321.out) (Kd.R_base ho0) hb); replace BK317 := bb_ BK317 hb; replace HB := bs_ hb; (try clear hb); (try clear ho0)))
   go_ret2; exact ⟨_, by first | rfl | (simp [errW_none, errW_some] <;> rfl) | (simp [*, errW_none, errW_some] <;> rfl), by first | exact Kd.R_nil _ _ _ _ _ | exact Kd.N_nil _ _ _ _ _ | exact Kd.V_nil _ _ _ _ _ | exact Kd.Q_nil _ _ _ _ _ | exact Kd.S_nil _ _ _ _ _, hs_⟩
 ·replace c3 := Bool.eq_false_iff.mpr c3
  subst c3; (have H1 : (some (([] : List (S71)), 2)) = some (r1, r2) := by rw [if_neg (show ¬ (false = true) by decide)] at H; exact H); clear H; have H := H1; clear H1; simp only [Option.some.injEq, Prod.mk.injEq] at H; obtain ⟨rfl, rfl⟩ := H; go_enter Tryz.func16, Tryz.ntmps16; go_wp2_with (first | ((with_reducible refine gD 1 ?_); refine gx_ w 1 (n4_ a0_0 a0_1 a0_2 a0_3) 23 ?_; clear HB; intro gb317 w23 BK317 GE317 HB; have GW317 := GE317; have Z24 := bz4_ BK317) | ((with_reducible refine gC 21 ?_); refine goesL_ (some 8) rfl rfl Tryz.func21 (by kernel_rfl) rfl #[.agg #[.int .i64 a0_0, .string a0_1, .string a0_2, .string a0_3]] rfl ml_ ?_; (with_reducible refine (lustrumref08_Sane.calls k a0_0 a0_1 a0_2 a0_3 false _ A2.out).mono ?_); rintro e w25 ⟨rfl, hb⟩; refine ⟨_, rfl, ?_⟩; replace BK317 := bb_ BK317 hb; replace HB := bs_ hb; (try clear hb))); go_ret2; exact ⟨_, by first | rfl | (simp [errW_none, errW_some] <;> rfl) | (simp [*, errW_none, errW_some] <;> rfl), by first | exact Kd.R_nil _ _ _ _ _ | exact Kd.N_nil _ _ _ _ _ | exact Kd.V_nil _ _ _ _ _ | exact Kd.Q_nil _ _ _ _ _ | exact Kd.S_nil _ _ _ _ _, hs_⟩
set_option maxHeartbeats 8000000 in
set_option maxRecDepth 100000 in
theorem point_Radius.calls (a0 r : Int) (w : World) (h : point_Radius.f a0 = some r) :
  Calls Tryz.prog 24 #[.int .i64 a0] w fun e w' => e = .returned (.int .i64 r) ∧ Drawn0 w w' := by
 have H : (if a0 = 0 then (some 3) else (if a0 = 3 then (some 2) else (if a0 < 0 then (some 0) else (if a0 > 5 then (some 0) else (some 1))))) = some r := h; clear h
 obtain ⟨c2b0, c2b1, H⟩ | ⟨c2, c2b0, c2b1, H⟩ := ie_ H
 ·obtain rfl := Option.some.inj H; go_enter Tryz.func24, Tryz.ntmps24; go_wp2; go_ret; exact ⟨by first | rfl | (simp; done) | (simp [*]; done), by repeat (first | exact Drawn0.refl _ | apply Drawn0.step)⟩
 ·obtain ⟨c3b0, c3b1, H⟩ | ⟨c3, c3b0, c3b1, H⟩ := ie_ H
  ·obtain rfl := Option.some.inj H; go_enter Tryz.func24, Tryz.ntmps24; go_wp2; go_ret; exact ⟨by first | rfl | (simp; done) | (simp [*]; done), by repeat (first | exact Drawn0.refl _ | apply Drawn0.step)⟩
  ·obtain ⟨c4b0, H⟩ | ⟨c4b0, H⟩ := ic_ H
   ·obtain rfl := Option.some.inj H; go_enter Tryz.func24, Tryz.ntmps24; go_wp2; go_ret; exact ⟨by first | rfl | (simp; done) | (simp [*]; done), by repeat (first | exact Drawn0.refl _ | apply Drawn0.step)⟩
   ·obtain ⟨c5b0, H⟩ | ⟨c5b0, H⟩ := ic_ H
    ·obtain rfl := Option.some.inj H; go_enter Tryz.func24, Tryz.ntmps24; go_wp2; go_ret; exact ⟨by first | rfl | (simp; done) | (simp [*]; done), by repeat (first | exact Drawn0.refl _ | apply Drawn0.step)⟩
    ·obtain rfl := Option.some.inj H; go_enter Tryz.func24, Tryz.ntmps24; go_wp2; go_ret; exact ⟨by first | rfl | (simp; done) | (simp [*]; done), by repeat (first | exact Drawn0.refl _ | apply Drawn0.step)⟩
set_option maxHeartbeats 8000000 in
set_option maxRecDepth 100000 in
theorem sets_moved.calls (k : Nat) (A0 : Option Addr) (c0 : Nat) (l0 : List (S71)) (a1 a2 : Int) (r : List (S71)) (w : World) (hr0 : Kd.C k71 w A0 l0.length l0) (hc0 : l0.length ≤ c0) (h : sets_moved.f k l0 a1 a2 = some r) :
  Calls Tryz.prog 108 #[.slice A0 l0.length c0, .int .i64 a1, .int .i64 a2] w fun e w' => ∃ v0_ : Value, e = .returned (v0_) ∧ Kd.R k71 71 w' w.heap.size (fun _ => True) v0_ r ∧ Below w.heap.size w w' := by
 have hu71 := Tryz.underlying71; have HR0 := A_ hr0; have HC0 := A_ hc0; clear hr0 hc0; have HB := A_ (Below.refl w.heap.size w); have H : ((sets_known.f k l0).bind fun t126 => (sets_moved.l0 k a1 a2 ([] : List (S71)) t126 (t126.length : Int) 0)) = some r := h; clear h; obtain ⟨t126, A4, H⟩ := bi_ H; have H' := A_ H; clear H; go_enter Tryz.func108, Tryz.ntmps108; go_wp2_with (first | ((with_reducible refine gC 155 ?_); refine goesL_ (some 11) rfl rfl Tryz.func155 (by kernel_rfl) rfl #[.slice A0 l0.length c0] rfl ml_ ?_; (with_reducible refine (sets_known.calls k (fun k_ => k_ < w.heap.size) _ _ l0 t126 _ ?side1 A4.out).mono ?_); (case side1 => exact Kd.V_mk HC0.out (Kd.F_below (Kd.C_F k71_heap HR0.out) hs_)); rintro e w5 ⟨v127, rfl, ho0, hb⟩; refine ⟨_, rfl, ?_⟩; have HO128 := A_ (Kd.V_lower (Kd.V_mono (ok' := fun k_ => True) ho0 (fun k_ hk_ => trivial)) (below_size hs_)); replace HB := bs_ hb; obtain ⟨Ao6, co6, eo6⟩ := Kd.V_slice HO128.out; subst eo6)); go_loopg [7, 13] k (fun kq v7 v13 w' => ∃ (x7_1 : List (S71)) (x13_1 : Int), v13 = .int .i64 x13_1 ∧ Aside0 (sets_moved.l0 kq a1 a2 x7_1 t126 (t126.length : Int) x13_1 = some r) ∧ Aside0 (kq ≤ k) ∧ Aside0 (Kd.R k71 71 w' w.heap.size (fun _ => True) v7 x7_1) ∧ Aside0 (Kd.V k71 71 w' w.heap.size (fun k_ => nv_ k_ v7) (.slice Ao6 t126.length co6) t126) ∧ Aside0 (Below w.heap.size w w'))
 case atStart => exact ⟨(([] : List (S71))), (0), rf_, H', ⟨Nat.le_refl _⟩, ⟨by first | exact Kd.R_nil _ _ _ _ _ | exact Kd.N_nil _ _ _ _ _ | exact Kd.V_nil _ _ _ _ _ | exact Kd.Q_nil _ _ _ _ _ | exact Kd.S_nil _ _ _ _ _⟩, ⟨by (with_reducible repeat (first | apply Kd.V_alloc | apply Kd.V_drewN | apply Kd.V_drew)); exact Kd.V_mono HO128.out (fun _ hk => (by simp [Value.ownBlock]))⟩, ⟨hs_⟩⟩
 case round =>
  clear H'; obtain ⟨x7_1, x13_1, rfl, HA, HK1, HO_7, HO_11, HB⟩ := hrel
  cases gk with
  | zero => exact absurd HA.out (by simp [sets_moved.l0])
  | succ k1 =>
   have H := HA.out; clear HA; simp only [sets_moved.l0] at H
   obtain ⟨c7b0, H⟩ | ⟨c7b0, H⟩ := ic_ H
   ·obtain ⟨c8b0, H⟩ := gd_ H
    obtain ⟨c9b0, H⟩ := gd_ H
    obtain ⟨c10, H⟩ := gc_ H; have LMc10 := A_ c10; clear c10; obtain ⟨y131, hy131⟩ : ∃ y_ : List (S71), y_ = (x7_1 ++ [(⟨wrap64 (((rd_T71 t126 x13_1).f0) + a1), wrap64 (((rd_T71 t126 x13_1).f1) + a2)⟩ : S71)]) := ⟨_, rfl⟩; (replace H : (sets_moved.l0 k1 a1 a2 y131 t126 (t126.length : Int) (wrap64 (x13_1 + 1))) = some r := by first | (rw [hy131]; with_reducible exact H) | (have H2_ := (Option.bind_some _ _).symm.trans H; rw [hy131]; with_reducible exact H2_) | (have H2_ := (Option.bind_some _ _).symm.trans H; with_reducible exact H2_) | with_reducible exact H | (rw [hy131]; exact H) | exact H); have Ny131 := A_ hy131; clear hy131; have H' := A_ H; clear H; have p129 : 0 ≤ (x13_1 : Int) := od_; have q129 : x13_1 < (t126.length : Int) := od_; obtain ⟨ad129, e129, hx129_0, hx129_1⟩ := at_T71 (Kd.V_reads' HO_11.out).2.2 x13_1 p129 q129
    cases e129
    replace p129 := eq_true p129; replace q129 := eq_true q129; go_wp2_with (first | ((with_reducible refine gD 9 ?_); refine bxe_ 9 #[.int .i64 0, .int .i64 0] 71 ?_; intro gb130 hg w11 hbox hb; replace HO_7 := A_ (Kd.R_below (Kd.R_elderB (fxR_ HO_7.out) gb130 (Nat.le_of_eq hg.symm)) hb); replace HO_11 := eV_ HO_11 hg hb; have BK130 := A_ (hbox); have GW130 := gs_ w hg; have GE130 := gs_ w hg; replace HB := bs_ hb; clear hb hbox hg; have Z12 := bz2_ BK130) | ((with_reducible refine gate_builtin (b := .append) (xs := #[.tmp 17, .tmp 27]) rfl ?_); at_builtin; refine Kd.R_append k71 (w0 := w) w.heap.size rfl (.tmp 17) (.tmp 27) 28 71 (.agg #[(.int .i64 0), (.int .i64 0)]) 16 rfl Tryz.underlying28 info71 rfl (by decide) (by omega) u7 x7_1 (⟨wrap64 (((rd_T71 t126 x13_1).f0) + a1), wrap64 (((rd_T71 t126 x13_1).f1) + a2)⟩ : S71) [.int .i64 (wrap64 (((rd_T71 t126 x13_1).f0) + a1)), .int .i64 (wrap64 (((rd_T71 t126 x13_1).f1) + a2))] (fun k_ => k_ ≠ gb130) (fun _ => False) rfl (by first | (go_simp; done) | (go_simp; rfl)) ?aP (fun _ hk => hk.elim) ?aF ?aO ?aB ?aS ?aL ?_; (case aP => exact k71_mkM _ _ _ (⟨wrap64 (((rd_T71 t126 x13_1).f0) + a1), wrap64 (((rd_T71 t126 x13_1).f1) + a2)⟩ : S71)); (case aB => exact hs_); (case aF => exact (fun k_ hk => fb_ BK130 k_ hk)); (case aO => exact (fpR_ HO_7.out)); (case aS => exact (below_size hs_)); (case aL => have := LMc10.out; omega); intro v132 w13 ho hb hg hat; rw [← Ny131.out] at ho; replace HO_11 := A_ (Kd.V_afterv (ok := (fun k_ => k_ ≠ gb130)) (fpV_ HO_11.out) hg hat); replace BK130 := A_ (blk_grown (g := gb130) (o := .cells #[.int .i64 ((rd_T71 t126 x13_1).f0), .int .i64 ((rd_T71 t126 x13_1).f1)] 71 (0, 0)) (pb_ BK130.out) hg (Kd.R_away HO_7.out (fun _ hk => hk.2))); replace HB := A_ (hb); have HO133 := A_ (ho); clear HO_7; clear ho hb hg hat))
    go_roundg k1
    case measure => have := HK1.out; omega
    case rel => exact ⟨(y131), (wrap64 (x13_1 + 1)), rf_, H', ⟨by have := HK1.out; omega⟩, ⟨by (with_reducible repeat (first | apply Kd.R_alloc | apply Kd.R_drewN | apply Kd.R_drew)); exact Kd.R_mono HO133.out (fun _ hk => trivial)⟩, ⟨by (with_reducible repeat (first | apply Kd.V_alloc | apply Kd.V_drewN | apply Kd.V_drew)); exact Kd.V_mono HO_11.out (fun _ hk => hk.2)⟩, ⟨hs_⟩⟩
   ·obtain ⟨t134, A14, H⟩ := bi_ H; obtain rfl := Option.some.inj H; obtain ⟨Ao15, co15, eo15⟩ := Kd.R_slice HO_7.out; subst eo15; go_wp2_with (first | ((with_reducible refine gC 101 ?_); refine goesL_ (some 31) rfl rfl Tryz.func101 (by kernel_rfl) rfl #[.slice Ao15 x7_1.length co15] rfl ml_ ?_; (with_reducible refine (runs_Make.calls _ _ x7_1 t134 _ ?side1 ?side2 A14.out).mono ?_); (case side1 => repeat (first | exact (Kd.R_reads' HO_7.out).2.2 | (with_reducible refine Kd.C_alloc ?_ _) | (with_reducible refine Kd.C_drewN ?_ _) | (with_reducible refine Kd.C_drew ?_))); (case side2 => exact (Kd.R_reads' HO_7.out).2.1); rintro e w16 ⟨v135, rfl, ho0, hb⟩; refine ⟨_, rfl, ?_⟩; replace HO_11 := A_ (Kd.V_elder' (fxV_ HO_11.out) (Kd.R_base ho0) hb); have HO136 := A_ (Kd.R_lower (Kd.R_new' ho0 (Kd.R_lt (fxR_ HO_7.out))) (below_size hs_)); replace HO_7 := A_ (Kd.R_elder' (fxR_ HO_7.out) (Kd.R_base ho0) hb); replace HB := bs_ hb; (try clear ho0))); go_ret; exact ⟨_, by first | rfl | (simp [errW_none, errW_some] <;> rfl) | (simp [*, errW_none, errW_some] <;> rfl), by (with_reducible repeat (first | apply Kd.R_alloc | apply Kd.R_drewN | apply Kd.R_drew)); exact Kd.R_mono HO136.out (fun _ hk => trivial), hs_⟩
set_option maxHeartbeats 8000000 in
set_option maxRecDepth 100000 in
theorem sets_Grow.calls (k : Nat) (A0 : Option Addr) (c0 : Nat) (l0 : List (S71)) (a1 : Int) (r : List (S71)) (w : World) (hr0 : Kd.C k71 w A0 l0.length l0) (hc0 : l0.length ≤ c0) (h : sets_Grow.f k l0 a1 = some r) :
  Calls Tryz.prog 61 #[.slice A0 l0.length c0, .int .i64 a1] w fun e w' => ∃ v0_ : Value, e = .returned (v0_) ∧ Kd.R k71 71 w' w.heap.size (fun _ => True) v0_ r ∧ Below w.heap.size w w' := by
 have HR0 := A_ hr0; have HC0 := A_ hc0; clear hr0 hc0; have HB := A_ (Below.refl w.heap.size w); have H : ((sets_moved.f k l0 (-(mx 0 (mn a1 2199023255552))) (mx 0 (mn a1 2199023255552))).bind fun t137 => (some t137)) = some r := h; clear h; obtain ⟨ji3, hji3⟩ : ∃ j_ : Int, (mn a1 2199023255552) = j_ := ⟨_, rfl⟩; (first | rw [hji3] at H | simp only [hji3] at H); (try (have hji3h : ji3 ≤ 2199023255552 := by (rw [← hji3]; unfold mn; (repeat' split) <;> omega))); (try (have hji3g : ji3 ≤ 64 := by omega)); have hji3_ : (if 2199023255552 < a1 then 2199023255552 else a1) = ji3 := hji3; obtain ⟨ji4, hji4⟩ : ∃ j_ : Int, (mx 0 (ji3)) = j_ := ⟨_, rfl⟩; (first | rw [hji4] at H | simp only [hji4] at H); have hji4_ : (if 0 < (ji3) then (ji3) else 0) = ji4 := hji4; obtain ⟨t137, A5, H⟩ := bi_ H; obtain rfl := Option.some.inj H; go_enter Tryz.func61, Tryz.ntmps61; go_wp2_with (first | ((with_reducible refine gC 108 ?_); refine goesL_ (some 12) rfl rfl Tryz.func108 (by kernel_rfl) rfl #[.slice A0 l0.length c0, .int .i64 (-(ji4)), .int .i64 ji4] rfl (by (try simp only [List.map_toArray, List.map_cons, List.map_nil]); first | done | (simp only [hji4]; rfl) | rfl | (simp only [List.length_drop, List.length_take]; rfl)) ?_; (with_reducible refine (sets_moved.calls k _ _ l0 (-(ji4)) ji4 t137 _ ?side1 ?side2 A5.out).mono ?_); (case side1 => repeat (first | exact HR0.out | (with_reducible refine Kd.C_alloc ?_ _) | (with_reducible refine Kd.C_drewN ?_ _) | (with_reducible refine Kd.C_drew ?_))); (case side2 => exact HC0.out); rintro e w6 ⟨v138, rfl, ho0, hb⟩; refine ⟨_, rfl, ?_⟩; have HO139 := A_ (Kd.R_lower ho0 (below_size hs_)); replace HB := bs_ hb; (try clear hb); (try clear ho0))); go_ret; exact ⟨_, by first | rfl | (simp [errW_none, errW_some] <;> rfl) | (simp only [← hji3, ← hji4]; first | rfl | (simp [errW_none, errW_some] <;> rfl)) | (simp [*, errW_none, errW_some] <;> rfl), fxR_ HO139.out, hs_⟩
def point_Near.T4 : Bool × List (List Nat × List Nat) := (true, [([], []), ([0], [0]), ([], []), ([], []), ([3], [3]), ([4], [4]), ([2, 5, 5], [2, 5]), ([], []), ([7], [7]), ([8, 6], [8]), ([9], [9]), ([6, 10, 9], [6, 10]), ([1, 11, 11], [1, 11]), ([12], [12]), ([12], [12]), ([13, 12, 0, 1, 2, 3, 4, 5, 6, 7, 8, 9, 10, 11, 12, 13, 14], [13]), ([14, 15, 0, 1, 2, 3, 4, 5, 6, 7, 8, 9, 10, 11, 12, 13, 14, 15], [14])])
def point_Near.B4 : List Nat := [0, 1, 0, 0, 8, 24, 60, 0, 128, 508, 1020, 2044, 4095, 8191, 8191, 32767, 65535]
theorem point_Near.tab4 : rtab .any (opsOf Tryz.f17 4) = point_Near.T4 := by kernel_rfl
theorem point_Near.bits4 : waitsOk point_Near.T4.2 point_Near.B4 = true := by kernel_rfl
set_option maxHeartbeats 8000000 in
set_option maxRecDepth 100000 in
theorem point_Near.calls (k : Nat) (a0_0 : Int) (a0_1 a0_2 a0_3 : ByteArray) (r1 : List (S71)) (r2 : Int) (w : World) (htab : TL w.heap.size w) (h : point_Near.f k a0_0 a0_1 a0_2 a0_3 = some (r1, r2)) :
  Calls Tryz.prog 17 #[.agg #[.int .i64 a0_0, .string a0_1, .string a0_2, .string a0_3]] w fun e w' => ∃ v0_ : Value, e = .returned (.tuple #[v0_, .int .i64 r2]) ∧ Kd.V k71 71 w' w.heap.size (fun k_ => (w.heap.size ≤ k_)) v0_ r1 ∧ Below w.heap.size w w' := by
 have HTAB := A_ htab; clear htab; have hu23 := Tryz.underlying23; have HB := A_ (Below.refl w.heap.size w); have H : ((point_Set.f k a0_0 a0_1 a0_2 a0_3).bind fun bt183 => (if bt183.2 = 0 then ((point_Radius.f a0_0).bind fun t187 => ((sets_Grow.f k bt183.1 t187).bind fun t188 => ((unit_Count.f a0_0).bind fun t191 => ((sets_Clip.f k t188 0 (wrap64 (t191 - 1))).bind fun t192 => ((point_known.f k a0_0 t192).bind fun bt195 => (some (bt195.1, bt195.2))))))) else (some (([] : List (S71)), bt183.2)))) = some (r1, r2) := h; clear h; obtain ⟨⟨t183, t186⟩, A2, H⟩ := bi_ H
 obtain ⟨c3b0, c3b1, H⟩ | ⟨c3, c3b0, c3b1, H⟩ := ie_ H
 ·obtain ⟨t187, A4, H⟩ := bi_ H; obtain ⟨t188, A5, H⟩ := bi_ H; obtain ⟨t191, A6, H⟩ := bi_ H; obtain ⟨t192, A7, H⟩ := bi_ H; obtain ⟨⟨t195, t198⟩, A8, H⟩ := bi_ H; simp only [Option.some.injEq, Prod.mk.injEq] at H; obtain ⟨rfl, rfl⟩ := H; go_enter Tryz.func17, Tryz.ntmps17; (try go_wp2_with (first | ((with_reducible refine gD 1 ?_); refine gx_ w 1 (n4_ a0_0 a0_1 a0_2 a0_3) 23 ?_; clear HB; intro gb182 w9 BK182 GE182 HB; have GW182 := GE182; have Z10 := bz4_ BK182) | ((with_reducible refine gC 15 ?_); refine goesL_ (some 8) rfl rfl Tryz.func15 (by kernel_rfl) rfl #[.agg #[.int .i64 a0_0, .string a0_1, .string a0_2, .string a0_3]] rfl ml_ ?_; (with_reducible refine (point_Set.calls k a0_0 a0_1 a0_2 a0_3 t183 t186 _ tl_ A2.out).mono ?_); rintro e w11 ⟨v184, rfl, ho0, hb⟩; refine ⟨_, rfl, ?_⟩; have HO185 := A_ (Kd.V_lower (Kd.V_mono (ok' := fun k_ => (w.heap.size ≤ k_) ∧ k_ ≠ gb182) ho0 (fun k_ hk_ => ⟨(Nat.le_trans (below_size hs_) hk_), (fb_ BK182 k_ hk_)⟩)) (below_size hs_)); replace BK182 := bb_ BK182 hb; replace HB := bs_ hb; (try clear ho0))))
  replace HO185 := A_ (Kd.V_drew HO185.out); replace BK182 := A_ (blk_drew BK182.out); replace HB := A_ (below_drew1 HB.out); refine start_ (n := 17) (S := fun w' => C4 w' gb182 (.int .i64 a0_0) (.string a0_1) (.string a0_2) (.string a0_3)) (ds := []) (ab 17 0) (by kernel_rfl) rfl rfl (cq4_ BK182) (fun hHeld => ?_); refine with_tabW point_Near.tab4 point_Near.bits4 (fun HT_ HW_ => ?_); generalize w11.drew = w12 at HO185 BK182 HB hHeld ⊢; refine pA 0 14 17 1 ?_; refine pA 2 16 17 5 ?_; refine pA 3 17 17 13 ?_; refine pA 7 21 17 141 ?_; refine tB 1 15 17 143 ?_; refine tB 4 18 17 159 ?_; refine tB 8 22 17 415 ?_; refine oA 5 (some 19) 17 447 fun K hK => ?_; refine goes_ Tryz.func24 (by kernel_rfl) rfl #[.int .i64 a0_0] (by rfl) rfl rfl ml_ ?_; (with_reducible refine (point_Radius.calls a0_0 t187 _ A4.out).mono ?_); rintro e w' ⟨rfl, ⟨nd, rfl⟩⟩; refine ⟨_, rfl, ?_⟩; obtain ⟨Ao13, co13, eo13⟩ := Kd.V_slice HO185.out; (first | subst eo13 | (injection eo13 with f1_ f2_ f3_; have f4_ := f1_.symm; have f5_ := f3_.symm; clear f1_ f2_ f3_; subst f4_; subst f5_)); refine hK.out _ _ (cq4_ BK182) (fun hHeld => ?_); clear hK K; refine nA ?_; refine oA 6 (some 20) 17 511 fun K hK => ?_; refine goes_ Tryz.func61 (by kernel_rfl) rfl #[.slice Ao13 t183.length co13, .int .i64 t187] (by rfl) rfl rfl ml_ ?_; (with_reducible refine (sets_Grow.calls k _ _ t183 t187 t188 _ ?side1 ?side2 A5.out).mono ?_)
  (case side1 => repeat (first | exact (Kd.V_reads' HO185.out).2.2 | (with_reducible refine Kd.C_alloc ?_ _) | (with_reducible refine Kd.C_drewN ?_ _) | (with_reducible refine Kd.C_drew ?_)))
  (case side2 => exact (Kd.V_reads' HO185.out).2.1)
  rintro e w14 ⟨v189, rfl, ho0, hb⟩; refine ⟨_, rfl, ?_⟩; replace HO185 := A_ (Kd.V_elder' (fxV_ HO185.out) (Kd.R_base ho0) hb); have HO190 := A_ (Kd.R_lower (Kd.R_newM (M := fun k_ => (w.heap.size ≤ k_)) ho0 (below_size hs_) (fun k_ h_ => h_)) (below_size hs_)); replace BK182 := bb_ BK182 hb; replace HB := bs_ hb; refine hK.out _ _ (cq4_ BK182) (fun hHeld => ?_); clear hK K; refine nA ?_; refine oA 9 (some 23) 17 1023 fun K hK => ?_; refine goes_ Tryz.func51 (by kernel_rfl) rfl #[.int .i64 a0_0] (by rfl) rfl rfl ml_ ?_; (with_reducible refine (unit_Count.calls a0_0 t191 _ A6.out).mono ?_); rintro e w15 ⟨rfl, hb⟩; refine ⟨_, rfl, ?_⟩; replace HO185 := bV_ HO185 hb; replace HO190 := A_ (Kd.R_below (fxR_ HO190.out) hb); replace BK182 := bb_ BK182 hb; replace HB := bs_ hb; obtain ⟨Ao16, co16, eo16⟩ := Kd.R_slice HO190.out; (first | subst eo16 | (injection eo16 with f1_ f2_ f3_; have f4_ := f1_.symm; have f5_ := f3_.symm; clear f1_ f2_ f3_; subst f4_; subst f5_)); refine hK.out _ _ (cq4_ BK182) (fun hHeld => ?_); clear hK K; refine nA ?_; refine pA 10 24 17 2047 ?_; refine oA 11 (some 25) 17 4095 fun K hK => ?_; refine goes_ Tryz.func60 (by kernel_rfl) rfl #[.slice Ao16 t188.length co16, .int .i64 0, .int .i64 (wrap64 (t191 - 1))] (by rfl) rfl rfl ml_ ?_; (with_reducible refine (sets_Clip.calls k _ _ t188 0 (wrap64 (t191 - 1)) t192 _ ?side1 ?side2 A7.out).mono ?_)
  (case side1 => repeat (first | exact (Kd.R_reads' HO190.out).2.2 | (with_reducible refine Kd.C_alloc ?_ _) | (with_reducible refine Kd.C_drewN ?_ _) | (with_reducible refine Kd.C_drew ?_)))
  (case side2 => exact (Kd.R_reads' HO190.out).2.1)
  rintro e w17 ⟨v193, rfl, ho0, hb⟩; refine ⟨_, rfl, ?_⟩; replace HO185 := A_ (Kd.V_elder' (fxV_ HO185.out) (Kd.R_base ho0) hb); have HO194 := A_ (Kd.R_lower (Kd.R_new' (Kd.R_newM (M := fun k_ => (w.heap.size ≤ k_)) ho0 (below_size hs_) (fun k_ h_ => h_)) (Kd.R_lt (fxR_ HO190.out))) (below_size hs_)); replace HO190 := A_ (Kd.R_elder' (fxR_ HO190.out) (Kd.R_base ho0) hb); replace BK182 := bb_ BK182 hb; replace HB := bs_ hb; obtain ⟨Ao18, co18, eo18⟩ := Kd.R_slice HO194.out; (first | subst eo18 | (injection eo18 with f1_ f2_ f3_; have f4_ := f1_.symm; have f5_ := f3_.symm; clear f1_ f2_ f3_; subst f4_; subst f5_)); refine hK.out _ _ (cq4_ BK182) (fun hHeld => ?_); clear hK K; refine nA ?_; refine oA 12 (some 26) 17 8191 fun K hK => ?_; refine goes_ Tryz.func57 (by kernel_rfl) rfl #[.int .i64 a0_0, .slice Ao18 t192.length co18] (by rfl) rfl rfl ml_ ?_; (with_reducible refine (point_known.calls k a0_0 (fun k_ => some k_ = (.slice Ao18 t192.length co18 : Value).ownBlock) _ _ t192 t195 t198 _ tl_ ?side1 A8.out).mono ?_)
  (case side1 => exact Kd.R_V (Kd.R_tight rfl (Kd.R_types (HO194.out) BK182.out (by decide))))
  rintro e w19 ⟨v196, rfl, ho0, hb⟩; refine ⟨_, rfl, ?_⟩; replace HO185 := bV_ HO185 hb; have HO197 := A_ (Kd.V_lower (Kd.V_mono (ok' := fun k_ => (w.heap.size ≤ k_) ∧ nv_ k_ (.slice Ao16 t188.length co16) ∧ k_ ≠ gb182) ho0 (fun k_ hk_ => ⟨Or.elim hk_ (fun hs_ => ((Kd.R_types (HO194.out) BK182.out (by decide)).1 k_ hs_.symm).1.1.1) (fun hn_ => (Nat.le_trans (below_size hs_) hn_)), Or.elim hk_ (fun hs_ => ((Kd.R_types (HO194.out) BK182.out (by decide)).1 k_ hs_.symm).1.2) (fun hn_ => (Kd.fresh' (Kd.R_lt (fxR_ HO190.out)) k_ hn_)), Or.elim hk_ (fun hs_ => ((Kd.R_types (HO194.out) BK182.out (by decide)).1 k_ hs_.symm).2) (fb_ BK182 k_)⟩)) (below_size hs_)); replace HO190 := A_ (Kd.R_below (fxR_ HO190.out) hb); replace HO194 := A_ (Kd.R_below (fxR_ HO194.out) hb); replace BK182 := bb_ BK182 hb; replace HB := bs_ hb; refine hK.out _ _ (cq4_ BK182) (fun hHeld => ?_); clear hK K; refine nA ?_; refine pA 13 27 17 16383 ?_; refine pA 14 28 17 32767 ?_; refine pA 15 2 17 65535 ?_; refine pA 16 3 17 131071 ?_; refine done_ (done_of HT_.out (by kernel_rfl)) ?_; (try go_wp2); go_ret2; exact ⟨_, by first | rfl | (simp [errW_none, errW_some] <;> rfl) | (simp [*, errW_none, errW_some] <;> rfl), by (with_reducible repeat (first | apply Kd.V_alloc | apply Kd.V_drewN | apply Kd.V_drew)); exact Kd.V_mono HO197.out (fun _ hk => hk.1), hs_⟩
 ·simp only [Option.some.injEq, Prod.mk.injEq] at H; obtain ⟨rfl, rfl⟩ := H; go_enter Tryz.func17, Tryz.ntmps17; go_wp2_with (first | ((with_reducible refine gD 1 ?_); refine gx_ w 1 (n4_ a0_0 a0_1 a0_2 a0_3) 23 ?_; clear HB; intro gb182 w20 BK182 GE182 HB; have GW182 := GE182; have Z21 := bz4_ BK182) | ((with_reducible refine gC 15 ?_); refine goesL_ (some 8) rfl rfl Tryz.func15 (by kernel_rfl) rfl #[.agg #[.int .i64 a0_0, .string a0_1, .string a0_2, .string a0_3]] rfl ml_ ?_; (with_reducible refine (point_Set.calls k a0_0 a0_1 a0_2 a0_3 t183 t186 _ tl_ A2.out).mono ?_); rintro e w22 ⟨v184, rfl, ho0, hb⟩; refine ⟨_, rfl, ?_⟩; have HO185 := A_ (Kd.V_lower (Kd.V_mono (ok' := fun k_ => (w.heap.size ≤ k_) ∧ k_ ≠ gb182) ho0 (fun k_ hk_ => ⟨(Nat.le_trans (below_size hs_) hk_), (fb_ BK182 k_ hk_)⟩)) (below_size hs_)); replace BK182 := bb_ BK182 hb; replace HB := bs_ hb; (try clear ho0))); go_ret2; exact ⟨_, by first | rfl | (simp [errW_none, errW_some] <;> rfl) | (simp [*, errW_none, errW_some] <;> rfl), Kd.V_nil _ _ _ _ _, hs_⟩
set_option maxHeartbeats 8000000 in
set_option maxRecDepth 100000 in
theorem lustrumref08_Radius.calls (a0 r : Int) (w : World) (h : lustrumref08_Radius.f a0 = some r) :
  Calls Tryz.prog 25 #[.int .i64 a0] w fun e w' => e = .returned (.int .i64 r) ∧ Drawn0 w w' := by
 have H : (if a0 = 0 then (some 3) else (if a0 = 3 then (some 2) else (if a0 = 1 then (some 1) else (if a0 = 2 then (some 1) else (if a0 = 4 then (some 1) else (if a0 = 5 then (some 1) else (some 0))))))) = some r := h; clear h
 obtain ⟨c2b0, c2b1, H⟩ | ⟨c2, c2b0, c2b1, H⟩ := ie_ H
 ·obtain rfl := Option.some.inj H; go_enter Tryz.func25, Tryz.ntmps25; go_wp2; go_ret; exact ⟨by first | rfl | (simp; done) | (simp [*]; done), by repeat (first | exact Drawn0.refl _ | apply Drawn0.step)⟩
 ·obtain ⟨c3b0, c3b1, H⟩ | ⟨c3, c3b0, c3b1, H⟩ := ie_ H
  ·obtain rfl := Option.some.inj H; go_enter Tryz.func25, Tryz.ntmps25; go_wp2; go_ret; exact ⟨by first | rfl | (simp; done) | (simp [*]; done), by repeat (first | exact Drawn0.refl _ | apply Drawn0.step)⟩
  ·obtain ⟨c4b0, c4b1, H⟩ | ⟨c4, c4b0, c4b1, H⟩ := ie_ H
   ·obtain rfl := Option.some.inj H; go_enter Tryz.func25, Tryz.ntmps25; go_wp2; go_ret; exact ⟨by first | rfl | (simp; done) | (simp [*]; done), by repeat (first | exact Drawn0.refl _ | apply Drawn0.step)⟩
   ·obtain ⟨c5b0, c5b1, H⟩ | ⟨c5, c5b0, c5b1, H⟩ := ie_ H
    ·obtain rfl := Option.some.inj H; go_enter Tryz.func25, Tryz.ntmps25; go_wp2; go_ret; exact ⟨by first | rfl | (simp; done) | (simp [*]; done), by repeat (first | exact Drawn0.refl _ | apply Drawn0.step)⟩
    ·obtain ⟨c6b0, c6b1, H⟩ | ⟨c6, c6b0, c6b1, H⟩ := ie_ H
     ·obtain rfl := Option.some.inj H; go_enter Tryz.func25, Tryz.ntmps25; go_wp2; go_ret; exact ⟨by first | rfl | (simp; done) | (simp [*]; done), by repeat (first | exact Drawn0.refl _ | apply Drawn0.step)⟩
     ·obtain ⟨c7b0, c7b1, H⟩ | ⟨c7, c7b0, c7b1, H⟩ := ie_ H
      ·obtain rfl := Option.some.inj H; go_enter Tryz.func25, Tryz.ntmps25; go_wp2; go_ret; exact ⟨by first | rfl | (simp; done) | (simp [*]; done), by repeat (first | exact Drawn0.refl _ | apply Drawn0.step)⟩
      ·obtain rfl := Option.some.inj H; go_enter Tryz.func25, Tryz.ntmps25; go_wp2; go_ret; exact ⟨by first | rfl | (simp; done) | (simp [*]; done), by repeat (first | exact Drawn0.refl _ | apply Drawn0.step)⟩
theorem eqA71 (d : Nat) (w : World) (x0 y0 : Int) (x1 y1 : Int) :
  (Op.equalIn (d + 2) 71 (.agg #[.int .i64 x0, .int .i64 x1]) (.agg #[.int .i64 y0, .int .i64 y1])).run Tryz.prog w = .ok (x0 == y0 && (x1 == y1)) w := by
 refine eqA_of Tryz.underlying71 (by kernel_rfl) ?_; refine eqf_cons (by rfl) (by go_simp; rfl) (by go_simp; rfl) (by go_simp) ?_; exact eqf_last (by rfl) (by go_simp; rfl) (by go_simp; rfl) (by go_simp)
end Go.Proofs.YthppfagfmjchoaaGreatDoor.A
namespace Go.Proofs.YthppfagfmjchoaaGreatDoor.A
open Go.RowKit Go.Proofs.YthppfagfmjchoaaGreatDoorW.PrintWords Go.Proofs.YthppfagfmjchoaaGreatDoorW.PrintLast Go.Proofs.YthppfagfmjchoaaGreatDoorW.PrintMore
attribute [local go_sem] max2_int min2_int max_two min_two max_three min_three max_four min_four
attribute [local go_sem high] eqA71
def lustrumref05_Grow.T7 : Bool × List (List Nat × List Nat) := (true, [([], []), ([], []), ([], []), ([1, 2], [1, 2]), ([3], [3]), ([4], [4]), ([], []), ([5, 6], [5, 6]), ([], []), ([], []), ([8, 9], [8, 9]), ([10], [10]), ([11], [11]), ([], []), ([12, 13], [12, 13]), ([7, 14], [7, 14]), ([15], [15]), ([0, 16], [0, 16]), ([17, 17, 0, 1, 2, 3, 4, 5, 6, 7, 8, 9, 10, 11, 12, 13, 14, 15, 16, 17], [0, 17])])
def lustrumref05_Grow.B7 : List Nat := [0, 0, 0, 6, 14, 30, 0, 126, 0, 0, 768, 1792, 3840, 0, 16128, 32766, 65534, 131071, 262143]
theorem lustrumref05_Grow.tab7 : rtab .any (opsOf Tryz.f63 7) = lustrumref05_Grow.T7 := by kernel_rfl
theorem lustrumref05_Grow.bits7 : waitsOk lustrumref05_Grow.T7.2 lustrumref05_Grow.B7 = true := by kernel_rfl
set_option maxHeartbeats 8000000 in
set_option maxRecDepth 100000 in
theorem lustrumref05_Grow.calls (k : Nat) (P0_ : Nat → Prop) (A0 : Option Addr) (c0 : Nat) (l0 : List (S71)) (a1 : Int) (r : List (S71)) (w : World) (hs0 : Kd.V k71 71 w w.heap.size (fun k_ => P0_ k_) (.slice A0 l0.length c0) l0) (h : lustrumref05_Grow.f k l0 a1 = some r) :
  Calls Tryz.prog 63 #[.slice A0 l0.length c0, .int .i64 a1] w fun e w' => ∃ v0_ : Value, e = .returned (v0_) ∧ Kd.V k71 71 w' w.heap.size (fun k_ => (P0_ k_ ∨ w.heap.size ≤ k_)) v0_ r ∧ Below w.heap.size w w' := by
 have hu71 := Tryz.underlying71; have HO0 := A_ (show Kd.V k71 71 w w.heap.size (fun k_ => (P0_ k_ ∨ w.heap.size ≤ k_)) (.slice A0 l0.length c0) l0 from Kd.V_mono hs0 (fun k_ hk => .inl hk)); have HB := A_ (Below.refl w.heap.size w); have H : ((lustrumref04_As.f k l0).bind fun t343 => (lustrumref05_Grow.l0 k t343 (mn (mx a1 0) 2199023255552) ([] : List (S71)) 0)) = some r := h; clear h; obtain ⟨t343, A3, H⟩ := bi_ H; obtain ⟨ji4, hji4⟩ : ∃ j_ : Int, (mx a1 0) = j_ := ⟨_, rfl⟩; (first | rw [hji4] at H | simp only [hji4] at H); (try rw [hji4] at A3); (try (have hji4l : 0 ≤ ji4 := by (rw [← hji4]; unfold mx; (repeat' split) <;> omega))); (try (have hji4m : 0 ≤ ji4 := by omega)); have hji4_ : (if a1 < 0 then 0 else a1) = ji4 := hji4; obtain ⟨ji5, hji5⟩ : ∃ j_ : Int, (mn (ji4) 2199023255552) = j_ := ⟨_, rfl⟩; (first | rw [hji5] at H | simp only [hji5] at H); (try rw [hji5] at A3); have hji5_ : (if 2199023255552 < (ji4) then 2199023255552 else (ji4)) = ji5 := hji5; have H' := A_ H; clear H; go_enter Tryz.func63, Tryz.ntmps63; go_wp2_with (first | ((with_reducible refine gC 64 ?_); refine goesL_ (some 10) rfl rfl Tryz.func64 (by kernel_rfl) rfl #[.slice A0 l0.length c0] rfl ml_ ?_; (with_reducible refine (lustrumref04_As.calls k (fun k_ => (P0_ k_ ∨ w.heap.size ≤ k_)) _ _ l0 t343 _ ?side1 A3.out).mono ?_); (case side1 => exact HO0.out); rintro e w6 ⟨v344, rfl, ho0, hb⟩; refine ⟨_, rfl, ?_⟩; replace HO0 := bV_ HO0 hb; have HO345 := A_ (Kd.V_lower (Kd.V_mono (ok' := fun k_ => (P0_ k_ ∨ w.heap.size ≤ k_)) ho0 (fun k_ hk_ => Or.elim hk_ (fun hs_ => hs_) (fun hn_ => (.inr (Nat.le_trans (below_size hs_) hn_))))) (below_size hs_)); replace HB := bs_ hb; (try clear ho0))); go_loopg [7, 8] k (fun kq v7 v8 w' => ∃ (x7_1 : List (S71)) (x8_1 : Int), v8 = .int .i64 x8_1 ∧ Aside0 (lustrumref05_Grow.l0 kq t343 ji5 x7_1 x8_1 = some r) ∧ Aside0 (kq ≤ k) ∧ Aside0 (Kd.V k71 71 w' w.heap.size (fun k_ => (P0_ k_ ∨ w.heap.size ≤ k_) ∧ nv_ k_ v7) v344 t343) ∧ Aside0 (Kd.R k71 71 w' w.heap.size (fun k_ => (w.heap.size ≤ k_)) v7 x7_1) ∧ Aside0 (Below w.heap.size w w'))
 case atStart => exact ⟨(([] : List (S71))), (0), rf_, H', ⟨Nat.le_refl _⟩, ⟨by (with_reducible repeat (first | apply Kd.V_alloc | apply Kd.V_drewN | apply Kd.V_drew)); exact Kd.V_mono HO345.out (fun _ hk => ⟨hk, (by simp [Value.ownBlock])⟩)⟩, ⟨by first | exact Kd.R_nil _ _ _ _ _ | exact Kd.N_nil _ _ _ _ _ | exact Kd.V_nil _ _ _ _ _ | exact Kd.Q_nil _ _ _ _ _ | exact Kd.S_nil _ _ _ _ _⟩, ⟨hs_⟩⟩
 case round =>
  clear H'; obtain ⟨x7_1, x8_1, rfl, HA, HK1, HO_5, HO_7, HB⟩ := hrel
  cases gk with
  | zero => exact absurd HA.out (by simp [lustrumref05_Grow.l0])
  | succ k1 =>
   have H := HA.out; clear HA; simp only [lustrumref05_Grow.l0] at H
   obtain ⟨c7b0, H⟩ | ⟨c7b0, H⟩ := ic_ H
   ·obtain ⟨c8b0, H⟩ := gd_ H
    obtain ⟨c9, H⟩ := gc_ H; have LMc9 := A_ c9; clear c9; obtain ⟨y348, hy348⟩ : ∃ y_ : List (S71), y_ = (x7_1 ++ [(⟨wrap64 (((rd_T71 t343 x8_1).f0) - ji5), wrap64 (((rd_T71 t343 x8_1).f1) + ji5)⟩ : S71)]) := ⟨_, rfl⟩; (replace H : (lustrumref05_Grow.l0 k1 t343 ji5 y348 (wrap64 (x8_1 + 1))) = some r := by first | (rw [hy348]; with_reducible exact H) | (have H2_ := (Option.bind_some _ _).symm.trans H; rw [hy348]; with_reducible exact H2_) | (have H2_ := (Option.bind_some _ _).symm.trans H; with_reducible exact H2_) | with_reducible exact H | (rw [hy348]; exact H) | exact H); have Ny348 := A_ hy348; clear hy348; have H' := A_ H; clear H; obtain ⟨Ao10, co10, eo10⟩ := Kd.V_slice HO_5.out; subst eo10; (try go_wp2); replace HO_5 := A_ (Kd.V_drew HO_5.out); replace HO_7 := A_ (Kd.R_drew HO_7.out); replace HB := A_ (below_drew1 HB.out); have p346 : 0 ≤ (x8_1 : Int) := od_; have q346 : x8_1 < (t343.length : Int) := od_; obtain ⟨ad346, e346, hx346_0, hx346_1⟩ := at_T71 (Kd.V_reads' HO_5.out).2.2 x8_1 p346 q346
    cases e346
    replace p346 := eq_true p346; replace q346 := eq_true q346; have p347 : 0 ≤ (x8_1 : Int) := od_; have q347 : x8_1 < (t343.length : Int) := od_; obtain ⟨ad347, e347, hx347_0, hx347_1⟩ := at_T71 (Kd.V_reads' HO_5.out).2.2 x8_1 p347 q347; obtain rfl : ad346 = ad347 := (by injection e347); replace p347 := eq_true p347; replace q347 := eq_true q347; refine start_ (n := 19) (S := fun w' => w'.cell? (ad346.add ((x8_1).toNat * 2)) = some (.int .i64 ((rd_T71 t343 x8_1).f0)) ∧ w'.cell? ⟨(ad346.add ((x8_1).toNat * 2)).block, (ad346.add ((x8_1).toNat * 2)).off + 1, none⟩ = some (.int .i64 ((rd_T71 t343 x8_1).f1)) ∧ w'.cell? (ad346.add ((x8_1).toNat * 2)) = some (.int .i64 ((rd_T71 t343 x8_1).f0)) ∧ w'.cell? ⟨(ad346.add ((x8_1).toNat * 2)).block, (ad346.add ((x8_1).toNat * 2)).off + 1, none⟩ = some (.int .i64 ((rd_T71 t343 x8_1).f1))) (ds := [16, 17]) (ab 19 0) (by kernel_rfl) rfl rfl ⟨hx346_0, hx346_1, hx347_0, hx347_1⟩ (fun hHeld => ?_); refine with_tabW lustrumref05_Grow.tab7 lustrumref05_Grow.bits7 (fun HT_ HW_ => ?_); generalize wr.drew = w11 at HO_5 HO_7 HB hx346_0 hx346_1 hx347_0 hx347_1 hHeld ⊢; refine pA 0 20 19 1 ?_; refine pA 1 21 19 3 ?_; refine pA 2 22 19 7 ?_; refine pA 3 23 19 15 ?_; refine pA 4 24 19 31 ?_; refine pA 6 26 19 95 ?_; refine pA 8 28 19 351 ?_; refine pA 9 29 19 863 ?_; refine pA 10 30 19 1887 ?_; refine pA 11 31 19 3935 ?_; refine pA 13 33 19 12127 ?_; refine tB 5 25 19 12159 ?_; refine pA 7 27 19 12287 ?_; refine tB 12 32 19 16383 ?_; refine pA 14 34 19 32767 ?_; refine pA 15 35 19 65535 ?_; refine last_ (i := 16) (N := some 36) (ab 19 131071) rfl rfl (one_of HT_.out (by kernel_rfl)) (by decide) (fun K hK => ?_); refine value_ (w1 := ?_) (v := ?_) (by rfl) rfl ?_ ?_; rotate_left 2
    ·go_simp
     constructor
     ·rfl
     ·rfl
    refine hK.out _ _ ?_; clear hK K; refine nA ?_; refine last_ (i := 17) (N := some 37) (ab 19 262143) rfl rfl (one_of HT_.out (by kernel_rfl)) (by decide) (fun K hK => ?_); refine Kd.R_append_step k71 (w0 := w) w.heap.size (by rfl) (.tmp 20) (.tmp 36) 28 71 (.agg #[(.int .i64 0), (.int .i64 0)]) 16 rfl Tryz.underlying28 info71 rfl (by decide) (by omega) u7 x7_1 (⟨wrap64 (((rd_T71 t343 x8_1).f0) - ji5), wrap64 (((rd_T71 t343 x8_1).f1) + ji5)⟩ : S71) [.int .i64 (wrap64 (((rd_T71 t343 x8_1).f0) - ji5)), .int .i64 (wrap64 (((rd_T71 t343 x8_1).f1) + ji5))] (fun k_ => (w.heap.size ≤ k_)) (fun _ => False) rfl rfl ?aP (fun _ hk => hk.elim) ?aF ?aO ?aB ?aS ?aL ?_
    (case aP => exact k71_mkM _ _ _ (⟨wrap64 (((rd_T71 t343 x8_1).f0) - ji5), wrap64 (((rd_T71 t343 x8_1).f1) + ji5)⟩ : S71))
    (case aB => exact hs_)
    (case aF => exact (fun k_ hk => (Nat.le_trans (below_size hs_) hk)))
    (case aO => exact (fxR_ HO_7.out))
    (case aS => exact (below_size hs_))
    (case aL => have := LMc9.out; omega)
    intro v349 w12 ho hb hg hat
    rw [← Ny348.out] at ho; replace HO_5 := A_ (Kd.V_afterv (ok := (fun k_ => (P0_ k_ ∨ w.heap.size ≤ k_))) (fxV_ HO_5.out) hg hat); replace HB := A_ (hb); have HO350 := A_ (ho); clear HO_7
    clear ho hb hg hat
    refine hK.out _ _ ?_; clear hK K; refine nA ?_; refine pA 18 7 19 524287 ?_; refine done_ (done_of HT_.out (by kernel_rfl)) ?_; (try go_wp2); go_roundg k1
    case measure => have := HK1.out; omega
    case rel => exact ⟨(y348), (wrap64 (x8_1 + 1)), rf_, H', ⟨by have := HK1.out; omega⟩, ⟨fxV_ HO_5.out⟩, ⟨fxR_ HO350.out⟩, ⟨hs_⟩⟩
   ·obtain ⟨t351, A13, H⟩ := bi_ H; obtain rfl := Option.some.inj H; obtain ⟨Ao14, co14, eo14⟩ := Kd.V_slice HO_5.out; subst eo14; obtain ⟨Ao15, co15, eo15⟩ := Kd.R_slice HO_7.out; subst eo15; go_wp2_with (first | ((with_reducible refine gC 111 ?_); refine goesL_ (some 39) rfl rfl Tryz.func111 (by kernel_rfl) rfl #[.slice Ao15 x7_1.length co15] rfl ml_ ?_; (with_reducible refine (lustrumref04_Make.calls k1 _ _ x7_1 t351 _ ?side1 ?side2 A13.out).mono ?_); (case side1 => repeat (first | exact (Kd.R_reads' HO_7.out).2.2 | (with_reducible refine Kd.C_alloc ?_ _) | (with_reducible refine Kd.C_drewN ?_ _) | (with_reducible refine Kd.C_drew ?_))); (case side2 => exact (Kd.R_reads' HO_7.out).2.1); rintro e w16 ⟨v352, rfl, ho0, hb⟩; refine ⟨_, rfl, ?_⟩; replace HO_5 := bV_ HO_5 hb; have HO353 := A_ (Kd.V_lower (Kd.V_mono (ok' := fun k_ => (P0_ k_ ∨ w.heap.size ≤ k_) ∧ nv_ k_ (.slice Ao15 x7_1.length co15)) ho0 (fun k_ hk_ => ⟨(.inr (Nat.le_trans (below_size hs_) hk_)), (Kd.fresh' (Kd.R_lt (fxR_ HO_7.out)) k_ hk_)⟩)) (below_size hs_)); replace HO_7 := A_ (Kd.R_below (fxR_ HO_7.out) hb); replace HB := bs_ hb; (try clear ho0))); go_ret; exact ⟨_, by first | rfl | (simp [errW_none, errW_some] <;> rfl) | (simp only [← hji4, ← hji5]; first | rfl | (simp [errW_none, errW_some] <;> rfl)) | (simp [*, errW_none, errW_some] <;> rfl), by (with_reducible repeat (first | apply Kd.V_alloc | apply Kd.V_drewN | apply Kd.V_drew)); exact Kd.V_mono HO353.out (fun _ hk => hk.1), hs_⟩
end Go.Proofs.YthppfagfmjchoaaGreatDoor.A
namespace Go.Proofs.YthppfagfmjchoaaGreatDoor.A
open Go.RowKit Go.Proofs.YthppfagfmjchoaaGreatDoorW.PrintWords Go.Proofs.YthppfagfmjchoaaGreatDoorW.PrintLast Go.Proofs.YthppfagfmjchoaaGreatDoorW.PrintMore
attribute [local go_sem] max2_int min2_int max_two min_two max_three min_three max_four min_four
attribute [local go_sem high] eqA71
attribute [local go_sem] isSome_setCell
def lustrumref08_Near.T4 : Bool × List (List Nat × List Nat) := (true, [([], []), ([0], [0]), ([], []), ([], []), ([3], [3]), ([4], [4]), ([2, 5, 5], [2, 5]), ([1, 6, 6], [1, 6]), ([7, 7, 0, 1, 2, 3, 4, 5, 6, 7], [7])])
def lustrumref08_Near.B4 : List Nat := [0, 1, 0, 0, 8, 24, 60, 127, 255]
theorem lustrumref08_Near.tab4 : rtab .any (opsOf Tryz.f18 4) = lustrumref08_Near.T4 := by kernel_rfl
theorem lustrumref08_Near.bits4 : waitsOk lustrumref08_Near.T4.2 lustrumref08_Near.B4 = true := by kernel_rfl
set_option maxHeartbeats 8000000 in
set_option maxRecDepth 100000 in
theorem lustrumref08_Near.calls (k : Nat) (a0_0 : Int) (a0_1 a0_2 a0_3 : ByteArray) (r1 : List (S71)) (r2 : Int) (w : World) (h : lustrumref08_Near.f k a0_0 a0_1 a0_2 a0_3 = some (r1, r2)) :
  Calls Tryz.prog 18 #[.agg #[.int .i64 a0_0, .string a0_1, .string a0_2, .string a0_3]] w fun e w' => ∃ v0_ : Value, e = .returned (.tuple #[v0_, .int .i64 r2]) ∧ Kd.V k71 71 w' w.heap.size (fun k_ => (w.heap.size ≤ k_)) v0_ r1 ∧ Below w.heap.size w w' := by
 have hu23 := Tryz.underlying23; have HB := A_ (Below.refl w.heap.size w); have H : ((lustrumref08_Set.f k a0_0 a0_1 a0_2 a0_3).bind fun bt355 => (if bt355.2 = 0 then ((lustrumref08_Radius.f a0_0).bind fun t359 => ((lustrumref05_Grow.f k bt355.1 t359).bind fun t360 => ((lustrumref07_Units.f k a0_0 t360).bind fun t363 => ((lustrumref07_Starts.f k a0_0 t363).bind fun bt366 => (if bt366.2 = true then ((lustrumref04_As.f k t363).bind fun t370 => (some (t370, 0))) else (some (([] : List (S71)), 8))))))) else (some (([] : List (S71)), bt355.2)))) = some (r1, r2) := h; clear h; obtain ⟨⟨t355, t358⟩, A2, H⟩ := bi_ H
 obtain ⟨c3b0, c3b1, H⟩ | ⟨c3, c3b0, c3b1, H⟩ := ie_ H
 ·obtain ⟨t359, A4, H⟩ := bi_ H; obtain ⟨t360, A5, H⟩ := bi_ H; obtain ⟨t363, A6, H⟩ := bi_ H; obtain ⟨⟨t366, t367⟩, A7, H⟩ := bi_ H
  by_cases c8 : t367 = true
  ·subst c8
   (have H1 : ((lustrumref04_As.f k t363).bind fun t370 => (some (t370, 0))) = some (r1, r2) := by rw [if_pos rfl] at H; exact H); clear H; have H := H1; clear H1; obtain ⟨t370, A9, H⟩ := bi_ H; simp only [Option.some.injEq, Prod.mk.injEq] at H; obtain ⟨rfl, rfl⟩ := H; go_enter Tryz.func18, Tryz.ntmps18; (try go_wp2_with (first | ((with_reducible refine gD 1 ?_); refine gx_ w 1 (n4_ a0_0 a0_1 a0_2 a0_3) 23 ?_; clear HB; intro gb354 w10 BK354 GE354 HB; have GW354 := GE354; have Z11 := bz4_ BK354) | ((with_reducible refine gC 16 ?_); refine goesL_ (some 11) rfl rfl Tryz.func16 (by kernel_rfl) rfl #[.agg #[.int .i64 a0_0, .string a0_1, .string a0_2, .string a0_3]] rfl ml_ ?_; (with_reducible refine (lustrumref08_Set.calls k a0_0 a0_1 a0_2 a0_3 t355 t358 _ A2.out).mono ?_); rintro e w12 ⟨v356, rfl, ho0, hb⟩; refine ⟨_, rfl, ?_⟩; have HO357 := A_ (Kd.R_lower (Kd.R_newM (M := fun k_ => (w.heap.size ≤ k_)) ho0 (below_size hs_) (fun k_ h_ => h_)) (below_size hs_)); replace BK354 := bb_ BK354 hb; replace HB := bs_ hb; (try clear ho0)))); replace HO357 := A_ (Kd.R_drew HO357.out); replace BK354 := A_ (blk_drew BK354.out); replace HB := A_ (below_drew1 HB.out); refine start_ (n := 9) (S := fun w' => C4 w' gb354 (.int .i64 a0_0) (.string a0_1) (.string a0_2) (.string a0_3)) (ds := []) (ab 9 0) (by kernel_rfl) rfl rfl (cq4_ BK354) (fun hHeld => ?_); refine with_tabW lustrumref08_Near.tab4 lustrumref08_Near.bits4 (fun HT_ HW_ => ?_); generalize w12.drew = w13 at HO357 BK354 HB hHeld ⊢; refine pA 0 17 9 1 ?_; refine pA 2 19 9 5 ?_; refine pA 3 20 9 13 ?_; refine tB 1 18 9 15 ?_; refine tB 4 21 9 31 ?_; refine oA 5 (some 22) 9 63 fun K hK => ?_
   refine goes_ Tryz.func25 (by kernel_rfl) rfl #[.int .i64 a0_0] (by rfl) rfl rfl ml_ ?_; (with_reducible refine (lustrumref08_Radius.calls a0_0 t359 _ A4.out).mono ?_); rintro e w' ⟨rfl, ⟨nd, rfl⟩⟩; refine ⟨_, rfl, ?_⟩; obtain ⟨Ao14, co14, eo14⟩ := Kd.R_slice HO357.out; (first | subst eo14 | (injection eo14 with f1_ f2_ f3_; have f4_ := f1_.symm; have f5_ := f3_.symm; clear f1_ f2_ f3_; subst f4_; subst f5_)); refine hK.out _ _ (cq4_ BK354) (fun hHeld => ?_); clear hK K; refine nA ?_; refine oA 6 (some 23) 9 127 fun K hK => ?_; refine goes_ Tryz.func63 (by kernel_rfl) rfl #[.slice Ao14 t355.length co14, .int .i64 t359] (by rfl) rfl rfl ml_ ?_; (with_reducible refine (lustrumref05_Grow.calls k (fun k_ => some k_ = (.slice Ao14 t355.length co14 : Value).ownBlock) _ _ t355 t359 t360 _ ?side1 A5.out).mono ?_)
   (case side1 => exact Kd.R_V (Kd.R_tight rfl (Kd.R_types (HO357.out) BK354.out (by decide))))
   rintro e w15 ⟨v361, rfl, ho0, hb⟩; refine ⟨_, rfl, ?_⟩; have HO362 := A_ (Kd.V_lower (Kd.V_mono (ok' := fun k_ => (w.heap.size ≤ k_) ∧ k_ ≠ gb354) ho0 (fun k_ hk_ => ⟨Or.elim hk_ (fun hs_ => ((Kd.R_types (HO357.out) BK354.out (by decide)).1 k_ hs_.symm).1.1) (fun hn_ => (Nat.le_trans (below_size hs_) hn_)), Or.elim hk_ (fun hs_ => ((Kd.R_types (HO357.out) BK354.out (by decide)).1 k_ hs_.symm).2) (fb_ BK354 k_)⟩)) (below_size hs_)); replace HO357 := A_ (Kd.R_below (fxR_ HO357.out) hb); replace BK354 := bb_ BK354 hb; replace HB := bs_ hb; obtain ⟨Ao16, co16, eo16⟩ := Kd.V_slice HO362.out; (first | subst eo16 | (injection eo16 with f1_ f2_ f3_; have f4_ := f1_.symm; have f5_ := f3_.symm; clear f1_ f2_ f3_; subst f4_; subst f5_)); refine hK.out _ _ (cq4_ BK354) (fun hHeld => ?_); clear hK K; refine nA ?_; refine oA 7 (some 24) 9 255 fun K hK => ?_; refine goes_ Tryz.func62 (by kernel_rfl) rfl #[.int .i64 a0_0, .slice Ao16 t360.length co16] (by rfl) rfl rfl ml_ ?_; (with_reducible refine (lustrumref07_Units.calls k a0_0 _ _ t360 t363 _ ?side1 ?side2 A6.out).mono ?_)
   (case side1 => repeat (first | exact (Kd.V_reads' HO362.out).2.2 | (with_reducible refine Kd.C_alloc ?_ _) | (with_reducible refine Kd.C_drewN ?_ _) | (with_reducible refine Kd.C_drew ?_)))
   (case side2 => exact (Kd.V_reads' HO362.out).2.1)
   rintro e w17 ⟨v364, rfl, ho0, hb⟩; refine ⟨_, rfl, ?_⟩; replace HO362 := A_ (Kd.V_elder' (fxV_ HO362.out) (Kd.R_base ho0) hb); have HO365 := A_ (Kd.R_lower (Kd.R_new' (Kd.R_newM (M := fun k_ => (w.heap.size ≤ k_)) ho0 (below_size hs_) (fun k_ h_ => h_)) (Kd.R_lt (fxR_ HO357.out))) (below_size hs_)); replace HO357 := A_ (Kd.R_elder' (fxR_ HO357.out) (Kd.R_base ho0) hb); replace BK354 := bb_ BK354 hb; replace HB := bs_ hb; refine hK.out _ _ (cq4_ BK354) (fun hHeld => ?_); clear hK K; refine nA ?_; refine pA 8 6 9 511 ?_; refine done_ (done_of HT_.out (by kernel_rfl)) ?_; have Z18 := bz4_ BK354; obtain ⟨Ao19, co19, eo19⟩ := Kd.R_slice HO365.out; subst eo19; (try go_wp2_with (first | ((with_reducible refine gC 59 ?_); refine goesL_ (some 29) rfl rfl Tryz.func59 (by kernel_rfl) rfl #[.int .i64 a0_0, .slice Ao19 t363.length co19] rfl ml_ ?_; (with_reducible refine (lustrumref07_Starts.calls k a0_0 _ _ t363 t366 true _ ?side1 ?side2 A7.out).mono ?_); (case side1 => repeat (first | exact (Kd.R_reads' HO365.out).2.2 | (with_reducible refine Kd.C_alloc ?_ _) | (with_reducible refine Kd.C_drewN ?_ _) | (with_reducible refine Kd.C_drew ?_))); (case side2 => exact (Kd.R_reads' HO365.out).2.1); rintro e w20 ⟨v368, rfl, ho0, hb⟩; refine ⟨_, rfl, ?_⟩; replace HO362 := A_ (Kd.V_elder' (fxV_ HO362.out) (Kd.R_base ho0) hb); have HO369 := A_ (Kd.R_lower (Kd.R_new' (Kd.R_new' (Kd.R_newM (M := fun k_ => (w.heap.size ≤ k_)) ho0 (below_size hs_) (fun k_ h_ => h_)) (Kd.R_lt (fxR_ HO357.out))) (Kd.R_lt (fxR_ HO365.out))) (below_size hs_)); replace HO357 := A_ (Kd.R_elder' (fxR_ HO357.out) (Kd.R_base ho0) hb); replace HO365 := A_ (Kd.R_elder' (fxR_ HO365.out) (Kd.R_base ho0) hb); replace BK354 := bb_ BK354 hb; replace HB := bs_ hb; (try clear ho0)) | ((with_reducible refine gC 64 ?_); refine goesL_ (some 35) rfl rfl Tryz.func64 (by kernel_rfl) rfl #[.slice Ao19 t363.length co19] rfl ml_ ?_; (with_reducible refine (lustrumref04_As.calls k (fun k_ => some k_ = (.slice Ao19 t363.length co19 : Value).ownBlock) _ _ t363 t370 _ ?side1 A9.out).mono ?_); (case side1 => exact Kd.R_V (Kd.R_tight rfl (Kd.R_types (HO365.out) BK354.out (by decide)))); rintro e w21 ⟨v371, rfl, ho0, hb⟩; refine ⟨_, rfl, ?_⟩; replace HO362 := bV_ HO362 hb; have HO372 := A_ (Kd.V_lower (Kd.V_mono (ok' := fun k_ => (w.heap.size ≤ k_) ∧ nv_ k_ (.slice Ao14 t355.length co14) ∧ nv_ k_ v368 ∧ k_ ≠ gb354) ho0 (fun k_ hk_ => ⟨Or.elim hk_ (fun hs_ => ((Kd.R_types (HO365.out) BK354.out (by decide)).1 k_ hs_.symm).1.1.1.1) (fun hn_ => (Nat.le_trans (below_size hs_) hn_)), Or.elim hk_ (fun hs_ => ((Kd.R_types (HO365.out) BK354.out (by decide)).1 k_ hs_.symm).1.1.2) (fun hn_ => (Kd.fresh' (Kd.R_lt (fxR_ HO357.out)) k_ hn_)), Or.elim hk_ (fun hs_ => ((Kd.R_types (HO365.out) BK354.out (by decide)).1 k_ hs_.symm).1.2) (fun hn_ => (Kd.fresh' (Kd.R_lt (fxR_ HO369.out)) k_ hn_)), Or.elim hk_ (fun hs_ => ((Kd.R_types (HO365.out) BK354.out (by decide)).1 k_ hs_.symm).2) (fb_ BK354 k_)⟩)) (below_size hs_)); replace HO357 := A_ (Kd.R_below (fxR_ HO357.out) hb); replace HO365 := A_ (Kd.R_below (fxR_ HO365.out) hb); replace HO369 := A_ (Kd.R_below (fxR_ HO369.out) hb); replace BK354 := bb_ BK354 hb; replace HB := bs_ hb; (try clear ho0))))
   go_ret2; exact ⟨_, by first | rfl | (simp [errW_none, errW_some] <;> rfl) | (simp [*, errW_none, errW_some] <;> rfl), by (with_reducible repeat (first | apply Kd.V_alloc | apply Kd.V_drewN | apply Kd.V_drew)); exact Kd.V_mono HO372.out (fun _ hk => hk.1), hs_⟩
  ·replace c8 := Bool.eq_false_iff.mpr c8
   subst c8; (have H1 : (some (([] : List (S71)), 8)) = some (r1, r2) := by rw [if_neg (show ¬ (false = true) by decide)] at H; exact H); clear H; have H := H1; clear H1; simp only [Option.some.injEq, Prod.mk.injEq] at H; obtain ⟨rfl, rfl⟩ := H; go_enter Tryz.func18, Tryz.ntmps18; (try go_wp2_with (first | ((with_reducible refine gD 1 ?_); refine gx_ w 1 (n4_ a0_0 a0_1 a0_2 a0_3) 23 ?_; clear HB; intro gb354 w22 BK354 GE354 HB; have GW354 := GE354; have Z23 := bz4_ BK354) | ((with_reducible refine gC 16 ?_); refine goesL_ (some 11) rfl rfl Tryz.func16 (by kernel_rfl) rfl #[.agg #[.int .i64 a0_0, .string a0_1, .string a0_2, .string a0_3]] rfl ml_ ?_; (with_reducible refine (lustrumref08_Set.calls k a0_0 a0_1 a0_2 a0_3 t355 t358 _ A2.out).mono ?_); rintro e w24 ⟨v356, rfl, ho0, hb⟩; refine ⟨_, rfl, ?_⟩; have HO357 := A_ (Kd.R_lower (Kd.R_newM (M := fun k_ => (w.heap.size ≤ k_)) ho0 (below_size hs_) (fun k_ h_ => h_)) (below_size hs_)); replace BK354 := bb_ BK354 hb; replace HB := bs_ hb; (try clear ho0)))); replace HO357 := A_ (Kd.R_drew HO357.out); replace BK354 := A_ (blk_drew BK354.out); replace HB := A_ (below_drew1 HB.out); refine start_ (n := 9) (S := fun w' => C4 w' gb354 (.int .i64 a0_0) (.string a0_1) (.string a0_2) (.string a0_3)) (ds := []) (ab 9 0) (by kernel_rfl) rfl rfl (cq4_ BK354) (fun hHeld => ?_); refine with_tabW lustrumref08_Near.tab4 lustrumref08_Near.bits4 (fun HT_ HW_ => ?_); generalize w24.drew = w25 at HO357 BK354 HB hHeld ⊢; refine pA 0 17 9 1 ?_; refine pA 2 19 9 5 ?_; refine pA 3 20 9 13 ?_; refine tB 1 18 9 15 ?_; refine tB 4 21 9 31 ?_; refine oA 5 (some 22) 9 63 fun K hK => ?_; refine goes_ Tryz.func25 (by kernel_rfl) rfl #[.int .i64 a0_0] (by rfl) rfl rfl ml_ ?_
   (with_reducible refine (lustrumref08_Radius.calls a0_0 t359 _ A4.out).mono ?_); rintro e w' ⟨rfl, ⟨nd, rfl⟩⟩; refine ⟨_, rfl, ?_⟩; obtain ⟨Ao26, co26, eo26⟩ := Kd.R_slice HO357.out; (first | subst eo26 | (injection eo26 with f1_ f2_ f3_; have f4_ := f1_.symm; have f5_ := f3_.symm; clear f1_ f2_ f3_; subst f4_; subst f5_)); refine hK.out _ _ (cq4_ BK354) (fun hHeld => ?_); clear hK K; refine nA ?_; refine oA 6 (some 23) 9 127 fun K hK => ?_; refine goes_ Tryz.func63 (by kernel_rfl) rfl #[.slice Ao26 t355.length co26, .int .i64 t359] (by rfl) rfl rfl ml_ ?_; (with_reducible refine (lustrumref05_Grow.calls k (fun k_ => some k_ = (.slice Ao26 t355.length co26 : Value).ownBlock) _ _ t355 t359 t360 _ ?side1 A5.out).mono ?_)
   (case side1 => exact Kd.R_V (Kd.R_tight rfl (Kd.R_types (HO357.out) BK354.out (by decide))))
   rintro e w27 ⟨v361, rfl, ho0, hb⟩; refine ⟨_, rfl, ?_⟩; have HO362 := A_ (Kd.V_lower (Kd.V_mono (ok' := fun k_ => (w.heap.size ≤ k_) ∧ k_ ≠ gb354) ho0 (fun k_ hk_ => ⟨Or.elim hk_ (fun hs_ => ((Kd.R_types (HO357.out) BK354.out (by decide)).1 k_ hs_.symm).1.1) (fun hn_ => (Nat.le_trans (below_size hs_) hn_)), Or.elim hk_ (fun hs_ => ((Kd.R_types (HO357.out) BK354.out (by decide)).1 k_ hs_.symm).2) (fb_ BK354 k_)⟩)) (below_size hs_)); replace HO357 := A_ (Kd.R_below (fxR_ HO357.out) hb); replace BK354 := bb_ BK354 hb; replace HB := bs_ hb; obtain ⟨Ao28, co28, eo28⟩ := Kd.V_slice HO362.out; (first | subst eo28 | (injection eo28 with f1_ f2_ f3_; have f4_ := f1_.symm; have f5_ := f3_.symm; clear f1_ f2_ f3_; subst f4_; subst f5_)); refine hK.out _ _ (cq4_ BK354) (fun hHeld => ?_); clear hK K; refine nA ?_; refine oA 7 (some 24) 9 255 fun K hK => ?_; refine goes_ Tryz.func62 (by kernel_rfl) rfl #[.int .i64 a0_0, .slice Ao28 t360.length co28] (by rfl) rfl rfl ml_ ?_; (with_reducible refine (lustrumref07_Units.calls k a0_0 _ _ t360 t363 _ ?side1 ?side2 A6.out).mono ?_)
   (case side1 => repeat (first | exact (Kd.V_reads' HO362.out).2.2 | (with_reducible refine Kd.C_alloc ?_ _) | (with_reducible refine Kd.C_drewN ?_ _) | (with_reducible refine Kd.C_drew ?_)))
   (case side2 => exact (Kd.V_reads' HO362.out).2.1)
   rintro e w29 ⟨v364, rfl, ho0, hb⟩; refine ⟨_, rfl, ?_⟩; replace HO362 := A_ (Kd.V_elder' (fxV_ HO362.out) (Kd.R_base ho0) hb); have HO365 := A_ (Kd.R_lower (Kd.R_new' (Kd.R_newM (M := fun k_ => (w.heap.size ≤ k_)) ho0 (below_size hs_) (fun k_ h_ => h_)) (Kd.R_lt (fxR_ HO357.out))) (below_size hs_)); replace HO357 := A_ (Kd.R_elder' (fxR_ HO357.out) (Kd.R_base ho0) hb); replace BK354 := bb_ BK354 hb; replace HB := bs_ hb; refine hK.out _ _ (cq4_ BK354) (fun hHeld => ?_); clear hK K; refine nA ?_; refine pA 8 6 9 511 ?_; refine done_ (done_of HT_.out (by kernel_rfl)) ?_; have Z30 := bz4_ BK354; obtain ⟨Ao31, co31, eo31⟩ := Kd.R_slice HO365.out; subst eo31; (try go_wp2_with (first | ((with_reducible refine gC 59 ?_); refine goesL_ (some 29) rfl rfl Tryz.func59 (by kernel_rfl) rfl #[.int .i64 a0_0, .slice Ao31 t363.length co31] rfl ml_ ?_; (with_reducible refine (lustrumref07_Starts.calls k a0_0 _ _ t363 t366 false _ ?side1 ?side2 A7.out).mono ?_); (case side1 => repeat (first | exact (Kd.R_reads' HO365.out).2.2 | (with_reducible refine Kd.C_alloc ?_ _) | (with_reducible refine Kd.C_drewN ?_ _) | (with_reducible refine Kd.C_drew ?_))); (case side2 => exact (Kd.R_reads' HO365.out).2.1); rintro e w32 ⟨v368, rfl, ho0, hb⟩; refine ⟨_, rfl, ?_⟩; replace HO362 := A_ (Kd.V_elder' (fxV_ HO362.out) (Kd.R_base ho0) hb); have HO369 := A_ (Kd.R_lower (Kd.R_new' (Kd.R_new' (Kd.R_newM (M := fun k_ => (w.heap.size ≤ k_)) ho0 (below_size hs_) (fun k_ h_ => h_)) (Kd.R_lt (fxR_ HO357.out))) (Kd.R_lt (fxR_ HO365.out))) (below_size hs_)); replace HO357 := A_ (Kd.R_elder' (fxR_ HO357.out) (Kd.R_base ho0) hb); replace HO365 := A_ (Kd.R_elder' (fxR_ HO365.out) (Kd.R_base ho0) hb); replace BK354 := bb_ BK354 hb; replace HB := bs_ hb; (try clear ho0))))
   go_ret2; exact ⟨_, by first | rfl | (simp [errW_none, errW_some] <;> rfl) | (simp [*, errW_none, errW_some] <;> rfl), Kd.V_nil _ _ _ _ _, hs_⟩
 ·simp only [Option.some.injEq, Prod.mk.injEq] at H; obtain ⟨rfl, rfl⟩ := H; go_enter Tryz.func18, Tryz.ntmps18; go_wp2_with (first | ((with_reducible refine gD 1 ?_); refine gx_ w 1 (n4_ a0_0 a0_1 a0_2 a0_3) 23 ?_; clear HB; intro gb354 w33 BK354 GE354 HB; have GW354 := GE354; have Z34 := bz4_ BK354) | ((with_reducible refine gC 16 ?_); refine goesL_ (some 11) rfl rfl Tryz.func16 (by kernel_rfl) rfl #[.agg #[.int .i64 a0_0, .string a0_1, .string a0_2, .string a0_3]] rfl ml_ ?_; (with_reducible refine (lustrumref08_Set.calls k a0_0 a0_1 a0_2 a0_3 t355 t358 _ A2.out).mono ?_); rintro e w35 ⟨v356, rfl, ho0, hb⟩; refine ⟨_, rfl, ?_⟩; have HO357 := A_ (Kd.R_lower (Kd.R_newM (M := fun k_ => (w.heap.size ≤ k_)) ho0 (below_size hs_) (fun k_ h_ => h_)) (below_size hs_)); replace BK354 := bb_ BK354 hb; replace HB := bs_ hb; (try clear ho0))); go_ret2; exact ⟨_, by first | rfl | (simp [errW_none, errW_some] <;> rfl) | (simp [*, errW_none, errW_some] <;> rfl), Kd.V_nil _ _ _ _ _, hs_⟩
set_option maxHeartbeats 8000000 in
set_option maxRecDepth 100000 in
theorem lustrumref04_Same.calls (k : Nat) (A0 : Option Addr) (c0 : Nat) (l0 : List (S71)) (A1 : Option Addr) (c1 : Nat) (l1 : List (S71)) (r : Bool) (w : World) (hr0 : Kd.C k71 w A0 l0.length l0) (hc0 : l0.length ≤ c0) (hr1 : Kd.C k71 w A1 l1.length l1) (hc1 : l1.length ≤ c1) (h : lustrumref04_Same.f k l0 l1 = some r) :
  Calls Tryz.prog 19 #[.slice A0 l0.length c0, .slice A1 l1.length c1] w fun e w' => e = .returned (.bool r) ∧ Drawn0 w w' := by
 have hu71 := Tryz.underlying71; have HR0 := A_ hr0; have HC0 := A_ hc0; clear hr0 hc0; have HR1 := A_ hr1; have HC1 := A_ hc1; clear hr1 hc1; have H : (if (l0.length : Int) = (l1.length : Int) then (lustrumref04_Same.l0 k l0 l1 0) else (some false)) = some r := h; clear h
 obtain ⟨c3, H⟩ | ⟨c3, H⟩ := iq_ H
 ·have c3b0 : ((l0.length : Int) == (l1.length : Int)) = true := beq_iff_eq.mpr c3; have c3b1 : ((l0.length : Int) != (l1.length : Int)) = false := bne_eq_false_iff_eq.mpr c3; (have c3b2 : (l0.length == l1.length) = true := by first | simpa using c3 | (simp at c3 ⊢; omega)); clear c3; have H' := A_ H; clear H; go_enter Tryz.func19, Tryz.ntmps19; go_wp2
  repeat (go_quiet (fail); try go_wp2)
  go_loopg [5] k (fun kq v5 w' => ∃ (x5_1 : Int), v5 = .int .i64 x5_1 ∧ Aside0 (lustrumref04_Same.l0 kq l0 l1 x5_1 = some r) ∧ Aside0 (kq ≤ k) ∧ Drawn0 w w')
  case atStart => exact ⟨(0), rf_, H', ⟨Nat.le_refl _⟩, by repeat (first | exact Drawn0.refl _ | apply Drawn0.step)⟩
  case round =>
   clear H'; obtain ⟨x5_1, rfl, HA, HK1, ⟨m1, rfl⟩⟩ := hrel
   cases gk with
   | zero => exact absurd HA.out (by simp [lustrumref04_Same.l0])
   | succ k1 =>
    have H := HA.out; clear HA; simp only [lustrumref04_Same.l0] at H
    obtain ⟨c4b0, H⟩ | ⟨c4b0, H⟩ := ic_ H
    ·obtain ⟨c5b0, H⟩ := gd_ H
     obtain ⟨c6b0, H⟩ := gd_ H
     obtain ⟨c7, H⟩ | ⟨c7, H⟩ := iq_ H
     ·have c7b0 : (!(((rd_T71 l0 x5_1).f0) == ((rd_T71 l1 x5_1).f0)) || (!(((rd_T71 l0 x5_1).f1) == ((rd_T71 l1 x5_1).f1)))) = true := c7; clear c7; obtain rfl := Option.some.inj H; have p373 : 0 ≤ (x5_1 : Int) := od_; have q373 : x5_1 < (l0.length : Int) := od_; obtain ⟨ad373, e373, hx373_0, hx373_1⟩ := at_T71 HR0.out x5_1 p373 q373
      cases e373
      replace p373 := eq_true p373; replace q373 := eq_true q373; have p374 : 0 ≤ (x5_1 : Int) := od_; have q374 : x5_1 < (l1.length : Int) := od_; obtain ⟨ad374, e374, hx374_0, hx374_1⟩ := at_T71 HR1.out x5_1 p374 q374
      cases e374
      replace p374 := eq_true p374; replace q374 := eq_true q374; go_wp2
      repeat (go_quiet (fail); try go_wp2)
      go_ret; exact ⟨by first | rfl | (simp; done) | (simp [*]; done), by repeat (first | exact Drawn0.refl _ | apply Drawn0.step)⟩
     ·(have c7b0 : (!(((rd_T71 l0 x5_1).f0) == ((rd_T71 l1 x5_1).f0)) || (!(((rd_T71 l0 x5_1).f1) == ((rd_T71 l1 x5_1).f1)))) = false := by simpa using c7); clear c7; have H' := A_ H; clear H; have p373 : 0 ≤ (x5_1 : Int) := od_; have q373 : x5_1 < (l0.length : Int) := od_; obtain ⟨ad373, e373, hx373_0, hx373_1⟩ := at_T71 HR0.out x5_1 p373 q373
      cases e373
      replace p373 := eq_true p373; replace q373 := eq_true q373; have p374 : 0 ≤ (x5_1 : Int) := od_; have q374 : x5_1 < (l1.length : Int) := od_; obtain ⟨ad374, e374, hx374_0, hx374_1⟩ := at_T71 HR1.out x5_1 p374 q374
      cases e374
      replace p374 := eq_true p374; replace q374 := eq_true q374; go_wp2
      repeat (go_quiet (fail); try go_wp2)
      go_roundg k1
      case measure => have := HK1.out; omega
      case rel => exact ⟨(wrap64 (x5_1 + 1)), rf_, H', ⟨by have := HK1.out; omega⟩, by repeat (first | exact Drawn0.refl _ | apply Drawn0.step)⟩
    ·obtain rfl := Option.some.inj H; go_wp2
     repeat (go_quiet (fail); try go_wp2)
     go_ret; exact ⟨by first | rfl | (simp; done) | (simp [*]; done), by repeat (first | exact Drawn0.refl _ | apply Drawn0.step)⟩
 ·have c3b0 : ((l0.length : Int) == (l1.length : Int)) = false := beq_eq_false_iff_ne.mpr c3; have c3b1 : ((l0.length : Int) != (l1.length : Int)) = true := bne_iff_ne.mpr c3; (have c3b2 : (l0.length == l1.length) = false := by first | simpa using c3 | (simp at c3 ⊢; omega)); obtain rfl := Option.some.inj H; go_enter Tryz.func19, Tryz.ntmps19; go_wp2
  repeat (go_quiet (fail); try go_wp2)
  go_ret; exact ⟨by first | rfl | (simp; done) | (simp [*]; done), by repeat (first | exact Drawn0.refl _ | apply Drawn0.step)⟩
set_option maxHeartbeats 8000000 in
set_option maxRecDepth 100000 in
theorem stringslite_HasSuffix.calls (a0 a1 : ByteArray) (r : Bool) (w : World) (h : stringslite_HasSuffix.f a0 a1 = some r) :
  Calls Tryz.prog 185 #[.string a0, .string a1] w fun e w' => e = .returned (.bool r) ∧ Drawn0 w w' := by
 have H : (if (a0.size : Int) ≥ (a1.size : Int) then (if 0 ≤ (wrap64 ((a0.size : Int) - (a1.size : Int))) then (if (wrap64 ((a0.size : Int) - (a1.size : Int))) ≤ (a0.size : Int) then (some ((a0.extract ((wrap64 ((a0.size : Int) - (a1.size : Int))) : Int).toNat a0.size).toList == a1.toList)) else (none)) else (none)) else (some false)) = some r := h; clear h
 obtain ⟨c3, H⟩ | ⟨c3, H⟩ := iq_ H
 ·have c3b0 := decide_eq_true c3; have c3b1 : decide (a1.size ≤ a0.size) = true := decide_eq_true (Int.ofNat_le.mp c3); clear c3; obtain ⟨ji4, hji4⟩ : ∃ j_ : Int, (wrap64 ((a0.size : Int) - (a1.size : Int))) = j_ := ⟨_, rfl⟩; (first | rw [hji4] at H | simp only [hji4] at H); have hji4w : (IntKind.i64.wrap ((a0.size : Int) - (a1.size : Int))) = ji4 := (i64_w _).trans hji4
  obtain ⟨c5, H⟩ := gc_ H; have c5b0 := eq_true c5; have c5b1 := decide_eq_true c5; clear c5
  obtain ⟨c6, H⟩ := gc_ H; have c6b0 := eq_true c6; have c6b1 := decide_eq_true c6; clear c6; obtain rfl := Option.some.inj H; go_enter Tryz.func185, Tryz.ntmps185; go_wp2; go_ret; exact ⟨by first | rfl | (simp; done) | (simp only [← hji4] <;> (first | rfl | simp)) | (simp [*]; done), by repeat (first | exact Drawn0.refl _ | apply Drawn0.step)⟩
 ·have c3b0 := decide_eq_false c3; have c3b1 : decide (a1.size ≤ a0.size) = false := decide_eq_false (fun h => c3 (Int.ofNat_le.mpr h)); clear c3; obtain rfl := Option.some.inj H; go_enter Tryz.func185, Tryz.ntmps185; go_wp2; go_ret; exact ⟨by first | rfl | (simp; done) | (simp [*]; done), by repeat (first | exact Drawn0.refl _ | apply Drawn0.step)⟩
set_option maxHeartbeats 8000000 in
set_option maxRecDepth 100000 in
theorem stringslite_CutSuffix.calls (a0 a1 r1 : ByteArray) (r2 : Bool) (w : World) (h : stringslite_CutSuffix.f a0 a1 = some (r1, r2)) :
  Calls Tryz.prog 148 #[.string a0, .string a1] w fun e w' => e = .returned (.tuple #[.string r1, .bool r2]) ∧ Drawn0 w w' := by
 have H : ((stringslite_HasSuffix.f a0 a1).bind fun t101 => (if t101 = true then (if 0 ≤ (wrap64 ((a0.size : Int) - (a1.size : Int))) then (if (wrap64 ((a0.size : Int) - (a1.size : Int))) ≤ (a0.size : Int) then (some (a0.extract 0 ((wrap64 ((a0.size : Int) - (a1.size : Int))) : Int).toNat, true)) else (none)) else (none)) else (some (a0, false)))) = some (r1, r2) := h; clear h; obtain ⟨t101, A3, H⟩ := bi_ H
 by_cases c4 : t101 = true
 ·subst c4
  (have H1 : (if 0 ≤ (wrap64 ((a0.size : Int) - (a1.size : Int))) then (if (wrap64 ((a0.size : Int) - (a1.size : Int))) ≤ (a0.size : Int) then (some (a0.extract 0 ((wrap64 ((a0.size : Int) - (a1.size : Int))) : Int).toNat, true)) else (none)) else (none)) = some (r1, r2) := by rw [if_pos rfl] at H; exact H); clear H; have H := H1; clear H1; obtain ⟨ji5, hji5⟩ : ∃ j_ : Int, (wrap64 ((a0.size : Int) - (a1.size : Int))) = j_ := ⟨_, rfl⟩; (first | rw [hji5] at H | simp only [hji5] at H); (try rw [hji5] at A3); have hji5w : (IntKind.i64.wrap ((a0.size : Int) - (a1.size : Int))) = ji5 := (i64_w _).trans hji5
  obtain ⟨c6, H⟩ := gc_ H; have c6b0 := eq_true c6; have c6b1 := decide_eq_true c6; clear c6
  obtain ⟨c7, H⟩ := gc_ H; have c7b0 := eq_true c7; have c7b1 := decide_eq_true c7; clear c7; simp only [Option.some.injEq, Prod.mk.injEq] at H; obtain ⟨rfl, rfl⟩ := H; go_enter Tryz.func148, Tryz.ntmps148; go_wp2_with (first | ((with_reducible refine gC 185 ?_); refine goesL_ (some 8) rfl rfl Tryz.func185 (by kernel_rfl) rfl #[.string a0, .string a1] rfl ml_ ?_; (with_reducible refine (stringslite_HasSuffix.calls a0 a1 true _ A3.out).mono ?_); rintro e w' ⟨rfl, ⟨nd, rfl⟩⟩; refine ⟨_, rfl, ?_⟩)); go_ret2; exact ⟨by first | rfl | (simp; done) | (simp only [← hji5] <;> (first | rfl | simp)) | (simp [*]; done), by repeat (first | exact Drawn0.refl _ | apply Drawn0.step)⟩
 ·replace c4 := Bool.eq_false_iff.mpr c4
  subst c4; (have H1 : (some (a0, false)) = some (r1, r2) := by rw [if_neg (show ¬ (false = true) by decide)] at H; exact H); clear H; have H := H1; clear H1; simp only [Option.some.injEq, Prod.mk.injEq] at H; obtain ⟨rfl, rfl⟩ := H; go_enter Tryz.func148, Tryz.ntmps148; go_wp2_with (first | ((with_reducible refine gC 185 ?_); refine goesL_ (some 8) rfl rfl Tryz.func185 (by kernel_rfl) rfl #[.string a0, .string a1] rfl ml_ ?_; (with_reducible refine (stringslite_HasSuffix.calls a0 a1 false _ A3.out).mono ?_); rintro e w' ⟨rfl, ⟨nd, rfl⟩⟩; refine ⟨_, rfl, ?_⟩)); go_ret2; exact ⟨by first | rfl | (simp; done) | (simp [*]; done), by repeat (first | exact Drawn0.refl _ | apply Drawn0.step)⟩
set_option maxHeartbeats 8000000 in
set_option maxRecDepth 100000 in
theorem strings_CutSuffix.calls (a0 a1 r1 : ByteArray) (r2 : Bool) (w : World) (h : strings_CutSuffix.f a0 a1 = some (r1, r2)) :
  Calls Tryz.prog 96 #[.string a0, .string a1] w fun e w' => e = .returned (.tuple #[.string r1, .bool r2]) ∧ Drawn0 w w' := by
 have H : ((stringslite_CutSuffix.f a0 a1).bind fun bt102 => (some (bt102.1, bt102.2))) = some (r1, r2) := h; clear h; obtain ⟨⟨t102, t103⟩, A3, H⟩ := bi_ H; simp only [Option.some.injEq, Prod.mk.injEq] at H; obtain ⟨rfl, rfl⟩ := H; go_enter Tryz.func96, Tryz.ntmps96; go_wp2_with (first | ((with_reducible refine gC 148 ?_); refine goesL_ (some 8) rfl rfl Tryz.func148 (by kernel_rfl) rfl #[.string a0, .string a1] rfl ml_ ?_; (with_reducible refine (stringslite_CutSuffix.calls a0 a1 t102 t103 _ A3.out).mono ?_); rintro e w' ⟨rfl, ⟨nd, rfl⟩⟩; refine ⟨_, rfl, ?_⟩)); go_ret2; exact ⟨by first | rfl | (simp; done) | (simp [*]; done), by repeat (first | exact Drawn0.refl _ | apply Drawn0.step)⟩
set_option maxHeartbeats 8000000 in
set_option maxRecDepth 100000 in
theorem stringslite_Cut.calls (a0 a1 r1 r2 : ByteArray) (r3 : Bool) (w : World) (h : stringslite_Cut.f a0 a1 = some (r1, r2, r3)) :
  Calls Tryz.prog 149 #[.string a0, .string a1] w fun e w' => e = .returned (.tuple #[.string r1, .string r2, .bool r3]) ∧ Drawn0 w w' := by
 have H : ((stringslite_Index.f a0 a1).bind fun t104 => (if t104 ≥ 0 then (if 0 ≤ t104 then (if t104 ≤ (a0.size : Int) then (if 0 ≤ (wrap64 (t104 + (a1.size : Int))) then (if (wrap64 (t104 + (a1.size : Int))) ≤ (a0.size : Int) then (some (a0.extract 0 (t104 : Int).toNat, a0.extract ((wrap64 (t104 + (a1.size : Int))) : Int).toNat a0.size, true)) else (none)) else (none)) else (none)) else (none)) else (some (a0, (⟨#[]⟩ : ByteArray), false)))) = some (r1, r2, r3) := h; clear h; obtain ⟨t104, A3, H⟩ := bi_ H
 obtain ⟨c4b0, H⟩ | ⟨c4b0, H⟩ := ic_ H
 ·obtain ⟨c5, H⟩ := gc_ H; have c5b0 := eq_true c5; have c5b1 := decide_eq_true c5; clear c5
  obtain ⟨c6, H⟩ := gc_ H; have c6b0 := eq_true c6; have c6b1 := decide_eq_true c6; clear c6; obtain ⟨ji7, hji7⟩ : ∃ j_ : Int, (wrap64 (t104 + (a1.size : Int))) = j_ := ⟨_, rfl⟩; (first | rw [hji7] at H | simp only [hji7] at H); (try rw [hji7] at A3); have hji7w : (IntKind.i64.wrap (t104 + (a1.size : Int))) = ji7 := (i64_w _).trans hji7
  obtain ⟨c8, H⟩ := gc_ H; have c8b0 := eq_true c8; have c8b1 := decide_eq_true c8; clear c8
  obtain ⟨c9, H⟩ := gc_ H; have c9b0 := eq_true c9; have c9b1 := decide_eq_true c9; clear c9; simp only [Option.some.injEq, Prod.mk.injEq] at H; obtain ⟨rfl, rfl, rfl⟩ := H; go_enter Tryz.func149, Tryz.ntmps149; go_wp2_with (first | (go_at_call 186; (with_reducible refine (stringslite_Index.calls a0 a1 t104 _ A3.out).mono ?_); rintro e w' ⟨rfl, ⟨nd, rfl⟩⟩; (try first | exact ⟨rfl, _, World.drewN_drewN _ _ _⟩ | exact ⟨rfl, _, Eq.trans (World.drewN_drewN _ _ _) (congrArg (World.drewN _) (Nat.add_assoc _ _ _))⟩)))
  repeat (go_quiet (first | (go_at_call 186; (with_reducible refine (stringslite_Index.calls a0 a1 t104 _ A3.out).mono ?_); rintro e w' ⟨rfl, ⟨nd, rfl⟩⟩; (try first | exact ⟨rfl, _, World.drewN_drewN _ _ _⟩ | exact ⟨rfl, _, Eq.trans (World.drewN_drewN _ _ _) (congrArg (World.drewN _) (Nat.add_assoc _ _ _))⟩))); try go_wp2_with (first | (go_at_call 186; (with_reducible refine (stringslite_Index.calls a0 a1 t104 _ A3.out).mono ?_); rintro e w' ⟨rfl, ⟨nd, rfl⟩⟩; (try first | exact ⟨rfl, _, World.drewN_drewN _ _ _⟩ | exact ⟨rfl, _, Eq.trans (World.drewN_drewN _ _ _) (congrArg (World.drewN _) (Nat.add_assoc _ _ _))⟩))))
  go_ret3; exact ⟨by first | rfl | (simp; done) | (simp only [← hji7] <;> (first | rfl | simp)) | (simp [*]; done), by repeat (first | exact Drawn0.refl _ | apply Drawn0.step)⟩
 ·simp only [Option.some.injEq, Prod.mk.injEq] at H; obtain ⟨rfl, rfl, rfl⟩ := H; go_enter Tryz.func149, Tryz.ntmps149; go_wp2_with (first | (go_at_call 186; (with_reducible refine (stringslite_Index.calls a0 a1 t104 _ A3.out).mono ?_); rintro e w' ⟨rfl, ⟨nd, rfl⟩⟩; (try first | exact ⟨rfl, _, World.drewN_drewN _ _ _⟩ | exact ⟨rfl, _, Eq.trans (World.drewN_drewN _ _ _) (congrArg (World.drewN _) (Nat.add_assoc _ _ _))⟩)))
  repeat (go_quiet (first | (go_at_call 186; (with_reducible refine (stringslite_Index.calls a0 a1 t104 _ A3.out).mono ?_); rintro e w' ⟨rfl, ⟨nd, rfl⟩⟩; (try first | exact ⟨rfl, _, World.drewN_drewN _ _ _⟩ | exact ⟨rfl, _, Eq.trans (World.drewN_drewN _ _ _) (congrArg (World.drewN _) (Nat.add_assoc _ _ _))⟩))); try go_wp2_with (first | (go_at_call 186; (with_reducible refine (stringslite_Index.calls a0 a1 t104 _ A3.out).mono ?_); rintro e w' ⟨rfl, ⟨nd, rfl⟩⟩; (try first | exact ⟨rfl, _, World.drewN_drewN _ _ _⟩ | exact ⟨rfl, _, Eq.trans (World.drewN_drewN _ _ _) (congrArg (World.drewN _) (Nat.add_assoc _ _ _))⟩))))
  go_ret3; exact ⟨by first | rfl | (simp; done) | (simp [*]; done), by repeat (first | exact Drawn0.refl _ | apply Drawn0.step)⟩
set_option maxHeartbeats 8000000 in
set_option maxRecDepth 100000 in
theorem strings_Cut.calls (a0 a1 r1 r2 : ByteArray) (r3 : Bool) (w : World) (h : strings_Cut.f a0 a1 = some (r1, r2, r3)) :
  Calls Tryz.prog 97 #[.string a0, .string a1] w fun e w' => e = .returned (.tuple #[.string r1, .string r2, .bool r3]) ∧ Drawn0 w w' := by
 have H : ((stringslite_Cut.f a0 a1).bind fun bt105 => (some (bt105.1, bt105.2.1, bt105.2.2))) = some (r1, r2, r3) := h; clear h; obtain ⟨⟨t105, t106, t107⟩, A3, H⟩ := bi_ H; simp only [Option.some.injEq, Prod.mk.injEq] at H; obtain ⟨rfl, rfl, rfl⟩ := H; go_enter Tryz.func97, Tryz.ntmps97; go_wp2_with (first | ((with_reducible refine gC 149 ?_); refine goesL_ (some 9) rfl rfl Tryz.func149 (by kernel_rfl) rfl #[.string a0, .string a1] rfl ml_ ?_; (with_reducible refine (stringslite_Cut.calls a0 a1 t105 t106 t107 _ A3.out).mono ?_); rintro e w' ⟨rfl, ⟨nd, rfl⟩⟩; refine ⟨_, rfl, ?_⟩)); go_ret3; exact ⟨by first | rfl | (simp; done) | (simp [*]; done), by repeat (first | exact Drawn0.refl _ | apply Drawn0.step)⟩
set_option maxHeartbeats 8000000 in
set_option maxRecDepth 100000 in
theorem point_guess.calls (a0 : ByteArray) (r1 : Int) (r2 r3 r4 : ByteArray) (w : World) (h : point_guess.f a0 = some (r1, r2, r3, r4)) :
  Calls Tryz.prog 52 #[.string a0] w fun e w' => e = .returned (.agg #[.int .i64 r1, .string r2, .string r3, .string r4]) ∧ Below w.heap.size w w' := by
 have hu23 := Tryz.underlying23; have HB := A_ (Below.refl w.heap.size w); have H : ((strings_CutSuffix.f a0 (⟨#[100]⟩ : ByteArray)).bind fun bt109 => (if bt109.2 = true then (some (4, bt109.1, (⟨#[]⟩ : ByteArray), (⟨#[]⟩ : ByteArray))) else ((strings_CutSuffix.f a0 (⟨#[99]⟩ : ByteArray)).bind fun bt111 => (if bt111.2 = true then (some (5, bt111.1, (⟨#[]⟩ : ByteArray), (⟨#[]⟩ : ByteArray))) else ((strings_Cut.f a0 (⟨#[115]⟩ : ByteArray)).bind fun bt113 => (if bt113.2.2 = true then (some (2, bt113.1, bt113.2.1, (⟨#[]⟩ : ByteArray))) else ((strings_Cut.f a0 (⟨#[45]⟩ : ByteArray)).bind fun bt116 => (if bt116.2.2 = true then ((strings_Cut.f bt116.2.1 (⟨#[45]⟩ : ByteArray)).bind fun bt119 => (if bt119.2.2 = true then (some (0, bt116.1, bt119.1, bt119.2.1)) else (some (1, bt116.1, bt116.2.1, (⟨#[]⟩ : ByteArray))))) else (some (3, a0, (⟨#[]⟩ : ByteArray), (⟨#[]⟩ : ByteArray))))))))))) = some (r1, r2, r3, r4) := h; clear h; obtain ⟨⟨t109, t110⟩, A2, H⟩ := bi_ H
 by_cases c3 : t110 = true
 ·subst c3
  (have H1 : (some (4, t109, (⟨#[]⟩ : ByteArray), (⟨#[]⟩ : ByteArray))) = some (r1, r2, r3, r4) := by rw [if_pos rfl] at H; exact H); clear H; have H := H1; clear H1; simp only [Option.some.injEq, Prod.mk.injEq] at H; obtain ⟨rfl, rfl, rfl, rfl⟩ := H; go_enter Tryz.func52, Tryz.ntmps52; go_wp2_with (first | ((with_reducible refine gD 2 ?_); refine gx_ w 2 z4_ 23 ?_; clear HB; intro gb108 w4 BK108 GE108 HB; have GW108 := GE108) | ((with_reducible refine gC 96 ?_); refine goesL_ (some 17) rfl rfl Tryz.func96 (by kernel_rfl) rfl #[.string a0, .string ⟨#[100]⟩] rfl ml_ ?_; (with_reducible refine (strings_CutSuffix.calls a0 (⟨#[100]⟩ : ByteArray) t109 true _ A2.out).mono ?_); rintro e w' ⟨rfl, ⟨nd, rfl⟩⟩; refine ⟨_, rfl, ?_⟩; (try (rw [drewN_self w4]; generalize hq_ : World.drewN w4 _ = w4; have m0_ : Aside0 (w4.heap[gb108]? = some (.cells z4_ 23 (0, 0))) := ⟨by rw [← hq_]; exact (bl_ BK108.out)⟩; have m1_ : Aside0 (Below w.heap.size w w4) := ⟨by rw [← hq_]; exact hs_⟩; clear BK108 HB hq_; have BK108 := m0_; have HB := m1_; clear m0_ m1_)); have Z5 := bz4_ BK108)); refine bodyPost_ret (results_cell_row rfl _ _ gb108 23 #[.int .i64 4, .string t109, .string ⟨#[]⟩, .string ⟨#[]⟩] (0, 0) _ rfl (pb_ BK108.out) Tryz.underlying23 rfl (by kernel_rfl)) rfl ?_; exact ⟨re_, hs_⟩
 ·replace c3 := Bool.eq_false_iff.mpr c3
  subst c3; (have H1 : ((strings_CutSuffix.f a0 (⟨#[99]⟩ : ByteArray)).bind fun bt111 => (if bt111.2 = true then (some (5, bt111.1, (⟨#[]⟩ : ByteArray), (⟨#[]⟩ : ByteArray))) else ((strings_Cut.f a0 (⟨#[115]⟩ : ByteArray)).bind fun bt113 => (if bt113.2.2 = true then (some (2, bt113.1, bt113.2.1, (⟨#[]⟩ : ByteArray))) else ((strings_Cut.f a0 (⟨#[45]⟩ : ByteArray)).bind fun bt116 => (if bt116.2.2 = true then ((strings_Cut.f bt116.2.1 (⟨#[45]⟩ : ByteArray)).bind fun bt119 => (if bt119.2.2 = true then (some (0, bt116.1, bt119.1, bt119.2.1)) else (some (1, bt116.1, bt116.2.1, (⟨#[]⟩ : ByteArray))))) else (some (3, a0, (⟨#[]⟩ : ByteArray), (⟨#[]⟩ : ByteArray))))))))) = some (r1, r2, r3, r4) := by rw [if_neg (show ¬ (false = true) by decide)] at H; exact H); clear H; have H := H1; clear H1; obtain ⟨⟨t111, t112⟩, A6, H⟩ := bi_ H
  by_cases c7 : t112 = true
  ·subst c7
   (have H1 : (some (5, t111, (⟨#[]⟩ : ByteArray), (⟨#[]⟩ : ByteArray))) = some (r1, r2, r3, r4) := by rw [if_pos rfl] at H; exact H); clear H; have H := H1; clear H1; simp only [Option.some.injEq, Prod.mk.injEq] at H; obtain ⟨rfl, rfl, rfl, rfl⟩ := H; go_enter Tryz.func52, Tryz.ntmps52; go_wp2_with (first | ((with_reducible refine gD 2 ?_); refine gx_ w 2 z4_ 23 ?_; clear HB; intro gb108 w8 BK108 GE108 HB; have GW108 := GE108) | ((with_reducible refine gC 96 ?_); refine goesL_ (some 17) rfl rfl Tryz.func96 (by kernel_rfl) rfl #[.string a0, .string ⟨#[100]⟩] rfl ml_ ?_; (with_reducible refine (strings_CutSuffix.calls a0 (⟨#[100]⟩ : ByteArray) t109 false _ A2.out).mono ?_); rintro e w' ⟨rfl, ⟨nd, rfl⟩⟩; refine ⟨_, rfl, ?_⟩; (try (rw [drewN_self w8]; generalize hq_ : World.drewN w8 _ = w8; have m0_ : Aside0 (w8.heap[gb108]? = some (.cells z4_ 23 (0, 0))) := ⟨by rw [← hq_]; exact (bl_ BK108.out)⟩; have m1_ : Aside0 (Below w.heap.size w w8) := ⟨by rw [← hq_]; exact hs_⟩; clear BK108 HB hq_; have BK108 := m0_; have HB := m1_; clear m0_ m1_))) | ((with_reducible refine gC 96 ?_); refine goesL_ (some 25) rfl rfl Tryz.func96 (by kernel_rfl) rfl #[.string a0, .string ⟨#[99]⟩] rfl ml_ ?_; (with_reducible refine (strings_CutSuffix.calls a0 (⟨#[99]⟩ : ByteArray) t111 true _ A6.out).mono ?_); rintro e w' ⟨rfl, ⟨nd, rfl⟩⟩; refine ⟨_, rfl, ?_⟩; (try (rw [drewN_self w8]; generalize hq_ : World.drewN w8 _ = w8; have m0_ : Aside0 (w8.heap[gb108]? = some (.cells z4_ 23 (0, 0))) := ⟨by rw [← hq_]; exact (bl_ BK108.out)⟩; have m1_ : Aside0 (Below w.heap.size w w8) := ⟨by rw [← hq_]; exact hs_⟩; clear BK108 HB hq_; have BK108 := m0_; have HB := m1_; clear m0_ m1_)); have Z9 := bz4_ BK108)); refine bodyPost_ret (results_cell_row rfl _ _ gb108 23 #[.int .i64 5, .string t111, .string ⟨#[]⟩, .string ⟨#[]⟩] (0, 0) _ rfl (pb_ BK108.out) Tryz.underlying23 rfl (by kernel_rfl)) rfl ?_
   exact ⟨re_, hs_⟩
  ·replace c7 := Bool.eq_false_iff.mpr c7
   subst c7; (have H1 : ((strings_Cut.f a0 (⟨#[115]⟩ : ByteArray)).bind fun bt113 => (if bt113.2.2 = true then (some (2, bt113.1, bt113.2.1, (⟨#[]⟩ : ByteArray))) else ((strings_Cut.f a0 (⟨#[45]⟩ : ByteArray)).bind fun bt116 => (if bt116.2.2 = true then ((strings_Cut.f bt116.2.1 (⟨#[45]⟩ : ByteArray)).bind fun bt119 => (if bt119.2.2 = true then (some (0, bt116.1, bt119.1, bt119.2.1)) else (some (1, bt116.1, bt116.2.1, (⟨#[]⟩ : ByteArray))))) else (some (3, a0, (⟨#[]⟩ : ByteArray), (⟨#[]⟩ : ByteArray))))))) = some (r1, r2, r3, r4) := by rw [if_neg (show ¬ (false = true) by decide)] at H; exact H); clear H; have H := H1; clear H1; obtain ⟨⟨t113, t114, t115⟩, A10, H⟩ := bi_ H
   by_cases c11 : t115 = true
   ·subst c11
    (have H1 : (some (2, t113, t114, (⟨#[]⟩ : ByteArray))) = some (r1, r2, r3, r4) := by rw [if_pos rfl] at H; exact H); clear H; have H := H1; clear H1; simp only [Option.some.injEq, Prod.mk.injEq] at H; obtain ⟨rfl, rfl, rfl, rfl⟩ := H; go_enter Tryz.func52, Tryz.ntmps52; go_wp2_with (first | ((with_reducible refine gD 2 ?_); refine gx_ w 2 z4_ 23 ?_; clear HB; intro gb108 w12 BK108 GE108 HB; have GW108 := GE108) | ((with_reducible refine gC 96 ?_); refine goesL_ (some 17) rfl rfl Tryz.func96 (by kernel_rfl) rfl #[.string a0, .string ⟨#[100]⟩] rfl ml_ ?_; (with_reducible refine (strings_CutSuffix.calls a0 (⟨#[100]⟩ : ByteArray) t109 false _ A2.out).mono ?_); rintro e w' ⟨rfl, ⟨nd, rfl⟩⟩; refine ⟨_, rfl, ?_⟩; (try (rw [drewN_self w12]; generalize hq_ : World.drewN w12 _ = w12; have m0_ : Aside0 (w12.heap[gb108]? = some (.cells z4_ 23 (0, 0))) := ⟨by rw [← hq_]; exact (bl_ BK108.out)⟩; have m1_ : Aside0 (Below w.heap.size w w12) := ⟨by rw [← hq_]; exact hs_⟩; clear BK108 HB hq_; have BK108 := m0_; have HB := m1_; clear m0_ m1_))) | ((with_reducible refine gC 96 ?_); refine goesL_ (some 25) rfl rfl Tryz.func96 (by kernel_rfl) rfl #[.string a0, .string ⟨#[99]⟩] rfl ml_ ?_; (with_reducible refine (strings_CutSuffix.calls a0 (⟨#[99]⟩ : ByteArray) t111 false _ A6.out).mono ?_); rintro e w' ⟨rfl, ⟨nd, rfl⟩⟩; refine ⟨_, rfl, ?_⟩; (try (rw [drewN_self w12]; generalize hq_ : World.drewN w12 _ = w12; have m0_ : Aside0 (w12.heap[gb108]? = some (.cells z4_ 23 (0, 0))) := ⟨by rw [← hq_]; exact (bl_ BK108.out)⟩; have m1_ : Aside0 (Below w.heap.size w w12) := ⟨by rw [← hq_]; exact hs_⟩; clear BK108 HB hq_; have BK108 := m0_; have HB := m1_; clear m0_ m1_))) | ((with_reducible refine gC 97 ?_); refine goesL_ (some 33) rfl rfl Tryz.func97 (by kernel_rfl) rfl #[.string a0, .string ⟨#[115]⟩] rfl ml_ ?_; (with_reducible refine (strings_Cut.calls a0 (⟨#[115]⟩ : ByteArray) t113 t114 true _ A10.out).mono ?_); rintro e w' ⟨rfl, ⟨nd, rfl⟩⟩; refine ⟨_, rfl, ?_⟩; (try (rw [drewN_self w12]; generalize hq_ : World.drewN w12 _ = w12; have m0_ : Aside0 (w12.heap[gb108]? = some (.cells z4_ 23 (0, 0))) := ⟨by rw [← hq_]; exact (bl_ BK108.out)⟩; have m1_ : Aside0 (Below w.heap.size w w12) := ⟨by rw [← hq_]; exact hs_⟩; clear BK108 HB hq_; have BK108 := m0_; have HB := m1_; clear m0_ m1_)); have Z13 := bz4_ BK108))
    refine bodyPost_ret (results_cell_row rfl _ _ gb108 23 #[.int .i64 2, .string t113, .string t114, .string ⟨#[]⟩] (0, 0) _ rfl (pb_ BK108.out) Tryz.underlying23 rfl (by kernel_rfl)) rfl ?_; exact ⟨re_, hs_⟩
   ·replace c11 := Bool.eq_false_iff.mpr c11
    subst c11; (have H1 : ((strings_Cut.f a0 (⟨#[45]⟩ : ByteArray)).bind fun bt116 => (if bt116.2.2 = true then ((strings_Cut.f bt116.2.1 (⟨#[45]⟩ : ByteArray)).bind fun bt119 => (if bt119.2.2 = true then (some (0, bt116.1, bt119.1, bt119.2.1)) else (some (1, bt116.1, bt116.2.1, (⟨#[]⟩ : ByteArray))))) else (some (3, a0, (⟨#[]⟩ : ByteArray), (⟨#[]⟩ : ByteArray))))) = some (r1, r2, r3, r4) := by rw [if_neg (show ¬ (false = true) by decide)] at H; exact H); clear H; have H := H1; clear H1; obtain ⟨⟨t116, t117, t118⟩, A14, H⟩ := bi_ H
    by_cases c15 : t118 = true
    ·subst c15
     (have H1 : ((strings_Cut.f t117 (⟨#[45]⟩ : ByteArray)).bind fun bt119 => (if bt119.2.2 = true then (some (0, t116, bt119.1, bt119.2.1)) else (some (1, t116, t117, (⟨#[]⟩ : ByteArray))))) = some (r1, r2, r3, r4) := by rw [if_pos rfl] at H; exact H); clear H; have H := H1; clear H1; obtain ⟨⟨t119, t120, t121⟩, A16, H⟩ := bi_ H
     by_cases c17 : t121 = true
     ·subst c17
      (have H1 : (some (0, t116, t119, t120)) = some (r1, r2, r3, r4) := by rw [if_pos rfl] at H; exact H); clear H; have H := H1; clear H1; simp only [Option.some.injEq, Prod.mk.injEq] at H; obtain ⟨rfl, rfl, rfl, rfl⟩ := H; go_enter Tryz.func52, Tryz.ntmps52; go_wp2_with (first | ((with_reducible refine gD 2 ?_); refine gx_ w 2 z4_ 23 ?_; clear HB; intro gb108 w18 BK108 GE108 HB; have GW108 := GE108) | ((with_reducible refine gC 96 ?_); refine goesL_ (some 17) rfl rfl Tryz.func96 (by kernel_rfl) rfl #[.string a0, .string ⟨#[100]⟩] rfl ml_ ?_; (with_reducible refine (strings_CutSuffix.calls a0 (⟨#[100]⟩ : ByteArray) t109 false _ A2.out).mono ?_); rintro e w' ⟨rfl, ⟨nd, rfl⟩⟩; refine ⟨_, rfl, ?_⟩; (try (rw [drewN_self w18]; generalize hq_ : World.drewN w18 _ = w18; have m0_ : Aside0 (w18.heap[gb108]? = some (.cells z4_ 23 (0, 0))) := ⟨by rw [← hq_]; exact (bl_ BK108.out)⟩; have m1_ : Aside0 (Below w.heap.size w w18) := ⟨by rw [← hq_]; exact hs_⟩; clear BK108 HB hq_; have BK108 := m0_; have HB := m1_; clear m0_ m1_))) | ((with_reducible refine gC 96 ?_); refine goesL_ (some 25) rfl rfl Tryz.func96 (by kernel_rfl) rfl #[.string a0, .string ⟨#[99]⟩] rfl ml_ ?_; (with_reducible refine (strings_CutSuffix.calls a0 (⟨#[99]⟩ : ByteArray) t111 false _ A6.out).mono ?_); rintro e w' ⟨rfl, ⟨nd, rfl⟩⟩; refine ⟨_, rfl, ?_⟩; (try (rw [drewN_self w18]; generalize hq_ : World.drewN w18 _ = w18; have m0_ : Aside0 (w18.heap[gb108]? = some (.cells z4_ 23 (0, 0))) := ⟨by rw [← hq_]; exact (bl_ BK108.out)⟩; have m1_ : Aside0 (Below w.heap.size w w18) := ⟨by rw [← hq_]; exact hs_⟩; clear BK108 HB hq_; have BK108 := m0_; have HB := m1_; clear m0_ m1_))) | ((with_reducible refine gC 97 ?_); refine goesL_ (some 33) rfl rfl Tryz.func97 (by kernel_rfl) rfl #[.string a0, .string ⟨#[115]⟩] rfl ml_ ?_; (with_reducible refine (strings_Cut.calls a0 (⟨#[115]⟩ : ByteArray) t113 t114 false _ A10.out).mono ?_); rintro e w' ⟨rfl, ⟨nd, rfl⟩⟩; refine ⟨_, rfl, ?_⟩; (try (rw [drewN_self w18]; generalize hq_ : World.drewN w18 _ = w18; have m0_ : Aside0 (w18.heap[gb108]? = some (.cells z4_ 23 (0, 0))) := ⟨by rw [← hq_]; exact (bl_ BK108.out)⟩; have m1_ : Aside0 (Below w.heap.size w w18) := ⟨by rw [← hq_]; exact hs_⟩; clear BK108 HB hq_; have BK108 := m0_; have HB := m1_; clear m0_ m1_))) | ((with_reducible refine gC 97 ?_); refine goesL_ (some 43) rfl rfl Tryz.func97 (by kernel_rfl) rfl #[.string a0, .string ⟨#[45]⟩] rfl ml_ ?_; (with_reducible refine (strings_Cut.calls a0 (⟨#[45]⟩ : ByteArray) t116 t117 true _ A14.out).mono ?_); rintro e w' ⟨rfl, ⟨nd, rfl⟩⟩; refine ⟨_, rfl, ?_⟩; (try (rw [drewN_self w18]; generalize hq_ : World.drewN w18 _ = w18; have m0_ : Aside0 (w18.heap[gb108]? = some (.cells z4_ 23 (0, 0))) := ⟨by rw [← hq_]; exact (bl_ BK108.out)⟩; have m1_ : Aside0 (Below w.heap.size w w18) := ⟨by rw [← hq_]; exact hs_⟩; clear BK108 HB hq_; have BK108 := m0_; have HB := m1_; clear m0_ m1_))) | ((with_reducible refine gC 97 ?_); refine goesL_ (some 53) rfl rfl Tryz.func97 (by kernel_rfl) rfl #[.string t117, .string ⟨#[45]⟩] rfl ml_ ?_; (with_reducible refine (strings_Cut.calls t117 (⟨#[45]⟩ : ByteArray) t119 t120 true _ A16.out).mono ?_); rintro e w' ⟨rfl, ⟨nd, rfl⟩⟩; refine ⟨_, rfl, ?_⟩; (try (rw [drewN_self w18]; generalize hq_ : World.drewN w18 _ = w18; have m0_ : Aside0 (w18.heap[gb108]? = some (.cells z4_ 23 (0, 0))) := ⟨by rw [← hq_]; exact (bl_ BK108.out)⟩; have m1_ : Aside0 (Below w.heap.size w w18) := ⟨by rw [← hq_]; exact hs_⟩; clear BK108 HB hq_; have BK108 := m0_; have HB := m1_; clear m0_ m1_)); have Z19 := bz4_ BK108))
      refine bodyPost_ret (results_cell_row rfl _ _ gb108 23 #[.int .i64 0, .string t116, .string t119, .string t120] (0, 0) _ rfl (pb_ BK108.out) Tryz.underlying23 rfl (by kernel_rfl)) rfl ?_; exact ⟨re_, hs_⟩
     ·replace c17 := Bool.eq_false_iff.mpr c17
      subst c17; (have H1 : (some (1, t116, t117, (⟨#[]⟩ : ByteArray))) = some (r1, r2, r3, r4) := by rw [if_neg (show ¬ (false = true) by decide)] at H; exact H); clear H; have H := H1; clear H1; simp only [Option.some.injEq, Prod.mk.injEq] at H; obtain ⟨rfl, rfl, rfl, rfl⟩ := H; go_enter Tryz.func52, Tryz.ntmps52; go_wp2_with (first | ((with_reducible refine gD 2 ?_); refine gx_ w 2 z4_ 23 ?_; clear HB; intro gb108 w20 BK108 GE108 HB; have GW108 := GE108) | ((with_reducible refine gC 96 ?_); refine goesL_ (some 17) rfl rfl Tryz.func96 (by kernel_rfl) rfl #[.string a0, .string ⟨#[100]⟩] rfl ml_ ?_; (with_reducible refine (strings_CutSuffix.calls a0 (⟨#[100]⟩ : ByteArray) t109 false _ A2.out).mono ?_); rintro e w' ⟨rfl, ⟨nd, rfl⟩⟩; refine ⟨_, rfl, ?_⟩; (try (rw [drewN_self w20]; generalize hq_ : World.drewN w20 _ = w20; have m0_ : Aside0 (w20.heap[gb108]? = some (.cells z4_ 23 (0, 0))) := ⟨by rw [← hq_]; exact (bl_ BK108.out)⟩; have m1_ : Aside0 (Below w.heap.size w w20) := ⟨by rw [← hq_]; exact hs_⟩; clear BK108 HB hq_; have BK108 := m0_; have HB := m1_; clear m0_ m1_))) | ((with_reducible refine gC 96 ?_); refine goesL_ (some 25) rfl rfl Tryz.func96 (by kernel_rfl) rfl #[.string a0, .string ⟨#[99]⟩] rfl ml_ ?_; (with_reducible refine (strings_CutSuffix.calls a0 (⟨#[99]⟩ : ByteArray) t111 false _ A6.out).mono ?_); rintro e w' ⟨rfl, ⟨nd, rfl⟩⟩; refine ⟨_, rfl, ?_⟩; (try (rw [drewN_self w20]; generalize hq_ : World.drewN w20 _ = w20; have m0_ : Aside0 (w20.heap[gb108]? = some (.cells z4_ 23 (0, 0))) := ⟨by rw [← hq_]; exact (bl_ BK108.out)⟩; have m1_ : Aside0 (Below w.heap.size w w20) := ⟨by rw [← hq_]; exact hs_⟩; clear BK108 HB hq_; have BK108 := m0_; have HB := m1_; clear m0_ m1_))) | ((with_reducible refine gC 97 ?_); refine goesL_ (some 33) rfl rfl Tryz.func97 (by kernel_rfl) rfl #[.string a0, .string ⟨#[115]⟩] rfl ml_ ?_; (with_reducible refine (strings_Cut.calls a0 (⟨#[115]⟩ : ByteArray) t113 t114 false _ A10.out).mono ?_); rintro e w' ⟨rfl, ⟨nd, rfl⟩⟩; refine ⟨_, rfl, ?_⟩; (try (rw [drewN_self w20]; generalize hq_ : World.drewN w20 _ = w20; have m0_ : Aside0 (w20.heap[gb108]? = some (.cells z4_ 23 (0, 0))) := ⟨by rw [← hq_]; exact (bl_ BK108.out)⟩; have m1_ : Aside0 (Below w.heap.size w w20) := ⟨by rw [← hq_]; exact hs_⟩; clear BK108 HB hq_; have BK108 := m0_; have HB := m1_; clear m0_ m1_))) | ((with_reducible refine gC 97 ?_); refine goesL_ (some 43) rfl rfl Tryz.func97 (by kernel_rfl) rfl #[.string a0, .string ⟨#[45]⟩] rfl ml_ ?_; (with_reducible refine (strings_Cut.calls a0 (⟨#[45]⟩ : ByteArray) t116 t117 true _ A14.out).mono ?_); rintro e w' ⟨rfl, ⟨nd, rfl⟩⟩; refine ⟨_, rfl, ?_⟩; (try (rw [drewN_self w20]; generalize hq_ : World.drewN w20 _ = w20; have m0_ : Aside0 (w20.heap[gb108]? = some (.cells z4_ 23 (0, 0))) := ⟨by rw [← hq_]; exact (bl_ BK108.out)⟩; have m1_ : Aside0 (Below w.heap.size w w20) := ⟨by rw [← hq_]; exact hs_⟩; clear BK108 HB hq_; have BK108 := m0_; have HB := m1_; clear m0_ m1_))) | ((with_reducible refine gC 97 ?_); refine goesL_ (some 53) rfl rfl Tryz.func97 (by kernel_rfl) rfl #[.string t117, .string ⟨#[45]⟩] rfl ml_ ?_; (with_reducible refine (strings_Cut.calls t117 (⟨#[45]⟩ : ByteArray) t119 t120 false _ A16.out).mono ?_); rintro e w' ⟨rfl, ⟨nd, rfl⟩⟩; refine ⟨_, rfl, ?_⟩; (try (rw [drewN_self w20]; generalize hq_ : World.drewN w20 _ = w20; have m0_ : Aside0 (w20.heap[gb108]? = some (.cells z4_ 23 (0, 0))) := ⟨by rw [← hq_]; exact (bl_ BK108.out)⟩; have m1_ : Aside0 (Below w.heap.size w w20) := ⟨by rw [← hq_]; exact hs_⟩; clear BK108 HB hq_; have BK108 := m0_; have HB := m1_; clear m0_ m1_)); have Z21 := bz4_ BK108))
      refine bodyPost_ret (results_cell_row rfl _ _ gb108 23 #[.int .i64 1, .string t116, .string t117, .string ⟨#[]⟩] (0, 0) _ rfl (pb_ BK108.out) Tryz.underlying23 rfl (by kernel_rfl)) rfl ?_; exact ⟨re_, hs_⟩
    ·replace c15 := Bool.eq_false_iff.mpr c15
     subst c15; (have H1 : (some (3, a0, (⟨#[]⟩ : ByteArray), (⟨#[]⟩ : ByteArray))) = some (r1, r2, r3, r4) := by rw [if_neg (show ¬ (false = true) by decide)] at H; exact H); clear H; have H := H1; clear H1; simp only [Option.some.injEq, Prod.mk.injEq] at H; obtain ⟨rfl, rfl, rfl, rfl⟩ := H; go_enter Tryz.func52, Tryz.ntmps52; go_wp2_with (first | ((with_reducible refine gD 2 ?_); refine gx_ w 2 z4_ 23 ?_; clear HB; intro gb108 w22 BK108 GE108 HB; have GW108 := GE108) | ((with_reducible refine gC 96 ?_); refine goesL_ (some 17) rfl rfl Tryz.func96 (by kernel_rfl) rfl #[.string a0, .string ⟨#[100]⟩] rfl ml_ ?_; (with_reducible refine (strings_CutSuffix.calls a0 (⟨#[100]⟩ : ByteArray) t109 false _ A2.out).mono ?_); rintro e w' ⟨rfl, ⟨nd, rfl⟩⟩; refine ⟨_, rfl, ?_⟩; (try (rw [drewN_self w22]; generalize hq_ : World.drewN w22 _ = w22; have m0_ : Aside0 (w22.heap[gb108]? = some (.cells z4_ 23 (0, 0))) := ⟨by rw [← hq_]; exact (bl_ BK108.out)⟩; have m1_ : Aside0 (Below w.heap.size w w22) := ⟨by rw [← hq_]; exact hs_⟩; clear BK108 HB hq_; have BK108 := m0_; have HB := m1_; clear m0_ m1_))) | ((with_reducible refine gC 96 ?_); refine goesL_ (some 25) rfl rfl Tryz.func96 (by kernel_rfl) rfl #[.string a0, .string ⟨#[99]⟩] rfl ml_ ?_; (with_reducible refine (strings_CutSuffix.calls a0 (⟨#[99]⟩ : ByteArray) t111 false _ A6.out).mono ?_); rintro e w' ⟨rfl, ⟨nd, rfl⟩⟩; refine ⟨_, rfl, ?_⟩; (try (rw [drewN_self w22]; generalize hq_ : World.drewN w22 _ = w22; have m0_ : Aside0 (w22.heap[gb108]? = some (.cells z4_ 23 (0, 0))) := ⟨by rw [← hq_]; exact (bl_ BK108.out)⟩; have m1_ : Aside0 (Below w.heap.size w w22) := ⟨by rw [← hq_]; exact hs_⟩; clear BK108 HB hq_; have BK108 := m0_; have HB := m1_; clear m0_ m1_))) | ((with_reducible refine gC 97 ?_); refine goesL_ (some 33) rfl rfl Tryz.func97 (by kernel_rfl) rfl #[.string a0, .string ⟨#[115]⟩] rfl ml_ ?_; (with_reducible refine (strings_Cut.calls a0 (⟨#[115]⟩ : ByteArray) t113 t114 false _ A10.out).mono ?_); rintro e w' ⟨rfl, ⟨nd, rfl⟩⟩; refine ⟨_, rfl, ?_⟩; (try (rw [drewN_self w22]; generalize hq_ : World.drewN w22 _ = w22; have m0_ : Aside0 (w22.heap[gb108]? = some (.cells z4_ 23 (0, 0))) := ⟨by rw [← hq_]; exact (bl_ BK108.out)⟩; have m1_ : Aside0 (Below w.heap.size w w22) := ⟨by rw [← hq_]; exact hs_⟩; clear BK108 HB hq_; have BK108 := m0_; have HB := m1_; clear m0_ m1_))) | ((with_reducible refine gC 97 ?_); refine goesL_ (some 43) rfl rfl Tryz.func97 (by kernel_rfl) rfl #[.string a0, .string ⟨#[45]⟩] rfl ml_ ?_; (with_reducible refine (strings_Cut.calls a0 (⟨#[45]⟩ : ByteArray) t116 t117 false _ A14.out).mono ?_); rintro e w' ⟨rfl, ⟨nd, rfl⟩⟩; refine ⟨_, rfl, ?_⟩; (try (rw [drewN_self w22]; generalize hq_ : World.drewN w22 _ = w22; have m0_ : Aside0 (w22.heap[gb108]? = some (.cells z4_ 23 (0, 0))) := ⟨by rw [← hq_]; exact (bl_ BK108.out)⟩; have m1_ : Aside0 (Below w.heap.size w w22) := ⟨by rw [← hq_]; exact hs_⟩; clear BK108 HB hq_; have BK108 := m0_; have HB := m1_; clear m0_ m1_)); have Z23 := bz4_ BK108))
     refine bodyPost_ret (results_cell_row rfl _ _ gb108 23 #[.int .i64 3, .string a0, .string ⟨#[]⟩, .string ⟨#[]⟩] (0, 0) _ rfl (pb_ BK108.out) Tryz.underlying23 rfl (by kernel_rfl)) rfl ?_; exact ⟨re_, hs_⟩
set_option maxHeartbeats 8000000 in
set_option maxRecDepth 100000 in
theorem point_Read.calls (k : Nat) (a0 : ByteArray) (r1 : Int) (r2 r3 r4 : ByteArray) (r5 : Bool) (w : World) (h : point_Read.f k a0 = some (r1, r2, r3, r4, r5)) :
  Calls Tryz.prog 13 #[.string a0] w fun e w' => e = .returned (.tuple #[.agg #[.int .i64 r1, .string r2, .string r3, .string r4], .bool r5]) ∧ Below w.heap.size w w' := by
 have hu23 := Tryz.underlying23; have HB := A_ (Below.refl w.heap.size w); have H : ((point_guess.f a0).bind fun bt123 => ((point_Sane.f k bt123.1 bt123.2.1 bt123.2.2.1 bt123.2.2.2).bind fun t128 => (if t128 = true then (some (bt123.1, bt123.2.1, bt123.2.2.1, bt123.2.2.2, true)) else (some (0, (⟨#[]⟩ : ByteArray), (⟨#[]⟩ : ByteArray), (⟨#[]⟩ : ByteArray), false))))) = some (r1, r2, r3, r4, r5) := h; clear h; obtain ⟨⟨t123, t124, t125, t126⟩, A2, H⟩ := bi_ H; obtain ⟨t128, A3, H⟩ := bi_ H
 by_cases c4 : t128 = true
 ·subst c4
  (have H1 : (some (t123, t124, t125, t126, true)) = some (r1, r2, r3, r4, r5) := by rw [if_pos rfl] at H; exact H); clear H; have H := H1; clear H1; simp only [Option.some.injEq, Prod.mk.injEq] at H; obtain ⟨rfl, rfl, rfl, rfl, rfl⟩ := H; go_enter Tryz.func13, Tryz.ntmps13; go_wp2_with (first | ((with_reducible refine gD 2 ?_); refine gx_ w 2 z4_ 23 ?_; clear HB; intro gb122 w5 BK122 GE122 HB; have GW122 := GE122) | ((with_reducible refine gC 52 ?_); refine goesL_ (some 6) rfl rfl Tryz.func52 (by kernel_rfl) rfl #[.string a0] rfl ml_ ?_; (with_reducible refine (point_guess.calls a0 t123 t124 t125 t126 _ A2.out).mono ?_); rintro e w6 ⟨rfl, hb⟩; refine ⟨_, rfl, ?_⟩; replace BK122 := bb_ BK122 hb; replace HB := bs_ hb; (try clear hb)) | ((with_reducible refine gD 4 ?_); refine bxe_ 4 z4_ 23 ?_; intro gb127 hg w7 hbox hb; have BK127 := A_ (hbox); have GW127 := gs_ w hg; have GE127 := gs_ w hg; replace HB := bs_ hb; have NB122_127 := nl_ BK122 hg; have NB127_122 := ng_ BK122 hg; replace BK122 := bb_ BK122 hb; clear hb hbox hg; have hnb8 := NB127_122.out; have hnc8 := NB122_127.out; have Z9 := bz4_ BK127) | ((with_reducible refine gC 20 ?_); refine goesL_ (some 8) rfl rfl Tryz.func20 (by kernel_rfl) rfl #[.agg #[.int .i64 t123, .string t124, .string t125, .string t126]] rfl ml_ ?_; (with_reducible refine (point_Sane.calls k t123 t124 t125 t126 true _ A3.out).mono ?_); rintro e w10 ⟨rfl, hb⟩; refine ⟨_, rfl, ?_⟩; replace BK122 := A_ (blk_below (g := gb122) (o := .cells z4_ 23 (0, 0)) (pf_ NB122_127 BK122) hb); replace BK127 := bp_ BK127 (.cells (n4_ t123 t124 t125 t126) 23 (0, 0)) hb; replace HB := bs_ hb; (try clear hb); have Z11 := bz4_ BK127; have Z12 := bz4_ BK122))
  refine bodyPost_ret (results_ct rfl _ _ gb122 23 #[.int .i64 t123, .string t124, .string t125, .string t126] (0, 0) _ rfl (pb_ BK122.out) Tryz.underlying23 rfl (by kernel_rfl)) rfl ?_; exact ⟨re_, hs_⟩
 ·replace c4 := Bool.eq_false_iff.mpr c4
  subst c4; (have H1 : (some (0, (⟨#[]⟩ : ByteArray), (⟨#[]⟩ : ByteArray), (⟨#[]⟩ : ByteArray), false)) = some (r1, r2, r3, r4, r5) := by rw [if_neg (show ¬ (false = true) by decide)] at H; exact H); clear H; have H := H1; clear H1; simp only [Option.some.injEq, Prod.mk.injEq] at H; obtain ⟨rfl, rfl, rfl, rfl, rfl⟩ := H; go_enter Tryz.func13, Tryz.ntmps13; go_wp2_with (first | ((with_reducible refine gD 2 ?_); refine gx_ w 2 z4_ 23 ?_; clear HB; intro gb122 w13 BK122 GE122 HB; have GW122 := GE122) | ((with_reducible refine gC 52 ?_); refine goesL_ (some 6) rfl rfl Tryz.func52 (by kernel_rfl) rfl #[.string a0] rfl ml_ ?_; (with_reducible refine (point_guess.calls a0 t123 t124 t125 t126 _ A2.out).mono ?_); rintro e w14 ⟨rfl, hb⟩; refine ⟨_, rfl, ?_⟩; replace BK122 := bb_ BK122 hb; replace HB := bs_ hb; (try clear hb)) | ((with_reducible refine gD 4 ?_); refine bxe_ 4 z4_ 23 ?_; intro gb127 hg w15 hbox hb; have BK127 := A_ (hbox); have GW127 := gs_ w hg; have GE127 := gs_ w hg; replace HB := bs_ hb; have NB122_127 := nl_ BK122 hg; have NB127_122 := ng_ BK122 hg; replace BK122 := bb_ BK122 hb; clear hb hbox hg; have hnb16 := NB127_122.out; have hnc16 := NB122_127.out; have Z17 := bz4_ BK127) | ((with_reducible refine gC 20 ?_); refine goesL_ (some 8) rfl rfl Tryz.func20 (by kernel_rfl) rfl #[.agg #[.int .i64 t123, .string t124, .string t125, .string t126]] rfl ml_ ?_; (with_reducible refine (point_Sane.calls k t123 t124 t125 t126 false _ A3.out).mono ?_); rintro e w18 ⟨rfl, hb⟩; refine ⟨_, rfl, ?_⟩; replace BK122 := A_ (blk_below (g := gb122) (o := .cells z4_ 23 (0, 0)) (pf_ NB122_127 BK122) hb); replace BK127 := bp_ BK127 (.cells (n4_ t123 t124 t125 t126) 23 (0, 0)) hb; replace HB := bs_ hb; (try clear hb); have Z19 := bz4_ BK122))
  refine bodyPost_ret (results_ct rfl _ _ gb122 23 #[.int .i64 0, .string ⟨#[]⟩, .string ⟨#[]⟩, .string ⟨#[]⟩] (0, 0) _ rfl (pb_ BK122.out) Tryz.underlying23 rfl (by kernel_rfl)) rfl ?_; exact ⟨re_, hs_⟩
set_option maxHeartbeats 8000000 in
set_option maxRecDepth 100000 in
theorem point_Text.calls (k : Nat) (a0_0 : Int) (a0_1 a0_2 a0_3 r : ByteArray) (w : World) (h : point_Text.f k a0_0 a0_1 a0_2 a0_3 = some r) :
  Calls Tryz.prog 22 #[.agg #[.int .i64 a0_0, .string a0_1, .string a0_2, .string a0_3]] w fun e w' => e = .returned (.string r) ∧ Below w.heap.size w w' := by
 have hu23 := Tryz.underlying23; have HB := A_ (Below.refl w.heap.size w); have H : ((point_Sane.f k a0_0 a0_1 a0_2 a0_3).bind fun t188 => (if t188 = true then (if a0_0 = 0 then (if 1 + a0_3.size ≤ 9223372036854775807 then (if 1 + a0_2.size ≤ 9223372036854775807 then (if ((⟨#[45]⟩ : ByteArray) ++ a0_2).size + ((⟨#[45]⟩ : ByteArray) ++ a0_3).size ≤ 9223372036854775807 then (if a0_1.size + (((⟨#[45]⟩ : ByteArray) ++ a0_2) ++ ((⟨#[45]⟩ : ByteArray) ++ a0_3)).size ≤ 9223372036854775807 then (some (a0_1 ++ (((⟨#[45]⟩ : ByteArray) ++ a0_2) ++ ((⟨#[45]⟩ : ByteArray) ++ a0_3)))) else (none)) else (none)) else (none)) else (none)) else (if a0_0 = 1 then (if 1 + a0_2.size ≤ 9223372036854775807 then (if ((⟨#[45]⟩ : ByteArray) ++ a0_2).size + 0 ≤ 9223372036854775807 then (if a0_1.size + (((⟨#[45]⟩ : ByteArray) ++ a0_2) ++ (⟨#[]⟩ : ByteArray)).size ≤ 9223372036854775807 then (some (a0_1 ++ (((⟨#[45]⟩ : ByteArray) ++ a0_2) ++ (⟨#[]⟩ : ByteArray)))) else (none)) else (none)) else (none)) else (if a0_0 = 2 then (if 1 + a0_2.size ≤ 9223372036854775807 then (if a0_1.size + ((⟨#[115]⟩ : ByteArray) ++ a0_2).size ≤ 9223372036854775807 then (some (a0_1 ++ ((⟨#[115]⟩ : ByteArray) ++ a0_2))) else (none)) else (none)) else (if a0_0 = 4 then (if a0_1.size + 1 ≤ 9223372036854775807 then (some (a0_1 ++ (⟨#[100]⟩ : ByteArray))) else (none)) else (if a0_0 = 5 then (if a0_1.size + 1 ≤ 9223372036854775807 then (some (a0_1 ++ (⟨#[99]⟩ : ByteArray))) else (none)) else (if a0_1.size + 0 ≤ 9223372036854775807 then (some (a0_1 ++ (⟨#[]⟩ : ByteArray))) else (none))))))) else (some (⟨#[]⟩ : ByteArray)))) = some r := h; clear h; obtain ⟨t188, A2, H⟩ := bi_ H
 cases t188
 ·replace H := iN_ H; obtain rfl := Option.some.inj H; go_enter Tryz.func22, Tryz.ntmps22; go_wp2_with (first | (refine gx_ w 1 (n4_ a0_0 a0_1 a0_2 a0_3) 23 ?_; clear HB; intro gb187 w45 BK187 GE187 HB; have GW187 := GE187; have Z46 := bz4_ BK187) | (refine gC 20 ?_; refine gL 5 Tryz.func20 #[.agg (n4_ a0_0 a0_1 a0_2 a0_3)] ?_; (with_reducible refine (point_Sane.calls k a0_0 a0_1 a0_2 a0_3 false _ A2.out).mono ?_); rintro e w47 ⟨rfl, hb⟩; refine ⟨_, rfl, ?_⟩; replace BK187 := bb_ BK187 hb; replace HB := bs_ hb; (try clear hb))); go_ret; exact ⟨re_, hs_⟩
 ·replace H := iP_ H
  obtain ⟨c4b0, c4b1, H⟩ | ⟨c4, c4b0, c4b1, H⟩ := ie_ H
  ·obtain ⟨c5, H⟩ := gc_ H; have c5b0 := eq_true c5; have c5b1 := decide_eq_true c5; (try have c5b2 : (9223372036854775807 < 1 + a0_3.size) = False := eq_false (Nat.not_lt.2 c5))
   obtain ⟨c6, H⟩ := gc_ H; have c6b0 := eq_true c6; have c6b1 := decide_eq_true c6; (try have c6b2 : (9223372036854775807 < 1 + a0_2.size) = False := eq_false (Nat.not_lt.2 c6))
   obtain ⟨c7, H⟩ := gc_ H; have c7b0 := eq_true c7; have c7b1 := decide_eq_true c7; (try have c7b2 : (9223372036854775807 < ((⟨#[45]⟩ : ByteArray) ++ a0_2).size + ((⟨#[45]⟩ : ByteArray) ++ a0_3).size) = False := eq_false (Nat.not_lt.2 c7)); (try have c7b3 : (9223372036854775807 < 1 + a0_2.size + (1 + a0_3.size)) = False := eq_false (Nat.not_lt.2 (by have h_ := c7; simp only [ByteArray.size_append] at h_; exact h_)))
   obtain ⟨c8, H⟩ := gc_ H; have c8b0 := eq_true c8; have c8b1 := decide_eq_true c8; (try have c8b2 : (9223372036854775807 < a0_1.size + (((⟨#[45]⟩ : ByteArray) ++ a0_2) ++ ((⟨#[45]⟩ : ByteArray) ++ a0_3)).size) = False := eq_false (Nat.not_lt.2 c8)); (try have c8b3 : (9223372036854775807 < a0_1.size + (1 + a0_2.size + (1 + a0_3.size))) = False := eq_false (Nat.not_lt.2 (by have h_ := c8; simp only [ByteArray.size_append] at h_; exact h_))); obtain rfl := Option.some.inj H; go_enter Tryz.func22, Tryz.ntmps22; go_wp2_with (first | (refine gx_ w 1 (n4_ a0_0 a0_1 a0_2 a0_3) 23 ?_; clear HB; intro gb187 w9 BK187 GE187 HB; have GW187 := GE187; have Z10 := bz4_ BK187) | (refine gC 20 ?_; refine gL 5 Tryz.func20 #[.agg (n4_ a0_0 a0_1 a0_2 a0_3)] ?_; (with_reducible refine (point_Sane.calls k a0_0 a0_1 a0_2 a0_3 true _ A2.out).mono ?_); rintro e w11 ⟨rfl, hb⟩; refine ⟨_, rfl, ?_⟩; replace BK187 := bb_ BK187 hb; replace HB := bs_ hb; have Z12 := bz4_ BK187)); go_ret; exact ⟨re_, hs_⟩
  ·obtain ⟨c13b0, c13b1, H⟩ | ⟨c13, c13b0, c13b1, H⟩ := ie_ H
   ·obtain ⟨c14, H⟩ := gc_ H; have c14b0 := eq_true c14; have c14b1 := decide_eq_true c14; (try have c14b2 : (9223372036854775807 < 1 + a0_2.size) = False := eq_false (Nat.not_lt.2 c14))
    obtain ⟨c15, H⟩ := gc_ H; have c15b0 := eq_true c15; have c15b1 := decide_eq_true c15; (try have c15b2 : (9223372036854775807 < ((⟨#[45]⟩ : ByteArray) ++ a0_2).size + 0) = False := eq_false (Nat.not_lt.2 c15)); (try have c15b3 : (9223372036854775807 < 1 + a0_2.size + 0) = False := eq_false (Nat.not_lt.2 (by have h_ := c15; simp only [ByteArray.size_append] at h_; exact h_)))
    obtain ⟨c16, H⟩ := gc_ H; have c16b0 := eq_true c16; have c16b1 := decide_eq_true c16; (try have c16b2 : (9223372036854775807 < a0_1.size + (((⟨#[45]⟩ : ByteArray) ++ a0_2) ++ (⟨#[]⟩ : ByteArray)).size) = False := eq_false (Nat.not_lt.2 c16)); (try have c16b3 : (9223372036854775807 < a0_1.size + (1 + a0_2.size + 0)) = False := eq_false (Nat.not_lt.2 (by have h_ := c16; simp only [ByteArray.size_append] at h_; exact h_))); obtain rfl := Option.some.inj H; go_enter Tryz.func22, Tryz.ntmps22; go_wp2_with (first | (refine gx_ w 1 (n4_ a0_0 a0_1 a0_2 a0_3) 23 ?_; clear HB; intro gb187 w17 BK187 GE187 HB; have GW187 := GE187; have Z18 := bz4_ BK187) | (refine gC 20 ?_; refine gL 5 Tryz.func20 #[.agg (n4_ a0_0 a0_1 a0_2 a0_3)] ?_; (with_reducible refine (point_Sane.calls k a0_0 a0_1 a0_2 a0_3 true _ A2.out).mono ?_); rintro e w19 ⟨rfl, hb⟩; refine ⟨_, rfl, ?_⟩; replace BK187 := bb_ BK187 hb; replace HB := bs_ hb; have Z20 := bz4_ BK187)); go_ret; exact ⟨re_, hs_⟩
   ·obtain ⟨c21b0, c21b1, H⟩ | ⟨c21, c21b0, c21b1, H⟩ := ie_ H
    ·obtain ⟨c22, H⟩ := gc_ H; have c22b0 := eq_true c22; have c22b1 := decide_eq_true c22; (try have c22b2 : (9223372036854775807 < 1 + a0_2.size) = False := eq_false (Nat.not_lt.2 c22))
     obtain ⟨c23, H⟩ := gc_ H; have c23b0 := eq_true c23; have c23b1 := decide_eq_true c23; (try have c23b2 : (9223372036854775807 < a0_1.size + ((⟨#[115]⟩ : ByteArray) ++ a0_2).size) = False := eq_false (Nat.not_lt.2 c23)); (try have c23b3 : (9223372036854775807 < a0_1.size + (1 + a0_2.size)) = False := eq_false (Nat.not_lt.2 (by have h_ := c23; simp only [ByteArray.size_append] at h_; exact h_))); obtain rfl := Option.some.inj H; go_enter Tryz.func22, Tryz.ntmps22; go_wp2_with (first | (refine gx_ w 1 (n4_ a0_0 a0_1 a0_2 a0_3) 23 ?_; clear HB; intro gb187 w24 BK187 GE187 HB; have GW187 := GE187; have Z25 := bz4_ BK187) | (refine gC 20 ?_; refine gL 5 Tryz.func20 #[.agg (n4_ a0_0 a0_1 a0_2 a0_3)] ?_; (with_reducible refine (point_Sane.calls k a0_0 a0_1 a0_2 a0_3 true _ A2.out).mono ?_); rintro e w26 ⟨rfl, hb⟩; refine ⟨_, rfl, ?_⟩; replace BK187 := bb_ BK187 hb; replace HB := bs_ hb; have Z27 := bz4_ BK187)); go_ret; exact ⟨re_, hs_⟩
    ·obtain ⟨c28b0, c28b1, H⟩ | ⟨c28, c28b0, c28b1, H⟩ := ie_ H
     ·obtain ⟨c29, H⟩ := gc_ H; have c29b0 := eq_true c29; have c29b1 := decide_eq_true c29; (try have c29b2 : (9223372036854775807 < a0_1.size + 1) = False := eq_false (Nat.not_lt.2 c29)); obtain rfl := Option.some.inj H; go_enter Tryz.func22, Tryz.ntmps22; go_wp2_with (first | (refine gx_ w 1 (n4_ a0_0 a0_1 a0_2 a0_3) 23 ?_; clear HB; intro gb187 w30 BK187 GE187 HB; have GW187 := GE187; have Z31 := bz4_ BK187) | (refine gC 20 ?_; refine gL 5 Tryz.func20 #[.agg (n4_ a0_0 a0_1 a0_2 a0_3)] ?_; (with_reducible refine (point_Sane.calls k a0_0 a0_1 a0_2 a0_3 true _ A2.out).mono ?_); rintro e w32 ⟨rfl, hb⟩; refine ⟨_, rfl, ?_⟩; replace BK187 := bb_ BK187 hb; replace HB := bs_ hb; have Z33 := bz4_ BK187)); go_ret; exact ⟨re_, hs_⟩
     ·obtain ⟨c34b0, c34b1, H⟩ | ⟨c34, c34b0, c34b1, H⟩ := ie_ H
      ·obtain ⟨c35, H⟩ := gc_ H; have c35b0 := eq_true c35; have c35b1 := decide_eq_true c35; (try have c35b2 : (9223372036854775807 < a0_1.size + 1) = False := eq_false (Nat.not_lt.2 c35)); obtain rfl := Option.some.inj H; go_enter Tryz.func22, Tryz.ntmps22; go_wp2_with (first | (refine gx_ w 1 (n4_ a0_0 a0_1 a0_2 a0_3) 23 ?_; clear HB; intro gb187 w36 BK187 GE187 HB; have GW187 := GE187; have Z37 := bz4_ BK187) | (refine gC 20 ?_; refine gL 5 Tryz.func20 #[.agg (n4_ a0_0 a0_1 a0_2 a0_3)] ?_; (with_reducible refine (point_Sane.calls k a0_0 a0_1 a0_2 a0_3 true _ A2.out).mono ?_); rintro e w38 ⟨rfl, hb⟩; refine ⟨_, rfl, ?_⟩; replace BK187 := bb_ BK187 hb; replace HB := bs_ hb; have Z39 := bz4_ BK187)); go_ret; exact ⟨re_, hs_⟩
      ·obtain ⟨c40, H⟩ := gc_ H; have c40b0 := eq_true c40; have c40b1 := decide_eq_true c40; (try have c40b2 : (9223372036854775807 < a0_1.size + 0) = False := eq_false (Nat.not_lt.2 c40)); obtain rfl := Option.some.inj H; go_enter Tryz.func22, Tryz.ntmps22; go_wp2_with (first | (refine gx_ w 1 (n4_ a0_0 a0_1 a0_2 a0_3) 23 ?_; clear HB; intro gb187 w41 BK187 GE187 HB; have GW187 := GE187; have Z42 := bz4_ BK187) | (refine gC 20 ?_; refine gL 5 Tryz.func20 #[.agg (n4_ a0_0 a0_1 a0_2 a0_3)] ?_; (with_reducible refine (point_Sane.calls k a0_0 a0_1 a0_2 a0_3 true _ A2.out).mono ?_); rintro e w43 ⟨rfl, hb⟩; refine ⟨_, rfl, ?_⟩; replace BK187 := bb_ BK187 hb; replace HB := bs_ hb; have Z44 := bz4_ BK187)); go_ret; exact ⟨re_, hs_⟩
set_option maxHeartbeats 8000000 in
set_option maxRecDepth 100000 in
theorem lustrumlaw08_awake.calls (k : Nat)  (r : Bool) (w : World) (htab : TL w.heap.size w) (h : lustrumlaw08_awake.f k  = some r) :
  Calls Tryz.prog 11 #[] w fun e w' => e = .returned (.bool r) ∧ Below w.heap.size w w' := by
 have HTAB := A_ htab; clear htab; have hu23 := Tryz.underlying23; have HB := A_ (Below.refl w.heap.size w); have H : ((point_Read.f k (⟨#[49, 57, 56, 52, 115, 52]⟩ : ByteArray)).bind fun bt135 => ((point_Set.f k bt135.1 bt135.2.1 bt135.2.2.1 bt135.2.2.2.1).bind fun bt141 => ((point_Set.f k 3 (⟨#[88, 88, 88, 88]⟩ : ByteArray) (⟨#[]⟩ : ByteArray) (⟨#[]⟩ : ByteArray)).bind fun bt145 => (if bt135.2.2.2.2 = true then (if bt135.1 = 2 then (if bt135.2.1.toList = ([49, 57, 56, 52] : List UInt8) then (if bt135.2.2.1.toList = ([52] : List UInt8) then (if bt141.2 = 0 then (if (bt141.1.length : Int) = 1 then (if 0 < (bt141.1.length : Int) then (if ((rd_T71 bt141.1 0).f0) = 7939 then (if bt145.2 = 8 then ((point_Text.f k bt135.1 bt135.2.1 bt135.2.2.1 bt135.2.2.2.1).bind fun t150 => (if t150.toList = ([49, 57, 56, 52, 115, 52] : List UInt8) then ((point_Radius.f 0).bind fun t151 => (some (t151 == 3))) else (some false))) else (some false)) else (some false)) else (none)) else (some false)) else (some false)) else (some false)) else (some false)) else (some false)) else (some false))))) = some r := h; clear h; obtain ⟨⟨t135, t136, t137, t138, t139⟩, A1, H⟩ := bi_ H; (try dsimp only at H); obtain ⟨⟨t141, t144⟩, A2, H⟩ := bi_ H; (try dsimp only at H); obtain ⟨⟨t145, t148⟩, A3, H⟩ := bi_ H; (try dsimp only at H)
 cases t139
 ·replace H := iN_ H; obtain rfl := Option.some.inj H; go_enter Tryz.func11, Tryz.ntmps11; go_wp2_with (first | ((with_reducible refine gC 13 ?_); refine goesL_ (some 8) rfl rfl Tryz.func13 (by kernel_rfl) rfl #[.string ⟨#[49, 57, 56, 52, 115, 52]⟩] rfl ml_ ?_; (with_reducible refine (point_Read.calls k (⟨#[49, 57, 56, 52, 115, 52]⟩ : ByteArray) t135 t136 t137 t138 false _ A1.out).mono ?_); rintro e w77 ⟨rfl, hb⟩; refine ⟨_, rfl, ?_⟩; replace HB := bs_ hb; (try clear hb)) | ((with_reducible refine gD 1 ?_); (try (refine gate_guard (by rfl) ?_; dsimp only)); refine bxe_ 1 z4_ 23 ?_; intro gb140 hg w78 hbox hb; have BK140 := A_ (hbox); have GW140 := gs_ w hg; have GE140 := gs_ w hg; replace HB := bs_ hb; clear hb hbox hg; have Z79 := bz4_ BK140) | ((with_reducible refine gC 15 ?_); refine goesL_ (some 13) rfl rfl Tryz.func15 (by kernel_rfl) rfl #[.agg #[.int .i64 t135, .string t136, .string t137, .string t138]] rfl ml_ ?_; (with_reducible refine (point_Set.calls k t135 t136 t137 t138 t141 t144 _ tl_ A2.out).mono ?_); rintro e w80 ⟨v142, rfl, ho0, hb⟩; refine ⟨_, rfl, ?_⟩; have HO143 := A_ (Kd.V_lower (Kd.V_mono (ok' := fun k_ => k_ ≠ gb140) ho0 (fun k_ hk_ => (fb_ BK140 k_ hk_))) (below_size hs_)); replace BK140 := bp_ BK140 (.cells (n4_ t135 t136 t137 t138) 23 (0, 0)) hb; replace HB := bs_ hb; (try clear ho0)) | ((with_reducible refine gC 15 ?_); refine goesL_ (some 18) rfl rfl Tryz.func15 (by kernel_rfl) rfl #[.agg #[.int .i64 3, .string ⟨#[88, 88, 88, 88]⟩, .string ⟨#[]⟩, .string ⟨#[]⟩]] rfl ml_ ?_; (with_reducible refine (point_Set.calls k 3 (⟨#[88, 88, 88, 88]⟩ : ByteArray) (⟨#[]⟩ : ByteArray) (⟨#[]⟩ : ByteArray) t145 t148 _ tl_ A3.out).mono ?_); rintro e w81 ⟨v146, rfl, ho0, hb⟩; refine ⟨_, rfl, ?_⟩; replace HO143 := bV_ HO143 hb; have HO147 := A_ (Kd.V_lower (Kd.V_mono (ok' := fun k_ => k_ ≠ gb140) ho0 (fun k_ hk_ => (fb_ BK140 k_ hk_))) (below_size hs_)); replace BK140 := bb_ BK140 hb; replace HB := bs_ hb; (try clear ho0)))
  go_ret; exact ⟨re_, hs_⟩
 ·replace H := iP_ H
  obtain ⟨c5b0, c5b1, H⟩ | ⟨c5, c5b0, c5b1, H⟩ := ie_ H
  ·obtain ⟨c6b0, c6b1, H⟩ | ⟨c6, c6b0, c6b1, H⟩ := ie_ H
   ·obtain ⟨c7b0, c7b1, H⟩ | ⟨c7, c7b0, c7b1, H⟩ := ie_ H
    ·obtain ⟨c8b0, c8b1, H⟩ | ⟨c8, c8b0, c8b1, H⟩ := ie_ H
     ·obtain ⟨c9b0, c9b1, H⟩ | ⟨c9, c9b0, c9b1, H⟩ := ie_ H
      ·obtain ⟨c10, H⟩ := gc_ H; have c10b0 := decide_eq_true c10; have c10b1 : decide (0 < t141.length) = true := decide_eq_true (by omega); clear c10
       obtain ⟨c11b0, c11b1, H⟩ | ⟨c11, c11b0, c11b1, H⟩ := ie_ H
       ·obtain ⟨c12b0, c12b1, H⟩ | ⟨c12, c12b0, c12b1, H⟩ := ie_ H
        ·obtain ⟨t150, A13, H⟩ := bi_ H
         obtain ⟨c14b0, c14b1, H⟩ | ⟨c14, c14b0, c14b1, H⟩ := ie_ H
         ·obtain ⟨t151, A15, H⟩ := bi_ H; obtain rfl := Option.some.inj H; go_enter Tryz.func11, Tryz.ntmps11; go_wp2_with (first | ((with_reducible refine gC 13 ?_); refine goesL_ (some 8) rfl rfl Tryz.func13 (by kernel_rfl) rfl #[.string ⟨#[49, 57, 56, 52, 115, 52]⟩] rfl ml_ ?_; (with_reducible refine (point_Read.calls k (⟨#[49, 57, 56, 52, 115, 52]⟩ : ByteArray) t135 t136 t137 t138 true _ A1.out).mono ?_); rintro e w16 ⟨rfl, hb⟩; refine ⟨_, rfl, ?_⟩; replace HB := bs_ hb; (try clear hb)) | ((with_reducible refine gD 1 ?_); (try (refine gate_guard (by rfl) ?_; dsimp only)); refine bxe_ 1 z4_ 23 ?_; intro gb140 hg w17 hbox hb; have BK140 := A_ (hbox); have GW140 := gs_ w hg; have GE140 := gs_ w hg; replace HB := bs_ hb; clear hb hbox hg; have Z18 := bz4_ BK140) | ((with_reducible refine gC 15 ?_); refine goesL_ (some 13) rfl rfl Tryz.func15 (by kernel_rfl) rfl #[.agg #[.int .i64 t135, .string t136, .string t137, .string t138]] rfl ml_ ?_; (with_reducible refine (point_Set.calls k t135 t136 t137 t138 t141 t144 _ tl_ A2.out).mono ?_); rintro e w19 ⟨v142, rfl, ho0, hb⟩; refine ⟨_, rfl, ?_⟩; have HO143 := A_ (Kd.V_lower (Kd.V_mono (ok' := fun k_ => k_ ≠ gb140) ho0 (fun k_ hk_ => (fb_ BK140 k_ hk_))) (below_size hs_)); replace BK140 := bp_ BK140 (.cells (n4_ t135 t136 t137 t138) 23 (0, 0)) hb; replace HB := bs_ hb; (try clear ho0)) | ((with_reducible refine gC 15 ?_); refine goesL_ (some 18) rfl rfl Tryz.func15 (by kernel_rfl) rfl #[.agg #[.int .i64 3, .string ⟨#[88, 88, 88, 88]⟩, .string ⟨#[]⟩, .string ⟨#[]⟩]] rfl ml_ ?_; (with_reducible refine (point_Set.calls k 3 (⟨#[88, 88, 88, 88]⟩ : ByteArray) (⟨#[]⟩ : ByteArray) (⟨#[]⟩ : ByteArray) t145 t148 _ tl_ A3.out).mono ?_); rintro e w20 ⟨v146, rfl, ho0, hb⟩; refine ⟨_, rfl, ?_⟩; replace HO143 := bV_ HO143 hb; have HO147 := A_ (Kd.V_lower (Kd.V_mono (ok' := fun k_ => k_ ≠ gb140) ho0 (fun k_ hk_ => (fb_ BK140 k_ hk_))) (below_size hs_)); replace BK140 := bb_ BK140 hb; replace HB := bs_ hb; have Z21 := bz4_ BK140; obtain ⟨Ao22, co22, eo22⟩ := Kd.V_slice HO143.out; subst eo22; have p149 : 0 ≤ (0 : Int) := (by omega); have q149 : 0 < (t141.length : Int) := od_; obtain ⟨ad149, e149, hx149_0, hx149_1⟩ := at_T71 (Kd.V_reads' HO143.out).2.2 0 p149 q149; cases e149; have qi149 : (0 < t141.length) = True := eq_true (by omega); replace hx149_0 := ai_ hx149_0; replace hx149_1 := ai_ hx149_1; replace p149 := eq_true p149; replace q149 := eq_true q149) | (go_at_call 22; (with_reducible refine (point_Text.calls k t135 t136 t137 t138 t150 _ A13.out).mono ?_); rintro e w23 ⟨rfl, hb⟩; replace HO143 := bV_ HO143 hb; replace HO147 := bV_ HO147 hb; replace BK140 := bb_ BK140 hb; replace HB := bs_ hb; (try clear hb)) | (go_at_call 24; (with_reducible refine (point_Radius.calls 0 t151 _ A15.out).mono ?_); rintro e w' ⟨rfl, ⟨nd, rfl⟩⟩))
          go_ret; exact ⟨re_, hs_⟩
         ·obtain rfl := Option.some.inj H; go_enter Tryz.func11, Tryz.ntmps11; go_wp2_with (first | ((with_reducible refine gC 13 ?_); refine goesL_ (some 8) rfl rfl Tryz.func13 (by kernel_rfl) rfl #[.string ⟨#[49, 57, 56, 52, 115, 52]⟩] rfl ml_ ?_; (with_reducible refine (point_Read.calls k (⟨#[49, 57, 56, 52, 115, 52]⟩ : ByteArray) t135 t136 t137 t138 true _ A1.out).mono ?_); rintro e w24 ⟨rfl, hb⟩; refine ⟨_, rfl, ?_⟩; replace HB := bs_ hb; (try clear hb)) | ((with_reducible refine gD 1 ?_); (try (refine gate_guard (by rfl) ?_; dsimp only)); refine bxe_ 1 z4_ 23 ?_; intro gb140 hg w25 hbox hb; have BK140 := A_ (hbox); have GW140 := gs_ w hg; have GE140 := gs_ w hg; replace HB := bs_ hb; clear hb hbox hg; have Z26 := bz4_ BK140) | ((with_reducible refine gC 15 ?_); refine goesL_ (some 13) rfl rfl Tryz.func15 (by kernel_rfl) rfl #[.agg #[.int .i64 t135, .string t136, .string t137, .string t138]] rfl ml_ ?_; (with_reducible refine (point_Set.calls k t135 t136 t137 t138 t141 t144 _ tl_ A2.out).mono ?_); rintro e w27 ⟨v142, rfl, ho0, hb⟩; refine ⟨_, rfl, ?_⟩; have HO143 := A_ (Kd.V_lower (Kd.V_mono (ok' := fun k_ => k_ ≠ gb140) ho0 (fun k_ hk_ => (fb_ BK140 k_ hk_))) (below_size hs_)); replace BK140 := bp_ BK140 (.cells (n4_ t135 t136 t137 t138) 23 (0, 0)) hb; replace HB := bs_ hb; (try clear ho0)) | ((with_reducible refine gC 15 ?_); refine goesL_ (some 18) rfl rfl Tryz.func15 (by kernel_rfl) rfl #[.agg #[.int .i64 3, .string ⟨#[88, 88, 88, 88]⟩, .string ⟨#[]⟩, .string ⟨#[]⟩]] rfl ml_ ?_; (with_reducible refine (point_Set.calls k 3 (⟨#[88, 88, 88, 88]⟩ : ByteArray) (⟨#[]⟩ : ByteArray) (⟨#[]⟩ : ByteArray) t145 t148 _ tl_ A3.out).mono ?_); rintro e w28 ⟨v146, rfl, ho0, hb⟩; refine ⟨_, rfl, ?_⟩; replace HO143 := bV_ HO143 hb; have HO147 := A_ (Kd.V_lower (Kd.V_mono (ok' := fun k_ => k_ ≠ gb140) ho0 (fun k_ hk_ => (fb_ BK140 k_ hk_))) (below_size hs_)); replace BK140 := bb_ BK140 hb; replace HB := bs_ hb; have Z29 := bz4_ BK140; obtain ⟨Ao30, co30, eo30⟩ := Kd.V_slice HO143.out; subst eo30; have p149 : 0 ≤ (0 : Int) := (by omega); have q149 : 0 < (t141.length : Int) := od_; obtain ⟨ad149, e149, hx149_0, hx149_1⟩ := at_T71 (Kd.V_reads' HO143.out).2.2 0 p149 q149; cases e149; have qi149 : (0 < t141.length) = True := eq_true (by omega); replace hx149_0 := ai_ hx149_0; replace hx149_1 := ai_ hx149_1; replace p149 := eq_true p149; replace q149 := eq_true q149) | (go_at_call 22; (with_reducible refine (point_Text.calls k t135 t136 t137 t138 t150 _ A13.out).mono ?_); rintro e w31 ⟨rfl, hb⟩; replace HO143 := bV_ HO143 hb; replace HO147 := bV_ HO147 hb; replace BK140 := bb_ BK140 hb; replace HB := bs_ hb; (try clear hb)))
          go_ret; exact ⟨re_, hs_⟩
        ·obtain rfl := Option.some.inj H; go_enter Tryz.func11, Tryz.ntmps11; go_wp2_with (first | ((with_reducible refine gC 13 ?_); refine goesL_ (some 8) rfl rfl Tryz.func13 (by kernel_rfl) rfl #[.string ⟨#[49, 57, 56, 52, 115, 52]⟩] rfl ml_ ?_; (with_reducible refine (point_Read.calls k (⟨#[49, 57, 56, 52, 115, 52]⟩ : ByteArray) t135 t136 t137 t138 true _ A1.out).mono ?_); rintro e w32 ⟨rfl, hb⟩; refine ⟨_, rfl, ?_⟩; replace HB := bs_ hb; (try clear hb)) | ((with_reducible refine gD 1 ?_); (try (refine gate_guard (by rfl) ?_; dsimp only)); refine bxe_ 1 z4_ 23 ?_; intro gb140 hg w33 hbox hb; have BK140 := A_ (hbox); have GW140 := gs_ w hg; have GE140 := gs_ w hg; replace HB := bs_ hb; clear hb hbox hg; have Z34 := bz4_ BK140) | ((with_reducible refine gC 15 ?_); refine goesL_ (some 13) rfl rfl Tryz.func15 (by kernel_rfl) rfl #[.agg #[.int .i64 t135, .string t136, .string t137, .string t138]] rfl ml_ ?_; (with_reducible refine (point_Set.calls k t135 t136 t137 t138 t141 t144 _ tl_ A2.out).mono ?_); rintro e w35 ⟨v142, rfl, ho0, hb⟩; refine ⟨_, rfl, ?_⟩; have HO143 := A_ (Kd.V_lower (Kd.V_mono (ok' := fun k_ => k_ ≠ gb140) ho0 (fun k_ hk_ => (fb_ BK140 k_ hk_))) (below_size hs_)); replace BK140 := bp_ BK140 (.cells (n4_ t135 t136 t137 t138) 23 (0, 0)) hb; replace HB := bs_ hb; (try clear ho0)) | ((with_reducible refine gC 15 ?_); refine goesL_ (some 18) rfl rfl Tryz.func15 (by kernel_rfl) rfl #[.agg #[.int .i64 3, .string ⟨#[88, 88, 88, 88]⟩, .string ⟨#[]⟩, .string ⟨#[]⟩]] rfl ml_ ?_; (with_reducible refine (point_Set.calls k 3 (⟨#[88, 88, 88, 88]⟩ : ByteArray) (⟨#[]⟩ : ByteArray) (⟨#[]⟩ : ByteArray) t145 t148 _ tl_ A3.out).mono ?_); rintro e w36 ⟨v146, rfl, ho0, hb⟩; refine ⟨_, rfl, ?_⟩; replace HO143 := bV_ HO143 hb; have HO147 := A_ (Kd.V_lower (Kd.V_mono (ok' := fun k_ => k_ ≠ gb140) ho0 (fun k_ hk_ => (fb_ BK140 k_ hk_))) (below_size hs_)); replace BK140 := bb_ BK140 hb; replace HB := bs_ hb; have Z37 := bz4_ BK140; obtain ⟨Ao38, co38, eo38⟩ := Kd.V_slice HO143.out; subst eo38; have p149 : 0 ≤ (0 : Int) := (by omega); have q149 : 0 < (t141.length : Int) := od_; obtain ⟨ad149, e149, hx149_0, hx149_1⟩ := at_T71 (Kd.V_reads' HO143.out).2.2 0 p149 q149; cases e149; have qi149 : (0 < t141.length) = True := eq_true (by omega); replace hx149_0 := ai_ hx149_0; replace hx149_1 := ai_ hx149_1; replace p149 := eq_true p149; replace q149 := eq_true q149))
         go_ret; exact ⟨re_, hs_⟩
       ·obtain rfl := Option.some.inj H; go_enter Tryz.func11, Tryz.ntmps11; go_wp2_with (first | ((with_reducible refine gC 13 ?_); refine goesL_ (some 8) rfl rfl Tryz.func13 (by kernel_rfl) rfl #[.string ⟨#[49, 57, 56, 52, 115, 52]⟩] rfl ml_ ?_; (with_reducible refine (point_Read.calls k (⟨#[49, 57, 56, 52, 115, 52]⟩ : ByteArray) t135 t136 t137 t138 true _ A1.out).mono ?_); rintro e w39 ⟨rfl, hb⟩; refine ⟨_, rfl, ?_⟩; replace HB := bs_ hb; (try clear hb)) | ((with_reducible refine gD 1 ?_); (try (refine gate_guard (by rfl) ?_; dsimp only)); refine bxe_ 1 z4_ 23 ?_; intro gb140 hg w40 hbox hb; have BK140 := A_ (hbox); have GW140 := gs_ w hg; have GE140 := gs_ w hg; replace HB := bs_ hb; clear hb hbox hg; have Z41 := bz4_ BK140) | ((with_reducible refine gC 15 ?_); refine goesL_ (some 13) rfl rfl Tryz.func15 (by kernel_rfl) rfl #[.agg #[.int .i64 t135, .string t136, .string t137, .string t138]] rfl ml_ ?_; (with_reducible refine (point_Set.calls k t135 t136 t137 t138 t141 t144 _ tl_ A2.out).mono ?_); rintro e w42 ⟨v142, rfl, ho0, hb⟩; refine ⟨_, rfl, ?_⟩; have HO143 := A_ (Kd.V_lower (Kd.V_mono (ok' := fun k_ => k_ ≠ gb140) ho0 (fun k_ hk_ => (fb_ BK140 k_ hk_))) (below_size hs_)); replace BK140 := bp_ BK140 (.cells (n4_ t135 t136 t137 t138) 23 (0, 0)) hb; replace HB := bs_ hb; (try clear ho0)) | ((with_reducible refine gC 15 ?_); refine goesL_ (some 18) rfl rfl Tryz.func15 (by kernel_rfl) rfl #[.agg #[.int .i64 3, .string ⟨#[88, 88, 88, 88]⟩, .string ⟨#[]⟩, .string ⟨#[]⟩]] rfl ml_ ?_; (with_reducible refine (point_Set.calls k 3 (⟨#[88, 88, 88, 88]⟩ : ByteArray) (⟨#[]⟩ : ByteArray) (⟨#[]⟩ : ByteArray) t145 t148 _ tl_ A3.out).mono ?_); rintro e w43 ⟨v146, rfl, ho0, hb⟩; refine ⟨_, rfl, ?_⟩; replace HO143 := bV_ HO143 hb; have HO147 := A_ (Kd.V_lower (Kd.V_mono (ok' := fun k_ => k_ ≠ gb140) ho0 (fun k_ hk_ => (fb_ BK140 k_ hk_))) (below_size hs_)); replace BK140 := bb_ BK140 hb; replace HB := bs_ hb; have Z44 := bz4_ BK140; obtain ⟨Ao45, co45, eo45⟩ := Kd.V_slice HO143.out; subst eo45; have p149 : 0 ≤ (0 : Int) := (by omega); have q149 : 0 < (t141.length : Int) := od_; obtain ⟨ad149, e149, hx149_0, hx149_1⟩ := at_T71 (Kd.V_reads' HO143.out).2.2 0 p149 q149; cases e149; have qi149 : (0 < t141.length) = True := eq_true (by omega); replace hx149_0 := ai_ hx149_0; replace hx149_1 := ai_ hx149_1; replace p149 := eq_true p149; replace q149 := eq_true q149))
        go_ret; exact ⟨re_, hs_⟩
      ·obtain rfl := Option.some.inj H; go_enter Tryz.func11, Tryz.ntmps11; go_wp2_with (first | ((with_reducible refine gC 13 ?_); refine goesL_ (some 8) rfl rfl Tryz.func13 (by kernel_rfl) rfl #[.string ⟨#[49, 57, 56, 52, 115, 52]⟩] rfl ml_ ?_; (with_reducible refine (point_Read.calls k (⟨#[49, 57, 56, 52, 115, 52]⟩ : ByteArray) t135 t136 t137 t138 true _ A1.out).mono ?_); rintro e w46 ⟨rfl, hb⟩; refine ⟨_, rfl, ?_⟩; replace HB := bs_ hb; (try clear hb)) | ((with_reducible refine gD 1 ?_); (try (refine gate_guard (by rfl) ?_; dsimp only)); refine bxe_ 1 z4_ 23 ?_; intro gb140 hg w47 hbox hb; have BK140 := A_ (hbox); have GW140 := gs_ w hg; have GE140 := gs_ w hg; replace HB := bs_ hb; clear hb hbox hg; have Z48 := bz4_ BK140) | ((with_reducible refine gC 15 ?_); refine goesL_ (some 13) rfl rfl Tryz.func15 (by kernel_rfl) rfl #[.agg #[.int .i64 t135, .string t136, .string t137, .string t138]] rfl ml_ ?_; (with_reducible refine (point_Set.calls k t135 t136 t137 t138 t141 t144 _ tl_ A2.out).mono ?_); rintro e w49 ⟨v142, rfl, ho0, hb⟩; refine ⟨_, rfl, ?_⟩; have HO143 := A_ (Kd.V_lower (Kd.V_mono (ok' := fun k_ => k_ ≠ gb140) ho0 (fun k_ hk_ => (fb_ BK140 k_ hk_))) (below_size hs_)); replace BK140 := bp_ BK140 (.cells (n4_ t135 t136 t137 t138) 23 (0, 0)) hb; replace HB := bs_ hb; (try clear ho0)) | ((with_reducible refine gC 15 ?_); refine goesL_ (some 18) rfl rfl Tryz.func15 (by kernel_rfl) rfl #[.agg #[.int .i64 3, .string ⟨#[88, 88, 88, 88]⟩, .string ⟨#[]⟩, .string ⟨#[]⟩]] rfl ml_ ?_; (with_reducible refine (point_Set.calls k 3 (⟨#[88, 88, 88, 88]⟩ : ByteArray) (⟨#[]⟩ : ByteArray) (⟨#[]⟩ : ByteArray) t145 t148 _ tl_ A3.out).mono ?_); rintro e w50 ⟨v146, rfl, ho0, hb⟩; refine ⟨_, rfl, ?_⟩; replace HO143 := bV_ HO143 hb; have HO147 := A_ (Kd.V_lower (Kd.V_mono (ok' := fun k_ => k_ ≠ gb140) ho0 (fun k_ hk_ => (fb_ BK140 k_ hk_))) (below_size hs_)); replace BK140 := bb_ BK140 hb; replace HB := bs_ hb; have Z51 := bz4_ BK140; obtain ⟨Ao52, co52, eo52⟩ := Kd.V_slice HO143.out; subst eo52))
       go_ret; exact ⟨re_, hs_⟩
     ·obtain rfl := Option.some.inj H; go_enter Tryz.func11, Tryz.ntmps11; go_wp2_with (first | ((with_reducible refine gC 13 ?_); refine goesL_ (some 8) rfl rfl Tryz.func13 (by kernel_rfl) rfl #[.string ⟨#[49, 57, 56, 52, 115, 52]⟩] rfl ml_ ?_; (with_reducible refine (point_Read.calls k (⟨#[49, 57, 56, 52, 115, 52]⟩ : ByteArray) t135 t136 t137 t138 true _ A1.out).mono ?_); rintro e w53 ⟨rfl, hb⟩; refine ⟨_, rfl, ?_⟩; replace HB := bs_ hb; (try clear hb)) | ((with_reducible refine gD 1 ?_); (try (refine gate_guard (by rfl) ?_; dsimp only)); refine bxe_ 1 z4_ 23 ?_; intro gb140 hg w54 hbox hb; have BK140 := A_ (hbox); have GW140 := gs_ w hg; have GE140 := gs_ w hg; replace HB := bs_ hb; clear hb hbox hg; have Z55 := bz4_ BK140) | ((with_reducible refine gC 15 ?_); refine goesL_ (some 13) rfl rfl Tryz.func15 (by kernel_rfl) rfl #[.agg #[.int .i64 t135, .string t136, .string t137, .string t138]] rfl ml_ ?_; (with_reducible refine (point_Set.calls k t135 t136 t137 t138 t141 t144 _ tl_ A2.out).mono ?_); rintro e w56 ⟨v142, rfl, ho0, hb⟩; refine ⟨_, rfl, ?_⟩; have HO143 := A_ (Kd.V_lower (Kd.V_mono (ok' := fun k_ => k_ ≠ gb140) ho0 (fun k_ hk_ => (fb_ BK140 k_ hk_))) (below_size hs_)); replace BK140 := bp_ BK140 (.cells (n4_ t135 t136 t137 t138) 23 (0, 0)) hb; replace HB := bs_ hb; (try clear ho0)) | ((with_reducible refine gC 15 ?_); refine goesL_ (some 18) rfl rfl Tryz.func15 (by kernel_rfl) rfl #[.agg #[.int .i64 3, .string ⟨#[88, 88, 88, 88]⟩, .string ⟨#[]⟩, .string ⟨#[]⟩]] rfl ml_ ?_; (with_reducible refine (point_Set.calls k 3 (⟨#[88, 88, 88, 88]⟩ : ByteArray) (⟨#[]⟩ : ByteArray) (⟨#[]⟩ : ByteArray) t145 t148 _ tl_ A3.out).mono ?_); rintro e w57 ⟨v146, rfl, ho0, hb⟩; refine ⟨_, rfl, ?_⟩; replace HO143 := bV_ HO143 hb; have HO147 := A_ (Kd.V_lower (Kd.V_mono (ok' := fun k_ => k_ ≠ gb140) ho0 (fun k_ hk_ => (fb_ BK140 k_ hk_))) (below_size hs_)); replace BK140 := bb_ BK140 hb; replace HB := bs_ hb; have Z58 := bz4_ BK140))
      go_ret; exact ⟨re_, hs_⟩
    ·obtain rfl := Option.some.inj H; go_enter Tryz.func11, Tryz.ntmps11; go_wp2_with (first | ((with_reducible refine gC 13 ?_); refine goesL_ (some 8) rfl rfl Tryz.func13 (by kernel_rfl) rfl #[.string ⟨#[49, 57, 56, 52, 115, 52]⟩] rfl ml_ ?_; (with_reducible refine (point_Read.calls k (⟨#[49, 57, 56, 52, 115, 52]⟩ : ByteArray) t135 t136 t137 t138 true _ A1.out).mono ?_); rintro e w59 ⟨rfl, hb⟩; refine ⟨_, rfl, ?_⟩; replace HB := bs_ hb; (try clear hb)) | ((with_reducible refine gD 1 ?_); (try (refine gate_guard (by rfl) ?_; dsimp only)); refine bxe_ 1 z4_ 23 ?_; intro gb140 hg w60 hbox hb; have BK140 := A_ (hbox); have GW140 := gs_ w hg; have GE140 := gs_ w hg; replace HB := bs_ hb; clear hb hbox hg; have Z61 := bz4_ BK140) | ((with_reducible refine gC 15 ?_); refine goesL_ (some 13) rfl rfl Tryz.func15 (by kernel_rfl) rfl #[.agg #[.int .i64 t135, .string t136, .string t137, .string t138]] rfl ml_ ?_; (with_reducible refine (point_Set.calls k t135 t136 t137 t138 t141 t144 _ tl_ A2.out).mono ?_); rintro e w62 ⟨v142, rfl, ho0, hb⟩; refine ⟨_, rfl, ?_⟩; have HO143 := A_ (Kd.V_lower (Kd.V_mono (ok' := fun k_ => k_ ≠ gb140) ho0 (fun k_ hk_ => (fb_ BK140 k_ hk_))) (below_size hs_)); replace BK140 := bp_ BK140 (.cells (n4_ t135 t136 t137 t138) 23 (0, 0)) hb; replace HB := bs_ hb; (try clear ho0)) | ((with_reducible refine gC 15 ?_); refine goesL_ (some 18) rfl rfl Tryz.func15 (by kernel_rfl) rfl #[.agg #[.int .i64 3, .string ⟨#[88, 88, 88, 88]⟩, .string ⟨#[]⟩, .string ⟨#[]⟩]] rfl ml_ ?_; (with_reducible refine (point_Set.calls k 3 (⟨#[88, 88, 88, 88]⟩ : ByteArray) (⟨#[]⟩ : ByteArray) (⟨#[]⟩ : ByteArray) t145 t148 _ tl_ A3.out).mono ?_); rintro e w63 ⟨v146, rfl, ho0, hb⟩; refine ⟨_, rfl, ?_⟩; replace HO143 := bV_ HO143 hb; have HO147 := A_ (Kd.V_lower (Kd.V_mono (ok' := fun k_ => k_ ≠ gb140) ho0 (fun k_ hk_ => (fb_ BK140 k_ hk_))) (below_size hs_)); replace BK140 := bb_ BK140 hb; replace HB := bs_ hb; have Z64 := bz4_ BK140))
     go_ret; exact ⟨re_, hs_⟩
   ·obtain rfl := Option.some.inj H; go_enter Tryz.func11, Tryz.ntmps11; go_wp2_with (first | ((with_reducible refine gC 13 ?_); refine goesL_ (some 8) rfl rfl Tryz.func13 (by kernel_rfl) rfl #[.string ⟨#[49, 57, 56, 52, 115, 52]⟩] rfl ml_ ?_; (with_reducible refine (point_Read.calls k (⟨#[49, 57, 56, 52, 115, 52]⟩ : ByteArray) t135 t136 t137 t138 true _ A1.out).mono ?_); rintro e w65 ⟨rfl, hb⟩; refine ⟨_, rfl, ?_⟩; replace HB := bs_ hb; (try clear hb)) | ((with_reducible refine gD 1 ?_); (try (refine gate_guard (by rfl) ?_; dsimp only)); refine bxe_ 1 z4_ 23 ?_; intro gb140 hg w66 hbox hb; have BK140 := A_ (hbox); have GW140 := gs_ w hg; have GE140 := gs_ w hg; replace HB := bs_ hb; clear hb hbox hg; have Z67 := bz4_ BK140) | ((with_reducible refine gC 15 ?_); refine goesL_ (some 13) rfl rfl Tryz.func15 (by kernel_rfl) rfl #[.agg #[.int .i64 t135, .string t136, .string t137, .string t138]] rfl ml_ ?_; (with_reducible refine (point_Set.calls k t135 t136 t137 t138 t141 t144 _ tl_ A2.out).mono ?_); rintro e w68 ⟨v142, rfl, ho0, hb⟩; refine ⟨_, rfl, ?_⟩; have HO143 := A_ (Kd.V_lower (Kd.V_mono (ok' := fun k_ => k_ ≠ gb140) ho0 (fun k_ hk_ => (fb_ BK140 k_ hk_))) (below_size hs_)); replace BK140 := bp_ BK140 (.cells (n4_ t135 t136 t137 t138) 23 (0, 0)) hb; replace HB := bs_ hb; (try clear ho0)) | ((with_reducible refine gC 15 ?_); refine goesL_ (some 18) rfl rfl Tryz.func15 (by kernel_rfl) rfl #[.agg #[.int .i64 3, .string ⟨#[88, 88, 88, 88]⟩, .string ⟨#[]⟩, .string ⟨#[]⟩]] rfl ml_ ?_; (with_reducible refine (point_Set.calls k 3 (⟨#[88, 88, 88, 88]⟩ : ByteArray) (⟨#[]⟩ : ByteArray) (⟨#[]⟩ : ByteArray) t145 t148 _ tl_ A3.out).mono ?_); rintro e w69 ⟨v146, rfl, ho0, hb⟩; refine ⟨_, rfl, ?_⟩; replace HO143 := bV_ HO143 hb; have HO147 := A_ (Kd.V_lower (Kd.V_mono (ok' := fun k_ => k_ ≠ gb140) ho0 (fun k_ hk_ => (fb_ BK140 k_ hk_))) (below_size hs_)); replace BK140 := bb_ BK140 hb; replace HB := bs_ hb; have Z70 := bz4_ BK140))
    go_ret; exact ⟨re_, hs_⟩
  ·obtain rfl := Option.some.inj H; go_enter Tryz.func11, Tryz.ntmps11; go_wp2_with (first | ((with_reducible refine gC 13 ?_); refine goesL_ (some 8) rfl rfl Tryz.func13 (by kernel_rfl) rfl #[.string ⟨#[49, 57, 56, 52, 115, 52]⟩] rfl ml_ ?_; (with_reducible refine (point_Read.calls k (⟨#[49, 57, 56, 52, 115, 52]⟩ : ByteArray) t135 t136 t137 t138 true _ A1.out).mono ?_); rintro e w71 ⟨rfl, hb⟩; refine ⟨_, rfl, ?_⟩; replace HB := bs_ hb; (try clear hb)) | ((with_reducible refine gD 1 ?_); (try (refine gate_guard (by rfl) ?_; dsimp only)); refine bxe_ 1 z4_ 23 ?_; intro gb140 hg w72 hbox hb; have BK140 := A_ (hbox); have GW140 := gs_ w hg; have GE140 := gs_ w hg; replace HB := bs_ hb; clear hb hbox hg; have Z73 := bz4_ BK140) | ((with_reducible refine gC 15 ?_); refine goesL_ (some 13) rfl rfl Tryz.func15 (by kernel_rfl) rfl #[.agg #[.int .i64 t135, .string t136, .string t137, .string t138]] rfl ml_ ?_; (with_reducible refine (point_Set.calls k t135 t136 t137 t138 t141 t144 _ tl_ A2.out).mono ?_); rintro e w74 ⟨v142, rfl, ho0, hb⟩; refine ⟨_, rfl, ?_⟩; have HO143 := A_ (Kd.V_lower (Kd.V_mono (ok' := fun k_ => k_ ≠ gb140) ho0 (fun k_ hk_ => (fb_ BK140 k_ hk_))) (below_size hs_)); replace BK140 := bp_ BK140 (.cells (n4_ t135 t136 t137 t138) 23 (0, 0)) hb; replace HB := bs_ hb; (try clear ho0)) | ((with_reducible refine gC 15 ?_); refine goesL_ (some 18) rfl rfl Tryz.func15 (by kernel_rfl) rfl #[.agg #[.int .i64 3, .string ⟨#[88, 88, 88, 88]⟩, .string ⟨#[]⟩, .string ⟨#[]⟩]] rfl ml_ ?_; (with_reducible refine (point_Set.calls k 3 (⟨#[88, 88, 88, 88]⟩ : ByteArray) (⟨#[]⟩ : ByteArray) (⟨#[]⟩ : ByteArray) t145 t148 _ tl_ A3.out).mono ?_); rintro e w75 ⟨v146, rfl, ho0, hb⟩; refine ⟨_, rfl, ?_⟩; replace HO143 := bV_ HO143 hb; have HO147 := A_ (Kd.V_lower (Kd.V_mono (ok' := fun k_ => k_ ≠ gb140) ho0 (fun k_ hk_ => (fb_ BK140 k_ hk_))) (below_size hs_)); replace BK140 := bb_ BK140 hb; replace HB := bs_ hb; have Z76 := bz4_ BK140))
   go_ret; exact ⟨re_, hs_⟩
end Go.Proofs.YthppfagfmjchoaaGreatDoor.A
namespace Go.Proofs.YthppfagfmjchoaaGreatDoor.A
open Go.RowKit Go.Proofs.YthppfagfmjchoaaGreatDoorW.PrintWords Go.Proofs.YthppfagfmjchoaaGreatDoorW.PrintLast Go.Proofs.YthppfagfmjchoaaGreatDoorW.PrintMore
attribute [local go_sem] max2_int min2_int max_two min_two max_three min_three max_four min_four
attribute [local go_sem high] eqA23
attribute [local go_sem] isSome_setCell
def lustrumlaw08_PointIs.T12 : Bool × List (List Nat × List Nat) := (true, [([], []), ([0], [0]), ([1], [1]), ([2, 1, 1], [1, 2]), ([1], [1]), ([4, 3, 1], [1, 4]), ([3, 5, 1], [1, 3, 5]), ([1, 6], [1, 6]), ([7, 5], [7]), ([8], [8]), ([9, 8, 8], [8, 9]), ([8], [8]), ([11, 10, 8], [8, 11]), ([10, 12, 8], [8, 10, 12]), ([8, 13], [8, 13]), ([14, 12], [14]), ([15], [15]), ([16, 15, 15], [15, 16]), ([15], [15]), ([18, 17, 15], [15, 18]), ([17, 19, 15], [15, 17, 19]), ([15, 20], [15, 20]), ([21, 19, 0, 1, 2, 3, 4, 5, 6, 7, 8, 9, 10, 11, 12, 13, 14, 15, 16, 17, 18, 19, 20, 21], [21])])
def lustrumlaw08_PointIs.B12 : List Nat := [0, 1, 3, 7, 3, 31, 63, 127, 255, 511, 1023, 511, 4095, 8191, 16383, 32767, 65535, 131071, 65535, 524287, 1048575, 2097151, 4194303]
theorem lustrumlaw08_PointIs.tab12 : rtab .any (opsOf Tryz.f3 12) = lustrumlaw08_PointIs.T12 := by kernel_rfl
theorem lustrumlaw08_PointIs.bits12 : waitsOk lustrumlaw08_PointIs.T12.2 lustrumlaw08_PointIs.B12 = true := by kernel_rfl
set_option maxHeartbeats 8000000 in
set_option maxRecDepth 100000 in
theorem lustrumlaw08_PointIs.calls (k : Nat) (a0_0 : Int) (a0_1 a0_2 a0_3 a1 : ByteArray) (a2 : Int) (r : Bool) (w : World) (hrT_ : r = true) (htab : TL w.heap.size w) (h : lustrumlaw08_PointIs.f k a0_0 a0_1 a0_2 a0_3 a1 a2 = some r) :
  Calls Tryz.prog 3 #[.agg #[.int .i64 a0_0, .string a0_1, .string a0_2, .string a0_3], .string a1, .int .i64 a2] w fun e w' => e = .returned (.bool r) ∧ Below w.heap.size w w' := by
 have HTAB := A_ htab; clear htab; have hu23 := Tryz.underlying23; have HB := A_ (Below.refl w.heap.size w); have H : ((lustrumlaw08_awake.f k).bind fun t376 => ((lustrumlaw08_short.f a0_0 a0_1 a0_2 a0_3).bind fun t377 => (if t377 = true then (lustrumlaw08_PointIs.j0 k a1 a2 t376 (decide ((a1.size : Int) > 40)) a0_0 a0_1 a0_2 a0_3) else (lustrumlaw08_PointIs.j0 k a1 a2 t376 true a0_0 a0_1 a0_2 a0_3)))) = some r := h; clear h; obtain ⟨t376, A4, H⟩ := bi_ H; have HC5 := A_ H; clear H; go_enter Tryz.func3, Tryz.ntmps3; go_upto_region 2 with (first | ((with_reducible refine gD 3 ?_); (try (refine gate_guard (by rfl) ?_; dsimp only)); refine bxe_ 3 (n4_ a0_0 a0_1 a0_2 a0_3) 23 ?_; intro gb375 hg w6 hbox hb; have BK375 := A_ (hbox); have GW375 := gs_ w hg; have GE375 := gs_ w hg; replace HB := bs_ hb; clear hb hbox hg) | ((with_reducible refine gC 11 ?_); refine goesL_ (some 20) rfl rfl Tryz.func11 (by kernel_rfl) rfl #[] rfl ml_ ?_; (with_reducible refine (lustrumlaw08_awake.calls k  t376 _ tl_ A4.out).mono ?_); rintro e w7 ⟨rfl, hb⟩; refine ⟨_, rfl, ?_⟩; replace BK375 := bb_ BK375 hb; replace HB := bs_ hb; (try clear hb))); (try simp only [Act.put, List.setIfInBounds_toArray, List.set_cons_zero, List.set_cons_succ]); go_cut [28] (fun v28 wc => ∃ (kq : Nat) (x28_4 : Bool), v28 = .bool x28_4 ∧ Aside0 (lustrumlaw08_PointIs.j0 kq a1 a2 t376 x28_4 a0_0 a0_1 a0_2 a0_3 = some r) ∧ Aside0 (kq ≤ k) ∧ Aside0 (wc.heap[gb375]? = some (.cells (n4_ a0_0 a0_1 a0_2 a0_3) 23 (0, 0))) ∧ Aside0 (Below w.heap.size w wc))
 case first =>
  have H := HC5.out; clear HC5; obtain ⟨t377, A8, H⟩ := bi_ H
  cases t377
  ·replace H := iN_ H; have H' := A_ H; clear H; have Z12 := bz4_ BK375; go_wp2_with (first | ((with_reducible refine gC 12 ?_); refine goesL_ (some 22) rfl rfl Tryz.func12 (by kernel_rfl) rfl #[.agg #[.int .i64 a0_0, .string a0_1, .string a0_2, .string a0_3]] rfl ml_ ?_; (with_reducible refine (lustrumlaw08_short.calls a0_0 a0_1 a0_2 a0_3 false _ A8.out).mono ?_); rintro e w13 ⟨rfl, hb⟩; refine ⟨_, rfl, ?_⟩; replace BK375 := bb_ BK375 hb; replace HB := bs_ hb; (try clear hb))); go_meet
   case rel => exact ⟨_, (true), rf_, H', ⟨by first | omega | exact Nat.le_refl _⟩, ⟨bl_ BK375.out⟩, ⟨hs_⟩⟩
  ·replace H := iP_ H; have H' := A_ H; clear H; have Z10 := bz4_ BK375; go_wp2_with (first | ((with_reducible refine gC 12 ?_); refine goesL_ (some 22) rfl rfl Tryz.func12 (by kernel_rfl) rfl #[.agg #[.int .i64 a0_0, .string a0_1, .string a0_2, .string a0_3]] rfl ml_ ?_; (with_reducible refine (lustrumlaw08_short.calls a0_0 a0_1 a0_2 a0_3 true _ A8.out).mono ?_); rintro e w11 ⟨rfl, hb⟩; refine ⟨_, rfl, ?_⟩; replace BK375 := bb_ BK375 hb; replace HB := bs_ hb; (try clear hb))); go_meet
   case rel => exact ⟨_, (decide ((a1.size : Int) > 40)), rf_, H', ⟨by first | omega | exact Nat.le_refl _⟩, ⟨bl_ BK375.out⟩, ⟨hs_⟩⟩
 case rest =>
  clear HC5; obtain ⟨kq, x28_4, rfl, HA, HJ4, BK375, HB⟩ := hcut
  cases kq with
  | zero => exact absurd HA.out (by simp [lustrumlaw08_PointIs.j0])
  | succ kj4 =>
   have H := HA.out; clear HA; simp only [lustrumlaw08_PointIs.j0] at H
   cases x28_4
   ·replace H := iN_ H; obtain ⟨⟨t378, t379, t380, t381, t382⟩, A15, H⟩ := bi_ H; (try dsimp only at H); obtain ⟨⟨t384, t385, t386, t387, t388⟩, A16, H⟩ := bi_ H; (try dsimp only at H); obtain ⟨⟨t390, t393⟩, A17, H⟩ := bi_ H; (try dsimp only at H); obtain ⟨⟨t394, t397⟩, A18, H⟩ := bi_ H; (try dsimp only at H); obtain ⟨⟨t398, t401⟩, A19, H⟩ := bi_ H; (try dsimp only at H); obtain ⟨⟨t402, t405⟩, A20, H⟩ := bi_ H; (try dsimp only at H); have HC21 := A_ H; clear H; go_upto_region 10 with (first | ((with_reducible refine gC 13 ?_); refine goesL_ (some 32) rfl rfl Tryz.func13 (by kernel_rfl) rfl #[.string a1] rfl ml_ ?_; (with_reducible refine (point_Read.calls kj4 a1 t378 t379 t380 t381 t382 _ A15.out).mono ?_); rintro e w22 ⟨rfl, hb⟩; refine ⟨_, rfl, ?_⟩; replace BK375 := bb_ BK375 hb; replace HB := bs_ hb; (try clear hb)) | ((with_reducible refine gD 8 ?_); (try (refine gate_guard (by rfl) ?_; dsimp only)); refine bxe_ 8 z4_ 23 ?_; intro gb383 hg w23 hbox hb; have BK383 := A_ (hbox); have GW383 := gs_ w hg; have GE383 := gs_ w hg; replace HB := bs_ hb; have NB375_383 := nl_ BK375 hg; have NB383_375 := ng_ BK375 hg; replace BK375 := bb_ BK375 hb; clear hb hbox hg; have hnb24 := NB383_375.out; have hnc24 := NB375_383.out; have Z25 := bz4_ BK383) | ((with_reducible refine gC 14 ?_); refine goesL_ (some 37) rfl rfl Tryz.func14 (by kernel_rfl) rfl #[.string a1] rfl ml_ ?_; (with_reducible refine (lustrumref08_Read.calls kj4 a1 t384 t385 t386 t387 t388 _ A16.out).mono ?_); rintro e w26 ⟨rfl, hb⟩; refine ⟨_, rfl, ?_⟩; replace BK375 := A_ (blk_below (g := gb375) (o := .cells (n4_ a0_0 a0_1 a0_2 a0_3) 23 (0, 0)) (pf_ NB375_383 BK375) hb); replace BK383 := bp_ BK383 (.cells (n4_ t378 t379 t380 t381) 23 (0, 0)) hb; replace HB := bs_ hb; (try clear hb)) | ((with_reducible refine gD 10 ?_); (try (refine gate_guard (by rfl) ?_; dsimp only)); refine bxe_ 10 z4_ 23 ?_; intro gb389 hg w27 hbox hb; have BK389 := A_ (hbox); have GW389 := gs_ w hg; have GE389 := gs_ w hg; replace HB := bs_ hb; have NB375_389 := nl_ BK375 hg; have NB389_375 := ng_ BK375 hg; replace BK375 := bb_ BK375 hb; have NB383_389 := nl_ BK383 hg; have NB389_383 := ng_ BK383 hg; replace BK383 := bb_ BK383 hb; clear hb hbox hg; have hnb28 := NB389_375.out; have hnc28 := NB375_389.out; have hnb29 := NB389_383.out; have hnc29 := NB383_389.out; have Z30 := bz4_ BK389; have Z31 := bz4_ BK375) | ((with_reducible refine gC 15 ?_); refine goesL_ (some 42) rfl rfl Tryz.func15 (by kernel_rfl) rfl #[.agg #[.int .i64 a0_0, .string a0_1, .string a0_2, .string a0_3]] rfl ml_ ?_; (with_reducible refine (point_Set.calls kj4 a0_0 a0_1 a0_2 a0_3 t390 t393 _ tl_ A17.out).mono ?_); rintro e w32 ⟨v391, rfl, ho0, hb⟩; refine ⟨_, rfl, ?_⟩; have HO392 := A_ (Kd.V_lower (Kd.V_mono (ok' := fun k_ => k_ ≠ gb375 ∧ k_ ≠ gb383 ∧ k_ ≠ gb389) ho0 (fun k_ hk_ => ⟨(Kd.freshB (g := gb375) (o := .cells (n4_ a0_0 a0_1 a0_2 a0_3) 23 (0, 0)) (pf_ NB375_389 BK375) k_ hk_), (Kd.freshB (g := gb383) (o := .cells (n4_ t378 t379 t380 t381) 23 (0, 0)) (pf_ NB383_389 BK383) k_ hk_), (fb_ BK389 k_ hk_)⟩)) (below_size hs_)); replace BK375 := A_ (blk_below (g := gb375) (o := .cells (n4_ a0_0 a0_1 a0_2 a0_3) 23 (0, 0)) (pf_ NB375_389 BK375) hb); replace BK383 := A_ (blk_below (g := gb383) (o := .cells (n4_ t378 t379 t380 t381) 23 (0, 0)) (pf_ NB383_389 BK383) hb); replace BK389 := bp_ BK389 (.cells (n4_ t384 t385 t386 t387) 23 (0, 0)) hb; replace HB := bs_ hb; have Z33 := bz4_ BK375) | ((with_reducible refine gC 16 ?_); refine goesL_ (some 47) rfl rfl Tryz.func16 (by kernel_rfl) rfl #[.agg #[.int .i64 a0_0, .string a0_1, .string a0_2, .string a0_3]] rfl ml_ ?_; (with_reducible refine (lustrumref08_Set.calls kj4 a0_0 a0_1 a0_2 a0_3 t394 t397 _ A18.out).mono ?_); rintro e w34 ⟨v395, rfl, ho0, hb⟩; refine ⟨_, rfl, ?_⟩; replace HO392 := A_ (Kd.V_elder' (fxV_ HO392.out) (Kd.R_base ho0) hb); have HO396 := A_ (Kd.R_lower ho0 (below_size hs_)); replace BK375 := bb_ BK375 hb; replace BK383 := bb_ BK383 hb; replace BK389 := bb_ BK389 hb; replace HB := bs_ hb; have Z35 := bz4_ BK375) | ((with_reducible refine gC 17 ?_); refine goesL_ (some 52) rfl rfl Tryz.func17 (by kernel_rfl) rfl #[.agg #[.int .i64 a0_0, .string a0_1, .string a0_2, .string a0_3]] rfl ml_ ?_; (with_reducible refine (point_Near.calls kj4 a0_0 a0_1 a0_2 a0_3 t398 t401 _ tl_ A19.out).mono ?_); rintro e w36 ⟨v399, rfl, ho0, hb⟩; refine ⟨_, rfl, ?_⟩; replace HO392 := bV_ HO392 hb; have HO400 := A_ (Kd.V_lower (Kd.V_mono (ok' := fun k_ => nv_ k_ v395 ∧ k_ ≠ gb375 ∧ k_ ≠ gb383 ∧ k_ ≠ gb389) ho0 (fun k_ hk_ => ⟨(Kd.fresh' (Kd.R_lt (fxR_ HO396.out)) k_ hk_), (fb_ BK375 k_ hk_), (fb_ BK383 k_ hk_), (fb_ BK389 k_ hk_)⟩)) (below_size hs_)); replace HO396 := A_ (Kd.R_below (fxR_ HO396.out) hb); replace BK375 := bb_ BK375 hb; replace BK383 := bb_ BK383 hb; replace BK389 := bb_ BK389 hb; replace HB := bs_ hb; have Z37 := bz4_ BK375) | ((with_reducible refine gC 18 ?_); refine goesL_ (some 57) rfl rfl Tryz.func18 (by kernel_rfl) rfl #[.agg #[.int .i64 a0_0, .string a0_1, .string a0_2, .string a0_3]] rfl ml_ ?_; (with_reducible refine (lustrumref08_Near.calls kj4 a0_0 a0_1 a0_2 a0_3 t402 t405 _ A20.out).mono ?_); rintro e w38 ⟨v403, rfl, ho0, hb⟩; refine ⟨_, rfl, ?_⟩; replace HO392 := bV_ HO392 hb; replace HO400 := bV_ HO400 hb; have HO404 := A_ (Kd.V_lower (Kd.V_mono (ok' := fun k_ => nv_ k_ v395 ∧ k_ ≠ gb375 ∧ k_ ≠ gb383 ∧ k_ ≠ gb389) ho0 (fun k_ hk_ => ⟨(Kd.fresh' (Kd.R_lt (fxR_ HO396.out)) k_ hk_), (fb_ BK375 k_ hk_), (fb_ BK383 k_ hk_), (fb_ BK389 k_ hk_)⟩)) (below_size hs_)); replace HO396 := A_ (Kd.R_below (fxR_ HO396.out) hb); replace BK375 := bb_ BK375 hb; replace BK383 := bb_ BK383 hb; replace BK389 := bb_ BK389 hb; replace HB := bs_ hb; (try clear ho0)))
    (try simp only [Act.put, List.setIfInBounds_toArray, List.set_cons_zero, List.set_cons_succ]); go_cut [89] (fun v89 wc => ∃ (kq : Nat) (x89_20 : Bool), v89 = .bool x89_20 ∧ Aside0 (lustrumlaw08_PointIs.j1 kq a2 t376 x89_20 a0_0 a0_1 a0_2 a0_3 = some r) ∧ Aside0 (kq ≤ kj4) ∧ Aside0 (wc.heap[gb375]? = some (.cells (n4_ a0_0 a0_1 a0_2 a0_3) 23 (0, 0))) ∧ Aside0 (wc.heap[gb383]? = some (.cells (n4_ t378 t379 t380 t381) 23 (0, 0))) ∧ Aside0 (wc.heap[gb389]? = some (.cells (n4_ t384 t385 t386 t387) 23 (0, 0))) ∧ Aside0 (Below w.heap.size w wc))
    case first =>
     have H := HC21.out; clear HC21
     obtain ⟨c39, H⟩ | ⟨c39, H⟩ := iq_ H
     ·have c39b0 : (t382 != t388) = true := c39; (try (have c39b1 : decide (t382 = t388) = false := by simpa using c39)); (try (have c39b2 : (t382 == t388) = false := by simpa using c39)); (try (have c39b3 : ¬ (t382 = t388) := by simpa using c39)); clear c39; (first | rw [c39b0] | (simp only [i64_w, i32_w]; rw [c39b0]) | skip); have H' := A_ H; clear H; go_wp2; go_meet
      case rel => exact ⟨_, (true), rf_, H', ⟨by have := HJ4.out; first | omega | exact Nat.le_refl _⟩, ⟨bl_ BK375.out⟩, ⟨bl_ BK383.out⟩, ⟨bl_ BK389.out⟩, ⟨hs_⟩⟩
     ·(have c39b0 : (t382 != t388) = false := by simpa using c39); (try (have c39b1 : decide (t382 = t388) = true := by simpa using c39)); (try (have c39b2 : (t382 == t388) = true := by simpa using c39)); clear c39; (first | rw [c39b0] | (simp only [i64_w, i32_w]; rw [c39b0]) | skip)
      obtain ⟨c40, H⟩ | ⟨c40, H⟩ := iq_ H
      ·have c40b0 : (!(t378 == t384) || (!(t379.toList == t385.toList) || (!(t380.toList == t386.toList) || (!(t381.toList == t387.toList))))) = true := c40; clear c40; have H' := A_ H; clear H; have hnb41 := NB383_375.out; have hnc41 := NB375_383.out; have hnb42 := NB383_389.out; have hnc42 := NB389_383.out; have Z43 := bz4_ BK383; have hnb44 := NB389_375.out; have hnc44 := NB375_389.out; have Z45 := bz4_ BK389; go_wp2; go_meet
       case rel => exact ⟨_, (true), rf_, H', ⟨by have := HJ4.out; first | omega | exact Nat.le_refl _⟩, ⟨bl_ BK375.out⟩, ⟨bl_ BK383.out⟩, ⟨bl_ BK389.out⟩, ⟨hs_⟩⟩
      ·(have c40b0 : (!(t378 == t384) || (!(t379.toList == t385.toList) || (!(t380.toList == t386.toList) || (!(t381.toList == t387.toList))))) = false := by simpa using c40); clear c40
       obtain ⟨c46b0, c46b1, H⟩ | ⟨c46, c46b0, c46b1, H⟩ := ie_ H
       ·obtain ⟨c47b0, c47b1, H⟩ | ⟨c47, c47b0, c47b1, H⟩ := ie_ H
        ·obtain ⟨t406, A48, H⟩ := bi_ H
         cases t406
         ·replace H := iN_ H; have H' := A_ H; clear H; have hnb60 := NB383_375.out; have hnc60 := NB375_383.out; have hnb61 := NB383_389.out; have hnc61 := NB389_383.out; have Z62 := bz4_ BK383; have hnb63 := NB389_375.out; have hnc63 := NB375_389.out; have Z64 := bz4_ BK389; obtain ⟨Ao65, co65, eo65⟩ := Kd.V_slice HO392.out; subst eo65; obtain ⟨Ao66, co66, eo66⟩ := Kd.R_slice HO396.out; subst eo66; go_wp2_with (first | (go_at_call 19; (with_reducible refine (lustrumref04_Same.calls kj4 _ _ t390 _ _ t394 false _ ?side1 ?side2 ?side3 ?side4 A48.out).mono ?_); (case side1 => repeat (first | exact (Kd.V_reads' HO392.out).2.2 | (with_reducible refine Kd.C_alloc ?_ _) | (with_reducible refine Kd.C_drewN ?_ _) | (with_reducible refine Kd.C_drew ?_))); (case side2 => exact (Kd.V_reads' HO392.out).2.1); (case side3 => repeat (first | exact (Kd.R_reads' HO396.out).2.2 | (with_reducible refine Kd.C_alloc ?_ _) | (with_reducible refine Kd.C_drewN ?_ _) | (with_reducible refine Kd.C_drew ?_))); (case side4 => exact (Kd.R_reads' HO396.out).2.1); rintro e w' ⟨rfl, ⟨nd, rfl⟩⟩)); go_meet
          case rel => exact ⟨_, (true), rf_, H', ⟨by have := HJ4.out; first | omega | exact Nat.le_refl _⟩, ⟨bl_ BK375.out⟩, ⟨bl_ BK383.out⟩, ⟨bl_ BK389.out⟩, ⟨hs_⟩⟩
         ·replace H := iP_ H; obtain ⟨t407, A50, H⟩ := bi_ H; have H' := A_ H; clear H; have hnb51 := NB383_375.out; have hnc51 := NB375_383.out; have hnb52 := NB383_389.out; have hnc52 := NB389_383.out; have Z53 := bz4_ BK383; have hnb54 := NB389_375.out; have hnc54 := NB375_389.out; have Z55 := bz4_ BK389; obtain ⟨Ao56, co56, eo56⟩ := Kd.V_slice HO392.out; subst eo56; obtain ⟨Ao57, co57, eo57⟩ := Kd.R_slice HO396.out; subst eo57; go_wp2_with (first | (go_at_call 19; (with_reducible refine (lustrumref04_Same.calls kj4 _ _ t390 _ _ t394 true _ ?side1 ?side2 ?side3 ?side4 A48.out).mono ?_); (case side1 => repeat (first | exact (Kd.V_reads' HO392.out).2.2 | (with_reducible refine Kd.C_alloc ?_ _) | (with_reducible refine Kd.C_drewN ?_ _) | (with_reducible refine Kd.C_drew ?_))); (case side2 => exact (Kd.V_reads' HO392.out).2.1); (case side3 => repeat (first | exact (Kd.R_reads' HO396.out).2.2 | (with_reducible refine Kd.C_alloc ?_ _) | (with_reducible refine Kd.C_drewN ?_ _) | (with_reducible refine Kd.C_drew ?_))); (case side4 => exact (Kd.R_reads' HO396.out).2.1); rintro e w' ⟨rfl, ⟨nd, rfl⟩⟩; obtain ⟨Ao58, co58, eo58⟩ := Kd.V_slice HO400.out; subst eo58; obtain ⟨Ao59, co59, eo59⟩ := Kd.V_slice HO404.out; subst eo59) | (go_at_call 19; (with_reducible refine (lustrumref04_Same.calls kj4 _ _ t398 _ _ t402 t407 _ ?side1 ?side2 ?side3 ?side4 A50.out).mono ?_); (case side1 => repeat (first | exact (Kd.V_reads' HO400.out).2.2 | (with_reducible refine Kd.C_alloc ?_ _) | (with_reducible refine Kd.C_drewN ?_ _) | (with_reducible refine Kd.C_drew ?_))); (case side2 => exact (Kd.V_reads' HO400.out).2.1); (case side3 => repeat (first | exact (Kd.V_reads' HO404.out).2.2 | (with_reducible refine Kd.C_alloc ?_ _) | (with_reducible refine Kd.C_drewN ?_ _) | (with_reducible refine Kd.C_drew ?_))); (case side4 => exact (Kd.V_reads' HO404.out).2.1); rintro e w' ⟨rfl, ⟨nd, rfl⟩⟩)); go_meet
          case rel => exact ⟨_, (!t407), rf_, H', ⟨by have := HJ4.out; first | omega | exact Nat.le_refl _⟩, ⟨bl_ BK375.out⟩, ⟨bl_ BK383.out⟩, ⟨bl_ BK389.out⟩, ⟨hs_⟩⟩
        ·have H' := A_ H; clear H; have hnb67 := NB383_375.out; have hnc67 := NB375_383.out; have hnb68 := NB383_389.out; have hnc68 := NB389_383.out; have Z69 := bz4_ BK383; have hnb70 := NB389_375.out; have hnc70 := NB375_389.out; have Z71 := bz4_ BK389; go_wp2; go_meet
         case rel => exact ⟨_, (true), rf_, H', ⟨by have := HJ4.out; first | omega | exact Nat.le_refl _⟩, ⟨bl_ BK375.out⟩, ⟨bl_ BK383.out⟩, ⟨bl_ BK389.out⟩, ⟨hs_⟩⟩
       ·have H' := A_ H; clear H; have hnb72 := NB383_375.out; have hnc72 := NB375_383.out; have hnb73 := NB383_389.out; have hnc73 := NB389_383.out; have Z74 := bz4_ BK383; have hnb75 := NB389_375.out; have hnc75 := NB375_389.out; have Z76 := bz4_ BK389; go_wp2; go_meet
        case rel => exact ⟨_, (true), rf_, H', ⟨by have := HJ4.out; first | omega | exact Nat.le_refl _⟩, ⟨bl_ BK375.out⟩, ⟨bl_ BK383.out⟩, ⟨bl_ BK389.out⟩, ⟨hs_⟩⟩
    case rest =>
     clear HC21; obtain ⟨kq, x89_20, rfl, HA, HJ20, BK375, BK383, BK389, HB⟩ := hcut
     cases kq with
     | zero => exact absurd HA.out (by simp [lustrumlaw08_PointIs.j1])
     | succ kj20 =>
      have H := HA.out; clear HA; simp only [lustrumlaw08_PointIs.j1] at H
      cases x89_20
      ·replace H := iN_ H
       cases t376
       ·replace H := iN_ H; exact absurd ((Option.some.inj H).trans hrT_) (by decide)
       ·replace H := iP_ H; obtain ⟨t408, A79, H⟩ := bi_ H; obtain ⟨t409, A80, H⟩ := bi_ H
        obtain ⟨c81, H⟩ | ⟨c81, H⟩ := iq_ H
        ·have c81b0 : (t408 == t409) = true := c81; (try (have c81b1 : decide (t408 = t409) = true := by simpa using c81)); (try (have c81b2 : (t408 == t409) = true := by simpa using c81)); clear c81; obtain ⟨t410, A82, H⟩ := bi_ H; obtain ⟨t411, A83, H⟩ := bi_ H
         obtain ⟨c84b0, c84b1, H⟩ | ⟨c84, c84b0, c84b1, H⟩ := ie_ H
         ·obtain ⟨t412, A85, H⟩ := bi_ H; obtain ⟨t413, A86, H⟩ := bi_ H; obtain rfl := Option.some.inj H; clear hrT_; (try go_wp2); replace BK375 := A_ (blk_drew BK375.out); replace BK383 := A_ (blk_drew BK383.out); replace BK389 := A_ (blk_drew BK389.out); replace HB := A_ (below_drew1 HB.out); refine start_ (n := 23) (S := fun w' => C4 w' gb375 (.int .i64 a0_0) (.string a0_1) (.string a0_2) (.string a0_3)) (ds := []) (ab 23 0) (by kernel_rfl) rfl rfl (cq4_ BK375) (fun hHeld => ?_); refine with_tabW lustrumlaw08_PointIs.tab12 lustrumlaw08_PointIs.bits12 (fun HT_ HW_ => ?_); generalize wc.drew = w87 at BK375 BK383 BK389 HB hHeld ⊢; refine pA 0 90 23 1 ?_; refine pA 1 91 23 3 ?_; refine tB 2 92 23 7 ?_; refine tB 4 94 23 23 ?_; refine oA 3 (some 93) 23 31 fun K hK => ?_; refine goes_ Tryz.func20 (by kernel_rfl) rfl #[.agg #[.int .i64 a0_0, .string a0_1, .string a0_2, .string a0_3]] (by rfl) rfl rfl ml_ ?_; (with_reducible refine (point_Sane.calls kj20 a0_0 a0_1 a0_2 a0_3 t408 _ A79.out).mono ?_); rintro e w88 ⟨rfl, hb⟩; refine ⟨_, rfl, ?_⟩; replace BK375 := bb_ BK375 hb; replace BK383 := bb_ BK383 hb; replace BK389 := bb_ BK389 hb; replace HB := bs_ hb; refine hK.out _ _ (cq4_ BK375) (fun hHeld => ?_); clear hK K; refine nA ?_; refine oA 5 (some 95) 23 63 fun K hK => ?_; refine goes_ Tryz.func21 (by kernel_rfl) rfl #[.agg #[.int .i64 a0_0, .string a0_1, .string a0_2, .string a0_3]] (by rfl) rfl rfl ml_ ?_; (with_reducible refine (lustrumref08_Sane.calls kj20 a0_0 a0_1 a0_2 a0_3 t409 _ A80.out).mono ?_); rintro e w89 ⟨rfl, hb⟩; refine ⟨_, rfl, ?_⟩; replace BK375 := bb_ BK375 hb; replace BK383 := bb_ BK383 hb
          replace BK389 := bb_ BK389 hb; replace HB := bs_ hb; refine hK.out _ _ (cq4_ BK375) (fun hHeld => ?_); clear hK K; refine nA ?_; refine pA 6 96 23 127 ?_; refine pA 7 97 23 255 ?_; refine pA 8 98 23 511 ?_; refine tB 9 99 23 1023 ?_; refine tB 11 101 23 3071 ?_; refine oA 10 (some 100) 23 4095 fun K hK => ?_; refine goes_ Tryz.func22 (by kernel_rfl) rfl #[.agg #[.int .i64 a0_0, .string a0_1, .string a0_2, .string a0_3]] (by rfl) rfl rfl ml_ ?_; (with_reducible refine (point_Text.calls kj20 a0_0 a0_1 a0_2 a0_3 t410 _ A82.out).mono ?_); rintro e w90 ⟨rfl, hb⟩; refine ⟨_, rfl, ?_⟩; replace BK375 := bb_ BK375 hb; replace BK383 := bb_ BK383 hb; replace BK389 := bb_ BK389 hb; replace HB := bs_ hb; refine hK.out _ _ (cq4_ BK375) (fun hHeld => ?_); clear hK K; refine nA ?_; refine oA 12 (some 102) 23 8191 fun K hK => ?_; refine goes_ Tryz.func23 (by kernel_rfl) rfl #[.agg #[.int .i64 a0_0, .string a0_1, .string a0_2, .string a0_3]] (by rfl) rfl rfl ml_ ?_; (with_reducible refine (lustrumref08_Text.calls kj20 a0_0 a0_1 a0_2 a0_3 t411 _ A83.out).mono ?_); rintro e w91 ⟨rfl, hb⟩; refine ⟨_, rfl, ?_⟩; replace BK375 := bb_ BK375 hb; replace BK383 := bb_ BK383 hb; replace BK389 := bb_ BK389 hb; replace HB := bs_ hb
          refine hK.out _ _ (cq4_ BK375) (fun hHeld => ?_); clear hK K; refine nA ?_; refine pA 13 103 23 16383 ?_; refine pA 14 104 23 32767 ?_; refine pA 15 105 23 65535 ?_; refine pA 16 106 23 131071 ?_; refine pA 18 108 23 393215 ?_; refine oA 17 (some 107) 23 524287 fun K hK => ?_; refine goes_ Tryz.func24 (by kernel_rfl) rfl #[.int .i64 a2] (by rfl) rfl rfl ml_ ?_; (with_reducible refine (point_Radius.calls a2 t412 _ A85.out).mono ?_); rintro e w' ⟨rfl, ⟨nd, rfl⟩⟩; refine ⟨_, rfl, ?_⟩; refine hK.out _ _ (cq4_ BK375) (fun hHeld => ?_); clear hK K; refine nA ?_; refine oA 19 (some 109) 23 1048575 fun K hK => ?_; refine goes_ Tryz.func25 (by kernel_rfl) rfl #[.int .i64 a2] (by rfl) rfl rfl ml_ ?_; (with_reducible refine (lustrumref08_Radius.calls a2 t413 _ A86.out).mono ?_); rintro e w' ⟨rfl, ⟨nd, rfl⟩⟩; refine ⟨_, rfl, ?_⟩; refine hK.out _ _ (cq4_ BK375) (fun hHeld => ?_); clear hK K; refine nA ?_; refine pA 20 110 23 2097151 ?_; refine pA 21 111 23 4194303 ?_; refine pA 22 6 23 8388607 ?_; refine done_ (done_of HT_.out (by kernel_rfl)) ?_; (try go_wp2); go_ret; exact ⟨re_, hs_⟩
         ·exact absurd ((Option.some.inj H).trans hrT_) (by decide)
        ·(have c81b0 : (t408 == t409) = false := by simpa using c81); (try (have c81b1 : decide (t408 = t409) = false := by simpa using c81)); (try (have c81b2 : (t408 == t409) = false := by simpa using c81)); (try (have c81b3 : ¬ (t408 = t409) := by simpa using c81)); clear c81; exact absurd ((Option.some.inj H).trans hrT_) (by decide)
      ·replace H := iP_ H; exact absurd ((Option.some.inj H).trans hrT_) (by decide)
   ·replace H := iP_ H; obtain rfl := Option.some.inj H; clear hrT_; go_wp2; go_ret; exact ⟨re_, hs_⟩
theorem Ev.ift {α : Type} {c : Prop} [Decidable c] {g f : Nat → Option α} {r : α} (hc : c) (h : Ev g r) : Ev (fun k => if c then g k else f k) r := Ev.congr (fun k => if_pos hc) h
theorem Ev.iff_ {α : Type} {c : Prop} [Decidable c] {g f : Nat → Option α} {r : α} (hc : ¬ c) (h : Ev f r) : Ev (fun k => if c then g k else f k) r := Ev.congr (fun k => if_neg hc) h
theorem Ev.bnow {α β : Type} {a : Option α} {f : Nat → α → Option β} {x : α} {r : β} (h : a = some x) (k : Ev (fun n => f n x) r) : Ev (fun n => a.bind (f n)) r := Ev.congr (fun n => by rw [h]; rfl) k
theorem u8eq {x y : UInt8} (h : x.toNat = y.toNat) : x = y := UInt8.toNat_inj.1 h
theorem sane_all {l : List UInt8} (h : saneL l = true) : l.all okB = true ∧ l ≠ [] ∧ l.length ≤ 4 := by
  unfold saneL at h
  simp only [Bool.and_eq_true, decide_eq_true_eq] at h
  exact ⟨h.1.1, h.1.2, h.2⟩
theorem bsize (s : ByteArray) : s.size = s.data.toList.length := by simp
theorem Sane_l0 : ∀ (t p : List S71) (last : Int), (p ++ t).length ≤ 4611686018427387904 → -lim - 2 ≤ last → last ≤ lim →
    ∃ b, Ev (fun k => runs_Sane.l0 k last (p ++ t) ((p ++ t).length : Int) (p.length : Int)) b ∧ (b = true ↔ saneF last t)
  | [], p, last, _, _, _ => ⟨true, Ev.step (f := fun _ => some true) (fun k => by simp only [runs_Sane.l0]; rw [if_neg (at_end p)]) (Ev.now true), by simp [saneF]⟩
  | r :: t, p, last, hn, h1, h2 => by
    have e : ∀ k, runs_Sane.l0 (k + 1) last (p ++ r :: t) ((p ++ r :: t).length : Int) (p.length : Int) = (if r.f0 > r.f1 then some false else if r.f0 < last + 2 then some false else if r.f1 > 1099511627776 then some false else runs_Sane.l0 k r.f1 (p ++ r :: t) ((p ++ r :: t).length : Int) ((p ++ [r]).length : Int)) := fun k => by
      simp only [runs_Sane.l0]
      rw [if_pos (at_lt p r t), if_pos (at_0 p), if_pos (at_lt p r t), at_rd, at_next hn, w64 (by unfold lim at h1; omega) (by unfold lim at h2; omega)]
    by_cases c1 : r.f0 > r.f1
    · exact ⟨false, Ev.step (f := fun _ => some false) (fun k => by rw [e, if_pos c1]) (Ev.now _), by simp [saneF]; omega⟩
    by_cases c2 : r.f0 < last + 2
    · exact ⟨false, Ev.step (f := fun _ => some false) (fun k => by rw [e, if_neg c1, if_pos c2]) (Ev.now _), by simp [saneF]; omega⟩
    by_cases c3 : r.f1 > 1099511627776
    · exact ⟨false, Ev.step (f := fun _ => some false) (fun k => by rw [e, if_neg c1, if_neg c2, if_pos c3]) (Ev.now _), by simp [saneF, lim]; omega⟩
    obtain ⟨b, hb, hs⟩ := Sane_l0 t (p ++ [r]) r.f1 (by rw [← at_app]; exact hn) (by omega) (by unfold lim; omega)
    rw [← at_app] at hb
    refine ⟨b, Ev.step (fun k => by rw [e, if_neg c1, if_neg c2, if_neg c3]) hb, ?_⟩
    rw [hs, saneF]
    unfold lim
    exact ⟨fun h => ⟨by omega, by omega, by omega, h⟩, fun h => h.2.2.2⟩
theorem Sane_f (l : List S71) (hn : l.length ≤ 4611686018427387904) : ∃ b, Ev (fun k => runs_Sane.f k l) b ∧ (b = true ↔ sane l) := by
  obtain ⟨b, hb, hs⟩ := Sane_l0 l [] (-lim - 2) (by simpa using hn) (by omega) (by unfold lim; omega)
  exact ⟨b, hb, hs⟩
theorem mx_max (a b : Int) : mx a b = max a b := by unfold mx; omega
theorem mn_min (a b : Int) : mn a b = min a b := by unfold mn; omega
theorem sknown_s {l : List S71} (hs : sane l) (hn : l.length < 4398046511104) : Ev (fun k => sets_known.f k l) l := by
  obtain ⟨b, hb, h⟩ := Sane_f l (by omega)
  obtain rfl := h.2 hs
  exact Ev.bind hb (Ev.ift rfl (Ev.now _))
theorem mem_one (r : S71) (n : Int) : mem [r] n ↔ r.f0 ≤ n ∧ n ≤ r.f1 := by rw [mem_cons]; simp [mem_nil]
theorem saneF_app : ∀ {u : List S71} {a c : Int} {v : List S71}, saneF a u → (∀ x, x ∈ u → x.f1 ≤ c) → a ≤ c → saneF c v → saneF a (u ++ v)
  | [], a, c, v, _, _, hc, hv => saneF_le hv hc
  | x :: u, a, c, v, ⟨h1, h2, h3, h4⟩, hu, hc, hv => ⟨h1, h2, h3, saneF_app h4 (fun y hy => hu y (List.mem_cons_of_mem _ hy)) (hu x List.mem_cons_self) hv⟩
def both (r q : S71) : S71 := ⟨max r.f0 q.f0, min r.f1 q.f1⟩
def meet2 : List S71 → List S71 → List S71
  | [], _ => []
  | _ :: _, [] => []
  | r :: s, q :: t => (if (both r q).f0 ≤ (both r q).f1 then [both r q] else []) ++ (if r.f1 < q.f1 then meet2 s (q :: t) else meet2 (r :: s) t)
termination_by s t => s.length + t.length
theorem meet2_nil (s : List S71) : meet2 s [] = [] := by cases s <;> simp [meet2]
theorem meet2_cons (r : S71) (s : List S71) (q : S71) (t : List S71) : meet2 (r :: s) (q :: t) = (if (both r q).f0 ≤ (both r q).f1 then [both r q] else []) ++ (if r.f1 < q.f1 then meet2 s (q :: t) else meet2 (r :: s) t) := by rw [meet2]
theorem meet2_len : ∀ (m : Nat) (s t : List S71), s.length + t.length = m → (meet2 s t).length ≤ s.length + t.length
  | _, [], t, _ => by simp [meet2]
  | _, s, [], _ => by simp [meet2_nil]
  | m + 1, r :: s, q :: t, e => by
    simp only [List.length_cons] at e
    rw [meet2_cons, List.length_append]
    have h1 : (if (both r q).f0 ≤ (both r q).f1 then [both r q] else []).length ≤ 1 := by split <;> simp
    by_cases c : r.f1 < q.f1
    · rw [if_pos c]
      have := meet2_len m s (q :: t) (by simp only [List.length_cons]; omega)
      simp only [List.length_cons] at this ⊢
      omega
    · rw [if_neg c]
      have := meet2_len m (r :: s) t (by simp only [List.length_cons]; omega)
      simp only [List.length_cons] at this ⊢
      omega
theorem meet2_sane : ∀ (m : Nat) (s t : List S71) (a b : Int), s.length + t.length = m → saneF a s → saneF b t → saneF (max a b) (meet2 s t)
  | _, [], t, _, _, _, _, _ => by simp [meet2, saneF]
  | _, s, [], _, _, _, _, _ => by simp [meet2_nil, saneF]
  | m + 1, r :: s, q :: t, a, b, e, hs, ht => by
    simp only [List.length_cons] at e
    obtain ⟨r1, r2, r3, r4⟩ := hs
    obtain ⟨q1, q2, q3, q4⟩ := ht
    have ht : saneF (if r.f1 < q.f1 then max r.f1 b else max a q.f1) (if r.f1 < q.f1 then meet2 s (q :: t) else meet2 (r :: s) t) := by
      split
      · exact meet2_sane m s (q :: t) _ _ (by simp only [List.length_cons]; omega) r4 ⟨q1, q2, q3, q4⟩
      · exact meet2_sane m (r :: s) t _ _ (by simp only [List.length_cons]; omega) ⟨r1, r2, r3, r4⟩ q4
    rw [meet2_cons]
    by_cases c : (both r q).f0 ≤ (both r q).f1
    · rw [if_pos c]
      simp only [both] at c
      refine ⟨by simp only [both]; omega, by simp only [both]; exact c, by simp only [both]; omega, saneF_le ht ?_⟩
      simp only [both]
      split <;> omega
    · rw [if_neg c, List.nil_append]
      refine saneF_le ht ?_
      split <;> omega
theorem meet2_mem : ∀ (m : Nat) (s t : List S71) (a b : Int), s.length + t.length = m → saneF a s → saneF b t → ∀ n, mem (meet2 s t) n ↔ mem s n ∧ mem t n
  | _, [], t, _, _, _, _, _, n => by simp [meet2, mem_nil]
  | _, s, [], _, _, _, _, _, n => by simp [meet2_nil, mem_nil]
  | m + 1, r :: s, q :: t, a, b, e, hs, ht, n => by
    simp only [List.length_cons] at e
    have hs0 := hs; have ht0 := ht
    obtain ⟨r1, r2, r3, r4⟩ := hs
    obtain ⟨q1, q2, q3, q4⟩ := ht
    have ho : mem (if (both r q).f0 ≤ (both r q).f1 then [both r q] else []) n ↔ (r.f0 ≤ n ∧ n ≤ r.f1) ∧ q.f0 ≤ n ∧ n ≤ q.f1 := by
      by_cases c : (both r q).f0 ≤ (both r q).f1
      · rw [if_pos c, mem_one]; simp only [both]; omega
      · rw [if_neg c]; simp only [both] at c; constructor
        · exact fun h => absurd h (mem_nil _)
        · intro h; omega
    rw [meet2_cons, mem_append, ho]
    by_cases c : r.f1 < q.f1
    · rw [if_pos c, meet2_mem m s (q :: t) _ _ (by simp only [List.length_cons]; omega) r4 ht0 n, mem_cons, mem_cons]
      have h1 : mem t n → q.f1 + 2 ≤ n := fun h => (saneF_mem q4 h).1
      constructor
      · rintro (h | h)
        · exact ⟨.inl h.1, .inl h.2⟩
        · exact ⟨.inr h.1, h.2⟩
      · rintro ⟨h | h, h'⟩
        · rcases h' with h' | h'
          · exact .inl ⟨h, h'⟩
          · have := h1 h'; omega
        · exact .inr ⟨h, h'⟩
    · rw [if_neg c, meet2_mem m (r :: s) t _ _ (by simp only [List.length_cons]; omega) hs0 q4 n, mem_cons, mem_cons]
      have h1 : mem s n → r.f1 + 2 ≤ n := fun h => (saneF_mem r4 h).1
      constructor
      · rintro (h | h)
        · exact ⟨.inl h.1, .inl h.2⟩
        · exact ⟨h.1, .inr h.2⟩
      · rintro ⟨h, h' | h'⟩
        · rcases h with h | h
          · exact .inl ⟨h, h'⟩
          · have := h1 h; omega
        · exact .inr ⟨h, h'⟩
theorem Meet_l0 : ∀ (m : Nat) (s t p q acc : List S71), s.length + t.length = m → (p ++ s).length < 4398046511104 → (q ++ t).length < 4398046511104 → acc.length + s.length + t.length < 8796093022208 →
    Ev (fun k => sets_Meet.l0 k (p ++ s) (q ++ t) acc (p.length : Int) (q.length : Int)) (acc ++ meet2 s t)
  | _, [], t, p, q, acc, _, _, _, _ => by
    refine Ev.step (f := fun k => sets_Meet.j1 k (p ++ []) (q ++ t) acc (p.length : Int) (q.length : Int) false) (fun k => by rw [sets_Meet.l0, if_neg (at_end p)]) ?_
    refine Ev.step (f := fun _ => some (acc ++ meet2 [] t)) (fun k => by rw [sets_Meet.j1, if_neg (by simp)]; simp [meet2]) (Ev.now _)
  | _, r :: s, [], p, q, acc, _, _, _, _ => by
    refine Ev.step (f := fun k => sets_Meet.j1 k (p ++ r :: s) (q ++ []) acc (p.length : Int) (q.length : Int) false) (fun k => by rw [sets_Meet.l0, if_pos (at_lt p r s), decide_eq_false (at_end q)]) ?_
    refine Ev.step (f := fun _ => some (acc ++ meet2 (r :: s) [])) (fun k => by rw [sets_Meet.j1, if_neg (by simp)]; simp [meet2_nil]) (Ev.now _)
  | m + 1, r :: s, x :: t, p, q, acc, e, h1, h2, h3 => by
    simp only [List.length_cons] at e h3
    refine Ev.step (f := fun k => sets_Meet.j1 k (p ++ r :: s) (q ++ x :: t) acc (p.length : Int) (q.length : Int) true) (fun k => by rw [sets_Meet.l0, if_pos (at_lt p r s), decide_eq_true (at_lt q x t)]) ?_
    have hn1 := at_next (p := p) (r := r) (t := s) (by omega)
    have hn2 := at_next (p := q) (r := x) (t := t) (by omega)
    have hgo : ∀ acc' : List S71, acc'.length + (s.length + 1) + (t.length + 1) ≤ acc.length + (s.length + 1) + (t.length + 1) + 1 →
        Ev (fun k => if (r.f1) < (x.f1) then sets_Meet.l0 k (p ++ r :: s) (q ++ x :: t) acc' (wrap64 ((p.length : Int) + 1)) (q.length : Int) else sets_Meet.l0 k (p ++ r :: s) (q ++ x :: t) acc' (p.length : Int) (wrap64 ((q.length : Int) + 1)))
          (acc' ++ (if r.f1 < x.f1 then meet2 s (x :: t) else meet2 (r :: s) t)) := fun acc' ha => by
      by_cases c : r.f1 < x.f1
      · rw [if_pos c]
        refine Ev.ift c ?_
        rw [hn1]
        have := Meet_l0 m s (x :: t) (p ++ [r]) q acc' (by simp only [List.length_cons]; omega) (by rw [← at_app]; exact h1) h2 (by simp only [List.length_cons]; omega)
        rw [← at_app] at this
        exact this
      · rw [if_neg c]
        refine Ev.iff_ c ?_
        rw [hn2]
        have := Meet_l0 m (r :: s) t p (q ++ [x]) acc' (by simp only [List.length_cons]; omega) h1 (by rw [← at_app]; exact h2) (by simp only [List.length_cons]; omega)
        rw [← at_app] at this
        exact this
    rw [meet2_cons]
    by_cases c : (both r x).f0 ≤ (both r x).f1
    · rw [if_pos c, ← List.append_assoc]
      refine Ev.step (fun k => ?_) (hgo (acc ++ [both r x]) (by rw [List.length_append, List.length_singleton]; omega))
      rw [sets_Meet.j1, if_pos rfl, if_pos (at_0 p), if_pos (at_lt p r s), if_pos (at_0 q), if_pos (at_lt q x t), at_rd, at_rd, mx_max, mn_min, if_pos (show max r.f0 x.f0 ≤ min r.f1 x.f1 from c), if_pos (by omega)]
      rfl
    · rw [if_neg c, List.nil_append]
      refine Ev.step (fun k => ?_) (hgo acc (by omega))
      rw [sets_Meet.j1, if_pos rfl, if_pos (at_0 p), if_pos (at_lt p r s), if_pos (at_0 q), if_pos (at_lt q x t), at_rd, at_rd, mx_max, mn_min, if_neg (show ¬ max r.f0 x.f0 ≤ min r.f1 x.f1 from c)]
theorem Meet_s {a b : List S71} (ha : sane a) (hb : sane b) (h : a.length + b.length < 4398046511104) : Ev (fun k => sets_Meet.f k a b) (meet2 a b) ∧ (∀ n, mem (meet2 a b) n ↔ mem a n ∧ mem b n) ∧ sane (meet2 a b) ∧ (meet2 a b).length ≤ a.length + b.length := by
  refine ⟨Ev.bind (sknown_s ha (by omega)) (Ev.bind (sknown_s hb (by omega)) ?_), fun n => ?_, ?_, ?_⟩
  · have := Meet_l0 _ a b [] [] [] rfl (by simp; omega) (by simp; omega) (by simp; omega)
    simpa using this
  · exact meet2_mem _ a b _ _ rfl ha hb n
  · have := meet2_sane _ a b _ _ rfl ha hb
    rw [Int.max_self] at this
    exact this
  · exact meet2_len _ a b rfl
theorem setL_snoc (c : UInt8) : ∀ (l : List UInt8) (out : List S71), setL (l ++ [c]) out = (setL l out).flatMap (stepR c)
  | [], out => rfl
  | x :: l, out => by simp only [List.cons_append, setL]; exact setL_snoc c l _
theorem setL_fine (s : ByteArray) (h : saneL s.data.toList = true) : fine (setL s.data.toList [⟨0, 0⟩]) 10000 := by
  have ho := ok_of (s := s) (congrArg some h)
  have step : ∀ p, p ≤ s.size → ∃ out, setInv s p out := fun p => by
    induction p with
    | zero => exact fun _ => ⟨_, setInv_0 s⟩
    | succ p ih =>
      intro hp
      obtain ⟨out, hi⟩ := ih (by omega)
      exact ⟨_, setInv_step (by omega) (ho p (by omega)) hi⟩
  obtain ⟨out, h1, h2, h3⟩ := step s.size (Nat.le_refl _)
  have hd : setL (s.data.toList.drop s.size) out = out := by rw [List.drop_eq_nil_of_le (by rw [bsize]; exact Nat.le_refl _)]; rfl
  rw [hd] at h1
  rw [← h1]
  have h4 : s.size ≤ 4 := by rw [bsize]; exact (sane_all h).2.2
  have h10 : (10 ^ s.size : Nat) ≤ 10000 := Nat.pow_le_pow_right (n := 10) (by decide) h4
  have : ((10 ^ s.size : Nat) : Int) ≤ 10000 := Int.ofNat_le.2 h10
  exact fun q hq => by obtain ⟨a, b, c⟩ := h2 q hq; exact ⟨a, b, by omega⟩
theorem bt_list (s : ByteArray) (i : Nat) (h : i < s.data.toList.length) : bt s (i : Int) = ((s.data.toList[i]).toNat : Int) := by
  unfold bt
  rw [Int.toNat_natCast, dif_pos (by rw [bsize]; exact h)]
  simp [ByteArray.getElem_eq_getElem_data]
theorem rSane_l0 (s : ByteArray) (hs : s.size ≤ 9223372036854775807) : ∀ (m i : Nat), i + m = s.size → Ev (fun k => lustrumref06_Sane.l0 k s (i : Int)) ((s.data.toList.drop i).all okB && decide (1 ≤ s.size) && decide (s.size ≤ 4))
  | 0, i, e => by
    rw [List.drop_eq_nil_of_le (by rw [← bsize]; omega)]
    refine Ev.step (f := fun _ => some (decide (1 ≤ s.size) && decide (s.size ≤ 4))) (fun k => ?_) (Ev.now _)
    rw [lustrumref06_Sane.l0, if_neg (by omega)]
    by_cases h : 1 ≤ s.size
    · rw [if_pos (by omega), decide_eq_true h, Bool.true_and]
      exact congrArg some (decide_eq_decide.2 (by omega))
    · rw [if_neg (by omega), decide_eq_false h]; rfl
  | m + 1, i, e => by
    have hi : i < s.data.toList.length := by rw [← bsize]; omega
    have ih := rSane_l0 s hs m (i + 1) (by omega)
    have hb := bt_list s i hi
    have hw : wrap64 ((i : Int) + 1) = ((i + 1 : Nat) : Int) := by rw [w64 (by omega) (by omega)]; rfl
    rw [List.drop_eq_getElem_cons hi, List.all_cons]
    have base : ∀ k, lustrumref06_Sane.l0 (k + 1) s (i : Int) = (if okB (s.data.toList[i]) = true then lustrumref06_Sane.l0 k s ((i + 1 : Nat) : Int) else some false) := fun k => by
      rw [lustrumref06_Sane.l0, if_pos (by omega), if_pos (by omega), hb, hw]
      unfold okB
      by_cases h1 : ((s.data.toList[i]).toNat : Int) < 48
      · rw [if_pos h1]
        by_cases h2 : ((s.data.toList[i]).toNat : Int) = 88
        · omega
        · rw [if_neg h2, if_neg (by rw [decide_eq_true_eq]; omega)]
      · rw [if_neg h1]
        by_cases h3 : ((s.data.toList[i]).toNat : Int) > 57
        · rw [if_pos h3]
          by_cases h2 : ((s.data.toList[i]).toNat : Int) = 88
          · rw [if_pos h2, if_pos (by rw [decide_eq_true_eq]; omega)]
          · rw [if_neg h2, if_neg (by rw [decide_eq_true_eq]; omega)]
        · rw [if_neg h3, if_pos (by rw [decide_eq_true_eq]; omega)]
    cases hk : okB (s.data.toList[i]) with
    | true => exact Ev.step (fun k => by rw [base, hk, if_pos rfl]) (by simpa using ih)
    | false => exact Ev.step (f := fun _ => some false) (fun k => by rw [base, hk, if_neg (by simp)]) (by simpa using Ev.now false)
theorem rSane_f (s : ByteArray) (hs : s.size ≤ 9223372036854775807) : Ev (fun k => lustrumref06_Sane.f k s) (saneL s.data.toList) := by
  have h := rSane_l0 s hs s.size 0 (by omega)
  have e : ((s.data.toList.drop 0).all okB && decide (1 ≤ s.size) && decide (s.size ≤ 4)) = saneL s.data.toList := by
    unfold saneL
    rw [List.drop_zero, ← bsize]
    congr 2
    exact decide_eq_decide.2 (by rw [bsize]; cases s.data.toList <;> simp)
  rw [e] at h
  exact h
theorem pow_small {m n : Nat} (h : m ≤ n) (hn : n ≤ 4) : (10 ^ m : Nat) ≤ 10000 := Nat.pow_le_pow_right (n := 10) (by decide) (Nat.le_trans h hn)
theorem most_l0 (n : Nat) (hn : n ≤ 4) : ∀ (m i : Nat), i + m = n → Ev (fun k => lustrumref06_most.l0 k (n : Int) ((10 ^ i : Nat) : Int) (i : Int)) ((10 ^ n : Nat) : Int)
  | 0, i, e => by
    obtain rfl : i = n := by omega
    exact Ev.step (f := fun _ => some ((10 ^ i : Nat) : Int)) (fun k => by rw [lustrumref06_most.l0, if_neg (by omega)]) (Ev.now _)
  | m + 1, i, e => by
    have ih := most_l0 n hn m (i + 1) (by omega)
    have hp := pow_small (m := i) (n := n) (by omega) hn
    refine Ev.step (fun k => ?_) ih
    have e1 : wrap64 (((10 ^ i : Nat) : Int) * 10) = ((10 ^ (i + 1) : Nat) : Int) := by
      rw [Nat.pow_succ, Int.natCast_mul]
      generalize (10 ^ i : Nat) = q at hp ⊢
      rw [w64 (by omega) (by omega)]; rfl
    have e2 : wrap64 ((i : Int) + 1) = ((i + 1 : Nat) : Int) := by rw [w64 (by omega) (by omega)]; rfl
    rw [lustrumref06_most.l0, if_pos (by omega), e1, e2]
theorem most_f (n : Nat) (hn : n ≤ 4) : Ev (fun k => lustrumref06_most.f k (n : Int)) ((10 ^ n : Nat) : Int) := most_l0 n hn n 0 (by omega)
def refR : List UInt8 → Nat → Bool
  | [], _ => true
  | c :: r, u => (decide (c.toNat = 88) || decide (c.toNat = 48 + u % 10)) && refR r (u / 10)
def refV (s : List UInt8) (n : Int) : Bool := saneL s && decide (0 ≤ n) && decide (n < ((10 ^ s.length : Nat) : Int)) && refR s.reverse n.toNat
theorem tdiv10 {u : Nat} (hu : u < 4611686018427387904) : wrap64 (Int.tdiv (u : Int) 10) = ((u / 10 : Nat) : Int) := by
  rw [Int.tdiv_eq_ediv_of_nonneg (by omega), w64 (by omega) (by omega)]; omega
theorem tmod10 (u : Nat) : Int.tmod (u : Int) 10 = ((u % 10 : Nat) : Int) := by rw [Int.tmod_eq_emod_of_nonneg (by omega)]; omega
theorem byte48 (c : UInt8) : wrap64 (wrap64 (c.toNat : Int) - 48) = (c.toNat : Int) - 48 := by
  have : c.toNat < 256 := c.toNat_lt
  rw [w64 (x := (c.toNat : Int)) (by omega) (by omega), w64 (by omega) (by omega)]
theorem dig_iff {c u : Nat} : (c : Int) - 48 = ((u % 10 : Nat) : Int) ↔ c = 48 + u % 10 := by omega
theorem dig_ne {c : Nat} (h : ¬ c = 88) : ¬ (c : Int) = 88 := by omega
theorem rMatch_l0 (s : ByteArray) (hs : saneL s.data.toList = true) : ∀ (m u : Nat), m ≤ s.data.toList.length → u < 4611686018427387904 → Ev (fun k => lustrumref06_Match.l0 k s (u : Int) ((m : Int) - 1)) (refR (s.data.toList.take m).reverse u)
  | 0, u, _, _ => Ev.step (f := fun _ => some true) (fun k => by rw [lustrumref06_Match.l0, if_neg (by omega)]) (Ev.now _)
  | m + 1, u, hm, hu => by
    have hi : m < s.data.toList.length := by omega
    have h4 := (sane_all hs).2.2
    have hb := bt_list s m hi
    have hz := bsize s
    have ih := rMatch_l0 s hs m (u / 10) (by omega) (by omega)
    have ht : (s.data.toList.take (m + 1)).reverse = s.data.toList[m] :: (s.data.toList.take m).reverse := by
      rw [List.take_succ_eq_append_getElem hi, List.reverse_append]; rfl
    have hok := of_decide_eq_true (List.all_eq_true.1 (sane_all hs).1 (s.data.toList[m]) (List.getElem_mem hi))
    rw [ht, refR]
    have e : ((m + 1 : Nat) : Int) - 1 = (m : Int) := by omega
    have e1 : wrap64 ((m : Int) - 1) = (m : Int) - 1 := w64 (by omega) (by omega)
    have g1 : (m : Int) ≥ 0 := by omega
    have g2 : (m : Int) < (s.size : Int) := by omega
    rw [e]
    by_cases h : (s.data.toList[m]).toNat = 88
    · rw [decide_eq_true h, Bool.true_or, Bool.true_and]
      refine Ev.step (fun k => ?_) ih
      rw [lustrumref06_Match.l0, if_pos g1, if_pos g1, if_pos g2, hb, if_pos (by rw [h]; rfl), e1, tdiv10 hu]
    · rw [decide_eq_false h, Bool.false_or]
      by_cases hd : (s.data.toList[m]).toNat = 48 + u % 10
      · rw [decide_eq_true hd, Bool.true_and]
        refine Ev.step (fun k => ?_) ih
        rw [lustrumref06_Match.l0, if_pos g1, if_pos g1, if_pos g2, hb, if_neg (dig_ne h), byte48, tmod10, if_pos (dig_iff.2 hd), e1, tdiv10 hu]
      · rw [decide_eq_false hd, Bool.false_and]
        refine Ev.step (f := fun _ => some false) (fun k => ?_) (Ev.now _)
        rw [lustrumref06_Match.l0, if_pos g1, if_pos g1, if_pos g2, hb, if_neg (dig_ne h), byte48, tmod10, if_neg (fun h' => hd (dig_iff.1 h'))]
theorem rMatch_f (s : ByteArray) (hz : s.size ≤ 9223372036854775807) (n : Int) (hn : n ≤ 9223372036854775807) : Ev (fun k => lustrumref06_Match.f k s n) (refV s.data.toList n) := by
  refine Ev.bind (rSane_f s hz) ?_
  have out : Ev (fun k => lustrumref06_Match.j0 k s n true) false := Ev.step (f := fun _ => some false) (fun k => by rw [lustrumref06_Match.j0, if_pos rfl]) (Ev.now _)
  unfold refV
  by_cases hs : saneL s.data.toList = true
  · rw [hs, Bool.true_and]
    have h4 := (sane_all hs).2.2
    have hb := bsize s
    refine Ev.ift rfl ?_
    by_cases h0 : n < 0
    · rw [decide_eq_false (p := 0 ≤ n) (by omega)]
      exact Ev.ift h0 out
    · rw [decide_eq_true (p := 0 ≤ n) (by omega), Bool.true_and]
      refine Ev.iff_ h0 ?_
      rw [hb]
      refine Ev.bind (most_f s.data.toList.length h4) ?_
      have hp := pow_small (m := s.data.toList.length) (n := 4) h4 (by omega)
      by_cases h1 : n ≥ ((10 ^ s.data.toList.length : Nat) : Int)
      · rw [decide_eq_true h1, decide_eq_false (p := n < _) (by omega)]
        exact out
      · rw [decide_eq_false h1, decide_eq_true (p := n < _) (by omega), Bool.true_and]
        obtain ⟨u, rfl⟩ := Int.eq_ofNat_of_zero_le (by omega : 0 ≤ n)
        have h := rMatch_l0 s hs s.data.toList.length u (Nat.le_refl _) (by generalize (10 ^ s.data.toList.length : Nat) = q at h1 hp; simp at h1; omega)
        rw [List.take_length] at h
        refine Ev.step (fun k => ?_) h
        rw [lustrumref06_Match.j0, if_neg (by simp), hb, w64 (by omega) (by omega)]
  · rw [Bool.eq_false_iff.mpr hs]
    exact Ev.iff_ (by simp) out
def gap : Int → List S71 → Prop
  | _, [] => True
  | a, r :: t => a + 2 ≤ r.f0 ∧ r.f0 ≤ r.f1 ∧ gap r.f1 t
theorem gap_le {a b : Int} {l : List S71} (h : gap a l) (hb : b ≤ a) : gap b l := by
  cases l with
  | nil => trivial
  | cons r t => exact ⟨by have := h.1; omega, h.2.1, h.2.2⟩
theorem gap_app : ∀ {u : List S71} {a c : Int} {v : List S71}, gap a u → (∀ x, x ∈ u → x.f1 ≤ c) → a ≤ c → gap c v → gap a (u ++ v)
  | [], a, c, v, _, _, hc, hv => gap_le hv hc
  | x :: u, a, c, v, ⟨h1, h2, h3⟩, hu, hc, hv => ⟨h1, h2, gap_app h3 (fun y hy => hu y (List.mem_cons_of_mem _ hy)) (hu x List.mem_cons_self) hv⟩
theorem gap_sane : ∀ {l : List S71} {a : Int}, gap a l → (∀ x, x ∈ l → x.f1 ≤ lim) → saneF a l
  | [], _, _, _ => trivial
  | x :: l, a, ⟨h1, h2, h3⟩, h => ⟨h1, h2, h x List.mem_cons_self, gap_sane h3 (fun y hy => h y (List.mem_cons_of_mem _ hy))⟩
theorem gap_ones (c : Int) : ∀ (m : Nat) (lo a : Int), a + 2 ≤ lo * 10 + (c - 48) → gap a ((upto lo m).map (one c))
  | 0, _, _, _ => trivial
  | m + 1, lo, a, h => ⟨h, Int.le_refl _, gap_ones c m (lo + 1) _ (by simp only [one]; omega)⟩
theorem gap_step (c : UInt8) (hc : 48 ≤ c.toNat ∧ c.toNat ≤ 57 ∨ c.toNat = 88) : ∀ (l : List S71) (a : Int), gap a l → gap (10 * a + 9) (l.flatMap (stepR c))
  | [], _, _ => trivial
  | q :: l, a, ⟨h1, h2, h3⟩ => by
    rw [List.flatMap_cons]
    refine gap_app (c := 10 * q.f1 + 9) ?_ ?_ (by omega) (gap_step c hc l q.f1 h3)
    · unfold stepR
      split
      · exact ⟨by simp only; omega, by simp only; omega, trivial⟩
      · exact gap_ones (c.toNat : Int) _ q.f0 _ (by omega)
    · intro x hx
      unfold stepR at hx
      split at hx
      · obtain rfl := List.mem_singleton.1 hx
        simp only; omega
      · obtain ⟨n, hn, rfl⟩ := List.mem_map.1 hx
        have := (upto_mem _ _ _).1 hn
        simp only; omega
theorem gap_set : ∀ (r : List UInt8), (∀ c, c ∈ r → 48 ≤ c.toNat ∧ c.toNat ≤ 57 ∨ c.toNat = 88) → gap (-((10 ^ r.length : Nat) : Int) - 1) (setL r.reverse [(⟨0, 0⟩ : S71)])
  | [], _ => ⟨by decide, Int.le_refl _, trivial⟩
  | c :: r, h => by
    have ih := gap_step c (h c List.mem_cons_self) _ _ (gap_set r (fun x hx => h x (List.mem_cons_of_mem _ hx)))
    rw [List.reverse_cons, setL_snoc, List.length_cons, Nat.pow_succ]
    refine gap_le ih ?_
    rw [Int.natCast_mul]
    generalize ((10 ^ r.length : Nat) : Int) = q
    omega
theorem mem_step (c : UInt8) (hc : 48 ≤ c.toNat ∧ c.toNat ≤ 57 ∨ c.toNat = 88) (l : List S71) (n : Int) : mem (l.flatMap (stepR c)) n ↔ mem l (n / 10) ∧ (c.toNat = 88 ∨ (c.toNat : Int) = 48 + n % 10) := by
  constructor
  · rintro ⟨x, hx, h1, h2⟩
    obtain ⟨q, hq, hx⟩ := List.mem_flatMap.1 hx
    unfold stepR at hx
    by_cases h : c.toNat = 88
    · rw [if_pos h] at hx
      obtain rfl := List.mem_singleton.1 hx
      simp only at h1 h2
      exact ⟨⟨q, hq, by omega, by omega⟩, .inl h⟩
    · rw [if_neg h] at hx
      obtain ⟨m, hm, rfl⟩ := List.mem_map.1 hx
      have hm := (upto_mem _ _ _).1 hm
      simp only at h1 h2
      exact ⟨⟨q, hq, by omega, by omega⟩, .inr (by omega)⟩
  · rintro ⟨⟨q, hq, h1, h2⟩, h⟩
    by_cases h8 : c.toNat = 88
    · exact ⟨⟨q.f0 * 10, q.f1 * 10 + 9⟩, List.mem_flatMap.2 ⟨q, hq, by unfold stepR; rw [if_pos h8]; exact List.mem_singleton.2 rfl⟩, by simp only; omega, by simp only; omega⟩
    · have h9 := h.resolve_left h8
      refine ⟨⟨(n / 10) * 10 + ((c.toNat : Int) - 48), (n / 10) * 10 + ((c.toNat : Int) - 48)⟩, List.mem_flatMap.2 ⟨q, hq, ?_⟩, by simp only; omega, by simp only; omega⟩
      unfold stepR
      rw [if_neg h8]
      exact List.mem_map.2 ⟨n / 10, (upto_mem _ _ _).2 ⟨h1, by omega⟩, rfl⟩
theorem mem_set : ∀ (r : List UInt8), (∀ c, c ∈ r → 48 ≤ c.toNat ∧ c.toNat ≤ 57 ∨ c.toNat = 88) → ∀ n : Int, mem (setL r.reverse [(⟨0, 0⟩ : S71)]) n ↔ 0 ≤ n ∧ n < ((10 ^ r.length : Nat) : Int) ∧ refR r n.toNat = true
  | [], _, n => by
    rw [List.reverse_nil, setL, mem_cons]
    simp [mem_nil, refR]; omega
  | c :: r, h, n => by
    have ih := mem_set r (fun x hx => h x (List.mem_cons_of_mem _ hx)) (n / 10)
    rw [List.reverse_cons, setL_snoc, mem_step c (h c List.mem_cons_self), ih, List.length_cons, Nat.pow_succ, Int.natCast_mul, refR, Bool.and_eq_true, Bool.or_eq_true, decide_eq_true_eq, decide_eq_true_eq]
    generalize ((10 ^ r.length : Nat) : Int) = q
    constructor
    · rintro ⟨⟨h1, h2, h3⟩, h4⟩
      have e : (n / 10).toNat = n.toNat / 10 := by omega
      rw [e] at h3
      exact ⟨by omega, by show n < q * 10; omega, by omega, h3⟩
    · rintro ⟨h1, h2, h4, h3⟩
      have e : (n / 10).toNat = n.toNat / 10 := by omega
      have h2 : n < q * 10 := h2
      rw [e]
      exact ⟨⟨by omega, by omega, h3⟩, by omega⟩
theorem sane_ok {l : List UInt8} (hs : saneL l = true) : ∀ c, c ∈ l.reverse → 48 ≤ c.toNat ∧ c.toNat ≤ 57 ∨ c.toNat = 88 := fun c hc => of_decide_eq_true (List.all_eq_true.1 (sane_all hs).1 c (List.mem_reverse.1 hc))
theorem set_is (s : ByteArray) (hs : saneL s.data.toList = true) : sane (setL s.data.toList [⟨0, 0⟩]) ∧ ∀ n, mem (setL s.data.toList [⟨0, 0⟩]) n ↔ refV s.data.toList n = true := by
  have h1 := gap_set s.data.toList.reverse (sane_ok hs)
  have h2 := mem_set s.data.toList.reverse (sane_ok hs)
  have hf := setL_fine s hs
  rw [List.reverse_reverse, List.length_reverse] at h1 h2
  have hp := pow_small (m := s.data.toList.length) (n := 4) (sane_all hs).2.2 (by omega)
  refine ⟨saneF_le (gap_sane h1 (fun x hx => by have := (hf x hx).2.2; unfold lim; omega)) (by unfold lim; omega), fun n => ?_⟩
  rw [h2 n]
  unfold refV
  rw [hs, Bool.true_and, Bool.and_eq_true, Bool.and_eq_true, decide_eq_true_eq, decide_eq_true_eq, and_assoc]
def setV (s : ByteArray) : List S71 := if saneL s.data.toList = true then setL s.data.toList [⟨0, 0⟩] else []
theorem setL_len (s : ByteArray) (h : saneL s.data.toList = true) : (setL s.data.toList [⟨0, 0⟩]).length ≤ 1000000 := by
  have ho := ok_of (s := s) (congrArg some h)
  have step : ∀ p, p ≤ s.size → ∃ out, setInv s p out := fun p => by
    induction p with
    | zero => exact fun _ => ⟨_, setInv_0 s⟩
    | succ p ih =>
      intro hp
      obtain ⟨out, hi⟩ := ih (by omega)
      exact ⟨_, setInv_step (by omega) (ho p (by omega)) hi⟩
  obtain ⟨out, h1, h2, h3⟩ := step s.size (Nat.le_refl _)
  have hd : setL (s.data.toList.drop s.size) out = out := by rw [List.drop_eq_nil_of_le (by rw [bsize]; exact Nat.le_refl _)]; rfl
  rw [hd] at h1
  rw [← h1]
  have h4 : s.size ≤ 4 := by rw [bsize]; exact (sane_all h).2.2
  have hl : lenB s.size ≤ 1000000 := by
    rcases (by omega : s.size = 0 ∨ s.size = 1 ∨ s.size = 2 ∨ s.size = 3 ∨ s.size = 4) with e | e | e | e | e <;> rw [e] <;> decide
  omega
theorem refV_sane {l : List UInt8} {n : Int} (h : saneL l = false) : refV l n = false := by unfold refV; rw [h]; rfl
theorem setV_is (s : ByteArray) : sane (setV s) ∧ (setV s).length ≤ 1000000 ∧ ∀ n, mem (setV s) n ↔ refV s.data.toList n = true := by
  unfold setV
  by_cases h : saneL s.data.toList = true
  · rw [if_pos h]
    exact ⟨(set_is s h).1, setL_len s h, (set_is s h).2⟩
  · rw [if_neg h]
    refine ⟨trivial, by simp, fun n => ?_⟩
    rw [refV_sane (Bool.eq_false_iff.2 h)]
    simp [mem_nil]
def numsR (r : S71) : List Int := upto r.f0 (r.f1 + 1 - r.f0).toNat
theorem nums_l1 (s : List S71) (i lo hi R' : Int) (hh : hi ≤ 1000) {R : List Int} : ∀ (m : Nat) (x : Int) (acc : List Int), 0 ≤ x → x + m = hi + 1 ∨ (m = 0 ∧ hi < x) → acc.length + m < 17592186044416 →
    Ev (fun k => point_numbers.l0 k (acc ++ upto x m) s (s.length : Int) (wrap64 (i + 1))) R → Ev (fun k => point_numbers.l1 k acc x s (s.length : Int) i lo hi) R
  | 0, x, acc, h0, hx, hl, h => by
    refine Ev.step (f := fun k => point_numbers.l0 k acc s (s.length : Int) (wrap64 (i + 1))) (fun k => by rw [point_numbers.l1, if_neg (by omega)]) ?_
    simpa [upto] using h
  | m + 1, x, acc, h0, hx, hl, h => by
    refine Ev.step (f := fun k => point_numbers.l1 k (acc ++ [x]) (x + 1) s (s.length : Int) i lo hi) (fun k => by rw [point_numbers.l1, if_pos (by omega), if_pos (by omega), w64 (by omega) (by omega)]) ?_
    refine nums_l1 s i lo hi R' hh m (x + 1) (acc ++ [x]) (by omega) (by omega) (by rw [List.length_append, List.length_singleton]; omega) ?_
    rw [List.append_assoc, List.singleton_append]
    exact h
theorem nums_l0 : ∀ (t p : List S71) (acc : List Int), (∀ r, r ∈ t → 1 ≤ r.f0 ∧ r.f1 ≤ 31) → acc.length + 32 * t.length < 17592186044416 → (p ++ t).length ≤ 4611686018427387904 →
    Ev (fun k => point_numbers.l0 k acc (p ++ t) ((p ++ t).length : Int) (p.length : Int)) (acc ++ t.flatMap numsR)
  | [], p, acc, _, _, _ => Ev.step (f := fun _ => some (acc ++ [])) (fun k => by rw [point_numbers.l0, if_neg (at_end p), List.append_nil]) (Ev.now _)
  | r :: t, p, acc, hr, hl, hp => by
    have h1 := hr r List.mem_cons_self
    refine Ev.step (f := fun k => point_numbers.l1 k acc r.f0 (p ++ r :: t) ((p ++ r :: t).length : Int) (p.length : Int) r.f0 r.f1) (fun k => by rw [point_numbers.l0, if_pos (at_lt p r t), if_pos (at_0 p), if_pos (at_lt p r t), at_rd]) ?_
    have hm : (r.f1 + 1 - r.f0).toNat ≤ 31 := by omega
    rw [List.length_cons] at hl
    refine nums_l1 (p ++ r :: t) (p.length : Int) r.f0 r.f1 0 (by omega) (r.f1 + 1 - r.f0).toNat r.f0 acc (by omega) (by omega) (by omega) ?_
    rw [at_next hp]
    have := nums_l0 t (p ++ [r]) (acc ++ numsR r) (fun q hq => hr q (List.mem_cons_of_mem _ hq)) (by rw [List.length_append]; unfold numsR; rw [upto_len]; omega) (by rw [← at_app]; exact hp)
    rw [← at_app] at this
    rw [List.flatMap_cons, ← List.append_assoc]
    exact this
def anyV (l : List UInt8) (i : Int) : Nat → Bool
  | 0 => false
  | m + 1 => refV l i || anyV l (i + 1) m
theorem anyV_iff (l : List UInt8) : ∀ (m : Nat) (i : Int), anyV l i m = true ↔ ∃ n, i ≤ n ∧ n < i + m ∧ refV l n = true
  | 0, i => by
    simp only [anyV]
    exact ⟨fun h => absurd h (by simp), fun ⟨n, h1, h2, _⟩ => by omega⟩
  | m + 1, i => by
    rw [anyV, Bool.or_eq_true, anyV_iff l m (i + 1)]
    constructor
    · rintro (h | ⟨n, h1, h2, h3⟩)
      · exact ⟨i, by omega, by omega, h⟩
      · exact ⟨n, by omega, by omega, h3⟩
    · rintro ⟨n, h1, h2, h3⟩
      rcases (by omega : n = i ∨ i + 1 ≤ n) with rfl | h
      · exact .inl h3
      · exact .inr ⟨n, h, by omega, h3⟩
theorem numbers_f (s : ByteArray) (m : Nat) (hm : 1 ≤ m ∧ m ≤ 31) : ∃ L : List Int, Ev (fun k => point_numbers.f k s (m : Int)) L ∧ (L ≠ [] ↔ anyV s.data.toList 1 m = true) := by
  obtain ⟨h1, h2, h3⟩ := setV_is s
  have hb : sane [(⟨1, (m : Int)⟩ : S71)] := ⟨by show -lim - 2 + 2 ≤ (1 : Int); unfold lim; omega, by show (1 : Int) ≤ (m : Int); omega, by show (m : Int) ≤ lim; unfold lim; omega, trivial⟩
  obtain ⟨e1, e2, e3, e4⟩ := Meet_s h1 hb (by simp; omega)
  have hin : ∀ r, r ∈ meet2 (setV s) [(⟨1, (m : Int)⟩ : S71)] → r.f0 ≤ r.f1 ∧ 1 ≤ r.f0 ∧ r.f1 ≤ (m : Int) := fun r hr => by
    have hle : r.f0 ≤ r.f1 := by
      have : ∀ {a : Int} {l : List S71}, saneF a l → ∀ q, q ∈ l → q.f0 ≤ q.f1 := by
        intro a l
        induction l generalizing a with
        | nil => intro _ q hq; cases hq
        | cons x t ih =>
          intro h q hq
          rcases List.mem_cons.1 hq with rfl | hq
          · exact h.2.1
          · exact ih h.2.2.2 q hq
      exact this e3 r hr
    have ha := (e2 r.f0).1 ⟨r, hr, Int.le_refl _, hle⟩
    have hc := (e2 r.f1).1 ⟨r, hr, hle, Int.le_refl _⟩
    have ha := (mem_one _ _).1 ha.2
    have hc := (mem_one _ _).1 hc.2
    simp only at ha hc
    exact ⟨hle, ha.1, hc.2⟩
  refine ⟨(meet2 (setV s) [(⟨1, (m : Int)⟩ : S71)]).flatMap numsR, ?_, ?_⟩
  · refine Ev.bnow (x := setV s) rfl ?_
    refine Ev.bind (Ev.bind e1 (Ev.now _)) ?_
    have := nums_l0 (meet2 (setV s) [(⟨1, (m : Int)⟩ : S71)]) [] [] (fun r hr => ⟨(hin r hr).2.1, by have := (hin r hr).2.2; omega⟩) (by simp at e4 ⊢; omega) (by simp at e4 ⊢; omega)
    simpa using this
  · rw [anyV_iff]
    constructor
    · intro h
      obtain ⟨n, hn⟩ := List.exists_mem_of_ne_nil _ h
      obtain ⟨r, hr, hn⟩ := List.mem_flatMap.1 hn
      have hn := (upto_mem _ _ _).1 hn
      obtain ⟨a, b, c⟩ := hin r hr
      have hmem := (e2 n).1 ⟨r, hr, hn.1, by omega⟩
      exact ⟨n, by omega, by omega, (h3 n).1 hmem.1⟩
    · rintro ⟨n, ha, hc, hv⟩
      obtain ⟨r, hr, hn1, hn2⟩ := (e2 n).2 ⟨(h3 n).2 hv, (mem_one _ _).2 ⟨by simp only; omega, by simp only; omega⟩⟩
      intro he
      have : n ∈ (meet2 (setV s) [(⟨1, (m : Int)⟩ : S71)]).flatMap numsR := List.mem_flatMap.2 ⟨r, hr, (upto_mem _ _ _).2 ⟨hn1, by omega⟩⟩
      rw [he] at this
      cases this
def someV (s : ByteArray) (n : Int) (m : Nat) : Bool := decide ((s.size : Int) = n) && anyV s.data.toList 1 m
theorem some_f (s : ByteArray) (n : Int) (m : Nat) (hm : 1 ≤ m ∧ m ≤ 31) : Ev (fun k => point_some.f k s n (m : Int)) (someV s n m) := by
  unfold someV
  by_cases h : (s.size : Int) = n
  · rw [decide_eq_true h, Bool.true_and]
    refine Ev.ift h ?_
    obtain ⟨L, h1, h2⟩ := numbers_f s m hm
    refine Ev.bind h1 (Ev.eq (Ev.now _) ?_)
    cases hv : anyV s.data.toList 1 m with
    | true =>
      have := h2.2 hv
      cases L with
      | nil => exact absurd rfl this
      | cons x t => exact decide_eq_true (by simp)
    | false =>
      cases L with
      | nil => rfl
      | cons x t => exact absurd (h2.1 (by simp)) (by rw [hv]; simp)
  · rw [decide_eq_false h, Bool.false_and]
    exact Ev.iff_ h (Ev.now _)
theorem rsome_l0 (s : ByteArray) (hz : s.size ≤ 9223372036854775807) (most : Int) (hm : most ≤ 31) : ∀ (m : Nat) (i : Int), 0 ≤ i → i + m = most + 1 → Ev (fun k => lustrumref08_some.l0 k s most i) (anyV s.data.toList i m)
  | 0, i, h0, h => Ev.step (f := fun _ => some false) (fun k => by rw [lustrumref08_some.l0, if_neg (by omega)]) (Ev.now _)
  | m + 1, i, h0, h => by
    refine Ev.step (f := fun k => (lustrumref06_Match.f k s i).bind fun t => if t = true then some true else lustrumref08_some.l0 k s most (i + 1)) (fun k => by rw [lustrumref08_some.l0, if_pos (by omega), w64 (by omega) (by omega)]) ?_
    refine Ev.bind (rMatch_f s hz i (by omega)) ?_
    rw [anyV]
    cases hv : refV s.data.toList i with
    | true => exact Ev.ift rfl (Ev.now _)
    | false => exact Ev.iff_ (by simp) (rsome_l0 s hz most hm m (i + 1) (by omega) (by omega))
theorem rsome_f (s : ByteArray) (hz : s.size ≤ 9223372036854775807) (n : Int) (m : Nat) (hm : 1 ≤ m ∧ m ≤ 31) : Ev (fun k => lustrumref08_some.f k s n (m : Int)) (someV s n m) := by
  unfold someV
  by_cases h : (s.size : Int) = n
  · rw [decide_eq_true h, Bool.true_and]
    exact Ev.ift h (rsome_l0 s hz m (by omega) m 1 (by omega) (by omega))
  · rw [decide_eq_false h, Bool.false_and]
    exact Ev.iff_ h (Ev.now _)
def emptyV (s : ByteArray) : Bool := s.toList == ([] : List UInt8)
def ptV (p : S23) : Bool := saneL p.f1.data.toList && (
  if p.f0 = 0 then decide ((p.f1.size : Int) = 4) && (someV p.f2 2 12 && someV p.f3 2 31)
  else if p.f0 = 1 then decide ((p.f1.size : Int) = 4) && (someV p.f2 2 12 && emptyV p.f3)
  else if p.f0 = 2 then decide ((p.f1.size : Int) = 4) && (someV p.f2 1 4 && emptyV p.f3)
  else if p.f0 = 3 then decide ((p.f1.size : Int) = 4) && (emptyV p.f2 && emptyV p.f3)
  else if p.f0 = 4 then decide ((p.f1.size : Int) = 3) && (emptyV p.f2 && emptyV p.f3)
  else if p.f0 = 5 then decide ((p.f1.size : Int) = 2) && (emptyV p.f2 && emptyV p.f3)
  else false)
theorem Ev.cond {c : Prop} [Decidable c] {g : Nat → Option Bool} {r : Bool} (h : c → Ev g r) : Ev (fun k => if c then g k else some false) (decide c && r) := by
  by_cases hc : c
  · rw [decide_eq_true hc, Bool.true_and]; exact Ev.ift hc (h hc)
  · rw [decide_eq_false hc, Bool.false_and]; exact Ev.iff_ hc (Ev.now _)
theorem Ev.andb {a : Nat → Option Bool} {g : Nat → Option Bool} {x r : Bool} (h1 : Ev a x) (h2 : Ev g r) : Ev (fun k => (a k).bind fun t => if t = true then g k else some false) (x && r) := by
  refine Ev.bind h1 ?_
  cases x with
  | true => rw [Bool.true_and]; exact Ev.ift rfl h2
  | false => exact Ev.iff_ (by simp) (Ev.now _)
theorem Ev.pick {c : Prop} [Decidable c] {g f : Nat → Option Bool} {r q : Bool} (h1 : Ev g r) (h2 : Ev f q) : Ev (fun k => if c then g k else f k) (if c then r else q) := by
  by_cases hc : c
  · rw [if_pos hc]; exact Ev.ift hc h1
  · rw [if_neg hc]; exact Ev.iff_ hc h2
theorem Ev.self {a : Nat → Option Bool} {x : Bool} (h : Ev a x) : Ev (fun k => (a k).bind fun t => some t) x := Ev.bind h (Ev.now _)
theorem bare_and (a b : ByteArray) : (if a.toList = ([] : List UInt8) then emptyV b else false) = (emptyV a && emptyV b) := by
  unfold emptyV
  by_cases h : a.toList = []
  · rw [if_pos h, h]; rfl
  · rw [if_neg h]
    have : (a.toList == ([] : List UInt8)) = false := by cases hl : a.toList with
      | nil => exact absurd hl h
      | cons x t => rfl
    rw [this]; rfl
theorem ptSane_f (p : S23) : Ev (fun k => point_Sane.f k p.f0 p.f1 p.f2 p.f3) (ptV p) := by
  unfold ptV
  refine Ev.bnow (x := saneL p.f1.data.toList) rfl ?_
  have hj : ∀ b : Bool, b = (emptyV p.f2 && emptyV p.f3) → Ev (fun k => point_Sane.j0 k b p.f0 p.f1 p.f2 p.f3) (
      if p.f0 = 0 then decide ((p.f1.size : Int) = 4) && (someV p.f2 2 12 && someV p.f3 2 31)
      else if p.f0 = 1 then decide ((p.f1.size : Int) = 4) && (someV p.f2 2 12 && emptyV p.f3)
      else if p.f0 = 2 then decide ((p.f1.size : Int) = 4) && (someV p.f2 1 4 && emptyV p.f3)
      else if p.f0 = 3 then decide ((p.f1.size : Int) = 4) && (emptyV p.f2 && emptyV p.f3)
      else if p.f0 = 4 then decide ((p.f1.size : Int) = 3) && (emptyV p.f2 && emptyV p.f3)
      else if p.f0 = 5 then decide ((p.f1.size : Int) = 2) && (emptyV p.f2 && emptyV p.f3)
      else false) := fun b hb => by
    subst hb
    refine Ev.step (fun k => by rw [point_Sane.j0]) ?_
    refine Ev.pick (Ev.cond fun _ => Ev.andb (some_f p.f2 2 12 (by omega)) (Ev.self (some_f p.f3 2 31 (by omega)))) ?_
    refine Ev.pick (Ev.cond fun _ => Ev.andb (some_f p.f2 2 12 (by omega)) (Ev.now _)) ?_
    refine Ev.pick (Ev.cond fun _ => Ev.andb (some_f p.f2 1 4 (by omega)) (Ev.now _)) ?_
    refine Ev.pick (Ev.cond fun _ => Ev.now _) ?_
    refine Ev.pick (Ev.cond fun _ => Ev.now _) ?_
    exact Ev.pick (Ev.cond fun _ => Ev.now _) (Ev.now _)
  cases hs : saneL p.f1.data.toList with
  | false => exact Ev.iff_ (by simp) (Ev.now _)
  | true =>
    rw [Bool.true_and]
    refine Ev.ift rfl ?_
    have hb := bare_and p.f2 p.f3
    by_cases h : p.f2.toList = ([] : List UInt8)
    · rw [if_pos h] at hb
      exact Ev.ift h (hj _ hb)
    · rw [if_neg h] at hb
      exact Ev.iff_ h (hj _ hb)
theorem rptSane_f (p : S23) (h1 : p.f1.size ≤ 9223372036854775807) (h2 : p.f2.size ≤ 9223372036854775807) (h3 : p.f3.size ≤ 9223372036854775807) : Ev (fun k => lustrumref08_Sane.f k p.f0 p.f1 p.f2 p.f3) (ptV p) := by
  unfold ptV
  refine Ev.andb (rSane_f p.f1 h1) ?_
  have hbare : Ev (fun _ : Nat => if p.f2.toList = ([] : List UInt8) then some (p.f3.toList == ([] : List UInt8)) else some false) (emptyV p.f2 && emptyV p.f3) := by
    rw [← bare_and]
    exact Ev.pick (Ev.now _) (Ev.now _)
  refine Ev.pick (Ev.cond fun _ => Ev.andb (rsome_f p.f2 h2 2 12 (by omega)) (Ev.self (rsome_f p.f3 h3 2 31 (by omega)))) ?_
  refine Ev.pick (Ev.cond fun _ => Ev.andb (rsome_f p.f2 h2 2 12 (by omega)) (Ev.now _)) ?_
  refine Ev.pick (Ev.cond fun _ => Ev.andb (rsome_f p.f2 h2 1 4 (by omega)) (Ev.now _)) ?_
  refine Ev.pick (Ev.cond fun _ => hbare) ?_
  refine Ev.pick (Ev.cond fun _ => hbare) ?_
  exact Ev.pick (Ev.cond fun _ => hbare) (Ev.now _)
def bA (l : List UInt8) : ByteArray := ⟨l.toArray⟩
theorem bA_data (l : List UInt8) : (bA l).data.toList = l := rfl
theorem bA_size (l : List UInt8) : (bA l).size = l.length := by rw [bsize, bA_data]
theorem ba_eq {a b : ByteArray} (h : a.data.toList = b.data.toList) : a = b := by
  cases a; cases b
  simp only at h
  rw [Array.toList_inj] at h
  rw [h]
theorem bA_mk (s : ByteArray) : bA s.data.toList = s := ba_eq rfl
theorem bA_toList (l : List UInt8) : (bA l).toList = l := by rw [ByteArray.toList_eq]; rfl
theorem ba_toList (s : ByteArray) : s.toList = s.data.toList := ByteArray.toList_eq s
def ptRaw (p : S23) : List UInt8 :=
  if p.f0 = 0 then p.f1.data.toList ++ 45 :: (p.f2.data.toList ++ 45 :: p.f3.data.toList)
  else if p.f0 = 1 then p.f1.data.toList ++ 45 :: p.f2.data.toList
  else if p.f0 = 2 then p.f1.data.toList ++ 115 :: p.f2.data.toList
  else if p.f0 = 4 then p.f1.data.toList ++ [100]
  else if p.f0 = 5 then p.f1.data.toList ++ [99]
  else p.f1.data.toList
def ptTxt (p : S23) : List UInt8 := if ptV p = true then ptRaw p else []
theorem any_sane {l : List UInt8} {m : Nat} {i : Int} (h : anyV l i m = true) : l.all okB = true := by
  obtain ⟨n, _, _, hn⟩ := (anyV_iff l m i).1 h
  cases hs : saneL l with
  | true => exact (sane_all hs).1
  | false => rw [refV_sane hs] at hn; cases hn
theorem pt_kinds {p : S23} (h : ptV p = true) : p.f1.data.toList.all okB = true ∧
    (p.f0 = 0 ∧ p.f1.data.toList.length = 4 ∧ p.f2.data.toList.length = 2 ∧ p.f2.data.toList.all okB = true ∧ p.f3.data.toList.length = 2 ∧ p.f3.data.toList.all okB = true
    ∨ p.f0 = 1 ∧ p.f1.data.toList.length = 4 ∧ p.f2.data.toList.length = 2 ∧ p.f2.data.toList.all okB = true ∧ p.f3.data.toList = []
    ∨ p.f0 = 2 ∧ p.f1.data.toList.length = 4 ∧ p.f2.data.toList.length = 1 ∧ p.f2.data.toList.all okB = true ∧ p.f3.data.toList = []
    ∨ p.f0 = 3 ∧ p.f1.data.toList.length = 4 ∧ p.f2.data.toList = [] ∧ p.f3.data.toList = []
    ∨ p.f0 = 4 ∧ p.f1.data.toList.length = 3 ∧ p.f2.data.toList = [] ∧ p.f3.data.toList = []
    ∨ p.f0 = 5 ∧ p.f1.data.toList.length = 2 ∧ p.f2.data.toList = [] ∧ p.f3.data.toList = []) := by
  have em : ∀ {s : ByteArray}, emptyV s = true → s.data.toList = [] := fun {s} h => by
    unfold emptyV at h
    rw [ba_toList] at h
    exact beq_iff_eq.1 h
  unfold ptV at h
  rw [Bool.and_eq_true] at h
  obtain ⟨h1, h2⟩ := h
  refine ⟨(sane_all h1).1, ?_⟩
  by_cases c0 : p.f0 = 0
  · rw [if_pos c0] at h2
    simp only [someV, Bool.and_eq_true, decide_eq_true_eq, bsize] at h2
    exact .inl ⟨c0, by omega, by omega, any_sane h2.2.1.2, by omega, any_sane h2.2.2.2⟩
  rw [if_neg c0] at h2
  by_cases c1 : p.f0 = 1
  · rw [if_pos c1] at h2
    simp only [someV, Bool.and_eq_true, decide_eq_true_eq, bsize] at h2
    exact .inr (.inl ⟨c1, by omega, by omega, any_sane h2.2.1.2, em h2.2.2⟩)
  rw [if_neg c1] at h2
  by_cases c2 : p.f0 = 2
  · rw [if_pos c2] at h2
    simp only [someV, Bool.and_eq_true, decide_eq_true_eq, bsize] at h2
    exact .inr (.inr (.inl ⟨c2, by omega, by omega, any_sane h2.2.1.2, em h2.2.2⟩))
  rw [if_neg c2] at h2
  by_cases c3 : p.f0 = 3
  · rw [if_pos c3] at h2
    simp only [Bool.and_eq_true, decide_eq_true_eq, bsize] at h2
    exact .inr (.inr (.inr (.inl ⟨c3, by omega, em h2.2.1, em h2.2.2⟩)))
  rw [if_neg c3] at h2
  by_cases c4 : p.f0 = 4
  · rw [if_pos c4] at h2
    simp only [Bool.and_eq_true, decide_eq_true_eq, bsize] at h2
    exact .inr (.inr (.inr (.inr (.inl ⟨c4, by omega, em h2.2.1, em h2.2.2⟩))))
  rw [if_neg c4] at h2
  by_cases c5 : p.f0 = 5
  · rw [if_pos c5] at h2
    simp only [Bool.and_eq_true, decide_eq_true_eq, bsize] at h2
    exact .inr (.inr (.inr (.inr (.inr ⟨c5, by omega, em h2.2.1, em h2.2.2⟩))))
  rw [if_neg c5] at h2
  cases h2
theorem ext_bA (p l r : List UInt8) : (bA (p ++ (l ++ r))).extract p.length (p.length + l.length) = bA l := ba_eq (by
  rw [ByteArray.data_extract, Array.toList_extract, bA_data]
  simp [List.extract]
  rfl)
theorem ext_end (p r : List UInt8) : (bA (p ++ r)).extract p.length (bA (p ++ r)).size = bA r := ba_eq (by
  rw [ByteArray.data_extract, Array.toList_extract, bA_data, bA_size]
  simp [List.extract]
  rfl)
theorem bt_mid (p : List UInt8) (c : UInt8) (r : List UInt8) : bt (bA (p ++ c :: r)) (p.length : Int) = (c.toNat : Int) := by
  rw [bt_list _ _ (by rw [bA_data]; simp)]
  simp [bA_data]
def e0 : ByteArray := ⟨#[]⟩
theorem index_no : ∀ (l : List UInt8) (c : UInt8), c ∉ l → Lib.indexByte l c = -1
  | [], c, _ => by simp [Lib.indexByte]
  | b :: l, c, h => by
    rw [List.mem_cons, not_or] at h
    have e : (b == c) = false := by simpa using Ne.symm h.1
    rw [Lib.indexByte, e, index_no l c h.2]; rfl
theorem index_yes : ∀ (a b : List UInt8) (c : UInt8), c ∉ a → Lib.indexByte (a ++ c :: b) c = (a.length : Int)
  | [], b, c, _ => by simp [Lib.indexByte]
  | x :: a, b, c, h => by
    rw [List.mem_cons, not_or] at h
    have e : (x == c) = false := by simpa using Ne.symm h.1
    rw [List.cons_append, Lib.indexByte, e, index_yes a b c h.2]
    simp only [Bool.false_eq_true, if_false, List.length_cons, beq_iff_eq]
    rw [if_neg (by omega)]; omega
theorem sep_f (s : ByteArray) (c : UInt8) : stringslite_Index.f s (bA [c]) = some (Lib.indexByte s.data.toList c) := by
  have e : (bt (bA [c]) 0).toNat.toUInt8 = c := by
    have h : bt (bA [c]) 0 = (c.toNat : Int) := bt_mid [] c []
    rw [h]; exact u8eq (by simp)
  unfold stringslite_Index.f
  rw [if_pos (show (bA [c]).size = 1 from bA_size [c]), e]
theorem ext_to (a b : List UInt8) : (bA (a ++ b)).extract 0 a.length = bA a := by have := ext_bA [] a b; simpa using this
theorem Cut_no (l : List UInt8) (c : UInt8) (h : c ∉ l) : strings_Cut.f (bA l) (bA [c]) = some (bA l, e0, false) := by
  have e : stringslite_Cut.f (bA l) (bA [c]) = some (bA l, e0, false) := by
    unfold stringslite_Cut.f
    rw [sep_f, bA_data, index_no l c h]
    rfl
  unfold strings_Cut.f
  rw [e]; rfl
theorem Cut_yes (a b : List UInt8) (c : UInt8) (h : c ∉ a) (hl : (a ++ c :: b).length ≤ 4611686018427387904) : strings_Cut.f (bA (a ++ c :: b)) (bA [c]) = some (bA a, bA b, true) := by
  have e : stringslite_Cut.f (bA (a ++ c :: b)) (bA [c]) = some (bA a, bA b, true) := by
    unfold stringslite_Cut.f
    rw [sep_f, bA_data, index_yes a b c h]
    have hl' : (a ++ c :: b).length = a.length + (b.length + 1) := by simp
    have w : wrap64 ((a.length : Int) + ((bA [c]).size : Int)) = (a.length : Int) + 1 := by rw [bA_size, show (([c] : List UInt8).length : Int) = 1 from rfl]; exact w64 (by omega) (by omega)
    simp only [Option.bind_some]
    rw [w, bA_size (a ++ c :: b), if_pos (by omega), if_pos (by omega), if_pos (by omega), if_pos (by omega), if_pos (by omega), Int.toNat_natCast, ext_to]
    have e2 : ((a.length : Int) + 1).toNat = (a ++ [c]).length := by rw [List.length_append]; simp
    have e3 : (bA (a ++ c :: b)).extract ((a.length : Int) + 1).toNat (a ++ c :: b).length = bA b := by
      have := ext_end (a ++ [c]) b
      rw [bA_size, List.append_assoc] at this
      rw [e2]; exact this
    rw [e3]
  unfold strings_Cut.f
  rw [e]; rfl
theorem HasS_yes (a : List UInt8) (c : UInt8) (hl : (a ++ [c]).length ≤ 4611686018427387904) : stringslite_HasSuffix.f (bA (a ++ [c])) (bA [c]) = some true := by
  have hl' : (a ++ [c]).length = a.length + 1 := by simp
  have w : wrap64 (((bA (a ++ [c])).size : Int) - ((bA [c]).size : Int)) = (a.length : Int) := by rw [bA_size, bA_size, hl', show (([c] : List UInt8).length : Int) = 1 from rfl, w64 (by omega) (by omega)]; omega
  unfold stringslite_HasSuffix.f
  rw [w, if_pos (by rw [bA_size, bA_size]; simp; omega), if_pos (by omega), if_pos (by rw [bA_size]; omega), Int.toNat_natCast, ext_end]
  simp
theorem HasS_no (l : List UInt8) (c : UInt8) (h : ∀ a, l ≠ a ++ [c]) (hl : l.length ≤ 4611686018427387904) : stringslite_HasSuffix.f (bA l) (bA [c]) = some false := by
  unfold stringslite_HasSuffix.f
  by_cases h0 : l = []
  · subst h0; rfl
  · obtain ⟨a, x, rfl⟩ : ∃ a x, l = a ++ [x] := ⟨_, _, (List.dropLast_concat_getLast h0).symm⟩
    have hl' : (a ++ [x]).length = a.length + 1 := by simp
    have w : wrap64 (((bA (a ++ [x])).size : Int) - ((bA [c]).size : Int)) = (a.length : Int) := by rw [bA_size, bA_size, hl', show (([c] : List UInt8).length : Int) = 1 from rfl, w64 (by omega) (by omega)]; omega
    rw [w, if_pos (by rw [bA_size, bA_size]; simp; omega), if_pos (by omega), if_pos (by rw [bA_size]; omega), Int.toNat_natCast, ext_end]
    have hx : ¬ x = c := fun e => h a (by rw [e])
    rw [bA_toList, bA_toList]
    simp [hx]
theorem CutS_yes (a : List UInt8) (c : UInt8) (hl : (a ++ [c]).length ≤ 4611686018427387904) : strings_CutSuffix.f (bA (a ++ [c])) (bA [c]) = some (bA a, true) := by
  have hl' : (a ++ [c]).length = a.length + 1 := by simp
  have w : wrap64 (((bA (a ++ [c])).size : Int) - ((bA [c]).size : Int)) = (a.length : Int) := by rw [bA_size, bA_size, hl', show (([c] : List UInt8).length : Int) = 1 from rfl, w64 (by omega) (by omega)]; omega
  have e : stringslite_CutSuffix.f (bA (a ++ [c])) (bA [c]) = some (bA a, true) := by
    unfold stringslite_CutSuffix.f
    rw [HasS_yes a c hl]
    simp only [Option.bind_some, if_true]
    rw [w, if_pos (by omega), if_pos (by rw [bA_size]; omega), Int.toNat_natCast, ext_to]
  unfold strings_CutSuffix.f
  rw [e]; rfl
theorem CutS_no (l : List UInt8) (c : UInt8) (h : ∀ a, l ≠ a ++ [c]) (hl : l.length ≤ 4611686018427387904) : strings_CutSuffix.f (bA l) (bA [c]) = some (bA l, false) := by
  have e : stringslite_CutSuffix.f (bA l) (bA [c]) = some (bA l, false) := by
    unfold stringslite_CutSuffix.f
    rw [HasS_no l c h hl]; rfl
  unfold strings_CutSuffix.f
  rw [e]; rfl
abbrev gsV (l : List UInt8) : Option (Int × ByteArray × ByteArray × ByteArray) := point_guess.f (bA l)
theorem guess_any (l : List UInt8) (hl : l.length ≤ 4611686018427387904) : ∃ p : S23, gsV l = some (p.f0, p.f1, p.f2, p.f3) ∧ ptRaw p = l := by
  unfold gsV point_guess.f
  rw [show (⟨#[100]⟩ : ByteArray) = bA [100] from rfl, show (⟨#[99]⟩ : ByteArray) = bA [99] from rfl, show (⟨#[115]⟩ : ByteArray) = bA [115] from rfl, show (⟨#[45]⟩ : ByteArray) = bA [45] from rfl]
  by_cases h1 : ∃ a, l = a ++ [100]
  · obtain ⟨a, rfl⟩ := h1
    rw [CutS_yes a 100 hl]
    exact ⟨⟨4, bA a, e0, e0⟩, rfl, rfl⟩
  rw [CutS_no l 100 (fun a h => h1 ⟨a, h⟩) hl]
  by_cases h2 : ∃ a, l = a ++ [99]
  · obtain ⟨a, rfl⟩ := h2
    rw [CutS_yes a 99 hl]
    exact ⟨⟨5, bA a, e0, e0⟩, rfl, rfl⟩
  rw [CutS_no l 99 (fun a h => h2 ⟨a, h⟩) hl]
  by_cases h3 : (115 : UInt8) ∈ l
  · obtain ⟨a, b, rfl, ha⟩ := List.eq_append_cons_of_mem h3
    rw [Cut_yes a b 115 ha hl]
    exact ⟨⟨2, bA a, bA b, e0⟩, rfl, rfl⟩
  rw [Cut_no l 115 h3]
  by_cases h4 : (45 : UInt8) ∈ l
  · obtain ⟨a, b, rfl, ha⟩ := List.eq_append_cons_of_mem h4
    rw [Cut_yes a b 45 ha hl]
    simp only [Option.bind_some, if_true, if_false, Bool.false_eq_true]
    by_cases h5 : (45 : UInt8) ∈ b
    · obtain ⟨c, d, rfl, hc⟩ := List.eq_append_cons_of_mem h5
      rw [Cut_yes c d 45 hc (by simp only [List.length_append, List.length_cons] at hl ⊢; omega)]
      exact ⟨⟨0, bA a, bA c, bA d⟩, rfl, rfl⟩
    · rw [Cut_no b 45 h5]
      exact ⟨⟨1, bA a, bA b, e0⟩, rfl, rfl⟩
  · rw [Cut_no l 45 h4]
    exact ⟨⟨3, bA l, e0, e0⟩, rfl, rfl⟩
theorem ok_not {l : List UInt8} (h : l.all okB = true) (c : UInt8) (hc : okB c = false) : c ∉ l := fun hm => by
  rw [List.all_eq_true] at h
  rw [h c hm] at hc; cases hc
theorem not_end {u v : List UInt8} {c : UInt8} (hv : v ≠ []) (hc : c ∉ v) (a : List UInt8) : u ++ v ≠ a ++ [c] := fun h => by
  obtain ⟨w, x, rfl⟩ : ∃ w x, v = w ++ [x] := ⟨_, _, (List.dropLast_concat_getLast hv).symm⟩
  rw [← List.append_assoc] at h
  have e := (List.append_inj' h rfl).2
  injection e with e _
  exact hc (by rw [e]; simp)
theorem guess_raw (q : S23) (hq : ptV q = true) : gsV (ptRaw q) = some (q.f0, q.f1, q.f2, q.f3) := by
  obtain ⟨hY, hk⟩ := pt_kinds hq
  unfold gsV point_guess.f ptRaw
  rw [show (⟨#[100]⟩ : ByteArray) = bA [100] from rfl, show (⟨#[99]⟩ : ByteArray) = bA [99] from rfl, show (⟨#[115]⟩ : ByteArray) = bA [115] from rfl, show (⟨#[45]⟩ : ByteArray) = bA [45] from rfl]
  obtain ⟨k, y, m, d⟩ := q
  simp only at hY hk ⊢
  have n1 := ok_not hY 100 (by decide)
  have n2 := ok_not hY 99 (by decide)
  have n3 := ok_not hY 115 (by decide)
  have n4 := ok_not hY 45 (by decide)
  have eE : ∀ s : ByteArray, s.data.toList = [] → s = e0 := fun s h => ba_eq (by rw [h]; rfl)
  have L : ∀ l : List UInt8, l.length ≤ 100 → l.length ≤ 4611686018427387904 := fun _ h => by omega
  rcases hk with ⟨rfl, ly, lm, am, ld, ad⟩ | ⟨rfl, ly, lm, am, ld⟩ | ⟨rfl, ly, lm, am, ld⟩ | ⟨rfl, ly, lm, ld⟩ | ⟨rfl, ly, lm, ld⟩ | ⟨rfl, ly, lm, ld⟩
  · rw [if_pos rfl]
    have hd : d.data.toList ≠ [] := fun h => by rw [h] at ld; cases ld
    have S : ∀ c : UInt8, okB c = false → ∀ a, y.data.toList ++ 45 :: (m.data.toList ++ 45 :: d.data.toList) ≠ a ++ [c] := fun c hc a => by
      have := not_end (u := y.data.toList ++ 45 :: (m.data.toList ++ [45])) hd (ok_not ad c hc) a
      simpa using this
    have Ln : (y.data.toList ++ 45 :: (m.data.toList ++ 45 :: d.data.toList)).length ≤ 100 := by simp only [List.length_append, List.length_cons]; omega
    rw [CutS_no _ 100 (S 100 (by decide)) (L _ Ln), Option.bind_some, CutS_no _ 99 (S 99 (by decide)) (L _ Ln), Option.bind_some, Cut_no _ 115 (by simp [n3, ok_not am 115 (by decide), ok_not ad 115 (by decide)]), Option.bind_some, Cut_yes _ _ 45 n4 (L _ Ln), Option.bind_some]
    simp only [if_true, if_false, Bool.false_eq_true]
    rw [Cut_yes _ _ 45 (ok_not am 45 (by decide)) (L _ (by simp only [List.length_append, List.length_cons]; omega))]
    simp only [Option.bind_some, if_true, bA_mk]
  · rw [if_neg (by decide), if_pos rfl]
    have hd : m.data.toList ≠ [] := fun h => by rw [h] at lm; cases lm
    have S : ∀ c : UInt8, okB c = false → ∀ a, y.data.toList ++ 45 :: m.data.toList ≠ a ++ [c] := fun c hc a => by
      have := not_end (u := y.data.toList ++ [45]) hd (ok_not am c hc) a
      simpa using this
    have Ln : (y.data.toList ++ 45 :: m.data.toList).length ≤ 100 := by simp only [List.length_append, List.length_cons]; omega
    rw [CutS_no _ 100 (S 100 (by decide)) (L _ Ln), Option.bind_some, CutS_no _ 99 (S 99 (by decide)) (L _ Ln), Option.bind_some, Cut_no _ 115 (by simp [n3, ok_not am 115 (by decide)]), Option.bind_some, Cut_yes _ _ 45 n4 (L _ Ln), Option.bind_some]
    simp only [if_true, if_false, Bool.false_eq_true]
    rw [Cut_no _ 45 (ok_not am 45 (by decide)), eE d ld]
    simp only [Option.bind_some, if_true, if_false, Bool.false_eq_true, bA_mk]
    rfl
  · rw [if_neg (by decide), if_neg (by decide), if_pos rfl]
    have hd : m.data.toList ≠ [] := fun h => by rw [h] at lm; cases lm
    have S : ∀ c : UInt8, okB c = false → ∀ a, y.data.toList ++ 115 :: m.data.toList ≠ a ++ [c] := fun c hc a => by
      have := not_end (u := y.data.toList ++ [115]) hd (ok_not am c hc) a
      simpa using this
    have Ln : (y.data.toList ++ 115 :: m.data.toList).length ≤ 100 := by simp only [List.length_append, List.length_cons]; omega
    rw [CutS_no _ 100 (S 100 (by decide)) (L _ Ln), Option.bind_some, CutS_no _ 99 (S 99 (by decide)) (L _ Ln), Option.bind_some, Cut_yes _ _ 115 n3 (L _ Ln), Option.bind_some, eE d ld]
    simp only [if_true, if_false, Bool.false_eq_true, bA_mk]
    rfl
  · rw [if_neg (by decide), if_neg (by decide), if_neg (by decide), if_neg (by decide), if_neg (by decide)]
    have hd : y.data.toList ≠ [] := fun h => by rw [h] at ly; cases ly
    have Ln : y.data.toList.length ≤ 100 := by omega
    have S : ∀ c : UInt8, okB c = false → ∀ a, y.data.toList ≠ a ++ [c] := fun c hc a => not_end (u := []) hd (ok_not hY c hc) a
    rw [CutS_no _ 100 (S 100 (by decide)) (L _ Ln), Option.bind_some, CutS_no _ 99 (S 99 (by decide)) (L _ Ln), Option.bind_some, Cut_no _ 115 n3, Option.bind_some, Cut_no _ 45 n4, eE d ld, eE m lm]
    simp only [Option.bind_some, if_true, if_false, Bool.false_eq_true, bA_mk]
    rfl
  · rw [if_neg (by decide), if_neg (by decide), if_neg (by decide), if_pos rfl]
    rw [CutS_yes _ 100 (L _ (by simp only [List.length_append, List.length_cons, List.length_nil]; omega)), eE d ld, eE m lm]
    simp only [Option.bind_some, if_true, bA_mk]
    rfl
  · rw [if_neg (by decide), if_neg (by decide), if_neg (by decide), if_neg (by decide), if_pos rfl]
    have S : ∀ a, y.data.toList ++ [99] ≠ a ++ [100] := fun a => not_end (by simp) (by decide) a
    have Ln : (y.data.toList ++ [99]).length ≤ 100 := by simp only [List.length_append, List.length_cons, List.length_nil]; omega
    rw [CutS_no _ 100 S (L _ Ln), Option.bind_some, CutS_yes _ 99 (L _ Ln), eE d ld, eE m lm]
    simp only [Option.bind_some, if_true, if_false, Bool.false_eq_true, bA_mk]
    rfl
theorem read_any (l : List UInt8) (hl : l.length ≤ 4611686018427387904) : (∃ p : S23, ptV p = true ∧ ptTxt p = l ∧ Ev (fun k => point_Read.f k (bA l)) (p.f0, p.f1, p.f2, p.f3, true)) ∨ (∀ p : S23, ptV p = true → ptTxt p ≠ l) ∧ Ev (fun k => point_Read.f k (bA l)) (0, e0, e0, e0, false) := by
  obtain ⟨p, h1, h2⟩ := guess_any l hl
  have hs := ptSane_f p
  cases hp : ptV p with
  | true =>
    rw [hp] at hs
    exact .inl ⟨p, hp, by unfold ptTxt; rw [if_pos hp]; exact h2, Ev.bnow (x := (p.f0, p.f1, p.f2, p.f3)) h1 (Ev.bind hs (Ev.ift rfl (Ev.now _)))⟩
  | false =>
    rw [hp] at hs
    refine .inr ⟨fun q hq he => ?_, Ev.bnow (x := (p.f0, p.f1, p.f2, p.f3)) h1 (Ev.bind hs (Ev.iff_ (by simp) (Ev.now _)))⟩
    unfold ptTxt at he
    rw [if_pos hq] at he
    have := guess_raw q hq
    rw [he, h1] at this
    simp only [Option.some.injEq, Prod.mk.injEq] at this
    obtain ⟨e1, e2, e3, e4⟩ := this
    have e : p = q := by cases p; cases q; simp only at e1 e2 e3 e4; rw [e1, e2, e3, e4]
    rw [e, hq] at hp; cases hp
theorem ba_app (a b : ByteArray) : (a ++ b).data.toList = a.data.toList ++ b.data.toList := by rw [ByteArray.data_append, Array.toList_append]
theorem empty_size {s : ByteArray} (h : emptyV s = true) : s.size = 0 := by
  unfold emptyV at h
  rw [ba_toList] at h
  rw [bsize, beq_iff_eq.1 h]; rfl
theorem pt_sizes {p : S23} (h : ptV p = true) : p.f1.size ≤ 4 ∧ p.f2.size ≤ 2 ∧ p.f3.size ≤ 2 := by
  unfold ptV at h
  rw [Bool.and_eq_true] at h
  obtain ⟨h1, h2⟩ := h
  have hy : p.f1.size ≤ 4 := by rw [bsize]; exact (sane_all h1).2.2
  refine ⟨hy, ?_⟩
  by_cases c0 : p.f0 = 0
  · rw [if_pos c0] at h2
    simp only [someV, Bool.and_eq_true, decide_eq_true_eq] at h2
    omega
  rw [if_neg c0] at h2
  by_cases c1 : p.f0 = 1
  · rw [if_pos c1] at h2
    simp only [someV, Bool.and_eq_true, decide_eq_true_eq] at h2
    have := empty_size h2.2.2
    omega
  rw [if_neg c1] at h2
  by_cases c2 : p.f0 = 2
  · rw [if_pos c2] at h2
    simp only [someV, Bool.and_eq_true, decide_eq_true_eq] at h2
    have := empty_size h2.2.2
    omega
  rw [if_neg c2] at h2
  have fin : ∀ n : Int, (decide ((p.f1.size : Int) = n) && (emptyV p.f2 && emptyV p.f3)) = true → p.f2.size ≤ 2 ∧ p.f3.size ≤ 2 := fun n h => by
    simp only [Bool.and_eq_true] at h
    have a := empty_size h.2.1
    have b := empty_size h.2.2
    omega
  by_cases c3 : p.f0 = 3
  · rw [if_pos c3] at h2; exact fin _ h2
  rw [if_neg c3] at h2
  by_cases c4 : p.f0 = 4
  · rw [if_pos c4] at h2; exact fin _ h2
  rw [if_neg c4] at h2
  by_cases c5 : p.f0 = 5
  · rw [if_pos c5] at h2; exact fin _ h2
  rw [if_neg c5] at h2
  cases h2
theorem ptText_f (p : S23) : Ev (fun k => point_Text.f k p.f0 p.f1 p.f2 p.f3) (bA (ptTxt p)) := by
  refine Ev.bind (ptSane_f p) ?_
  unfold ptTxt
  cases hv : ptV p with
  | false => exact Ev.iff_ (by simp) (Ev.eq (Ev.now _) rfl)
  | true =>
    obtain ⟨h1, h2, h3⟩ := pt_sizes hv
    have e1 : (⟨#[45]⟩ : ByteArray).size = 1 := rfl
    have e2 : (⟨#[115]⟩ : ByteArray).size = 1 := rfl
    have e3 : (⟨#[]⟩ : ByteArray).size = 0 := rfl
    refine Ev.ift rfl ?_
    rw [if_pos rfl]
    unfold ptRaw
    by_cases c0 : p.f0 = 0
    · refine Ev.ift c0 ?_
      rw [if_pos c0]
      refine Ev.ift (by omega) (Ev.ift (by omega) (Ev.ift (by simp only [ByteArray.size_append]; omega) (Ev.ift (by simp only [ByteArray.size_append]; omega) (Ev.eq (Ev.now _) (ba_eq ?_)))))
      simp only [ba_app, bA_data]; rfl
    refine Ev.iff_ c0 ?_
    rw [if_neg c0]
    by_cases c1 : p.f0 = 1
    · refine Ev.ift c1 ?_
      rw [if_pos c1]
      refine Ev.ift (by omega) (Ev.ift (by simp only [ByteArray.size_append]; omega) (Ev.ift (by simp only [ByteArray.size_append]; omega) (Ev.eq (Ev.now _) (ba_eq ?_))))
      simp only [ba_app, bA_data, List.append_nil]; rfl
    refine Ev.iff_ c1 ?_
    rw [if_neg c1]
    by_cases c2 : p.f0 = 2
    · refine Ev.ift c2 ?_
      rw [if_pos c2]
      refine Ev.ift (by omega) (Ev.ift (by simp only [ByteArray.size_append]; omega) (Ev.eq (Ev.now _) (ba_eq ?_)))
      simp only [ba_app, bA_data]; rfl
    refine Ev.iff_ c2 ?_
    rw [if_neg c2]
    by_cases c4 : p.f0 = 4
    · refine Ev.ift c4 ?_
      rw [if_pos c4]
      exact Ev.ift (by omega) (Ev.eq (Ev.now _) (ba_eq (by simp only [ba_app, bA_data])))
    refine Ev.iff_ c4 ?_
    rw [if_neg c4]
    by_cases c5 : p.f0 = 5
    · refine Ev.ift c5 ?_
      rw [if_pos c5]
      exact Ev.ift (by omega) (Ev.eq (Ev.now _) (ba_eq (by simp only [ba_app, bA_data])))
    refine Ev.iff_ c5 ?_
    rw [if_neg c5]
    exact Ev.ift (by omega) (Ev.eq (Ev.now _) (ba_eq (by simp only [ba_app, bA_data, List.append_nil])))
def pY (x : Int) : Int := 365 * x + x / 4 - x / 100 + x / 400
def leapY (y : Int) : Bool := decide (y % 400 = 0) || (decide (y % 4 = 0) && !decide (y % 100 = 0))
def mlen : List Int := [0, 31, 28, 31, 30, 31, 30, 31, 31, 30, 31, 30, 31]
def dim (y m : Int) : Int := if m < 1 then 0 else if m > 12 then 0 else if m = 2 then (if leapY y = true then 29 else 28) else mlen.getD m.toNat 0
def mD (k d : Int) : Int := (153 * k + 2) / 5 + d - 1
def numD (y m d : Int) : Int := if m < 3 then pY (y - 1) + mD (m + 9) d + 60 else pY y + mD (m - 3) d + 60
theorem pY_succ (x : Int) : pY (x + 1) = pY x + 365 + (if leapY (x + 1) = true then 1 else 0) := by
  unfold pY leapY
  by_cases h4 : (x + 1) % 4 = 0
  · by_cases h100 : (x + 1) % 100 = 0
    · by_cases h400 : (x + 1) % 400 = 0
      · simp [h4, h100, h400]; omega
      · simp [h4, h100, h400]; omega
    · have h400 : ¬ (x + 1) % 400 = 0 := by omega
      simp [h4, h100, h400]; omega
  · have h100 : ¬ (x + 1) % 100 = 0 := by omega
    have h400 : ¬ (x + 1) % 400 = 0 := by omega
    simp [h4, h100, h400]; omega
def mlenM : List Int := [31, 30, 31, 30, 31, 31, 30, 31, 30, 31, 31]
def lenM (x k : Int) : Int := if k = 11 then (if leapY (x + 1) = true then 29 else 28) else mlenM.getD k.toNat 0
theorem m_cases {m : Int} (h1 : 1 ≤ m) (h2 : m ≤ 12) : m = 1 ∨ m = 2 ∨ m = 3 ∨ m = 4 ∨ m = 5 ∨ m = 6 ∨ m = 7 ∨ m = 8 ∨ m = 9 ∨ m = 10 ∨ m = 11 ∨ m = 12 := by omega
theorem dim_hi {y m : Int} (h1 : 3 ≤ m) (h2 : m ≤ 12) : dim y m = lenM y (m - 3) := by
  rcases m_cases (by omega) h2 with rfl | rfl | rfl | rfl | rfl | rfl | rfl | rfl | rfl | rfl | rfl | rfl <;> first | omega | rfl
theorem dim_lo {y m : Int} (h1 : 1 ≤ m) (h2 : m ≤ 2) : dim y m = lenM (y - 1) (m + 9) := by
  have e : y - 1 + 1 = y := by omega
  rcases m_cases h1 (by omega) with rfl | rfl | rfl | rfl | rfl | rfl | rfl | rfl | rfl | rfl | rfl | rfl <;> first | omega | skip
  · unfold lenM dim; rw [e]; rfl
  · unfold lenM dim; rw [e]; rfl
theorem dim_out {y m : Int} (h : m < 1 ∨ 12 < m) : dim y m = 0 := by
  unfold dim
  rcases h with h | h
  · rw [if_pos h]
  · rw [if_neg (by omega), if_pos h]
def yl (x : Int) : Int := 365 + (if leapY (x + 1) = true then 1 else 0)
theorem mD_back {x k d : Int} (h0 : 0 ≤ k) (h1 : k ≤ 11) (hd : 1 ≤ d) (hl : d ≤ lenM x k) : 0 ≤ mD k d ∧ mD k d < yl x ∧ (5 * mD k d + 2) / 153 = k := by
  unfold mD yl
  unfold lenM at hl
  have : k = 0 ∨ k = 1 ∨ k = 2 ∨ k = 3 ∨ k = 4 ∨ k = 5 ∨ k = 6 ∨ k = 7 ∨ k = 8 ∨ k = 9 ∨ k = 10 ∨ k = 11 := by omega
  rcases this with rfl | rfl | rfl | rfl | rfl | rfl | rfl | rfl | rfl | rfl | rfl | rfl <;> (cases hL : leapY (x + 1)) <;> simp [mlenM, hL] at hl ⊢ <;> omega
theorem mD_any {x u : Int} (h0 : 0 ≤ u) (h1 : u < yl x) : 0 ≤ (5 * u + 2) / 153 ∧ (5 * u + 2) / 153 ≤ 11 ∧ 1 ≤ u - (153 * ((5 * u + 2) / 153) + 2) / 5 + 1 ∧ u - (153 * ((5 * u + 2) / 153) + 2) / 5 + 1 ≤ lenM x ((5 * u + 2) / 153) ∧ (306 ≤ u ↔ 10 ≤ (5 * u + 2) / 153) := by
  unfold yl at h1
  have hb : u < 366 := by cases hL : leapY (x + 1) <;> simp [hL] at h1 <;> omega
  obtain ⟨k, hk⟩ : ∃ k, k = (5 * u + 2) / 153 := ⟨_, rfl⟩
  rw [← hk]
  have : k = 0 ∨ k = 1 ∨ k = 2 ∨ k = 3 ∨ k = 4 ∨ k = 5 ∨ k = 6 ∨ k = 7 ∨ k = 8 ∨ k = 9 ∨ k = 10 ∨ k = 11 := by omega
  unfold lenM
  rcases this with rfl | rfl | rfl | rfl | rfl | rfl | rfl | rfl | rfl | rfl | rfl | rfl <;> (cases hL : leapY (x + 1)) <;> simp [mlenM, hL] at h1 ⊢ <;> omega
def gY (i : Int) : Int := i - i / 1460 + i / 36524 - i / 146096
theorem gY_mono1 {i : Int} (h0 : 0 ≤ i) (h1 : i < 146096) : gY i ≤ gY (i + 1) := by unfold gY; omega
theorem gY_mono : ∀ (n : Nat) (i : Int), 0 ≤ i → i + n ≤ 146096 → gY i ≤ gY (i + n)
  | 0, i, _, _ => by simp
  | n + 1, i, h0, h1 => by
    have a := gY_mono n i h0 (by omega)
    have b := gY_mono1 (i := i + n) (by omega) (by omega)
    have e : i + ((n + 1 : Nat) : Int) = i + n + 1 := by omega
    rw [e]; omega
def sY (f : Int) : Int := 365 * f + f / 4 - f / 100
theorem gY_ends : ∀ f : Nat, f < 400 → (f : Int) ≤ gY (sY f) / 365 ∧ gY ((if f = 399 then 146097 else sY (f + 1)) - 1) / 365 ≤ f ∧ 0 ≤ sY f ∧ (if f = 399 then 146097 else sY (f + 1)) ≤ 146097 := by decide +kernel
theorem gY_is {i f : Int} (h0 : 0 ≤ f) (h1 : f < 400) (h2 : sY f ≤ i) (h3 : i < if f = 399 then 146097 else sY (f + 1)) : gY i / 365 = f := by
  have h := gY_ends f.toNat (by omega)
  have e : ((f.toNat : Nat) : Int) = f := by omega
  have e2 : (if f.toNat = 399 then (146097 : Int) else sY (f + 1)) = if f = 399 then 146097 else sY (f + 1) := by
    by_cases hf : f = 399
    · rw [if_pos hf, if_pos (by omega)]
    · rw [if_neg hf, if_neg (by omega)]
  rw [e, e2] at h
  obtain ⟨a, b, c, d⟩ := h
  have m1 := gY_mono (i - sY f).toNat (sY f) c (by omega)
  have m2 := gY_mono ((if f = 399 then (146097 : Int) else sY (f + 1)) - 1 - i).toNat i (by omega) (by omega)
  rw [show sY f + ((i - sY f).toNat : Int) = i by omega] at m1
  rw [show i + (((if f = 399 then (146097 : Int) else sY (f + 1)) - 1 - i).toNat : Int) = (if f = 399 then 146097 else sY (f + 1)) - 1 by omega] at m2
  omega
theorem pY_era (e f : Int) (h0 : 0 ≤ f) (h1 : f < 400) : pY (400 * e + f) = 146097 * e + sY f := by unfold pY sY; omega
theorem pY_next (e f : Int) (h0 : 0 ≤ f) (h1 : f < 400) : pY (400 * e + f + 1) = 146097 * e + if f = 399 then 146097 else sY (f + 1) := by
  by_cases hf : f = 399
  · subst hf; rw [if_pos rfl]; unfold pY; omega
  · rw [if_neg hf]; unfold pY sY; omega
def yD (n : Int) : Int := 400 * (n / 146097) + gY (n % 146097) / 365
theorem yD_is {x n : Int} (h0 : pY x ≤ n) (h1 : n < pY (x + 1)) : yD n = x := by
  obtain ⟨e, he⟩ : ∃ e, e = x / 400 := ⟨_, rfl⟩
  obtain ⟨f, hf⟩ : ∃ f, f = x % 400 := ⟨_, rfl⟩
  have hx : x = 400 * e + f := by omega
  have f0 : 0 ≤ f := by omega
  have f1 : f < 400 := by omega
  have hb := gY_ends f.toNat (by omega)
  have e1 : ((f.toNat : Nat) : Int) = f := by omega
  have e2 : (if f.toNat = 399 then (146097 : Int) else sY (f + 1)) = if f = 399 then 146097 else sY (f + 1) := by
    by_cases hf : f = 399
    · rw [if_pos hf, if_pos (by omega)]
    · rw [if_neg hf, if_neg (by omega)]
  rw [e1, e2] at hb
  rw [hx, pY_era e f f0 f1] at h0
  rw [hx, pY_next e f f0 f1] at h1
  obtain ⟨_, _, c, d⟩ := hb
  have hd : n / 146097 = e := by omega
  have hm : n % 146097 = n - 146097 * e := by omega
  unfold yD
  rw [hd, hm, gY_is f0 f1 (by omega) (by omega)]
  omega
theorem pY_step (x : Int) : pY (x + 1) = pY x + yl x := by rw [pY_succ]; unfold yl; omega
theorem yl_pos (x : Int) : 365 ≤ yl x ∧ yl x ≤ 366 := by unfold yl; cases leapY (x + 1) <;> simp
theorem pY_le : ∀ (n : Nat) (x : Int), pY x ≤ pY (x + n)
  | 0, x => by simp
  | n + 1, x => by
    have a := pY_le n x
    have b := pY_step (x + n)
    have c := yl_pos (x + n)
    have e : x + ((n + 1 : Nat) : Int) = x + n + 1 := by omega
    rw [e]; omega
theorem pY_mono {x y : Int} (h : x ≤ y) : pY x ≤ pY y := by
  have := pY_le (y - x).toNat x
  rwa [show x + ((y - x).toNat : Int) = y by omega] at this
theorem pY_any (n : Int) : pY (yD n) ≤ n ∧ n < pY (yD n + 1) := by
  obtain ⟨e, he⟩ : ∃ e, e = n / 146097 := ⟨_, rfl⟩
  have key : ∀ m : Nat, m ≤ 400 → n < pY (400 * e + m) → ∃ x, pY x ≤ n ∧ n < pY (x + 1) := fun m => by
    induction m with
    | zero =>
      intro _ h
      have : pY (400 * e + ((0 : Nat) : Int)) = 146097 * e := by have := pY_era e 0 (by omega) (by omega); simpa [sY] using this
      omega
    | succ m ih =>
      intro hm h
      by_cases h2 : n < pY (400 * e + m)
      · exact ih (by omega) h2
      · exact ⟨400 * e + m, by omega, by rw [show 400 * e + (m : Int) + 1 = 400 * e + ((m + 1 : Nat) : Int) by omega]; exact h⟩
  obtain ⟨x, h0, h1⟩ := key 400 (by omega) (by
    have := pY_next e 399 (by omega) (by omega)
    rw [if_pos rfl] at this
    rw [show 400 * e + ((400 : Nat) : Int) = 400 * e + 399 + 1 by omega, this]; omega)
  rw [yD_is h0 h1]; exact ⟨h0, h1⟩
def dateD (n : Int) : Int × Int × Int :=
  let x := yD (n - 60); let u := n - 60 - pY x; let k := (5 * u + 2) / 153; let d := u - (153 * k + 2) / 5 + 1
  if 306 ≤ u then (x + 1, k - 9, d) else (x, k + 3, d)
theorem date_num (n : Int) : numD (dateD n).1 (dateD n).2.1 (dateD n).2.2 = n ∧ 1 ≤ (dateD n).2.1 ∧ (dateD n).2.1 ≤ 12 ∧ 1 ≤ (dateD n).2.2 ∧ (dateD n).2.2 ≤ dim (dateD n).1 (dateD n).2.1 := by
  obtain ⟨h0, h1⟩ := pY_any (n - 60)
  unfold dateD
  simp only
  obtain ⟨x, hx⟩ : ∃ x, x = yD (n - 60) := ⟨_, rfl⟩
  rw [← hx] at h0 h1 ⊢
  rw [pY_step] at h1
  obtain ⟨u, hu⟩ : ∃ u, u = n - 60 - pY x := ⟨_, rfl⟩
  rw [← hu]
  obtain ⟨a, b, c, d, e⟩ := mD_any (x := x) (u := u) (by omega) (by omega)
  obtain ⟨k, hk⟩ : ∃ k, k = (5 * u + 2) / 153 := ⟨_, rfl⟩
  rw [← hk] at a b c d e ⊢
  by_cases h : 306 ≤ u
  · rw [if_pos h]
    have hk10 := e.1 h
    simp only
    rw [dim_lo (y := x + 1) (m := k - 9) (by omega) (by omega), show x + 1 - 1 = x by omega, show k - 9 + 9 = k by omega]
    refine ⟨?_, by omega, by omega, c, d⟩
    unfold numD mD
    rw [if_pos (by omega), show x + 1 - 1 = x by omega, show k - 9 + 9 = k by omega]
    omega
  · rw [if_neg h]
    have hk10 : ¬ 10 ≤ k := fun h' => h (e.2 h')
    simp only
    rw [dim_hi (y := x) (m := k + 3) (by omega) (by omega), show k + 3 - 3 = k by omega]
    refine ⟨?_, by omega, by omega, c, d⟩
    unfold numD mD
    rw [if_neg (by omega), show k + 3 - 3 = k by omega]
    omega
theorem num_date {y m d : Int} (h1 : 1 ≤ m) (h2 : m ≤ 12) (h3 : 1 ≤ d) (h4 : d ≤ dim y m) : dateD (numD y m d) = (y, m, d) := by
  by_cases hm : m < 3
  · have hd := h4; rw [dim_lo h1 (by omega)] at hd
    obtain ⟨a, b, c⟩ := mD_back (x := y - 1) (k := m + 9) (by omega) (by omega) h3 hd
    have e : numD y m d - 60 = pY (y - 1) + mD (m + 9) d := by unfold numD; rw [if_pos hm]; omega
    have hy : yD (numD y m d - 60) = y - 1 := by rw [e]; refine yD_is (by omega) ?_; rw [pY_step]; omega
    unfold dateD
    simp only
    rw [hy, show numD y m d - 60 - pY (y - 1) = mD (m + 9) d by omega, c, if_pos (by unfold mD; omega)]
    have e1 : y - 1 + 1 = y := by omega
    have e2 : m + 9 - 9 = m := by omega
    have e3 : mD (m + 9) d - (153 * (m + 9) + 2) / 5 + 1 = d := by unfold mD; omega
    rw [e1, e2, e3]
  · have hd := h4; rw [dim_hi (by omega) h2] at hd
    obtain ⟨a, b, c⟩ := mD_back (x := y) (k := m - 3) (by omega) (by omega) h3 hd
    have e : numD y m d - 60 = pY y + mD (m - 3) d := by unfold numD; rw [if_neg hm]; omega
    have hy : yD (numD y m d - 60) = y := by rw [e]; refine yD_is (by omega) ?_; rw [pY_step]; omega
    have hu : ¬ 306 ≤ mD (m - 3) d := by
      have : mlenM.getD (m - 3).toNat 0 ≤ 31 := by
        have : m = 3 ∨ m = 4 ∨ m = 5 ∨ m = 6 ∨ m = 7 ∨ m = 8 ∨ m = 9 ∨ m = 10 ∨ m = 11 ∨ m = 12 := by omega
        rcases this with rfl | rfl | rfl | rfl | rfl | rfl | rfl | rfl | rfl | rfl <;> decide
      unfold lenM at hd
      rw [if_neg (by omega)] at hd
      unfold mD
      have : m = 3 ∨ m = 4 ∨ m = 5 ∨ m = 6 ∨ m = 7 ∨ m = 8 ∨ m = 9 ∨ m = 10 ∨ m = 11 ∨ m = 12 := by omega
      rcases this with rfl | rfl | rfl | rfl | rfl | rfl | rfl | rfl | rfl | rfl <;> simp [mlenM] at hd ⊢ <;> omega
    unfold dateD
    simp only
    rw [hy, show numD y m d - 60 - pY y = mD (m - 3) d by omega, c, if_neg hu]
    have e2 : m - 3 + 3 = m := by omega
    have e3 : mD (m - 3) d - (153 * (m - 3) + 2) / 5 + 1 = d := by unfold mD; omega
    rw [e2, e3]
theorem num_year {y m d : Int} (h1 : 1 ≤ m) (h2 : m ≤ 12) (h3 : 1 ≤ d) (h4 : d ≤ dim y m) : numD y 1 1 ≤ numD y m d ∧ numD y m d < numD (y + 1) 1 1 := by
  have e1 : numD y 1 1 = pY (y - 1) + 366 := by unfold numD mD; rw [if_pos (by omega)]; omega
  have e2 : numD (y + 1) 1 1 = pY y + 366 := by unfold numD mD; rw [if_pos (by omega), show y + 1 - 1 = y by omega]; omega
  have s := pY_step (y - 1)
  rw [show y - 1 + 1 = y by omega] at s
  have l := yl_pos (y - 1)
  rw [e1, e2]
  by_cases hm : m < 3
  · have hd := h4; rw [dim_lo h1 (by omega)] at hd
    obtain ⟨a, b, c⟩ := mD_back (x := y - 1) (k := m + 9) (by omega) (by omega) h3 hd
    have e : numD y m d = pY (y - 1) + mD (m + 9) d + 60 := by unfold numD; rw [if_pos hm]
    rw [e]
    have : 306 ≤ mD (m + 9) d := by unfold mD; omega
    omega
  · have hd := h4; rw [dim_hi (by omega) h2] at hd
    obtain ⟨a, b, c⟩ := mD_back (x := y) (k := m - 3) (by omega) (by omega) h3 hd
    have e : numD y m d = pY y + mD (m - 3) d + 60 := by unfold numD; rw [if_neg hm]
    have hu : mD (m - 3) d < 306 := by
      unfold lenM at hd
      rw [if_neg (by omega)] at hd
      unfold mD
      have : m = 3 ∨ m = 4 ∨ m = 5 ∨ m = 6 ∨ m = 7 ∨ m = 8 ∨ m = 9 ∨ m = 10 ∨ m = 11 ∨ m = 12 := by omega
      rcases this with rfl | rfl | rfl | rfl | rfl | rfl | rfl | rfl | rfl | rfl <;> simp [mlenM] at hd ⊢ <;> omega
    rw [e]
    have := yl_pos y
    omega
theorem numY_mono {x y : Int} (h : x ≤ y) : numD x 1 1 ≤ numD y 1 1 := by
  have a := pY_mono (x := x - 1) (y := y - 1) (by omega)
  unfold numD; rw [if_pos (by omega), if_pos (by omega)]; omega
theorem numD_0 : numD 0 1 1 = 0 := by decide
theorem numD_end : numD 10000 1 1 = 3652425 := by decide
theorem num_add (y m d : Int) : numD y m 1 + d - 1 = numD y m d := by unfold numD mD; split <;> omega
theorem num_range {y m d : Int} (hy : 0 ≤ y) (hy2 : y ≤ 9999) (h1 : 1 ≤ m) (h2 : m ≤ 12) (h3 : 1 ≤ d) (h4 : d ≤ dim y m) : 0 ≤ numD y m d ∧ numD y m d ≤ 3652424 := by
  obtain ⟨l, u⟩ := num_year h1 h2 h3 h4
  have a := numY_mono (x := 0) (y := y) hy
  have b := numY_mono (x := y + 1) (y := 10000) (by omega)
  rw [numD_0] at a; rw [numD_end] at b
  omega
theorem td_ {a b : Int} (ha : 0 ≤ a) (hb : 0 ≤ b) : Int.tdiv a b = a / b := Int.tdiv_eq_ediv_of_nonneg ha
theorem tm_ {a b : Int} (ha : 0 ≤ a) : Int.tmod a b = a % b := Int.tmod_eq_emod_of_nonneg ha
theorem Mod_f {a b : Int} (ha : 0 ≤ a) (hb : 0 < b) : ints_Mod.f a b = some (a % b) := by
  unfold ints_Mod.f
  have h := Int.emod_nonneg a (show b ≠ 0 by omega)
  rw [if_neg (by omega), if_neg (by omega), tm_ ha, if_neg (by omega)]
theorem Mod_n {a b : Int} (h0 : a < 0) (h1 : -b < a) (h2 : b < 4611686018427387904) : ints_Mod.f a b = some (a % b) := by
  unfold ints_Mod.f
  have e : Int.tmod a b = a := by
    rw [show a = -(-a) by omega, Int.neg_tmod, tm_ (by omega), Int.emod_eq_of_lt (by omega) (by omega)]
  rw [if_neg (by omega), if_neg (by omega), e, if_pos h0, w64 (by omega) (by omega)]
  have : a % b = a + b := by
    rw [show a = (a + b) + b * (-1) by omega, Int.add_mul_emod_self_left, Int.emod_eq_of_lt (by omega) (by omega)]; omega
  rw [this]
theorem Floor_n {a b : Int} (h0 : a < 0) (h1 : -b < a) (h2 : b < 4611686018427387904) : ints_Floor.f a b = some (a / b) := by
  unfold ints_Floor.f
  have e : Int.tdiv (a + 1) b = 0 := by
    rw [show a + 1 = -(-(a + 1)) by omega, Int.neg_tdiv, td_ (by omega) (by omega), Int.ediv_eq_zero_of_lt (by omega) (by omega)]; rfl
  have : a / b = -1 := by
    rw [show a = (a + b) + b * (-1) by omega, Int.add_mul_ediv_left _ _ (by omega), Int.ediv_eq_zero_of_lt (by omega) (by omega)]; omega
  rw [if_neg (by omega), if_pos h0, if_neg (by omega), w64 (x := a + 1) (by omega) (by omega), e, this, w64 (x := 0) (by omega) (by omega), w64 (by omega) (by omega)]; rfl
theorem Floor_f {a b : Int} (ha : 0 ≤ a) (hb : 0 < b) (h2 : a < 4611686018427387904) : ints_Floor.f a b = some (a / b) := by
  unfold ints_Floor.f
  have h3 := Int.ediv_le_self b ha
  have h4 := Int.ediv_nonneg ha (show 0 ≤ b by omega)
  rw [if_neg (by omega), if_neg (by omega), if_neg (by omega), td_ ha (by omega), w64 (by omega) (by omega)]
theorem Leap_f {y : Int} (h : 0 ≤ y) : civil_Leap.f y = some (leapY y) := by
  unfold civil_Leap.f leapY
  rw [Mod_f h (by omega), Mod_f h (by omega), Mod_f h (by omega)]
  simp only [Option.bind_some]
  by_cases h1 : y % 400 = 0
  · rw [if_pos h1, decide_eq_true h1]; rfl
  · rw [if_neg h1, decide_eq_false h1]
    by_cases h2 : y % 4 = 0
    · rw [if_pos h2, decide_eq_true h2, Bool.false_or, Bool.true_and]
      by_cases h3 : y % 100 = 0
      · rw [decide_eq_true h3, h3]; rfl
      · rw [decide_eq_false h3]; simp [h3]
    · rw [if_neg h2, decide_eq_false h2]; rfl
theorem Days_f {y m : Int} (h : 0 ≤ y) : civil_Days.f y m = some (dim y m) := by
  unfold civil_Days.f dim
  by_cases h1 : m < 1
  · rw [if_pos h1, if_pos h1]
  · rw [if_neg h1, if_neg h1]
    by_cases h2 : m > 12
    · rw [if_pos h2, if_pos h2]
    · rw [if_neg h2, if_neg h2]
      by_cases h3 : m = 2
      · rw [if_pos h3, if_pos h3, Leap_f h]
        cases leapY y <;> rfl
      · rw [if_neg h3, if_neg h3]; rfl
theorem dim_pos {y m : Int} (h1 : 1 ≤ m) (h2 : m ≤ 12) : 28 ≤ dim y m ∧ dim y m ≤ 31 := by
  rcases m_cases h1 h2 with rfl | rfl | rfl | rfl | rfl | rfl | rfl | rfl | rfl | rfl | rfl | rfl <;> unfold dim mlen <;> cases leapY y <;> simp
theorem Number_f {y m : Int} (h0 : 0 ≤ y) (h9 : y ≤ 9999) (h1 : 1 ≤ m) (h2 : m ≤ 12) : civil_Number.f y m 1 = some (numD y m 1, true) := by
  have hv : civil_Valid.f y m 1 = some true := by
    unfold civil_Valid.f
    have := (dim_pos (y := y) h1 h2).1
    rw [if_pos (by omega), if_pos (by omega), if_pos (by omega), Days_f h0, Option.bind_some, decide_eq_true (by omega)]
  unfold civil_Number.f
  rw [hv, Option.bind_some, if_pos rfl]
  by_cases hm : m < 3
  · rw [if_pos hm, w64 (x := y - 1) (by omega) (by omega)]
    have e1 : ints_Floor.f (y - 1) 400 = some ((y - 1) / 400) := by
      by_cases hy : y - 1 < 0
      · exact Floor_n hy (by omega) (by omega)
      · exact Floor_f (by omega) (by omega) (by omega)
    have e2 : ints_Mod.f (y - 1) 400 = some ((y - 1) % 400) := by
      by_cases hy : y - 1 < 0
      · exact Mod_n hy (by omega) (by omega)
      · exact Mod_f (by omega) (by omega)
    rw [e1, e2]
    simp only [Option.bind_some]
    obtain ⟨e, he⟩ : ∃ e, e = (y - 1) / 400 := ⟨_, rfl⟩
    obtain ⟨f, hf⟩ : ∃ f, f = (y - 1) % 400 := ⟨_, rfl⟩
    rw [← he, ← hf]
    have b1 : -1 ≤ e ∧ e ≤ 24 ∧ 0 ≤ f ∧ f < 400 ∧ y - 1 = 400 * e + f := by omega
    clear he hf e1 e2 hv
    simp (disch := omega) only [td_, w64]
    unfold numD pY mD
    rw [if_pos hm, b1.2.2.2.2]
    refine congrArg some (Prod.ext_iff.2 ⟨?_, rfl⟩)
    simp only
    omega
  · rw [if_neg hm, Floor_f h0 (by omega) (by omega), Mod_f h0 (by omega)]
    simp only [Option.bind_some]
    obtain ⟨e, he⟩ : ∃ e, e = y / 400 := ⟨_, rfl⟩
    obtain ⟨f, hf⟩ : ∃ f, f = y % 400 := ⟨_, rfl⟩
    rw [← he, ← hf]
    have b1 : 0 ≤ e ∧ e ≤ 24 ∧ 0 ≤ f ∧ f < 400 ∧ y = 400 * e + f := by omega
    clear he hf hv
    simp (disch := omega) only [td_, w64]
    unfold numD pY mD
    rw [if_neg hm, b1.2.2.2.2]
    refine congrArg some (Prod.ext_iff.2 ⟨?_, rfl⟩)
    simp only
    omega
theorem First3 {y : Int} (h0 : 0 ≤ y) (h9 : y ≤ 9999) : unit_First.f 3 y = some (numD y 1 1, true) := by
  unfold unit_First.f
  rw [if_pos (.inr (.inr (.inr (.inl rfl)))), if_neg (by omega), if_neg (show ¬ kcount (3 : Int).toNat ≤ y by rw [show kcount (3 : Int).toNat = 10000 from rfl]; omega)]
  show (unit_begins.f 3 y).bind _ = _
  have e : unit_begins.f 3 y = some (numD y 1 1) := by
    show unit_span_begins.f 12 0 10000 y = _
    unfold unit_span_begins.f
    rw [w64 (x := 12 * y) (by omega) (by omega), w64 (x := 0 + 12 * y) (by omega) (by omega), td_ (by omega) (by omega), tm_ (by omega),
      show (0 + 12 * y) / 12 = y by omega, show (0 + 12 * y) % 12 + 1 = 1 by omega, w64 (x := y) (by omega) (by omega), w64 (x := 1) (by omega) (by omega), Number_f h0 h9 (by omega) (by omega)]
    rfl
  rw [e]; rfl
theorem Last3 {y : Int} (h0 : 0 ≤ y) (h9 : y ≤ 9999) : unit_Last.f 3 y = some (numD (y + 1) 1 1 - 1, true) := by
  unfold unit_Last.f
  rw [if_pos (.inr (.inr (.inr (.inl rfl)))), if_neg (by omega), if_neg (show ¬ kcount (3 : Int).toNat ≤ y by rw [show kcount (3 : Int).toNat = 10000 from rfl]; omega), show wrap64 (kcount (3 : Int).toNat - 1) = 9999 from w64 (x := 10000 - 1) (by omega) (by omega)]
  by_cases h : y = 9999
  · rw [if_pos h, h, show (9999 : Int) + 1 = 10000 by omega, numD_end]; rfl
  · rw [if_neg h, w64 (x := y + 1) (by omega) (by omega)]
    show (unit_begins.f 3 (y + 1)).bind _ = _
    have e : unit_begins.f 3 (y + 1) = some (numD (y + 1) 1 1) := by
      show unit_span_begins.f 12 0 10000 (y + 1) = _
      unfold unit_span_begins.f
      rw [w64 (x := 12 * (y + 1)) (by omega) (by omega), w64 (x := 0 + 12 * (y + 1)) (by omega) (by omega), td_ (by omega) (by omega), tm_ (by omega),
        show (0 + 12 * (y + 1)) / 12 = y + 1 by omega, show (0 + 12 * (y + 1)) % 12 + 1 = 1 by omega, w64 (x := y + 1) (by omega) (by omega), w64 (x := 1) (by omega) (by omega), Number_f (by omega) (by omega) (by omega) (by omega)]
      rfl
    rw [e]
    have r := num_range (y := y + 1) (m := 1) (d := 1) (by omega) (by omega) (by omega) (by omega) (by omega) (by have := (dim_pos (y := y + 1) (m := 1) (by omega) (by omega)).1; omega)
    show some (wrap64 (numD (y + 1) 1 1 - 1), true) = _
    rw [w64 (by omega) (by omega)]
end Go.Proofs.YthppfagfmjchoaaGreatDoor.A