/- Walks of functions, and plain facts about what they compute. No conditions. -/
import Derived.Test.YthppfagfmjchoaaDoorPb3
set_option linter.unusedVariables false
set_option linter.unusedSimpArgs false
namespace Go.Proofs.YthppfagfmjchoaaDoor.A
open Go.RowKit Go.Proofs.YthppfagfmjchoaaDoorW.PrintWords Go.Proofs.YthppfagfmjchoaaDoorW.PrintLast Go.Proofs.YthppfagfmjchoaaDoorW.PrintMore
attribute [local go_sem] max2_int min2_int max_two min_two max_three min_three max_four min_four
set_option maxHeartbeats 8000000 in
set_option maxRecDepth 100000 in
theorem sets_Wide.calls (k : Nat) (A0 : Option Addr) (c0 : Nat) (l0 : List (S42)) (r : Bool) (w : World) (hr0 : Kd.C k42 w A0 l0.length l0) (hc0 : l0.length ≤ c0) (h : sets_Wide.f k l0 = some r) :
  Calls Tryd.prog 47 #[.slice A0 l0.length c0] w fun e w' => e = .returned (.bool r) ∧ Below w.heap.size w w' := by
 have HR0 := A_ hr0; have HC0 := A_ hc0; clear hr0 hc0; have HB := A_ (Below.refl w.heap.size w); have H : ((sets_known.f k l0).bind fun t123 => (some (decide ((t123.length : Int) > 400)))) = some r := h; clear h; obtain ⟨t123, A2, H⟩ := bi_ H; obtain rfl := Option.some.inj H; go_enter Tryd.func47, Tryd.ntmps47; go_wp2_with (first | ((with_reducible refine gC 35 ?_); refine goesL_ (some 4) rfl rfl Tryd.func35 (by kernel_rfl) rfl #[.slice A0 l0.length c0] rfl ml_ ?_; (with_reducible refine (sets_known.calls k (fun k_ => k_ < w.heap.size) _ _ l0 t123 _ ?side1 A2.out).mono ?_); (case side1 => exact Kd.V_mk HC0.out (Kd.F_below (Kd.C_F k42_heap HR0.out) hs_)); rintro e w3 ⟨v124, rfl, ho0, hb⟩; refine ⟨_, rfl, ?_⟩; have HO125 := A_ (Kd.V_lower (Kd.V_mono (ok' := fun k_ => True) ho0 (fun k_ hk_ => trivial)) (below_size hs_)); replace HB := bs_ hb; (try clear hb); (try clear ho0); obtain ⟨Ao4, co4, eo4⟩ := Kd.V_slice HO125.out; subst eo4)); go_ret; exact ⟨re_, hs_⟩
def runs_known.f (k : Nat) (l0 : List (S42)) : Option ((List (S42))) := (runs_Sane.f k l0).bind fun t110 => (if t110 = true then (some l0) else ((runs_Make.f l0).bind fun t111 => (some t111)))
theorem runs_known.mono : ∀ a0 k, LeO (runs_known.f k a0) (runs_known.f (k + 1) a0) := by
  intro a0 k
  unfold runs_known.f
  repeat' first
      | (with_reducible exact runs_Sane.mono _ _)
      | (with_reducible exact LeO.refl _)
      | (with_reducible exact LeO.none _)
      | (with_reducible refine LeO.ite ?_ ?_)
      | (with_reducible refine LeO.bind ?_ (fun _ => ?_))
      | exact runs_Sane.mono _ _
      | exact LeO.none _
      | refine LeO.ite ?_ ?_
      | refine LeO.bind ?_ (fun _ => ?_)
def runs_Count.l0 : Nat → Int → List (S42) → Int → Int → Option (Int)
  | 0, _, _, _, _ => none
  | k + 1, x3, x7, x8, x9 => if x9 < x8 then (if 0 ≤ x9 then (if x9 < (x7.length : Int) then (runs_Count.l0 k (wrap64 (x3 + (wrap64 ((wrap64 (((rd_T42 x7 x9).f1) - ((rd_T42 x7 x9).f0))) + 1)))) x7 x8 (wrap64 (x9 + 1))) else (none)) else (none)) else (some x3)
def runs_Count.f (k : Nat) (l0 : List (S42)) : Option (Int) := (runs_known.f k l0).bind fun t114 => (runs_Count.l0 k 0 t114 (t114.length : Int) 0)
theorem runs_Count.mono_l : ∀ k, (∀ y0 y1 y2 y3, LeO (runs_Count.l0 k y0 y1 y2 y3) (runs_Count.l0 (k + 1) y0 y1 y2 y3))
  | 0 => fun _ _ _ _ r h => by simp [runs_Count.l0] at h
  | k + 1 => by
    have ih0 := runs_Count.mono_l k
    · intro y0 y1 y2 y3
      unfold runs_Count.l0
      repeat' first
      | (with_reducible exact ih0 _ _ _ _)
      | (with_reducible exact runs_known.mono _ _)
      | (with_reducible exact LeO.refl _)
      | (with_reducible exact LeO.none _)
      | (with_reducible refine LeO.ite ?_ ?_)
      | (with_reducible refine LeO.bind ?_ (fun _ => ?_))
      | exact ih0 _ _ _ _
      | exact runs_known.mono _ _
      | exact LeO.none _
      | refine LeO.ite ?_ ?_
      | refine LeO.bind ?_ (fun _ => ?_)
theorem runs_Count.mono : ∀ a0 k, LeO (runs_Count.f k a0) (runs_Count.f (k + 1) a0) := by
  intro a0 k
  have ih0 := runs_Count.mono_l k
  unfold runs_Count.f
  repeat' first
      | (with_reducible exact ih0 _ _ _ _)
      | (with_reducible exact runs_known.mono _ _)
      | (with_reducible exact LeO.refl _)
      | (with_reducible exact LeO.none _)
      | (with_reducible refine LeO.ite ?_ ?_)
      | (with_reducible refine LeO.bind ?_ (fun _ => ?_))
      | exact ih0 _ _ _ _
      | exact runs_known.mono _ _
      | exact LeO.none _
      | refine LeO.ite ?_ ?_
      | refine LeO.bind ?_ (fun _ => ?_)
set_option maxHeartbeats 8000000 in
set_option maxRecDepth 100000 in
theorem runs_known.calls (k : Nat) (P0_ : Nat → Prop) (A0 : Option Addr) (c0 : Nat) (l0 r : List (S42)) (w : World) (hs0 : Kd.V k42 42 w w.heap.size (fun k_ => P0_ k_) (.slice A0 l0.length c0) l0) (h : runs_known.f k l0 = some r) :
  Calls Tryd.prog 37 #[.slice A0 l0.length c0] w fun e w' => ∃ v0_ : Value, e = .returned (v0_) ∧ Kd.V k42 42 w' w.heap.size (fun k_ => (P0_ k_ ∨ w.heap.size ≤ k_)) v0_ r ∧ Below w.heap.size w w' := by
 have HO0 := A_ (show Kd.V k42 42 w w.heap.size (fun k_ => (P0_ k_ ∨ w.heap.size ≤ k_)) (.slice A0 l0.length c0) l0 from Kd.V_mono hs0 (fun k_ hk => .inl hk)); have HB := A_ (Below.refl w.heap.size w); have H : ((runs_Sane.f k l0).bind fun t110 => (if t110 = true then (some l0) else ((runs_Make.f l0).bind fun t111 => (some t111)))) = some r := h; clear h; obtain ⟨t110, A2, H⟩ := bi_ H
 by_cases c3 : t110 = true
 ·subst c3
  replace H := iP_ H; obtain rfl := Option.some.inj H; go_enter Tryd.func37, Tryd.ntmps37; go_wp2_with (first | ((with_reducible refine gC 24 ?_); refine goesL_ (some 4) rfl rfl Tryd.func24 (by kernel_rfl) rfl #[.slice A0 l0.length c0] rfl ml_ ?_; (with_reducible refine (runs_Sane.calls k _ _ l0 true _ ?side1 ?side2 A2.out).mono ?_); (case side1 => repeat (first | exact (Kd.V_reads' HO0.out).2.2 | (with_reducible refine Kd.C_alloc ?_ _) | (with_reducible refine Kd.C_drewN ?_ _) | (with_reducible refine Kd.C_drew ?_))); (case side2 => exact (Kd.V_reads' HO0.out).2.1); rintro e w4 ⟨rfl, hb⟩; refine ⟨_, rfl, ?_⟩; replace HO0 := bV_ HO0 hb; replace HB := bs_ hb; (try clear hb))); go_ret; exact ⟨_, by first | rfl | (simp [errW_none, errW_some] <;> rfl) | (simp [*, errW_none, errW_some] <;> rfl), fxV_ HO0.out, hs_⟩
 ·replace c3 := Bool.eq_false_iff.mpr c3
  subst c3; replace H := iN_ H; obtain ⟨t111, A5, H⟩ := bi_ H; obtain rfl := Option.some.inj H; go_enter Tryd.func37, Tryd.ntmps37; go_wp2_with (first | ((with_reducible refine gC 24 ?_); refine goesL_ (some 4) rfl rfl Tryd.func24 (by kernel_rfl) rfl #[.slice A0 l0.length c0] rfl ml_ ?_; (with_reducible refine (runs_Sane.calls k _ _ l0 false _ ?side1 ?side2 A2.out).mono ?_); (case side1 => repeat (first | exact (Kd.V_reads' HO0.out).2.2 | (with_reducible refine Kd.C_alloc ?_ _) | (with_reducible refine Kd.C_drewN ?_ _) | (with_reducible refine Kd.C_drew ?_))); (case side2 => exact (Kd.V_reads' HO0.out).2.1); rintro e w6 ⟨rfl, hb⟩; refine ⟨_, rfl, ?_⟩; replace HO0 := bV_ HO0 hb; replace HB := bs_ hb; (try clear hb)) | ((with_reducible refine gC 46 ?_); refine goesL_ (some 7) rfl rfl Tryd.func46 (by kernel_rfl) rfl #[.slice A0 l0.length c0] rfl ml_ ?_; (with_reducible refine (runs_Make.calls _ _ l0 t111 _ ?side1 ?side2 A5.out).mono ?_); (case side1 => repeat (first | exact (Kd.V_reads' HO0.out).2.2 | (with_reducible refine Kd.C_alloc ?_ _) | (with_reducible refine Kd.C_drewN ?_ _) | (with_reducible refine Kd.C_drew ?_))); (case side2 => exact (Kd.V_reads' HO0.out).2.1); rintro e w7 ⟨v112, rfl, ho0, hb⟩; refine ⟨_, rfl, ?_⟩; replace HO0 := A_ (Kd.V_elder' (fxV_ HO0.out) (Kd.R_base ho0) hb); have HO113 := A_ (Kd.R_lower (Kd.R_newM (M := fun k_ => (w.heap.size ≤ k_)) ho0 (below_size hs_) (fun k_ h_ => h_)) (below_size hs_)); replace HB := bs_ hb; (try clear hb); (try clear ho0))); go_ret; exact ⟨_, by first | rfl | (simp [errW_none, errW_some] <;> rfl) | (simp [*, errW_none, errW_some] <;> rfl), Kd.V_mono (Kd.R_V (by (with_reducible repeat (first | apply Kd.R_alloc | apply Kd.R_drewN | apply Kd.R_drew)); exact Kd.R_mono HO113.out (fun _ hk => hk.1))) (fun k_ hk => by first | exact ⟨(.inr (hk.1)), hk.2⟩ | exact (.inr (hk))), hs_⟩
end Go.Proofs.YthppfagfmjchoaaDoor.A
namespace Go.Proofs.YthppfagfmjchoaaDoor.A
open Go.RowKit Go.Proofs.YthppfagfmjchoaaDoorW.PrintWords Go.Proofs.YthppfagfmjchoaaDoorW.PrintLast Go.Proofs.YthppfagfmjchoaaDoorW.PrintMore
attribute [local go_sem] max2_int min2_int max_two min_two max_three min_three max_four min_four
attribute [local go_sem] isSome_setCell
set_option maxHeartbeats 8000000 in
set_option maxRecDepth 100000 in
theorem runs_Count.calls (k : Nat) (A0 : Option Addr) (c0 : Nat) (l0 : List (S42)) (r : Int) (w : World) (hr0 : Kd.C k42 w A0 l0.length l0) (hc0 : l0.length ≤ c0) (h : runs_Count.f k l0 = some r) :
  Calls Tryd.prog 18 #[.slice A0 l0.length c0] w fun e w' => e = .returned (.int .i64 r) ∧ Below w.heap.size w w' := by
 have hu42 := Tryd.underlying42; have HR0 := A_ hr0; have HC0 := A_ hc0; clear hr0 hc0; have HB := A_ (Below.refl w.heap.size w); have H : ((runs_known.f k l0).bind fun t114 => (runs_Count.l0 k 0 t114 (t114.length : Int) 0)) = some r := h; clear h; obtain ⟨t114, A2, H⟩ := bi_ H; have H' := A_ H; clear H; go_enter Tryd.func18, Tryd.ntmps18; go_wp2_with (first | ((with_reducible refine gC 37 ?_); refine goesL_ (some 7) rfl rfl Tryd.func37 (by kernel_rfl) rfl #[.slice A0 l0.length c0] rfl ml_ ?_; (with_reducible refine (runs_known.calls k (fun k_ => k_ < w.heap.size) _ _ l0 t114 _ ?side1 A2.out).mono ?_); (case side1 => exact Kd.V_mk HC0.out (Kd.F_below (Kd.C_F k42_heap HR0.out) hs_)); rintro e w3 ⟨v115, rfl, ho0, hb⟩; refine ⟨_, rfl, ?_⟩; have HO116 := A_ (Kd.V_lower (Kd.V_mono (ok' := fun k_ => True) ho0 (fun k_ hk_ => trivial)) (below_size hs_)); replace HB := bs_ hb; (try clear hb); (try clear ho0); obtain ⟨Ao4, co4, eo4⟩ := Kd.V_slice HO116.out; subst eo4)); go_loopg [3, 9] k (fun kq v3 v9 w' => ∃ (x3_1 : Int) (x9_1 : Int), v3 = .int .i64 x3_1 ∧ v9 = .int .i64 x9_1 ∧ Aside0 (runs_Count.l0 kq x3_1 t114 (t114.length : Int) x9_1 = some r) ∧ Aside0 (kq ≤ k) ∧ Aside0 (Kd.V k42 42 w' w.heap.size (fun _ => True) (.slice Ao4 t114.length co4) t114) ∧ Aside0 (Below w.heap.size w w'))
 case atStart => exact ⟨(0), (0), rf_, rf_, H', ⟨Nat.le_refl _⟩, ⟨fxV_ HO116.out⟩, ⟨hs_⟩⟩
 case round =>
  clear H'; (try clear p2); obtain ⟨x3_1, x9_1, rfl, rfl, HA, HK1, HO_7, HB⟩ := hrel
  cases gk with
  | zero => exact absurd HA.out (by simp [runs_Count.l0])
  | succ k1 =>
   have H := HA.out; clear HA; simp only [runs_Count.l0] at H
   by_cases c5 : x9_1 < (t114.length : Int)
   ·rw [if_pos c5] at H
    have c5b0 := decide_eq_true c5; clear c5
    by_cases c6 : 0 ≤ x9_1
    ·rw [if_pos c6] at H
     have c6b0 := decide_eq_true c6; clear c6
     by_cases c7 : x9_1 < (t114.length : Int)
     ·rw [if_pos c7] at H
      have c7b0 := decide_eq_true c7; clear c7; have H' := A_ H; clear H; have p117 : 0 ≤ (x9_1 : Int) := od_; have q117 : x9_1 < (t114.length : Int) := od_; obtain ⟨ad117, e117, hx117_0, hx117_1⟩ := at_T42 (Kd.V_reads' HO_7.out).2.2 x9_1 p117 q117
      cases e117
      replace p117 := eq_true p117; replace q117 := eq_true q117; go_wp2_with (first | ((with_reducible refine gD 5 ?_); refine bxe_ 5 #[.int .i64 0, .int .i64 0] 42 ?_; intro gb118 hg w8 hbox hb; replace HO_7 := eV_ HO_7 hg hb; have BK118 := A_ (hbox); have GW118 := gs_ w hg; have GE118 := gs_ w hg; replace HB := bs_ hb; clear hb hbox hg; have Z9 := bz2_ BK118)); go_roundg k1
      case measure => have := HK1.out; omega
      case rel => exact ⟨(wrap64 (x3_1 + (wrap64 ((wrap64 (((rd_T42 t114 x9_1).f1) - ((rd_T42 t114 x9_1).f0))) + 1)))), (wrap64 (x9_1 + 1)), rf_, rf_, H', ⟨by have := HK1.out; omega⟩, ⟨fpV_ HO_7.out⟩, ⟨hs_⟩⟩
     ·rw [if_neg c7] at H
      exact absurd H (by simp)
    ·rw [if_neg c6] at H
     exact absurd H (by simp)
   ·rw [if_neg c5] at H
    have c5b0 := decide_eq_false c5; clear c5; obtain rfl := Option.some.inj H; go_wp2; go_ret; exact ⟨re_, hs_⟩
def runs_Of.l0 : Nat → List (S42) → List Int → Int → Int → Option ((List (S42)))
  | 0, _, _, _, _ => none
  | k + 1, x3, x6, x7, x8 => if x8 < x7 then (if 0 ≤ x8 then (if x8 < (x6.length : Int) then (if x3.length < 8796093022208 then (runs_Of.l0 k (x3 ++ [(⟨rd x6 x8, rd x6 x8⟩ : S42)]) x6 x7 (wrap64 (x8 + 1))) else (none)) else (none)) else (none)) else ((runs_Make.f x3).bind fun t105 => (some t105))
def runs_Of.f (k : Nat) (l0 : List Int) : Option ((List (S42))) := runs_Of.l0 k ([] : List (S42)) l0 (l0.length : Int) 0
theorem runs_Of.mono_l : ∀ k, (∀ y0 y1 y2 y3, LeO (runs_Of.l0 k y0 y1 y2 y3) (runs_Of.l0 (k + 1) y0 y1 y2 y3))
  | 0 => fun _ _ _ _ r h => by simp [runs_Of.l0] at h
  | k + 1 => by
    have ih0 := runs_Of.mono_l k
    · intro y0 y1 y2 y3
      unfold runs_Of.l0
      repeat' first
      | (with_reducible exact ih0 _ _ _ _)
      | (with_reducible exact LeO.refl _)
      | (with_reducible exact LeO.none _)
      | (with_reducible refine LeO.ite ?_ ?_)
      | (with_reducible refine LeO.bind ?_ (fun _ => ?_))
      | exact ih0 _ _ _ _
      | exact LeO.none _
      | refine LeO.ite ?_ ?_
      | refine LeO.bind ?_ (fun _ => ?_)
theorem runs_Of.mono : ∀ a0 k, LeO (runs_Of.f k a0) (runs_Of.f (k + 1) a0) := by
  intro a0 k
  have ih0 := runs_Of.mono_l k
  unfold runs_Of.f
  repeat' first
      | (with_reducible exact ih0 _ _ _ _)
      | (with_reducible exact LeO.refl _)
      | (with_reducible exact LeO.none _)
      | (with_reducible refine LeO.ite ?_ ?_)
      | (with_reducible refine LeO.bind ?_ (fun _ => ?_))
      | exact ih0 _ _ _ _
      | exact LeO.none _
      | refine LeO.ite ?_ ?_
      | refine LeO.bind ?_ (fun _ => ?_)
set_option maxHeartbeats 8000000 in
set_option maxRecDepth 100000 in
theorem runs_Of.calls (k : Nat) (A0 : Option Addr) (c0 : Nat) (l0 : List Int) (r : List (S42)) (w : World) (hr0 : Kd.C (Kd.int .i64) w A0 l0.length l0) (hc0 : l0.length ≤ c0) (h : runs_Of.f k l0 = some r) :
  Calls Tryd.prog 80 #[.slice A0 l0.length c0] w fun e w' => ∃ v0_ : Value, e = .returned (v0_) ∧ Kd.R k42 42 w' w.heap.size (fun _ => True) v0_ r ∧ Below w.heap.size w w' := by
 have hu42 := Tryd.underlying42; have HR0 := A_ hr0; have HC0 := A_ hc0; clear hr0 hc0; have HB := A_ (Below.refl w.heap.size w); have H : (runs_Of.l0 k ([] : List (S42)) l0 (l0.length : Int) 0) = some r := h; clear h; have H' := A_ H; clear H; go_enter Tryd.func80, Tryd.ntmps80; go_wp2; go_loopg [3, 8] k (fun kq v3 v8 w' => ∃ (x3_1 : List (S42)) (x8_1 : Int), v8 = .int .i64 x8_1 ∧ Aside0 (runs_Of.l0 kq x3_1 l0 (l0.length : Int) x8_1 = some r) ∧ Aside0 (kq ≤ k) ∧ Aside0 (Kd.R k42 42 w' w.heap.size (fun _ => True) v3 x3_1) ∧ Aside0 (Below w.heap.size w w'))
 case atStart => exact ⟨(([] : List (S42))), (0), rf_, H', ⟨Nat.le_refl _⟩, ⟨by first | exact Kd.R_nil _ _ _ _ _ | exact Kd.N_nil _ _ _ _ _ | exact Kd.V_nil _ _ _ _ _ | exact Kd.Q_nil _ _ _ _ _ | exact Kd.S_nil _ _ _ _ _⟩, ⟨hs_⟩⟩
 case round =>
  clear H'; (try clear c1); obtain ⟨x3_1, x8_1, rfl, HA, HK1, HO_3, HB⟩ := hrel
  cases gk with
  | zero => exact absurd HA.out (by simp [runs_Of.l0])
  | succ k1 =>
   have H := HA.out; clear HA; simp only [runs_Of.l0] at H
   by_cases c2 : x8_1 < (l0.length : Int)
   ·rw [if_pos c2] at H
    have c2b0 := decide_eq_true c2; clear c2
    by_cases c3 : 0 ≤ x8_1
    ·rw [if_pos c3] at H
     have c3b0 := decide_eq_true c3; clear c3
     by_cases c4 : x8_1 < (l0.length : Int)
     ·rw [if_pos c4] at H
      have c4b0 := decide_eq_true c4; clear c4
      by_cases c5 : x3_1.length < 8796093022208
      ·rw [if_pos c5] at H
       have LMc5 := A_ c5; clear c5; obtain ⟨y102, hy102⟩ : ∃ y_ : List (S42), y_ = (x3_1 ++ [(⟨rd l0 x8_1, rd l0 x8_1⟩ : S42)]) := ⟨_, rfl⟩; (replace H : (runs_Of.l0 k1 y102 l0 (l0.length : Int) (wrap64 (x8_1 + 1))) = some r := by first | (rw [hy102]; with_reducible exact H) | (have H2_ := (Option.bind_some _ _).symm.trans H; rw [hy102]; with_reducible exact H2_) | (have H2_ := (Option.bind_some _ _).symm.trans H; with_reducible exact H2_) | with_reducible exact H | (rw [hy102]; exact H) | exact H); have Ny102 := A_ hy102; clear hy102; have H' := A_ H; clear H; have p101 : 0 ≤ (x8_1 : Int) := od_; have q101 : x8_1 < (l0.length : Int) := od_; obtain ⟨ad101, e101, hx101_0⟩ := Kd.at_int HR0.out x8_1 p101 q101
       cases e101
       replace hx101_0 := cl_ HB hx101_0; replace p101 := eq_true p101; replace q101 := eq_true q101; go_wp2_with (first | ((with_reducible refine gate_builtin (b := .append) (xs := #[.tmp 12, .tmp 16]) rfl ?_); at_builtin; refine Kd.R_append k42 (w0 := w) w.heap.size rfl (.tmp 12) (.tmp 16) 34 42 (.agg #[(.int .i64 0), (.int .i64 0)]) 16 rfl Tryd.underlying34 info42 rfl (by decide) (by omega) u3 x3_1 (⟨rd l0 x8_1, rd l0 x8_1⟩ : S42) [.int .i64 (rd l0 x8_1), .int .i64 (rd l0 x8_1)] (fun _ => True) (fun _ => False) rfl rfl ?aP (fun _ hk => hk.elim) ?aF ?aO ?aB ?aS ?aL ?_; (case aP => exact k42_mkM _ _ _ (⟨rd l0 x8_1, rd l0 x8_1⟩ : S42)); (case aB => exact hs_); (case aF => exact (fun _ _ => trivial)); (case aO => exact (fxR_ HO_3.out)); (case aS => exact (below_size hs_)); (case aL => have := LMc5.out; omega); intro v103 w6 ho hb hg hat; rw [← Ny102.out] at ho; replace HB := A_ (hb); have HO104 := A_ (ho); clear HO_3; clear ho hb hg hat)); go_roundg k1
       case measure => have := HK1.out; omega
       case rel => exact ⟨(y102), (wrap64 (x8_1 + 1)), rf_, H', ⟨by have := HK1.out; omega⟩, ⟨fxR_ HO104.out⟩, ⟨hs_⟩⟩
      ·rw [if_neg c5] at H
       exact absurd H (by simp)
     ·rw [if_neg c4] at H
      exact absurd H (by simp)
    ·rw [if_neg c3] at H
     exact absurd H (by simp)
   ·rw [if_neg c2] at H
    have c2b0 := decide_eq_false c2; clear c2; obtain ⟨t105, A7, H⟩ := bi_ H; obtain rfl := Option.some.inj H; obtain ⟨Ao8, co8, eo8⟩ := Kd.R_slice HO_3.out; subst eo8; go_wp2_with (first | ((with_reducible refine gC 46 ?_); refine goesL_ (some 20) rfl rfl Tryd.func46 (by kernel_rfl) rfl #[.slice Ao8 x3_1.length co8] rfl ml_ ?_; (with_reducible refine (runs_Make.calls _ _ x3_1 t105 _ ?side1 ?side2 A7.out).mono ?_); (case side1 => repeat (first | exact (Kd.R_reads' HO_3.out).2.2 | (with_reducible refine Kd.C_alloc ?_ _) | (with_reducible refine Kd.C_drewN ?_ _) | (with_reducible refine Kd.C_drew ?_))); (case side2 => exact (Kd.R_reads' HO_3.out).2.1); rintro e w9 ⟨v106, rfl, ho0, hb⟩; refine ⟨_, rfl, ?_⟩; have HO107 := A_ (Kd.R_lower (Kd.R_new' ho0 (Kd.R_lt (fxR_ HO_3.out))) (below_size hs_)); replace HO_3 := A_ (Kd.R_elder' (fxR_ HO_3.out) (Kd.R_base ho0) hb); replace HB := bs_ hb; (try clear hb); (try clear ho0))); go_ret; exact ⟨_, by first | rfl | (simp [errW_none, errW_some] <;> rfl) | (simp [*, errW_none, errW_some] <;> rfl), by (with_reducible repeat (first | apply Kd.R_alloc | apply Kd.R_drewN | apply Kd.R_drew)); exact Kd.R_mono HO107.out (fun _ hk => trivial), hs_⟩
theorem eqA23 (d : Nat) (w : World) (x0 y0 : Int) (x1 y1 : ByteArray) (x2 y2 : ByteArray) (x3 y3 : ByteArray) :
  (Op.equalIn (d + 2) 23 (.agg #[.int .i64 x0, .string x1, .string x2, .string x3]) (.agg #[.int .i64 y0, .string y1, .string y2, .string y3])).run Tryd.prog w = .ok (x0 == y0 && (x1.toList == y1.toList && (x2.toList == y2.toList && (x3.toList == y3.toList)))) w := by
 refine eqA_of Tryd.underlying23 (by kernel_rfl) ?_; refine eqf_cons (by rfl) (by go_simp; rfl) (by go_simp; rfl) (by go_simp) ?_; refine eqf_cons (by rfl) (by go_simp; rfl) (by go_simp; rfl) (by go_simp) ?_; refine eqf_cons (by rfl) (by go_simp; rfl) (by go_simp; rfl) (by go_simp) ?_; exact eqf_last (by rfl) (by go_simp; rfl) (by go_simp; rfl) (by go_simp)
def sets_Meet.T5 : Bool × List (List Nat × List Nat) := (true, [([], []), ([], []), ([0, 1], [0, 1]), ([2], [2]), ([3], [3]), ([], []), ([], []), ([5, 6], [5, 6]), ([7], [7]), ([8], [8]), ([4, 9], [4, 9]), ([], []), ([], []), ([11, 12], [11, 12]), ([13], [13]), ([14], [14]), ([], []), ([], []), ([16, 17], [16, 17]), ([18], [18]), ([19], [19]), ([15, 20], [15, 20]), ([10, 21], [10, 21]), ([], []), ([23, 22, 0, 1, 2, 3, 4, 5, 6, 7, 8, 9, 10, 11, 12, 13, 14, 15, 16, 17, 18, 19, 20, 21, 22, 23], [22, 23])])
def sets_Meet.B5 : List Nat := [0, 0, 3, 7, 15, 0, 0, 96, 224, 480, 1023, 0, 0, 6144, 14336, 30720, 0, 0, 196608, 458752, 983040, 2095104, 4194303, 0, 16777215]
theorem sets_Meet.tab5 : rtab .any (opsOf Tryd.f36 5) = sets_Meet.T5 := by kernel_rfl
theorem sets_Meet.bits5 : waitsOk sets_Meet.T5.2 sets_Meet.B5 = true := by kernel_rfl
def sets_Meet.T8 : Bool × List (List Nat × List Nat) := (true, [([], []), ([], []), ([0, 1], [0, 1]), ([2], [2]), ([3], [3]), ([], []), ([], []), ([5, 6], [5, 6]), ([7], [7]), ([8], [8]), ([4, 9], [4, 9])])
def sets_Meet.B8 : List Nat := [0, 0, 3, 7, 15, 0, 0, 96, 224, 480, 1023]
theorem sets_Meet.tab8 : rtab .any (opsOf Tryd.f36 8) = sets_Meet.T8 := by kernel_rfl
theorem sets_Meet.bits8 : waitsOk sets_Meet.T8.2 sets_Meet.B8 = true := by kernel_rfl
set_option maxHeartbeats 8000000 in
set_option maxRecDepth 100000 in
theorem sets_Meet.calls (k : Nat) (A0 : Option Addr) (c0 : Nat) (l0 : List (S42)) (A1 : Option Addr) (c1 : Nat) (l1 r : List (S42)) (w : World) (hr0 : Kd.C k42 w A0 l0.length l0) (hc0 : l0.length ≤ c0) (hr1 : Kd.C k42 w A1 l1.length l1) (hc1 : l1.length ≤ c1) (h : sets_Meet.f k l0 l1 = some r) :
  Calls Tryd.prog 36 #[.slice A0 l0.length c0, .slice A1 l1.length c1] w fun e w' => ∃ v0_ : Value, e = .returned (v0_) ∧ Kd.R k42 42 w' w.heap.size (fun _ => True) v0_ r ∧ Below w.heap.size w w' := by
 have hu42 := Tryd.underlying42; have HR0 := A_ hr0; have HC0 := A_ hc0; clear hr0 hc0; have HR1 := A_ hr1; have HC1 := A_ hc1; clear hr1 hc1; have HB := A_ (Below.refl w.heap.size w); have H : ((sets_known.f k l0).bind fun t107 => ((sets_known.f k l1).bind fun t110 => (sets_Meet.l0 k t107 t110 ([] : List (S42)) 0 0))) = some r := h; clear h; obtain ⟨t107, A3, H⟩ := bi_ H; obtain ⟨t110, A4, H⟩ := bi_ H; have H' := A_ H; clear H; go_enter Tryd.func36, Tryd.ntmps36; go_wp2_with (fail); (try go_step3); go_wp2_with (first | (refine gC 35 ?_; refine gL 10 Tryd.func35 #[.slice A0 l0.length c0] ?_; (with_reducible refine (sets_known.calls k (fun k_ => k_ < w.heap.size) _ _ l0 t107 _ ?side1 A3.out).mono ?_); (case side1 => exact Kd.V_mk HC0.out (Kd.F_below (Kd.C_F k42_heap HR0.out) hs_)); rintro e w5 ⟨v108, rfl, ho0, hb⟩; refine ⟨_, rfl, ?_⟩; have HO109 := A_ (Kd.V_lower (Kd.V_mono (ok' := fun k_ => True) ho0 (fun k_ hk_ => trivial)) (below_size hs_)); replace HB := bs_ hb; (try clear hb); (try clear ho0)) | (refine gC 35 ?_; refine gL 12 Tryd.func35 #[.slice A1 l1.length c1] ?_; (with_reducible refine (sets_known.calls k (fun k_ => k_ < w.heap.size) _ _ l1 t110 _ ?side1 A4.out).mono ?_); (case side1 => exact Kd.V_mk HC1.out (Kd.F_below (Kd.C_F k42_heap HR1.out) hs_)); rintro e w6 ⟨v111, rfl, ho0, hb⟩; refine ⟨_, rfl, ?_⟩; replace HO109 := bV_ HO109 hb; have HO112 := A_ (Kd.V_lower (Kd.V_mono (ok' := fun k_ => True) ho0 (fun k_ hk_ => trivial)) (below_size hs_)); replace HB := bs_ hb; (try clear hb); (try clear ho0))); (try (go_step3; try go_wp2_with (fail))); go_loopg [5, 6, 7] k (fun kq v5 v6 v7 w' => ∃ (x5_1 : List (S42)) (x6_1 : Int) (x7_1 : Int), v6 = .int .i64 x6_1 ∧ v7 = .int .i64 x7_1 ∧ Aside0 (sets_Meet.l0 kq t107 t110 x5_1 x6_1 x7_1 = some r) ∧ Aside0 (kq ≤ k) ∧ Aside0 (Kd.V k42 42 w' w.heap.size (fun k_ => nv_ k_ v5) v108 t107) ∧ Aside0 (Kd.V k42 42 w' w.heap.size (fun k_ => nv_ k_ v5) v111 t110) ∧ Aside0 (Kd.R k42 42 w' w.heap.size (fun _ => True) v5 x5_1) ∧ Aside0 (Below w.heap.size w w'))
 case atStart => exact ⟨(([] : List (S42))), (0), (0), rf_, rf_, H', ⟨Nat.le_refl _⟩, ⟨by (with_reducible repeat (first | apply Kd.V_alloc | apply Kd.V_drewN | apply Kd.V_drew)); exact Kd.V_mono HO109.out (fun _ hk => (by simp [Value.ownBlock]))⟩, ⟨by (with_reducible repeat (first | apply Kd.V_alloc | apply Kd.V_drewN | apply Kd.V_drew)); exact Kd.V_mono HO112.out (fun _ hk => (by simp [Value.ownBlock]))⟩, ⟨by first | exact Kd.R_nil _ _ _ _ _ | exact Kd.N_nil _ _ _ _ _ | exact Kd.V_nil _ _ _ _ _ | exact Kd.Q_nil _ _ _ _ _ | exact Kd.S_nil _ _ _ _ _⟩, ⟨hs_⟩⟩
 case round =>
  clear H'; (try clear c1); (try clear p2); (try clear p3); obtain ⟨x5_1, x6_1, x7_1, rfl, rfl, HA, HK1, HO_0, HO_1, HO_5, HB⟩ := hrel
  cases gk with
  | zero => exact absurd HA.out (by simp [sets_Meet.l0])
  | succ k1 =>
   have H := HA.out; clear HA; simp only [sets_Meet.l0] at H; have HC7 := A_ H; clear H; go_upto_region 4 with (fail); go_cut [22] (fun v22 wc => ∃ (kq : Nat) (x22_6 : Bool), v22 = .bool x22_6 ∧ Aside0 (sets_Meet.j1 kq t107 t110 x5_1 x6_1 x7_1 x22_6 = some r) ∧ Aside0 (kq ≤ k1) ∧ Aside0 (Kd.V k42 42 wc w.heap.size (fun k_ => nv_ k_ u5) v108 t107) ∧ Aside0 (Kd.V k42 42 wc w.heap.size (fun k_ => nv_ k_ u5) v111 t110) ∧ Aside0 (Kd.R k42 42 wc w.heap.size (fun _ => True) u5 x5_1) ∧ Aside0 (Below w.heap.size w wc))
   case first =>
    have H := HC7.out; clear HC7
    by_cases c8 : x6_1 < (t107.length : Int)
    ·rw [if_pos c8] at H
     have c8b0 := decide_eq_true c8; clear c8; (first | rw [c8b0] | (simp only [i64_w, i32_w]; rw [c8b0]) | skip); have H' := A_ H; clear H; obtain ⟨Ao9, co9, eo9⟩ := Kd.V_slice HO_0.out; subst eo9; obtain ⟨Ao10, co10, eo10⟩ := Kd.V_slice HO_1.out; subst eo10; go_wp2; go_meet
     case rel => exact ⟨_, (decide (x7_1 < (t110.length : Int))), rf_, H', ⟨by have := HK1.out; first | omega | exact Nat.le_refl _⟩, ⟨fxV_ HO_0.out⟩, ⟨fxV_ HO_1.out⟩, ⟨fxR_ HO_5.out⟩, ⟨hs_⟩⟩
    ·rw [if_neg c8] at H
     have c8b0 := decide_eq_false c8; clear c8; (first | rw [c8b0] | (simp only [i64_w, i32_w]; rw [c8b0]) | skip); have H' := A_ H; clear H; obtain ⟨Ao11, co11, eo11⟩ := Kd.V_slice HO_0.out; subst eo11; go_wp2; go_meet
     case rel => exact ⟨_, (false), rf_, H', ⟨by have := HK1.out; first | omega | exact Nat.le_refl _⟩, ⟨fxV_ HO_0.out⟩, ⟨fxV_ HO_1.out⟩, ⟨fxR_ HO_5.out⟩, ⟨hs_⟩⟩
   case rest =>
    clear HC7; (try clear c1); (try clear p2); (try clear p3); (try clear c8); (try clear c8b0); (try clear c9); (try clear p2); (try clear p3); obtain ⟨kq, x22_6, rfl, HA, HJ6, HO_0, HO_1, HO_5, HB⟩ := hcut
    cases kq with
    | zero => exact absurd HA.out (by simp [sets_Meet.j1])
    | succ kj6 =>
     have H := HA.out; clear HA; simp only [sets_Meet.j1] at H
     by_cases c12 : x22_6 = true
     ·subst c12
      replace H := iP_ H
      by_cases c13 : 0 ≤ x6_1
      ·rw [if_pos c13] at H
       have c13b0 := decide_eq_true c13; clear c13
       by_cases c14 : x6_1 < (t107.length : Int)
       ·rw [if_pos c14] at H
        have c14b0 := decide_eq_true c14; clear c14
        by_cases c15 : 0 ≤ x7_1
        ·rw [if_pos c15] at H
         have c15b0 := decide_eq_true c15; clear c15
         by_cases c16 : x7_1 < (t110.length : Int)
         ·rw [if_pos c16] at H
          have c16b0 := decide_eq_true c16; clear c16; obtain ⟨ji17, hji17⟩ : ∃ j_ : Int, (mx ((rd_T42 t107 x6_1).f0) ((rd_T42 t110 x7_1).f0)) = j_ := ⟨_, rfl⟩; (replace H : (if (ji17) ≤ (mn ((rd_T42 t107 x6_1).f1) ((rd_T42 t110 x7_1).f1)) then (if x5_1.length < 8796093022208 then ((some (x5_1 ++ [(⟨ji17, mn ((rd_T42 t107 x6_1).f1) ((rd_T42 t110 x7_1).f1)⟩ : S42)] : List (S42))).bind fun y118 => (if ((rd_T42 t107 x6_1).f1) < ((rd_T42 t110 x7_1).f1) then (sets_Meet.l0 kj6 t107 t110 y118 (wrap64 (x6_1 + 1)) x7_1) else (sets_Meet.l0 kj6 t107 t110 y118 x6_1 (wrap64 (x7_1 + 1))))) else (none)) else (if ((rd_T42 t107 x6_1).f1) < ((rd_T42 t110 x7_1).f1) then (sets_Meet.l0 kj6 t107 t110 x5_1 (wrap64 (x6_1 + 1)) x7_1) else (sets_Meet.l0 kj6 t107 t110 x5_1 x6_1 (wrap64 (x7_1 + 1))))) = some r := by first | (rw [hji17] at H; exact H) | (simp only [hji17] at H ⊢; exact H)); have hji17_ : (if ((rd_T42 t107 x6_1).f0) < ((rd_T42 t110 x7_1).f0) then ((rd_T42 t110 x7_1).f0) else ((rd_T42 t107 x6_1).f0)) = ji17 := hji17; obtain ⟨ji18, hji18⟩ : ∃ j_ : Int, (mn ((rd_T42 t107 x6_1).f1) ((rd_T42 t110 x7_1).f1)) = j_ := ⟨_, rfl⟩; (replace H : (if (ji17) ≤ (ji18) then (if x5_1.length < 8796093022208 then ((some (x5_1 ++ [(⟨ji17, ji18⟩ : S42)] : List (S42))).bind fun y118 => (if ((rd_T42 t107 x6_1).f1) < ((rd_T42 t110 x7_1).f1) then (sets_Meet.l0 kj6 t107 t110 y118 (wrap64 (x6_1 + 1)) x7_1) else (sets_Meet.l0 kj6 t107 t110 y118 x6_1 (wrap64 (x7_1 + 1))))) else (none)) else (if ((rd_T42 t107 x6_1).f1) < ((rd_T42 t110 x7_1).f1) then (sets_Meet.l0 kj6 t107 t110 x5_1 (wrap64 (x6_1 + 1)) x7_1) else (sets_Meet.l0 kj6 t107 t110 x5_1 x6_1 (wrap64 (x7_1 + 1))))) = some r := by first | (rw [hji18] at H; exact H) | (simp only [hji18] at H ⊢; exact H)); have hji18_ : (if ((rd_T42 t110 x7_1).f1) < ((rd_T42 t107 x6_1).f1) then ((rd_T42 t110 x7_1).f1) else ((rd_T42 t107 x6_1).f1)) = ji18 := hji18
          by_cases c19 : (ji17) ≤ (ji18)
          ·rw [if_pos c19] at H
           have c19b0 := decide_eq_true c19; clear c19
           by_cases c20 : x5_1.length < 8796093022208
           ·rw [if_pos c20] at H
            have LMc20 := A_ c20; clear c20; obtain ⟨y118, hy118⟩ : ∃ y_ : List (S42), y_ = (x5_1 ++ [(⟨ji17, ji18⟩ : S42)]) := ⟨_, rfl⟩; (replace H : (if ((rd_T42 t107 x6_1).f1) < ((rd_T42 t110 x7_1).f1) then (sets_Meet.l0 kj6 t107 t110 y118 (wrap64 (x6_1 + 1)) x7_1) else (sets_Meet.l0 kj6 t107 t110 y118 x6_1 (wrap64 (x7_1 + 1)))) = some r := hy_ hy118 H); have Ny118 := A_ hy118; clear hy118
            by_cases c21 : ((rd_T42 t107 x6_1).f1) < ((rd_T42 t110 x7_1).f1)
            ·rw [if_pos c21] at H
             have c21b0 := decide_eq_true c21; clear c21; have H' := A_ H; clear H; (try go_wp2); replace HO_0 := A_ (Kd.V_drew HO_0.out); replace HO_1 := A_ (Kd.V_drew HO_1.out); replace HO_5 := A_ (Kd.R_drew HO_5.out); replace HB := A_ (below_drew1 HB.out); obtain ⟨Ao23, co23, eo23⟩ := Kd.V_slice HO_0.out; (first | subst eo23 | (injection eo23 with f1_ f2_ f3_; have f4_ := f1_.symm; have f5_ := f3_.symm; clear f1_ f2_ f3_; subst f4_; subst f5_)); have p113 : 0 ≤ (x6_1 : Int) := od_; have q113 : x6_1 < (t107.length : Int) := od_; obtain ⟨ad113, e113, hx113_0, hx113_1⟩ := at_T42 (Kd.V_reads' HO_0.out).2.2 x6_1 p113 q113
             cases e113
             replace p113 := eq_true p113; replace q113 := eq_true q113; obtain ⟨Ao24, co24, eo24⟩ := Kd.V_slice HO_1.out; (first | subst eo24 | (injection eo24 with f1_ f2_ f3_; have f4_ := f1_.symm; have f5_ := f3_.symm; clear f1_ f2_ f3_; subst f4_; subst f5_)); have p114 : 0 ≤ (x7_1 : Int) := od_; have q114 : x7_1 < (t110.length : Int) := od_; obtain ⟨ad114, e114, hx114_0, hx114_1⟩ := at_T42 (Kd.V_reads' HO_1.out).2.2 x7_1 p114 q114
             cases e114
             replace p114 := eq_true p114; replace q114 := eq_true q114; have p115 : 0 ≤ (x6_1 : Int) := od_; have q115 : x6_1 < (t107.length : Int) := od_; obtain ⟨ad115, e115, hx115_0, hx115_1⟩ := at_T42 (Kd.V_reads' HO_0.out).2.2 x6_1 p115 q115; obtain rfl : ad113 = ad115 := (by injection e115); replace p115 := eq_true p115; replace q115 := eq_true q115; have p116 : 0 ≤ (x7_1 : Int) := od_; have q116 : x7_1 < (t110.length : Int) := od_; obtain ⟨ad116, e116, hx116_0, hx116_1⟩ := at_T42 (Kd.V_reads' HO_1.out).2.2 x7_1 p116 q116; obtain rfl : ad114 = ad116 := (by injection e116); replace p116 := eq_true p116; replace q116 := eq_true q116; refine start_ (n := 25) (S := fun w' => w'.cell? (ad113.add ((x6_1).toNat * 2)) = some (.int .i64 ((rd_T42 t107 x6_1).f0)) ∧ w'.cell? ⟨(ad113.add ((x6_1).toNat * 2)).block, (ad113.add ((x6_1).toNat * 2)).off + 1, none⟩ = some (.int .i64 ((rd_T42 t107 x6_1).f1)) ∧ w'.cell? (ad114.add ((x7_1).toNat * 2)) = some (.int .i64 ((rd_T42 t110 x7_1).f0)) ∧ w'.cell? ⟨(ad114.add ((x7_1).toNat * 2)).block, (ad114.add ((x7_1).toNat * 2)).off + 1, none⟩ = some (.int .i64 ((rd_T42 t110 x7_1).f1)) ∧ w'.cell? (ad113.add ((x6_1).toNat * 2)) = some (.int .i64 ((rd_T42 t107 x6_1).f0)) ∧ w'.cell? ⟨(ad113.add ((x6_1).toNat * 2)).block, (ad113.add ((x6_1).toNat * 2)).off + 1, none⟩ = some (.int .i64 ((rd_T42 t107 x6_1).f1)) ∧ w'.cell? (ad114.add ((x7_1).toNat * 2)) = some (.int .i64 ((rd_T42 t110 x7_1).f0)) ∧ w'.cell? ⟨(ad114.add ((x7_1).toNat * 2)).block, (ad114.add ((x7_1).toNat * 2)).off + 1, none⟩ = some (.int .i64 ((rd_T42 t110 x7_1).f1))) (ds := []) (ab 25 0) (by kernel_rfl) rfl rfl ⟨hx113_0, hx113_1, hx114_0, hx114_1, hx115_0, hx115_1, hx116_0, hx116_1⟩ (fun hHeld => ?_); refine with_tabW sets_Meet.tab5 sets_Meet.bits5 (fun HT_ HW_ => ?_); generalize wc.drew = w22 at HO_0 HO_1 HO_5 HB hx113_0 hx113_1 hx114_0 hx114_1 hx115_0 hx115_1 hx116_0 hx116_1 hHeld ⊢; refine pA 0 23 25 1 ?_; refine pA 1 24 25 3 ?_; refine pA 2 25 25 7 ?_; refine pA 3 26 25 15 ?_; refine pA 5 28 25 47 ?_; refine pA 6 29 25 111 ?_; refine pA 7 30 25 239 ?_; refine pA 8 31 25 495 ?_; refine pA 11 34 25 2543 ?_; refine pA 12 35 25 6639 ?_; refine pA 13 36 25 14831 ?_; refine pA 14 37 25 31215 ?_; refine pA 16 39 25 96751 ?_; refine pA 17 40 25 227823 ?_; refine pA 18 41 25 489967 ?_; refine pA 19 42 25 1014255 ?_; refine tB 4 27 25 1014271 ?_; refine tB 9 32 25 1014783 ?_; refine pA 10 33 25 1015807 ?_; refine tB 15 38 25 1048575 ?_; refine tB 20 43 25 2097151 ?_; refine pA 21 44 25 4194303 ?_; refine pA 22 45 25 8388607 ?_; refine oA 23 (some 8) 25 16777215 fun K hK => ?_; refine bxs_ 8 #[.int .i64 0, .int .i64 0] 42 ?_; intro gb117 hg w25 hbox hb; have NE0_ : ad113.block ≠ gb117 := (by have h_ := World.block_lt_of_cell? _ _ hHeld.1; rw [add_block] at h_; omega); have NE1_ : ad114.block ≠ gb117 := (by have h_ := World.block_lt_of_cell? _ _ hHeld.2.2.1; rw [add_block] at h_; omega); have HS0_ := (hb.cell (World.block_lt_of_cell? _ _ (hHeld.1))).trans (hHeld.1); have HS1_ := (hb.cell (World.block_lt_of_cell? _ _ (hHeld.2.1))).trans (hHeld.2.1); have HS2_ := (hb.cell (World.block_lt_of_cell? _ _ (hHeld.2.2.1))).trans (hHeld.2.2.1); have HS3_ := (hb.cell (World.block_lt_of_cell? _ _ (hHeld.2.2.2.1))).trans (hHeld.2.2.2.1); have HS4_ := (hb.cell (World.block_lt_of_cell? _ _ (hHeld.2.2.2.2.1))).trans (hHeld.2.2.2.2.1); have HS5_ := (hb.cell (World.block_lt_of_cell? _ _ (hHeld.2.2.2.2.2.1))).trans (hHeld.2.2.2.2.2.1)
             have HS6_ := (hb.cell (World.block_lt_of_cell? _ _ (hHeld.2.2.2.2.2.2.1))).trans (hHeld.2.2.2.2.2.2.1); have HS7_ := (hb.cell (World.block_lt_of_cell? _ _ (hHeld.2.2.2.2.2.2.2))).trans (hHeld.2.2.2.2.2.2.2); replace HO_0 := eV_ HO_0 hg hb; replace HO_1 := eV_ HO_1 hg hb; replace HO_5 := A_ (Kd.R_below (Kd.R_elderB (hrR_ HO_5.out) gb117 (Nat.le_of_eq hg.symm)) hb); have BK117 := A_ (hbox); have GW117 := gs_ w hg; have GE117 := gs_ w hg; replace HB := bs_ hb; clear hb hbox hg; refine hK.out _ _ ⟨HS0_, HS1_, HS2_, HS3_, HS4_, HS5_, HS6_, HS7_⟩ (fun hHeld => ?_); clear hK K; refine nA ?_; refine oA 24 none 25 33554431 fun K hK => ?_; have hs26 : w25.cell? ⟨gb117, 0, none⟩ = some (.int .i64 0) := bq_ BK117 0; have hfs26 := blk_frozen BK117.out 0; have hs27 : w25.cell? ⟨gb117, 1, none⟩ = some (.int .i64 0) := bq_ BK117 1; have hfs27 := blk_frozen BK117.out 1; refine sA ?_; refine hK.out _ _ ⟨((cell_far (p := ⟨gb117, _, none⟩) (ne_ NE0_) _).trans (((cell_far (p := ⟨gb117, _, none⟩) (ne_ NE0_) _).trans (hHeld.1)))), ((cell_far (p := ⟨gb117, _, none⟩) (ne_ NE0_) _).trans (((cell_far (p := ⟨gb117, _, none⟩) (ne_ NE0_) _).trans (hHeld.2.1)))), ((cell_far (p := ⟨gb117, _, none⟩) (ne_ NE1_) _).trans (((cell_far (p := ⟨gb117, _, none⟩) (ne_ NE1_) _).trans (hHeld.2.2.1)))), ((cell_far (p := ⟨gb117, _, none⟩) (ne_ NE1_) _).trans (((cell_far (p := ⟨gb117, _, none⟩) (ne_ NE1_) _).trans (hHeld.2.2.2.1)))), ((cell_far (p := ⟨gb117, _, none⟩) (ne_ NE0_) _).trans (((cell_far (p := ⟨gb117, _, none⟩) (ne_ NE0_) _).trans (hHeld.2.2.2.2.1)))), ((cell_far (p := ⟨gb117, _, none⟩) (ne_ NE0_) _).trans (((cell_far (p := ⟨gb117, _, none⟩) (ne_ NE0_) _).trans (hHeld.2.2.2.2.2.1)))), ((cell_far (p := ⟨gb117, _, none⟩) (ne_ NE1_) _).trans (((cell_far (p := ⟨gb117, _, none⟩) (ne_ NE1_) _).trans (hHeld.2.2.2.2.2.2.1)))), ((cell_far (p := ⟨gb117, _, none⟩) (ne_ NE1_) _).trans (((cell_far (p := ⟨gb117, _, none⟩) (ne_ NE1_) _).trans (hHeld.2.2.2.2.2.2.2))))⟩ (fun hHeld => ?_)
             clear hK K; refine done_ (done_of HT_.out (by kernel_rfl)) ?_; have Z28 := bz2_ BK117; (try go_wp2_with (first | ((with_reducible refine gate_builtin (b := .append) (xs := #[.tmp 51, .tmp 53]) rfl ?_); (try (refine gate_guard (by rfl) ?_; dsimp only)); at_builtin; refine Kd.R_append k42 (w0 := w) w.heap.size rfl (.tmp 51) (.tmp 53) 34 42 (.agg #[(.int .i64 0), (.int .i64 0)]) 16 rfl Tryd.underlying34 info42 rfl (by decide) (by omega) u5 x5_1 (⟨ji17, ji18⟩ : S42) [.int .i64 ji17, .int .i64 ji18] (fun k_ => k_ ≠ gb117) (fun _ => False) rfl (by first | (go_simp; done) | (go_simp; rfl)) ?aP (fun _ hk => hk.elim) ?aF ?aO ?aB ?aS ?aL ?_; (case aP => exact k42_mkM _ _ _ (⟨ji17, ji18⟩ : S42)); (case aB => exact hs_); (case aF => exact (fun k_ hk => fb_ BK117 k_ hk)); (case aO => exact (fpR_ HO_5.out)); (case aS => exact (below_size hs_)); (case aL => have := LMc20.out; omega); intro v119 w29 ho hb hg hat; rw [← Ny118.out] at ho; replace HO_0 := A_ (Kd.V_afterv (ok := (fun k_ => k_ ≠ gb117)) (fpV_ HO_0.out) hg hat); replace HO_1 := A_ (Kd.V_afterv (ok := (fun k_ => k_ ≠ gb117)) (fpV_ HO_1.out) hg hat); replace BK117 := A_ (blk_grown (g := gb117) (o := .cells #[.int .i64 ji17, .int .i64 ji18] 42 (0, 0)) (pb_ BK117.out) hg (Kd.R_away HO_5.out (fun _ hk => hk.2))); replace HB := A_ (hb); have HO120 := A_ (ho); clear HO_5; clear ho hb hg hat)))
             replace HO_0 := A_ (Kd.V_drew HO_0.out); replace HO_1 := A_ (Kd.V_drew HO_1.out); replace HO120 := A_ (Kd.R_drew HO120.out); replace BK117 := A_ (blk_drew BK117.out); replace HB := A_ (below_drew1 HB.out); have p121 : 0 ≤ (x6_1 : Int) := od_; have q121 : x6_1 < (t107.length : Int) := od_; obtain ⟨ad121, e121, hx121_0, hx121_1⟩ := at_T42 (Kd.V_reads' HO_0.out).2.2 x6_1 p121 q121; obtain rfl : ad113 = ad121 := (by injection e121); replace p121 := eq_true p121; replace q121 := eq_true q121; have p122 : 0 ≤ (x7_1 : Int) := od_; have q122 : x7_1 < (t110.length : Int) := od_; obtain ⟨ad122, e122, hx122_0, hx122_1⟩ := at_T42 (Kd.V_reads' HO_1.out).2.2 x7_1 p122 q122; obtain rfl : ad114 = ad122 := (by injection e122); replace p122 := eq_true p122; replace q122 := eq_true q122; refine start_ (n := 11) (S := fun w' => w'.cell? (ad113.add ((x6_1).toNat * 2)) = some (.int .i64 ((rd_T42 t107 x6_1).f0)) ∧ w'.cell? ⟨(ad113.add ((x6_1).toNat * 2)).block, (ad113.add ((x6_1).toNat * 2)).off + 1, none⟩ = some (.int .i64 ((rd_T42 t107 x6_1).f1)) ∧ w'.cell? (ad114.add ((x7_1).toNat * 2)) = some (.int .i64 ((rd_T42 t110 x7_1).f0)) ∧ w'.cell? ⟨(ad114.add ((x7_1).toNat * 2)).block, (ad114.add ((x7_1).toNat * 2)).off + 1, none⟩ = some (.int .i64 ((rd_T42 t110 x7_1).f1))) (ds := []) (ab 11 0) (by kernel_rfl) rfl rfl ⟨hx121_0, hx121_1, hx122_0, hx122_1⟩ (fun hHeld => ?_); refine with_tabW sets_Meet.tab8 sets_Meet.bits8 (fun HT_ HW_ => ?_); generalize w29.drew = w30 at HO_0 HO_1 HO120 BK117 HB hx121_0 hx121_1 hx122_0 hx122_1 hHeld ⊢; refine pA 0 55 11 1 ?_; refine pA 1 56 11 3 ?_; refine pA 2 57 11 7 ?_; refine pA 3 58 11 15 ?_; refine pA 5 60 11 47 ?_; refine pA 6 61 11 111 ?_; refine pA 7 62 11 239 ?_; refine pA 8 63 11 495 ?_; refine tB 4 59 11 511 ?_; refine tB 9 64 11 1023 ?_; refine pA 10 65 11 2047 ?_; refine done_ (done_of HT_.out (by kernel_rfl)) ?_; (try go_wp2); go_roundg kj6
             case measure => have := HK1.out; have := HJ6.out; omega
             case rel => exact ⟨(y118), (wrap64 (x6_1 + 1)), (x7_1), rf_, rf_, H', ⟨by have := HK1.out; have := HJ6.out; omega⟩, ⟨by (with_reducible repeat (first | apply Kd.V_alloc | apply Kd.V_drewN | apply Kd.V_drew)); exact Kd.V_mono HO_0.out (fun _ hk => hk.2)⟩, ⟨by (with_reducible repeat (first | apply Kd.V_alloc | apply Kd.V_drewN | apply Kd.V_drew)); exact Kd.V_mono HO_1.out (fun _ hk => hk.2)⟩, ⟨by (with_reducible repeat (first | apply Kd.R_alloc | apply Kd.R_drewN | apply Kd.R_drew)); exact Kd.R_mono HO120.out (fun _ hk => trivial)⟩, ⟨hs_⟩⟩
            ·rw [if_neg c21] at H
             have c21b0 := decide_eq_false c21; clear c21; have H' := A_ H; clear H; (try go_wp2); replace HO_0 := A_ (Kd.V_drew HO_0.out); replace HO_1 := A_ (Kd.V_drew HO_1.out); replace HO_5 := A_ (Kd.R_drew HO_5.out); replace HB := A_ (below_drew1 HB.out); obtain ⟨Ao32, co32, eo32⟩ := Kd.V_slice HO_0.out; (first | subst eo32 | (injection eo32 with f1_ f2_ f3_; have f4_ := f1_.symm; have f5_ := f3_.symm; clear f1_ f2_ f3_; subst f4_; subst f5_)); have p113 : 0 ≤ (x6_1 : Int) := od_; have q113 : x6_1 < (t107.length : Int) := od_; obtain ⟨ad113, e113, hx113_0, hx113_1⟩ := at_T42 (Kd.V_reads' HO_0.out).2.2 x6_1 p113 q113
             cases e113
             replace p113 := eq_true p113; replace q113 := eq_true q113; obtain ⟨Ao33, co33, eo33⟩ := Kd.V_slice HO_1.out; (first | subst eo33 | (injection eo33 with f1_ f2_ f3_; have f4_ := f1_.symm; have f5_ := f3_.symm; clear f1_ f2_ f3_; subst f4_; subst f5_)); have p114 : 0 ≤ (x7_1 : Int) := od_; have q114 : x7_1 < (t110.length : Int) := od_; obtain ⟨ad114, e114, hx114_0, hx114_1⟩ := at_T42 (Kd.V_reads' HO_1.out).2.2 x7_1 p114 q114
             cases e114
             replace p114 := eq_true p114; replace q114 := eq_true q114; have p115 : 0 ≤ (x6_1 : Int) := od_; have q115 : x6_1 < (t107.length : Int) := od_; obtain ⟨ad115, e115, hx115_0, hx115_1⟩ := at_T42 (Kd.V_reads' HO_0.out).2.2 x6_1 p115 q115; obtain rfl : ad113 = ad115 := (by injection e115); replace p115 := eq_true p115; replace q115 := eq_true q115; have p116 : 0 ≤ (x7_1 : Int) := od_; have q116 : x7_1 < (t110.length : Int) := od_; obtain ⟨ad116, e116, hx116_0, hx116_1⟩ := at_T42 (Kd.V_reads' HO_1.out).2.2 x7_1 p116 q116; obtain rfl : ad114 = ad116 := (by injection e116); replace p116 := eq_true p116; replace q116 := eq_true q116; refine start_ (n := 25) (S := fun w' => w'.cell? (ad113.add ((x6_1).toNat * 2)) = some (.int .i64 ((rd_T42 t107 x6_1).f0)) ∧ w'.cell? ⟨(ad113.add ((x6_1).toNat * 2)).block, (ad113.add ((x6_1).toNat * 2)).off + 1, none⟩ = some (.int .i64 ((rd_T42 t107 x6_1).f1)) ∧ w'.cell? (ad114.add ((x7_1).toNat * 2)) = some (.int .i64 ((rd_T42 t110 x7_1).f0)) ∧ w'.cell? ⟨(ad114.add ((x7_1).toNat * 2)).block, (ad114.add ((x7_1).toNat * 2)).off + 1, none⟩ = some (.int .i64 ((rd_T42 t110 x7_1).f1)) ∧ w'.cell? (ad113.add ((x6_1).toNat * 2)) = some (.int .i64 ((rd_T42 t107 x6_1).f0)) ∧ w'.cell? ⟨(ad113.add ((x6_1).toNat * 2)).block, (ad113.add ((x6_1).toNat * 2)).off + 1, none⟩ = some (.int .i64 ((rd_T42 t107 x6_1).f1)) ∧ w'.cell? (ad114.add ((x7_1).toNat * 2)) = some (.int .i64 ((rd_T42 t110 x7_1).f0)) ∧ w'.cell? ⟨(ad114.add ((x7_1).toNat * 2)).block, (ad114.add ((x7_1).toNat * 2)).off + 1, none⟩ = some (.int .i64 ((rd_T42 t110 x7_1).f1))) (ds := []) (ab 25 0) (by kernel_rfl) rfl rfl ⟨hx113_0, hx113_1, hx114_0, hx114_1, hx115_0, hx115_1, hx116_0, hx116_1⟩ (fun hHeld => ?_); refine with_tabW sets_Meet.tab5 sets_Meet.bits5 (fun HT_ HW_ => ?_); generalize wc.drew = w31 at HO_0 HO_1 HO_5 HB hx113_0 hx113_1 hx114_0 hx114_1 hx115_0 hx115_1 hx116_0 hx116_1 hHeld ⊢; refine pA 0 23 25 1 ?_; refine pA 1 24 25 3 ?_; refine pA 2 25 25 7 ?_; refine pA 3 26 25 15 ?_; refine pA 5 28 25 47 ?_; refine pA 6 29 25 111 ?_; refine pA 7 30 25 239 ?_; refine pA 8 31 25 495 ?_; refine pA 11 34 25 2543 ?_; refine pA 12 35 25 6639 ?_; refine pA 13 36 25 14831 ?_; refine pA 14 37 25 31215 ?_; refine pA 16 39 25 96751 ?_; refine pA 17 40 25 227823 ?_; refine pA 18 41 25 489967 ?_; refine pA 19 42 25 1014255 ?_; refine tB 4 27 25 1014271 ?_; refine tB 9 32 25 1014783 ?_; refine pA 10 33 25 1015807 ?_; refine tB 15 38 25 1048575 ?_; refine tB 20 43 25 2097151 ?_; refine pA 21 44 25 4194303 ?_; refine pA 22 45 25 8388607 ?_; refine oA 23 (some 8) 25 16777215 fun K hK => ?_; refine bxs_ 8 #[.int .i64 0, .int .i64 0] 42 ?_; intro gb117 hg w34 hbox hb; have NE0_ : ad113.block ≠ gb117 := (by have h_ := World.block_lt_of_cell? _ _ hHeld.1; rw [add_block] at h_; omega); have NE1_ : ad114.block ≠ gb117 := (by have h_ := World.block_lt_of_cell? _ _ hHeld.2.2.1; rw [add_block] at h_; omega); have HS0_ := (hb.cell (World.block_lt_of_cell? _ _ (hHeld.1))).trans (hHeld.1); have HS1_ := (hb.cell (World.block_lt_of_cell? _ _ (hHeld.2.1))).trans (hHeld.2.1); have HS2_ := (hb.cell (World.block_lt_of_cell? _ _ (hHeld.2.2.1))).trans (hHeld.2.2.1); have HS3_ := (hb.cell (World.block_lt_of_cell? _ _ (hHeld.2.2.2.1))).trans (hHeld.2.2.2.1); have HS4_ := (hb.cell (World.block_lt_of_cell? _ _ (hHeld.2.2.2.2.1))).trans (hHeld.2.2.2.2.1); have HS5_ := (hb.cell (World.block_lt_of_cell? _ _ (hHeld.2.2.2.2.2.1))).trans (hHeld.2.2.2.2.2.1)
             have HS6_ := (hb.cell (World.block_lt_of_cell? _ _ (hHeld.2.2.2.2.2.2.1))).trans (hHeld.2.2.2.2.2.2.1); have HS7_ := (hb.cell (World.block_lt_of_cell? _ _ (hHeld.2.2.2.2.2.2.2))).trans (hHeld.2.2.2.2.2.2.2); replace HO_0 := eV_ HO_0 hg hb; replace HO_1 := eV_ HO_1 hg hb; replace HO_5 := A_ (Kd.R_below (Kd.R_elderB (hrR_ HO_5.out) gb117 (Nat.le_of_eq hg.symm)) hb); have BK117 := A_ (hbox); have GW117 := gs_ w hg; have GE117 := gs_ w hg; replace HB := bs_ hb; clear hb hbox hg; refine hK.out _ _ ⟨HS0_, HS1_, HS2_, HS3_, HS4_, HS5_, HS6_, HS7_⟩ (fun hHeld => ?_); clear hK K; refine nA ?_; refine oA 24 none 25 33554431 fun K hK => ?_; have hs35 : w34.cell? ⟨gb117, 0, none⟩ = some (.int .i64 0) := bq_ BK117 0; have hfs35 := blk_frozen BK117.out 0; have hs36 : w34.cell? ⟨gb117, 1, none⟩ = some (.int .i64 0) := bq_ BK117 1; have hfs36 := blk_frozen BK117.out 1; refine sA ?_; refine hK.out _ _ ⟨((cell_far (p := ⟨gb117, _, none⟩) (ne_ NE0_) _).trans (((cell_far (p := ⟨gb117, _, none⟩) (ne_ NE0_) _).trans (hHeld.1)))), ((cell_far (p := ⟨gb117, _, none⟩) (ne_ NE0_) _).trans (((cell_far (p := ⟨gb117, _, none⟩) (ne_ NE0_) _).trans (hHeld.2.1)))), ((cell_far (p := ⟨gb117, _, none⟩) (ne_ NE1_) _).trans (((cell_far (p := ⟨gb117, _, none⟩) (ne_ NE1_) _).trans (hHeld.2.2.1)))), ((cell_far (p := ⟨gb117, _, none⟩) (ne_ NE1_) _).trans (((cell_far (p := ⟨gb117, _, none⟩) (ne_ NE1_) _).trans (hHeld.2.2.2.1)))), ((cell_far (p := ⟨gb117, _, none⟩) (ne_ NE0_) _).trans (((cell_far (p := ⟨gb117, _, none⟩) (ne_ NE0_) _).trans (hHeld.2.2.2.2.1)))), ((cell_far (p := ⟨gb117, _, none⟩) (ne_ NE0_) _).trans (((cell_far (p := ⟨gb117, _, none⟩) (ne_ NE0_) _).trans (hHeld.2.2.2.2.2.1)))), ((cell_far (p := ⟨gb117, _, none⟩) (ne_ NE1_) _).trans (((cell_far (p := ⟨gb117, _, none⟩) (ne_ NE1_) _).trans (hHeld.2.2.2.2.2.2.1)))), ((cell_far (p := ⟨gb117, _, none⟩) (ne_ NE1_) _).trans (((cell_far (p := ⟨gb117, _, none⟩) (ne_ NE1_) _).trans (hHeld.2.2.2.2.2.2.2))))⟩ (fun hHeld => ?_)
             clear hK K; refine done_ (done_of HT_.out (by kernel_rfl)) ?_; have Z37 := bz2_ BK117; (try go_wp2_with (first | ((with_reducible refine gate_builtin (b := .append) (xs := #[.tmp 51, .tmp 53]) rfl ?_); (try (refine gate_guard (by rfl) ?_; dsimp only)); at_builtin; refine Kd.R_append k42 (w0 := w) w.heap.size rfl (.tmp 51) (.tmp 53) 34 42 (.agg #[(.int .i64 0), (.int .i64 0)]) 16 rfl Tryd.underlying34 info42 rfl (by decide) (by omega) u5 x5_1 (⟨ji17, ji18⟩ : S42) [.int .i64 ji17, .int .i64 ji18] (fun k_ => k_ ≠ gb117) (fun _ => False) rfl (by first | (go_simp; done) | (go_simp; rfl)) ?aP (fun _ hk => hk.elim) ?aF ?aO ?aB ?aS ?aL ?_; (case aP => exact k42_mkM _ _ _ (⟨ji17, ji18⟩ : S42)); (case aB => exact hs_); (case aF => exact (fun k_ hk => fb_ BK117 k_ hk)); (case aO => exact (fpR_ HO_5.out)); (case aS => exact (below_size hs_)); (case aL => have := LMc20.out; omega); intro v119 w38 ho hb hg hat; rw [← Ny118.out] at ho; replace HO_0 := A_ (Kd.V_afterv (ok := (fun k_ => k_ ≠ gb117)) (fpV_ HO_0.out) hg hat); replace HO_1 := A_ (Kd.V_afterv (ok := (fun k_ => k_ ≠ gb117)) (fpV_ HO_1.out) hg hat); replace BK117 := A_ (blk_grown (g := gb117) (o := .cells #[.int .i64 ji17, .int .i64 ji18] 42 (0, 0)) (pb_ BK117.out) hg (Kd.R_away HO_5.out (fun _ hk => hk.2))); replace HB := A_ (hb); have HO120 := A_ (ho); clear HO_5; clear ho hb hg hat)))
             replace HO_0 := A_ (Kd.V_drew HO_0.out); replace HO_1 := A_ (Kd.V_drew HO_1.out); replace HO120 := A_ (Kd.R_drew HO120.out); replace BK117 := A_ (blk_drew BK117.out); replace HB := A_ (below_drew1 HB.out); have p121 : 0 ≤ (x6_1 : Int) := od_; have q121 : x6_1 < (t107.length : Int) := od_; obtain ⟨ad121, e121, hx121_0, hx121_1⟩ := at_T42 (Kd.V_reads' HO_0.out).2.2 x6_1 p121 q121; obtain rfl : ad113 = ad121 := (by injection e121); replace p121 := eq_true p121; replace q121 := eq_true q121; have p122 : 0 ≤ (x7_1 : Int) := od_; have q122 : x7_1 < (t110.length : Int) := od_; obtain ⟨ad122, e122, hx122_0, hx122_1⟩ := at_T42 (Kd.V_reads' HO_1.out).2.2 x7_1 p122 q122; obtain rfl : ad114 = ad122 := (by injection e122); replace p122 := eq_true p122; replace q122 := eq_true q122; refine start_ (n := 11) (S := fun w' => w'.cell? (ad113.add ((x6_1).toNat * 2)) = some (.int .i64 ((rd_T42 t107 x6_1).f0)) ∧ w'.cell? ⟨(ad113.add ((x6_1).toNat * 2)).block, (ad113.add ((x6_1).toNat * 2)).off + 1, none⟩ = some (.int .i64 ((rd_T42 t107 x6_1).f1)) ∧ w'.cell? (ad114.add ((x7_1).toNat * 2)) = some (.int .i64 ((rd_T42 t110 x7_1).f0)) ∧ w'.cell? ⟨(ad114.add ((x7_1).toNat * 2)).block, (ad114.add ((x7_1).toNat * 2)).off + 1, none⟩ = some (.int .i64 ((rd_T42 t110 x7_1).f1))) (ds := []) (ab 11 0) (by kernel_rfl) rfl rfl ⟨hx121_0, hx121_1, hx122_0, hx122_1⟩ (fun hHeld => ?_); refine with_tabW sets_Meet.tab8 sets_Meet.bits8 (fun HT_ HW_ => ?_); generalize w38.drew = w39 at HO_0 HO_1 HO120 BK117 HB hx121_0 hx121_1 hx122_0 hx122_1 hHeld ⊢; refine pA 0 55 11 1 ?_; refine pA 1 56 11 3 ?_; refine pA 2 57 11 7 ?_; refine pA 3 58 11 15 ?_; refine pA 5 60 11 47 ?_; refine pA 6 61 11 111 ?_; refine pA 7 62 11 239 ?_; refine pA 8 63 11 495 ?_; refine tB 4 59 11 511 ?_; refine tB 9 64 11 1023 ?_; refine pA 10 65 11 2047 ?_; refine done_ (done_of HT_.out (by kernel_rfl)) ?_; (try go_wp2); go_roundg kj6
             case measure => have := HK1.out; have := HJ6.out; omega
             case rel => exact ⟨(y118), (x6_1), (wrap64 (x7_1 + 1)), rf_, rf_, H', ⟨by have := HK1.out; have := HJ6.out; omega⟩, ⟨by (with_reducible repeat (first | apply Kd.V_alloc | apply Kd.V_drewN | apply Kd.V_drew)); exact Kd.V_mono HO_0.out (fun _ hk => hk.2)⟩, ⟨by (with_reducible repeat (first | apply Kd.V_alloc | apply Kd.V_drewN | apply Kd.V_drew)); exact Kd.V_mono HO_1.out (fun _ hk => hk.2)⟩, ⟨by (with_reducible repeat (first | apply Kd.R_alloc | apply Kd.R_drewN | apply Kd.R_drew)); exact Kd.R_mono HO120.out (fun _ hk => trivial)⟩, ⟨hs_⟩⟩
           ·rw [if_neg c20] at H
            exact absurd H (by simp)
          ·rw [if_neg c19] at H
           have c19b0 := decide_eq_false c19; clear c19
           by_cases c40 : ((rd_T42 t107 x6_1).f1) < ((rd_T42 t110 x7_1).f1)
           ·rw [if_pos c40] at H
            have c40b0 := decide_eq_true c40; clear c40; have H' := A_ H; clear H; (try go_wp2); replace HO_0 := A_ (Kd.V_drew HO_0.out); replace HO_1 := A_ (Kd.V_drew HO_1.out); replace HO_5 := A_ (Kd.R_drew HO_5.out); replace HB := A_ (below_drew1 HB.out); obtain ⟨Ao42, co42, eo42⟩ := Kd.V_slice HO_0.out; (first | subst eo42 | (injection eo42 with f1_ f2_ f3_; have f4_ := f1_.symm; have f5_ := f3_.symm; clear f1_ f2_ f3_; subst f4_; subst f5_)); have p113 : 0 ≤ (x6_1 : Int) := od_; have q113 : x6_1 < (t107.length : Int) := od_; obtain ⟨ad113, e113, hx113_0, hx113_1⟩ := at_T42 (Kd.V_reads' HO_0.out).2.2 x6_1 p113 q113
            cases e113
            replace p113 := eq_true p113; replace q113 := eq_true q113; obtain ⟨Ao43, co43, eo43⟩ := Kd.V_slice HO_1.out; (first | subst eo43 | (injection eo43 with f1_ f2_ f3_; have f4_ := f1_.symm; have f5_ := f3_.symm; clear f1_ f2_ f3_; subst f4_; subst f5_)); have p114 : 0 ≤ (x7_1 : Int) := od_; have q114 : x7_1 < (t110.length : Int) := od_; obtain ⟨ad114, e114, hx114_0, hx114_1⟩ := at_T42 (Kd.V_reads' HO_1.out).2.2 x7_1 p114 q114
            cases e114
            replace p114 := eq_true p114; replace q114 := eq_true q114; have p115 : 0 ≤ (x6_1 : Int) := od_; have q115 : x6_1 < (t107.length : Int) := od_; obtain ⟨ad115, e115, hx115_0, hx115_1⟩ := at_T42 (Kd.V_reads' HO_0.out).2.2 x6_1 p115 q115; obtain rfl : ad113 = ad115 := (by injection e115); replace p115 := eq_true p115; replace q115 := eq_true q115; have p116 : 0 ≤ (x7_1 : Int) := od_; have q116 : x7_1 < (t110.length : Int) := od_; obtain ⟨ad116, e116, hx116_0, hx116_1⟩ := at_T42 (Kd.V_reads' HO_1.out).2.2 x7_1 p116 q116; obtain rfl : ad114 = ad116 := (by injection e116); replace p116 := eq_true p116; replace q116 := eq_true q116; refine start_ (n := 25) (S := fun w' => w'.cell? (ad113.add ((x6_1).toNat * 2)) = some (.int .i64 ((rd_T42 t107 x6_1).f0)) ∧ w'.cell? ⟨(ad113.add ((x6_1).toNat * 2)).block, (ad113.add ((x6_1).toNat * 2)).off + 1, none⟩ = some (.int .i64 ((rd_T42 t107 x6_1).f1)) ∧ w'.cell? (ad114.add ((x7_1).toNat * 2)) = some (.int .i64 ((rd_T42 t110 x7_1).f0)) ∧ w'.cell? ⟨(ad114.add ((x7_1).toNat * 2)).block, (ad114.add ((x7_1).toNat * 2)).off + 1, none⟩ = some (.int .i64 ((rd_T42 t110 x7_1).f1)) ∧ w'.cell? (ad113.add ((x6_1).toNat * 2)) = some (.int .i64 ((rd_T42 t107 x6_1).f0)) ∧ w'.cell? ⟨(ad113.add ((x6_1).toNat * 2)).block, (ad113.add ((x6_1).toNat * 2)).off + 1, none⟩ = some (.int .i64 ((rd_T42 t107 x6_1).f1)) ∧ w'.cell? (ad114.add ((x7_1).toNat * 2)) = some (.int .i64 ((rd_T42 t110 x7_1).f0)) ∧ w'.cell? ⟨(ad114.add ((x7_1).toNat * 2)).block, (ad114.add ((x7_1).toNat * 2)).off + 1, none⟩ = some (.int .i64 ((rd_T42 t110 x7_1).f1))) (ds := []) (ab 25 0) (by kernel_rfl) rfl rfl ⟨hx113_0, hx113_1, hx114_0, hx114_1, hx115_0, hx115_1, hx116_0, hx116_1⟩ (fun hHeld => ?_); refine with_tabW sets_Meet.tab5 sets_Meet.bits5 (fun HT_ HW_ => ?_); generalize wc.drew = w41 at HO_0 HO_1 HO_5 HB hx113_0 hx113_1 hx114_0 hx114_1 hx115_0 hx115_1 hx116_0 hx116_1 hHeld ⊢; refine pA 0 23 25 1 ?_; refine pA 1 24 25 3 ?_; refine pA 2 25 25 7 ?_; refine pA 3 26 25 15 ?_; refine pA 5 28 25 47 ?_; refine pA 6 29 25 111 ?_; refine pA 7 30 25 239 ?_; refine pA 8 31 25 495 ?_; refine pA 11 34 25 2543 ?_; refine pA 12 35 25 6639 ?_; refine pA 13 36 25 14831 ?_; refine pA 14 37 25 31215 ?_; refine pA 16 39 25 96751 ?_; refine pA 17 40 25 227823 ?_; refine pA 18 41 25 489967 ?_; refine pA 19 42 25 1014255 ?_; refine tB 4 27 25 1014271 ?_; refine tB 9 32 25 1014783 ?_; refine pA 10 33 25 1015807 ?_; refine tB 15 38 25 1048575 ?_; refine tB 20 43 25 2097151 ?_; refine pA 21 44 25 4194303 ?_; refine pA 22 45 25 8388607 ?_; refine oA 23 (some 8) 25 16777215 fun K hK => ?_; refine bxs_ 8 #[.int .i64 0, .int .i64 0] 42 ?_; intro gb117 hg w44 hbox hb; have NE0_ : ad113.block ≠ gb117 := (by have h_ := World.block_lt_of_cell? _ _ hHeld.1; rw [add_block] at h_; omega); have NE1_ : ad114.block ≠ gb117 := (by have h_ := World.block_lt_of_cell? _ _ hHeld.2.2.1; rw [add_block] at h_; omega); have HS0_ := (hb.cell (World.block_lt_of_cell? _ _ (hHeld.1))).trans (hHeld.1); have HS1_ := (hb.cell (World.block_lt_of_cell? _ _ (hHeld.2.1))).trans (hHeld.2.1); have HS2_ := (hb.cell (World.block_lt_of_cell? _ _ (hHeld.2.2.1))).trans (hHeld.2.2.1); have HS3_ := (hb.cell (World.block_lt_of_cell? _ _ (hHeld.2.2.2.1))).trans (hHeld.2.2.2.1); have HS4_ := (hb.cell (World.block_lt_of_cell? _ _ (hHeld.2.2.2.2.1))).trans (hHeld.2.2.2.2.1); have HS5_ := (hb.cell (World.block_lt_of_cell? _ _ (hHeld.2.2.2.2.2.1))).trans (hHeld.2.2.2.2.2.1)
            have HS6_ := (hb.cell (World.block_lt_of_cell? _ _ (hHeld.2.2.2.2.2.2.1))).trans (hHeld.2.2.2.2.2.2.1); have HS7_ := (hb.cell (World.block_lt_of_cell? _ _ (hHeld.2.2.2.2.2.2.2))).trans (hHeld.2.2.2.2.2.2.2); replace HO_0 := eV_ HO_0 hg hb; replace HO_1 := eV_ HO_1 hg hb; replace HO_5 := A_ (Kd.R_below (Kd.R_elderB (hrR_ HO_5.out) gb117 (Nat.le_of_eq hg.symm)) hb); have BK117 := A_ (hbox); have GW117 := gs_ w hg; have GE117 := gs_ w hg; replace HB := bs_ hb; clear hb hbox hg; refine hK.out _ _ ⟨HS0_, HS1_, HS2_, HS3_, HS4_, HS5_, HS6_, HS7_⟩ (fun hHeld => ?_); clear hK K; refine nA ?_; refine oA 24 none 25 33554431 fun K hK => ?_; have hs45 : w44.cell? ⟨gb117, 0, none⟩ = some (.int .i64 0) := bq_ BK117 0; have hfs45 := blk_frozen BK117.out 0; have hs46 : w44.cell? ⟨gb117, 1, none⟩ = some (.int .i64 0) := bq_ BK117 1; have hfs46 := blk_frozen BK117.out 1; refine sA ?_; refine hK.out _ _ ⟨((cell_far (p := ⟨gb117, _, none⟩) (ne_ NE0_) _).trans (((cell_far (p := ⟨gb117, _, none⟩) (ne_ NE0_) _).trans (hHeld.1)))), ((cell_far (p := ⟨gb117, _, none⟩) (ne_ NE0_) _).trans (((cell_far (p := ⟨gb117, _, none⟩) (ne_ NE0_) _).trans (hHeld.2.1)))), ((cell_far (p := ⟨gb117, _, none⟩) (ne_ NE1_) _).trans (((cell_far (p := ⟨gb117, _, none⟩) (ne_ NE1_) _).trans (hHeld.2.2.1)))), ((cell_far (p := ⟨gb117, _, none⟩) (ne_ NE1_) _).trans (((cell_far (p := ⟨gb117, _, none⟩) (ne_ NE1_) _).trans (hHeld.2.2.2.1)))), ((cell_far (p := ⟨gb117, _, none⟩) (ne_ NE0_) _).trans (((cell_far (p := ⟨gb117, _, none⟩) (ne_ NE0_) _).trans (hHeld.2.2.2.2.1)))), ((cell_far (p := ⟨gb117, _, none⟩) (ne_ NE0_) _).trans (((cell_far (p := ⟨gb117, _, none⟩) (ne_ NE0_) _).trans (hHeld.2.2.2.2.2.1)))), ((cell_far (p := ⟨gb117, _, none⟩) (ne_ NE1_) _).trans (((cell_far (p := ⟨gb117, _, none⟩) (ne_ NE1_) _).trans (hHeld.2.2.2.2.2.2.1)))), ((cell_far (p := ⟨gb117, _, none⟩) (ne_ NE1_) _).trans (((cell_far (p := ⟨gb117, _, none⟩) (ne_ NE1_) _).trans (hHeld.2.2.2.2.2.2.2))))⟩ (fun hHeld => ?_)
            clear hK K; refine done_ (done_of HT_.out (by kernel_rfl)) ?_; have Z47 := bz2_ BK117; (try go_wp2); have n0_ : Aside0 (Kd.V k42 42 ((w44.setCell ⟨gb117, 0, none⟩ (.int .i64 ji17)).setCell ⟨gb117, 1, none⟩ (.int .i64 ji18)) w.heap.size (fun k_ => nv_ k_ u5 ∧ k_ ≠ gb117) (.slice (some ad113) t107.length co42) t107) := ⟨fpV_ HO_0.out⟩; have n1_ : Aside0 (Kd.V k42 42 ((w44.setCell ⟨gb117, 0, none⟩ (.int .i64 ji17)).setCell ⟨gb117, 1, none⟩ (.int .i64 ji18)) w.heap.size (fun k_ => nv_ k_ u5 ∧ k_ ≠ gb117) (.slice (some ad114) t110.length co43) t110) := ⟨fpV_ HO_1.out⟩; have n2_ : Aside0 (Kd.R k42 42 ((w44.setCell ⟨gb117, 0, none⟩ (.int .i64 ji17)).setCell ⟨gb117, 1, none⟩ (.int .i64 ji18)) w.heap.size (fun k_ => k_ ≠ gb117) u5 x5_1) := ⟨fpR_ HO_5.out⟩; have n3_ : Aside0 (((w44.setCell ⟨gb117, 0, none⟩ (.int .i64 ji17)).setCell ⟨gb117, 1, none⟩ (.int .i64 ji18)).heap[gb117]? = some (.cells #[.int .i64 ji17, .int .i64 ji18] 42 (0, 0))) := ⟨pb_ BK117.out⟩; have n4_ : Aside0 (Below w.heap.size w ((w44.setCell ⟨gb117, 0, none⟩ (.int .i64 ji17)).setCell ⟨gb117, 1, none⟩ (.int .i64 ji18))) := ⟨hs_⟩; (try clear HO_0); (try clear HO_1); (try clear HO_5); (try clear BK117); (try clear HB); generalize ((w44.setCell ⟨gb117, 0, none⟩ (.int .i64 ji17)).setCell ⟨gb117, 1, none⟩ (.int .i64 ji18)) = w48 at n0_ n1_ n2_ n3_ n4_ ⊢; have HO_0 := n0_; have HO_1 := n1_; have HO_5 := n2_; have BK117 := n3_; have HB := n4_; clear n0_ n1_ n2_ n3_ n4_; replace HO_0 := A_ (Kd.V_drew HO_0.out); replace HO_1 := A_ (Kd.V_drew HO_1.out); replace HO_5 := A_ (Kd.R_drew HO_5.out); replace BK117 := A_ (blk_drew BK117.out); replace HB := A_ (below_drew1 HB.out); have p123 : 0 ≤ (x6_1 : Int) := od_; have q123 : x6_1 < (t107.length : Int) := od_; obtain ⟨ad123, e123, hx123_0, hx123_1⟩ := at_T42 (Kd.V_reads' HO_0.out).2.2 x6_1 p123 q123; obtain rfl : ad113 = ad123 := (by injection e123); replace p123 := eq_true p123; replace q123 := eq_true q123; have p124 : 0 ≤ (x7_1 : Int) := od_; have q124 : x7_1 < (t110.length : Int) := od_; obtain ⟨ad124, e124, hx124_0, hx124_1⟩ := at_T42 (Kd.V_reads' HO_1.out).2.2 x7_1 p124 q124
            obtain rfl : ad114 = ad124 := (by injection e124); replace p124 := eq_true p124; replace q124 := eq_true q124; refine start_ (n := 11) (S := fun w' => w'.cell? (ad113.add ((x6_1).toNat * 2)) = some (.int .i64 ((rd_T42 t107 x6_1).f0)) ∧ w'.cell? ⟨(ad113.add ((x6_1).toNat * 2)).block, (ad113.add ((x6_1).toNat * 2)).off + 1, none⟩ = some (.int .i64 ((rd_T42 t107 x6_1).f1)) ∧ w'.cell? (ad114.add ((x7_1).toNat * 2)) = some (.int .i64 ((rd_T42 t110 x7_1).f0)) ∧ w'.cell? ⟨(ad114.add ((x7_1).toNat * 2)).block, (ad114.add ((x7_1).toNat * 2)).off + 1, none⟩ = some (.int .i64 ((rd_T42 t110 x7_1).f1))) (ds := []) (ab 11 0) (by kernel_rfl) rfl rfl ⟨hx123_0, hx123_1, hx124_0, hx124_1⟩ (fun hHeld => ?_); refine with_tabW sets_Meet.tab8 sets_Meet.bits8 (fun HT_ HW_ => ?_); generalize w48.drew = w49 at HO_0 HO_1 HO_5 BK117 HB hx123_0 hx123_1 hx124_0 hx124_1 hHeld ⊢; refine pA 0 55 11 1 ?_; refine pA 1 56 11 3 ?_; refine pA 2 57 11 7 ?_; refine pA 3 58 11 15 ?_; refine pA 5 60 11 47 ?_; refine pA 6 61 11 111 ?_; refine pA 7 62 11 239 ?_; refine pA 8 63 11 495 ?_; refine tB 4 59 11 511 ?_; refine tB 9 64 11 1023 ?_; refine pA 10 65 11 2047 ?_; refine done_ (done_of HT_.out (by kernel_rfl)) ?_; (try go_wp2); go_roundg kj6
            case measure => have := HK1.out; have := HJ6.out; omega
            case rel => exact ⟨(x5_1), (wrap64 (x6_1 + 1)), (x7_1), rf_, rf_, H', ⟨by have := HK1.out; have := HJ6.out; omega⟩, ⟨by (with_reducible repeat (first | apply Kd.V_alloc | apply Kd.V_drewN | apply Kd.V_drew)); exact Kd.V_mono HO_0.out (fun _ hk => hk.1)⟩, ⟨by (with_reducible repeat (first | apply Kd.V_alloc | apply Kd.V_drewN | apply Kd.V_drew)); exact Kd.V_mono HO_1.out (fun _ hk => hk.1)⟩, ⟨by (with_reducible repeat (first | apply Kd.R_alloc | apply Kd.R_drewN | apply Kd.R_drew)); exact Kd.R_mono HO_5.out (fun _ hk => trivial)⟩, ⟨hs_⟩⟩
           ·rw [if_neg c40] at H
            have c40b0 := decide_eq_false c40; clear c40; have H' := A_ H; clear H; (try go_wp2); replace HO_0 := A_ (Kd.V_drew HO_0.out); replace HO_1 := A_ (Kd.V_drew HO_1.out); replace HO_5 := A_ (Kd.R_drew HO_5.out); replace HB := A_ (below_drew1 HB.out); obtain ⟨Ao51, co51, eo51⟩ := Kd.V_slice HO_0.out; (first | subst eo51 | (injection eo51 with f1_ f2_ f3_; have f4_ := f1_.symm; have f5_ := f3_.symm; clear f1_ f2_ f3_; subst f4_; subst f5_)); have p113 : 0 ≤ (x6_1 : Int) := od_; have q113 : x6_1 < (t107.length : Int) := od_; obtain ⟨ad113, e113, hx113_0, hx113_1⟩ := at_T42 (Kd.V_reads' HO_0.out).2.2 x6_1 p113 q113
            cases e113
            replace p113 := eq_true p113; replace q113 := eq_true q113; obtain ⟨Ao52, co52, eo52⟩ := Kd.V_slice HO_1.out; (first | subst eo52 | (injection eo52 with f1_ f2_ f3_; have f4_ := f1_.symm; have f5_ := f3_.symm; clear f1_ f2_ f3_; subst f4_; subst f5_)); have p114 : 0 ≤ (x7_1 : Int) := od_; have q114 : x7_1 < (t110.length : Int) := od_; obtain ⟨ad114, e114, hx114_0, hx114_1⟩ := at_T42 (Kd.V_reads' HO_1.out).2.2 x7_1 p114 q114
            cases e114
            replace p114 := eq_true p114; replace q114 := eq_true q114; have p115 : 0 ≤ (x6_1 : Int) := od_; have q115 : x6_1 < (t107.length : Int) := od_; obtain ⟨ad115, e115, hx115_0, hx115_1⟩ := at_T42 (Kd.V_reads' HO_0.out).2.2 x6_1 p115 q115; obtain rfl : ad113 = ad115 := (by injection e115); replace p115 := eq_true p115; replace q115 := eq_true q115; have p116 : 0 ≤ (x7_1 : Int) := od_; have q116 : x7_1 < (t110.length : Int) := od_; obtain ⟨ad116, e116, hx116_0, hx116_1⟩ := at_T42 (Kd.V_reads' HO_1.out).2.2 x7_1 p116 q116; obtain rfl : ad114 = ad116 := (by injection e116); replace p116 := eq_true p116; replace q116 := eq_true q116; refine start_ (n := 25) (S := fun w' => w'.cell? (ad113.add ((x6_1).toNat * 2)) = some (.int .i64 ((rd_T42 t107 x6_1).f0)) ∧ w'.cell? ⟨(ad113.add ((x6_1).toNat * 2)).block, (ad113.add ((x6_1).toNat * 2)).off + 1, none⟩ = some (.int .i64 ((rd_T42 t107 x6_1).f1)) ∧ w'.cell? (ad114.add ((x7_1).toNat * 2)) = some (.int .i64 ((rd_T42 t110 x7_1).f0)) ∧ w'.cell? ⟨(ad114.add ((x7_1).toNat * 2)).block, (ad114.add ((x7_1).toNat * 2)).off + 1, none⟩ = some (.int .i64 ((rd_T42 t110 x7_1).f1)) ∧ w'.cell? (ad113.add ((x6_1).toNat * 2)) = some (.int .i64 ((rd_T42 t107 x6_1).f0)) ∧ w'.cell? ⟨(ad113.add ((x6_1).toNat * 2)).block, (ad113.add ((x6_1).toNat * 2)).off + 1, none⟩ = some (.int .i64 ((rd_T42 t107 x6_1).f1)) ∧ w'.cell? (ad114.add ((x7_1).toNat * 2)) = some (.int .i64 ((rd_T42 t110 x7_1).f0)) ∧ w'.cell? ⟨(ad114.add ((x7_1).toNat * 2)).block, (ad114.add ((x7_1).toNat * 2)).off + 1, none⟩ = some (.int .i64 ((rd_T42 t110 x7_1).f1))) (ds := []) (ab 25 0) (by kernel_rfl) rfl rfl ⟨hx113_0, hx113_1, hx114_0, hx114_1, hx115_0, hx115_1, hx116_0, hx116_1⟩ (fun hHeld => ?_); refine with_tabW sets_Meet.tab5 sets_Meet.bits5 (fun HT_ HW_ => ?_); generalize wc.drew = w50 at HO_0 HO_1 HO_5 HB hx113_0 hx113_1 hx114_0 hx114_1 hx115_0 hx115_1 hx116_0 hx116_1 hHeld ⊢; refine pA 0 23 25 1 ?_; refine pA 1 24 25 3 ?_; refine pA 2 25 25 7 ?_; refine pA 3 26 25 15 ?_; refine pA 5 28 25 47 ?_; refine pA 6 29 25 111 ?_; refine pA 7 30 25 239 ?_; refine pA 8 31 25 495 ?_; refine pA 11 34 25 2543 ?_; refine pA 12 35 25 6639 ?_; refine pA 13 36 25 14831 ?_; refine pA 14 37 25 31215 ?_; refine pA 16 39 25 96751 ?_; refine pA 17 40 25 227823 ?_; refine pA 18 41 25 489967 ?_; refine pA 19 42 25 1014255 ?_; refine tB 4 27 25 1014271 ?_; refine tB 9 32 25 1014783 ?_; refine pA 10 33 25 1015807 ?_; refine tB 15 38 25 1048575 ?_; refine tB 20 43 25 2097151 ?_; refine pA 21 44 25 4194303 ?_; refine pA 22 45 25 8388607 ?_; refine oA 23 (some 8) 25 16777215 fun K hK => ?_; refine bxs_ 8 #[.int .i64 0, .int .i64 0] 42 ?_; intro gb117 hg w53 hbox hb; have NE0_ : ad113.block ≠ gb117 := (by have h_ := World.block_lt_of_cell? _ _ hHeld.1; rw [add_block] at h_; omega); have NE1_ : ad114.block ≠ gb117 := (by have h_ := World.block_lt_of_cell? _ _ hHeld.2.2.1; rw [add_block] at h_; omega); have HS0_ := (hb.cell (World.block_lt_of_cell? _ _ (hHeld.1))).trans (hHeld.1); have HS1_ := (hb.cell (World.block_lt_of_cell? _ _ (hHeld.2.1))).trans (hHeld.2.1); have HS2_ := (hb.cell (World.block_lt_of_cell? _ _ (hHeld.2.2.1))).trans (hHeld.2.2.1); have HS3_ := (hb.cell (World.block_lt_of_cell? _ _ (hHeld.2.2.2.1))).trans (hHeld.2.2.2.1); have HS4_ := (hb.cell (World.block_lt_of_cell? _ _ (hHeld.2.2.2.2.1))).trans (hHeld.2.2.2.2.1); have HS5_ := (hb.cell (World.block_lt_of_cell? _ _ (hHeld.2.2.2.2.2.1))).trans (hHeld.2.2.2.2.2.1)
            have HS6_ := (hb.cell (World.block_lt_of_cell? _ _ (hHeld.2.2.2.2.2.2.1))).trans (hHeld.2.2.2.2.2.2.1); have HS7_ := (hb.cell (World.block_lt_of_cell? _ _ (hHeld.2.2.2.2.2.2.2))).trans (hHeld.2.2.2.2.2.2.2); replace HO_0 := eV_ HO_0 hg hb; replace HO_1 := eV_ HO_1 hg hb; replace HO_5 := A_ (Kd.R_below (Kd.R_elderB (hrR_ HO_5.out) gb117 (Nat.le_of_eq hg.symm)) hb); have BK117 := A_ (hbox); have GW117 := gs_ w hg; have GE117 := gs_ w hg; replace HB := bs_ hb; clear hb hbox hg; refine hK.out _ _ ⟨HS0_, HS1_, HS2_, HS3_, HS4_, HS5_, HS6_, HS7_⟩ (fun hHeld => ?_); clear hK K; refine nA ?_; refine oA 24 none 25 33554431 fun K hK => ?_; have hs54 : w53.cell? ⟨gb117, 0, none⟩ = some (.int .i64 0) := bq_ BK117 0; have hfs54 := blk_frozen BK117.out 0; have hs55 : w53.cell? ⟨gb117, 1, none⟩ = some (.int .i64 0) := bq_ BK117 1; have hfs55 := blk_frozen BK117.out 1; refine sA ?_; refine hK.out _ _ ⟨((cell_far (p := ⟨gb117, _, none⟩) (ne_ NE0_) _).trans (((cell_far (p := ⟨gb117, _, none⟩) (ne_ NE0_) _).trans (hHeld.1)))), ((cell_far (p := ⟨gb117, _, none⟩) (ne_ NE0_) _).trans (((cell_far (p := ⟨gb117, _, none⟩) (ne_ NE0_) _).trans (hHeld.2.1)))), ((cell_far (p := ⟨gb117, _, none⟩) (ne_ NE1_) _).trans (((cell_far (p := ⟨gb117, _, none⟩) (ne_ NE1_) _).trans (hHeld.2.2.1)))), ((cell_far (p := ⟨gb117, _, none⟩) (ne_ NE1_) _).trans (((cell_far (p := ⟨gb117, _, none⟩) (ne_ NE1_) _).trans (hHeld.2.2.2.1)))), ((cell_far (p := ⟨gb117, _, none⟩) (ne_ NE0_) _).trans (((cell_far (p := ⟨gb117, _, none⟩) (ne_ NE0_) _).trans (hHeld.2.2.2.2.1)))), ((cell_far (p := ⟨gb117, _, none⟩) (ne_ NE0_) _).trans (((cell_far (p := ⟨gb117, _, none⟩) (ne_ NE0_) _).trans (hHeld.2.2.2.2.2.1)))), ((cell_far (p := ⟨gb117, _, none⟩) (ne_ NE1_) _).trans (((cell_far (p := ⟨gb117, _, none⟩) (ne_ NE1_) _).trans (hHeld.2.2.2.2.2.2.1)))), ((cell_far (p := ⟨gb117, _, none⟩) (ne_ NE1_) _).trans (((cell_far (p := ⟨gb117, _, none⟩) (ne_ NE1_) _).trans (hHeld.2.2.2.2.2.2.2))))⟩ (fun hHeld => ?_)
            clear hK K; refine done_ (done_of HT_.out (by kernel_rfl)) ?_; have Z56 := bz2_ BK117; (try go_wp2); have n0_ : Aside0 (Kd.V k42 42 ((w53.setCell ⟨gb117, 0, none⟩ (.int .i64 ji17)).setCell ⟨gb117, 1, none⟩ (.int .i64 ji18)) w.heap.size (fun k_ => nv_ k_ u5 ∧ k_ ≠ gb117) (.slice (some ad113) t107.length co51) t107) := ⟨fpV_ HO_0.out⟩; have n1_ : Aside0 (Kd.V k42 42 ((w53.setCell ⟨gb117, 0, none⟩ (.int .i64 ji17)).setCell ⟨gb117, 1, none⟩ (.int .i64 ji18)) w.heap.size (fun k_ => nv_ k_ u5 ∧ k_ ≠ gb117) (.slice (some ad114) t110.length co52) t110) := ⟨fpV_ HO_1.out⟩; have n2_ : Aside0 (Kd.R k42 42 ((w53.setCell ⟨gb117, 0, none⟩ (.int .i64 ji17)).setCell ⟨gb117, 1, none⟩ (.int .i64 ji18)) w.heap.size (fun k_ => k_ ≠ gb117) u5 x5_1) := ⟨fpR_ HO_5.out⟩; have n3_ : Aside0 (((w53.setCell ⟨gb117, 0, none⟩ (.int .i64 ji17)).setCell ⟨gb117, 1, none⟩ (.int .i64 ji18)).heap[gb117]? = some (.cells #[.int .i64 ji17, .int .i64 ji18] 42 (0, 0))) := ⟨pb_ BK117.out⟩; have n4_ : Aside0 (Below w.heap.size w ((w53.setCell ⟨gb117, 0, none⟩ (.int .i64 ji17)).setCell ⟨gb117, 1, none⟩ (.int .i64 ji18))) := ⟨hs_⟩; (try clear HO_0); (try clear HO_1); (try clear HO_5); (try clear BK117); (try clear HB); generalize ((w53.setCell ⟨gb117, 0, none⟩ (.int .i64 ji17)).setCell ⟨gb117, 1, none⟩ (.int .i64 ji18)) = w57 at n0_ n1_ n2_ n3_ n4_ ⊢; have HO_0 := n0_; have HO_1 := n1_; have HO_5 := n2_; have BK117 := n3_; have HB := n4_; clear n0_ n1_ n2_ n3_ n4_; replace HO_0 := A_ (Kd.V_drew HO_0.out); replace HO_1 := A_ (Kd.V_drew HO_1.out); replace HO_5 := A_ (Kd.R_drew HO_5.out); replace BK117 := A_ (blk_drew BK117.out); replace HB := A_ (below_drew1 HB.out); have p123 : 0 ≤ (x6_1 : Int) := od_; have q123 : x6_1 < (t107.length : Int) := od_; obtain ⟨ad123, e123, hx123_0, hx123_1⟩ := at_T42 (Kd.V_reads' HO_0.out).2.2 x6_1 p123 q123; obtain rfl : ad113 = ad123 := (by injection e123); replace p123 := eq_true p123; replace q123 := eq_true q123; have p124 : 0 ≤ (x7_1 : Int) := od_; have q124 : x7_1 < (t110.length : Int) := od_; obtain ⟨ad124, e124, hx124_0, hx124_1⟩ := at_T42 (Kd.V_reads' HO_1.out).2.2 x7_1 p124 q124
            obtain rfl : ad114 = ad124 := (by injection e124); replace p124 := eq_true p124; replace q124 := eq_true q124; refine start_ (n := 11) (S := fun w' => w'.cell? (ad113.add ((x6_1).toNat * 2)) = some (.int .i64 ((rd_T42 t107 x6_1).f0)) ∧ w'.cell? ⟨(ad113.add ((x6_1).toNat * 2)).block, (ad113.add ((x6_1).toNat * 2)).off + 1, none⟩ = some (.int .i64 ((rd_T42 t107 x6_1).f1)) ∧ w'.cell? (ad114.add ((x7_1).toNat * 2)) = some (.int .i64 ((rd_T42 t110 x7_1).f0)) ∧ w'.cell? ⟨(ad114.add ((x7_1).toNat * 2)).block, (ad114.add ((x7_1).toNat * 2)).off + 1, none⟩ = some (.int .i64 ((rd_T42 t110 x7_1).f1))) (ds := []) (ab 11 0) (by kernel_rfl) rfl rfl ⟨hx123_0, hx123_1, hx124_0, hx124_1⟩ (fun hHeld => ?_); refine with_tabW sets_Meet.tab8 sets_Meet.bits8 (fun HT_ HW_ => ?_); generalize w57.drew = w58 at HO_0 HO_1 HO_5 BK117 HB hx123_0 hx123_1 hx124_0 hx124_1 hHeld ⊢; refine pA 0 55 11 1 ?_; refine pA 1 56 11 3 ?_; refine pA 2 57 11 7 ?_; refine pA 3 58 11 15 ?_; refine pA 5 60 11 47 ?_; refine pA 6 61 11 111 ?_; refine pA 7 62 11 239 ?_; refine pA 8 63 11 495 ?_; refine tB 4 59 11 511 ?_; refine tB 9 64 11 1023 ?_; refine pA 10 65 11 2047 ?_; refine done_ (done_of HT_.out (by kernel_rfl)) ?_; (try go_wp2); go_roundg kj6
            case measure => have := HK1.out; have := HJ6.out; omega
            case rel => exact ⟨(x5_1), (x6_1), (wrap64 (x7_1 + 1)), rf_, rf_, H', ⟨by have := HK1.out; have := HJ6.out; omega⟩, ⟨by (with_reducible repeat (first | apply Kd.V_alloc | apply Kd.V_drewN | apply Kd.V_drew)); exact Kd.V_mono HO_0.out (fun _ hk => hk.1)⟩, ⟨by (with_reducible repeat (first | apply Kd.V_alloc | apply Kd.V_drewN | apply Kd.V_drew)); exact Kd.V_mono HO_1.out (fun _ hk => hk.1)⟩, ⟨by (with_reducible repeat (first | apply Kd.R_alloc | apply Kd.R_drewN | apply Kd.R_drew)); exact Kd.R_mono HO_5.out (fun _ hk => trivial)⟩, ⟨hs_⟩⟩
         ·rw [if_neg c16] at H
          exact absurd H (by simp)
        ·rw [if_neg c15] at H
         exact absurd H (by simp)
       ·rw [if_neg c14] at H
        exact absurd H (by simp)
      ·rw [if_neg c13] at H
       exact absurd H (by simp)
     ·replace c12 := Bool.eq_false_iff.mpr c12
      subst c12; replace H := iN_ H; obtain rfl := Option.some.inj H; go_wp2; (try rw [Exit.noGoto_ret]); go_ret; exact ⟨_, by first | rfl | (simp [errW_none, errW_some] <;> rfl) | (simp [*, errW_none, errW_some] <;> rfl), fxR_ HO_5.out, hs_⟩
end Go.Proofs.YthppfagfmjchoaaDoor.A
namespace Go.Proofs.YthppfagfmjchoaaDoor.A
open Go.RowKit Go.Proofs.YthppfagfmjchoaaDoorW.PrintWords Go.Proofs.YthppfagfmjchoaaDoorW.PrintLast Go.Proofs.YthppfagfmjchoaaDoorW.PrintMore
attribute [local go_sem] max2_int min2_int max_two min_two max_three min_three max_four min_four
attribute [local go_sem high] eqA23
set_option maxHeartbeats 8000000 in
set_option maxRecDepth 100000 in
theorem sets_Clip.calls (k : Nat) (A0 : Option Addr) (c0 : Nat) (l0 : List (S42)) (a1 a2 : Int) (r : List (S42)) (w : World) (hr0 : Kd.C k42 w A0 l0.length l0) (hc0 : l0.length ≤ c0) (h : sets_Clip.f k l0 a1 a2 = some r) :
  Calls Tryd.prog 38 #[.slice A0 l0.length c0, .int .i64 a1, .int .i64 a2] w fun e w' => ∃ v0_ : Value, e = .returned (v0_) ∧ Kd.R k42 42 w' w.heap.size (fun _ => True) v0_ r ∧ Below w.heap.size w w' := by
 have hu42 := Tryd.underlying42; have HR0 := A_ hr0; have HC0 := A_ hc0; clear hr0 hc0; have HB := A_ (Below.refl w.heap.size w); have H : ((sets_Meet.f k l0 (([(⟨a1, a2⟩ : S42)] : List (S42)))).bind fun t128 => (some t128)) = some r := h; clear h; obtain ⟨y125, hy125⟩ : ∃ y_ : List (S42), y_ = (([(⟨a1, a2⟩ : S42)] : List (S42))) := ⟨_, rfl⟩; (replace H : ((sets_Meet.f k l0 y125).bind fun t128 => (some t128)) = some r := hy_ hy125 H); have Ny125 := A_ hy125; clear hy125; obtain ⟨t128, A4, H⟩ := bi_ H; obtain rfl := Option.some.inj H; go_enter Tryd.func38, Tryd.ntmps38; go_wp2_with (first | (refine gD 11 ?_; refine Kd.R_lit k42 _ 42 ?hg (N := 11) ?hd (xs := ([(⟨a1, a2⟩ : S42)] : List (S42))) (inner := [.int .i64 a1, .int .i64 a2]) (ok := fun _ => True) (okp := fun _ => True) ?hr ?hp (fun _ hk => hk) trivial (Below.refl _ _) (Nat.le_refl _) (by simp) ?_; (case hd => rfl); (case hg => rfl); (case hr => first | (go_simp; done) | (go_simp; rfl)); (case hp => exact (Reps.c2 (show Kd.M k42 _ _ _ (⟨a1, a2⟩ : S42) [.int .i64 a1, .int .i64 a2] from (k42_mkM _ _ _ (⟨a1, a2⟩ : S42) )) (Reps.none _ _))); intro v126 w5 ho6 hb hg_ hnew_; clear hg_ hnew_; (first | rw [← Ny125.out] at ho6 | (simp only [Int.reduceToNat] at ho6; rw [← Ny125.out] at ho6)); have HO127 := A_ (Kd.R_lower ho6 (below_size hs_)); replace HB := bs_ hb; clear hb ho6; obtain ⟨Ao7, co7, eo7⟩ := Kd.R_slice HO127.out; subst eo7) | (refine gC 36 ?_; refine gL 12 Tryd.func36 #[.slice A0 l0.length c0, .slice Ao7 y125.length co7] ?_; (with_reducible refine (sets_Meet.calls k _ _ l0 _ _ y125 t128 _ ?side1 ?side2 ?side3 ?side4 A4.out).mono ?_); (case side1 => exact cb_ HR0); (case side2 => exact HC0.out); (case side3 => exact cr_ (Kd.R_reads' HO127.out).2.2); (case side4 => exact (Kd.R_reads' HO127.out).2.1); rintro e w8 ⟨v129, rfl, ho0, hb⟩; refine ⟨_, rfl, ?_⟩; have HO130 := A_ (Kd.R_lower (Kd.R_new' ho0 (Kd.R_lt (hrR_ HO127.out))) (below_size hs_)); replace HO127 := A_ (Kd.R_elder' (hrR_ HO127.out) (Kd.R_base ho0) hb); replace HB := bs_ hb; (try clear hb); (try clear ho0))); go_ret; exact ⟨_, by first | rfl | (simp [errW_none, errW_some] <;> rfl) | (simp [*, errW_none, errW_some] <;> rfl), by (with_reducible repeat (first | apply Kd.R_alloc | apply Kd.R_drewN | apply Kd.R_drew)); exact Kd.R_mono HO130.out (fun _ hk => trivial), hs_⟩
set_option maxHeartbeats 8000000 in
set_option maxRecDepth 100000 in
theorem image_units.calls (k : Nat) (a0 : Int) (A1 : Option Addr) (c1 : Nat) (l1 r : List (S42)) (w : World) (hr1 : Kd.C k42 w A1 l1.length l1) (hc1 : l1.length ≤ c1) (h : image_units.f k a0 l1 = some r) :
  Calls Tryd.prog 60 #[.int .i64 a0, .slice A1 l1.length c1] w fun e w' => ∃ v0_ : Value, e = .returned (v0_) ∧ Kd.R k42 42 w' w.heap.size (fun _ => True) v0_ r ∧ Below w.heap.size w w' := by
 have HR1 := A_ hr1; have HC1 := A_ hc1; clear hr1 hc1; have HB := A_ (Below.refl w.heap.size w); have H : ((unit_Count.f a0).bind fun t101 => ((sets_Clip.f k l1 0 (wrap64 (t101 - 1))).bind fun t102 => (some t102))) = some r := h; clear h; obtain ⟨t101, A3, H⟩ := bi_ H; obtain ⟨t102, A4, H⟩ := bi_ H; obtain rfl := Option.some.inj H; go_enter Tryd.func60, Tryd.ntmps60; go_wp2_with (first | ((with_reducible refine gC 20 ?_); refine goesL_ (some 7) rfl rfl Tryd.func20 (by kernel_rfl) rfl #[.int .i64 a0] rfl ml_ ?_; (with_reducible refine (unit_Count.calls a0 t101 _ A3.out).mono ?_); rintro e w5 ⟨rfl, hb⟩; refine ⟨_, rfl, ?_⟩; replace HB := bs_ hb; (try clear hb)) | ((with_reducible refine gC 38 ?_); refine goesL_ (some 9) rfl rfl Tryd.func38 (by kernel_rfl) rfl #[.slice A1 l1.length c1, .int .i64 0, .int .i64 (wrap64 (t101 - 1))] rfl ml_ ?_; (with_reducible refine (sets_Clip.calls k _ _ l1 0 (wrap64 (t101 - 1)) t102 _ ?side1 ?side2 A4.out).mono ?_); (case side1 => repeat (first | exact (Kd.C_below HR1.out HB.out) | (with_reducible refine Kd.C_alloc ?_ _) | (with_reducible refine Kd.C_drewN ?_ _) | (with_reducible refine Kd.C_drew ?_))); (case side2 => exact HC1.out); rintro e w6 ⟨v103, rfl, ho0, hb⟩; refine ⟨_, rfl, ?_⟩; have HO104 := A_ (Kd.R_lower ho0 (below_size hs_)); replace HB := bs_ hb; (try clear hb); (try clear ho0))); go_ret; exact ⟨_, by first | rfl | (simp [errW_none, errW_some] <;> rfl) | (simp [*, errW_none, errW_some] <;> rfl), fxR_ HO104.out, hs_⟩
end Go.Proofs.YthppfagfmjchoaaDoor.A
namespace Go.Proofs.YthppfagfmjchoaaDoor.A
open Go.RowKit Go.Shelf Go.Proofs.YthppfagfmjchoaaDoorW.PrintWords Go.Proofs.YthppfagfmjchoaaDoorW.PrintLast Go.Proofs.YthppfagfmjchoaaDoorW.PrintMore
attribute [local go_sem] Oper.semAt_some isSome_setCell
def okU (u : List S42) : Prop := u.length * 16 ≤ 140737488351232 ∧ (upRs u).length ≤ 1000 ∧ ∀ r ∈ u, 0 ≤ r.f0 ∧ r.f0 < 1000000000000 ∧ r.f1 < 1000000000000
instance (u : List S42) : Decidable (okU u) := by unfold okU; infer_instance
def image_marks.f (g : Int → Int → Option (Int × Bool)) (k : Nat) (kind : Int) (l : List S42) : Option (List S42 × Bool) :=
  (image_units.f k kind l).bind fun u => if kind = 0 then (sets_Wide.f k u).bind fun b => some (u, !b) else (runs_Count.f k u).bind fun c => if c > 400 then some ([], false) else if okU u then ((upRs u).mapM fun n => g kind n).bind fun ys => (runs_Of.f k (ys.map fun y => y.1)).bind fun r => some (r, true) else none
set_option maxHeartbeats 8000000 in
set_option maxRecDepth 100000 in
theorem marks_zero (fk : Nat) (g : Int → Int → Option (Int × Bool)) (k : Nat) (A0 : Option Addr) (c0 : Nat) (l r : List S42) (b : Bool) (w : World) (hr0 : Kd.C k42 w A0 l.length l) (hc0 : l.length ≤ c0) (h : image_marks.f g k 0 l = some (r, b)) :
    Calls Tryd.prog 67 #[.int .i64 0, .slice A0 l.length c0, .func (.func fk) #[] #[]] w fun e w' => ∃ v0_ : Value, e = .returned (.tuple #[v0_, .bool b]) ∧ Kd.R k42 42 w' w.heap.size (fun _ => True) v0_ r ∧ Below w.heap.size w w' := by
  unfold image_marks.f at h
  obtain ⟨u, hu, h⟩ := Option.bind_eq_some_iff.mp h
  rw [if_pos rfl] at h
  obtain ⟨b1, hb1, h⟩ := Option.bind_eq_some_iff.mp h
  obtain ⟨rfl, rfl⟩ := Prod.mk.inj (Option.some.inj h)
  have HU := A_ hu; have HW := A_ hb1; have HC0 := A_ hc0; have HR0 := A_ hr0
  clear hu hb1 h hc0 hr0
  have HB := A_ (Below.refl w.heap.size w)
  go_enter Tryd.func67, Tryd.ntmps67
  go_wp2_with (first | ((with_reducible refine gD 3 ?_); refine bxe_ 3 #[.int .i64 0] 3 ?_; intro g3 hg3 w1 hbox hb; have B3 := A_ hbox; have G3 := gs_ w hg3; replace HR0 := A_ (Kd.C_below HR0.out hb); replace HB := bs_ hb; clear hb hbox hg3) | ((with_reducible refine gD 5 ?_); refine bxe_ 5 #[.func (.func fk) #[] #[]] 39 ?_; intro g5 hg5 w2 hbox hb; replace HR0 := A_ (Kd.C_below HR0.out hb); replace B3 := A_ (blk_below B3.out hb); replace HB := bs_ hb; have z3 := bz1_ B3; clear hb hbox hg5) | (go_at_call 60; (with_reducible refine (image_units.calls k 0 A0 c0 l u _ HR0.out HC0.out HU.out).mono ?_); rintro e1 w3 ⟨v, rfl, hR, hb⟩; obtain ⟨A1, c1, rfl, hc1, hC⟩ := Kd.R_reads hR; replace B3 := A_ (blk_below B3.out hb); have z3b := bz1_ B3; have HC1 := A_ hC; have HL1 := A_ hc1; have HR := A_ (Kd.R_lower hR (below_size HB.out)); replace HB := bs_ hb; clear hb hR hC hc1) | (go_at_call 47; (with_reducible refine (sets_Wide.calls k A1 c1 u b1 _ HC1.out HL1.out HW.out).mono ?_); rintro e1 w4 ⟨rfl, hb⟩; replace HR := A_ (Kd.R_below HR.out hb); replace HB := bs_ hb; clear hb))
  go_ret2; exact ⟨_, re_, HR.out, hs_⟩
set_option maxHeartbeats 8000000 in
set_option maxRecDepth 100000 in
theorem marks_many (fk : Nat) (k : Nat) (kind : Int) (A0 : Option Addr) (c0 : Nat) (l u : List S42) (c : Int) (w : World) (hr0 : Kd.C k42 w A0 l.length l) (hc0 : l.length ≤ c0) (hk0 : kind ≠ 0) (hu : image_units.f k kind l = some u) (hcc : runs_Count.f k u = some c) (h4 : c > 400) :
    Calls Tryd.prog 67 #[.int .i64 kind, .slice A0 l.length c0, .func (.func fk) #[] #[]] w fun e w' => e = .returned (.tuple #[.slice none 0 0, .bool false]) ∧ Below w.heap.size w w' := by
  have HU := A_ hu; have HW := A_ hcc; have HC0 := A_ hc0; have HR0 := A_ hr0
  have k0 : (kind == 0) = false := beq_eq_false_iff_ne.mpr hk0
  have k4 : decide (400 < c) = true := decide_eq_true h4
  clear hu hcc hc0 hr0 hk0 h4
  have HB := A_ (Below.refl w.heap.size w)
  go_enter Tryd.func67, Tryd.ntmps67
  go_wp2_with (first | ((with_reducible refine gD 3 ?_); refine bxe_ 3 #[.int .i64 kind] 3 ?_; intro g3 hg3 w1 hbox hb; have B3 := A_ hbox; have G3 := gs_ w hg3; replace HR0 := A_ (Kd.C_below HR0.out hb); replace HB := bs_ hb; clear hb hbox hg3) | ((with_reducible refine gD 5 ?_); refine bxe_ 5 #[.func (.func fk) #[] #[]] 39 ?_; intro g5 hg5 w2 hbox hb; replace HR0 := A_ (Kd.C_below HR0.out hb); replace B3 := A_ (blk_below B3.out hb); replace HB := bs_ hb; have z3 := bz1_ B3; clear hb hbox hg5) | (go_at_call 60; (with_reducible refine (image_units.calls k kind A0 c0 l u _ HR0.out HC0.out HU.out).mono ?_); rintro e1 w3 ⟨v, rfl, hR, hb⟩; obtain ⟨A1, c1, rfl, hc1, hC⟩ := Kd.R_reads hR; replace B3 := A_ (blk_below B3.out hb); have z3b := bz1_ B3; have HC1 := A_ hC; have HL1 := A_ hc1; replace HB := bs_ hb; clear hb hR hC hc1) | (go_at_call 18; (with_reducible refine (runs_Count.calls k A1 c1 u c _ HC1.out HL1.out HW.out).mono ?_); rintro e1 w4 ⟨rfl, hb⟩; replace HB := bs_ hb; clear hb))
  go_ret2; exact ⟨re_, hs_⟩
end Go.Proofs.YthppfagfmjchoaaDoor.A
namespace Go.Proofs.YthppfagfmjchoaaDoor.A
open Go.RowKit Go.Proofs.YthppfagfmjchoaaDoorW.PrintWords
theorem tot_bind {α β : Type} {o : Option α} {f : α → Option β} (h : ∃ r, o = some r) (k : ∀ r, ∃ s, f r = some s) : ∃ s, o.bind f = some s := by
  obtain ⟨r, rfl⟩ := h; exact k r
theorem ints_Mod.total (a b : Int) : ∃ r, ints_Mod.f a b = some r := by
  unfold ints_Mod.f
  repeat' split
  all_goals first | exact ⟨_, rfl⟩ | omega
theorem ints_Floor.total (a b : Int) : ∃ r, ints_Floor.f a b = some r := by
  unfold ints_Floor.f
  repeat' split
  all_goals first | exact ⟨_, rfl⟩ | omega
theorem civil_Leap.total (a : Int) : ∃ r, civil_Leap.f a = some r := by
  unfold civil_Leap.f
  refine tot_bind (ints_Mod.total _ _) fun r => ?_
  split
  · exact ⟨_, rfl⟩
  refine tot_bind (ints_Mod.total _ _) fun r => ?_
  split
  · exact tot_bind (ints_Mod.total _ _) fun r => ⟨_, rfl⟩
  · exact ⟨_, rfl⟩
theorem civil_Days.total (a b : Int) : ∃ r, civil_Days.f a b = some r := by
  unfold civil_Days.f
  repeat' split
  all_goals first | exact ⟨_, rfl⟩ | (refine tot_bind (civil_Leap.total _) fun r => ?_; split <;> exact ⟨_, rfl⟩)
theorem civil_Valid.total (a b c : Int) : ∃ r, civil_Valid.f a b c = some r := by
  unfold civil_Valid.f
  repeat' split
  all_goals first | exact ⟨_, rfl⟩ | exact tot_bind (civil_Days.total _ _) fun r => ⟨_, rfl⟩
theorem civil_Number.total (a b c : Int) : ∃ r, civil_Number.f a b c = some r := by
  unfold civil_Number.f
  refine tot_bind (civil_Valid.total _ _ _) fun r => ?_
  repeat' split
  all_goals first | exact ⟨_, rfl⟩ | exact tot_bind (ints_Floor.total _ _) fun r => tot_bind (ints_Mod.total _ _) fun s => ⟨_, rfl⟩
theorem unit_begins.total (k : Nat) (i : Int) : ∃ r, unit_begins.f k i = some r := by
  unfold unit_begins.f
  split
  · exact ⟨_, rfl⟩
  · unfold unit_span_begins.f
    exact tot_bind (civil_Number.total _ _ _) fun r => ⟨_, rfl⟩
theorem unit_First.total (kind i : Int) : ∃ r, unit_First.f kind i = some r := by
  unfold unit_First.f
  repeat' split
  all_goals first | exact ⟨_, rfl⟩ | exact tot_bind (unit_begins.total _ _) fun r => ⟨_, rfl⟩
end Go.Proofs.YthppfagfmjchoaaDoor.A
namespace Go.Proofs.YthppfagfmjchoaaDoor.A
open Go.RowKit Go.Shelf Go.Proofs.YthppfagfmjchoaaDoorW.PrintWords Go.Proofs.YthppfagfmjchoaaDoorW.PrintLast Go.Proofs.YthppfagfmjchoaaDoorW.PrintMore
attribute [local go_sem] Oper.semAt_some isSome_setCell
def unit_First.val (kind i : Int) : Int × Bool := (unit_First.f kind i).getD (0, false)
theorem unit_First.eq (kind i : Int) : unit_First.f kind i = some (unit_First.val kind i) := by
  obtain ⟨r, h⟩ := unit_First.total kind i
  rw [unit_First.val, h]; rfl
theorem info3_ : (Tryd.prog.info? 3).map (fun i => (i.zero, i.size, i.bytes)) = some (some (.int .i64 0), 1, 8) := by kernel_rfl
theorem kpe_b {n₀ : Nat} {w : World} (hn : n₀ ≤ w.heap.size) (W : World) (l : Nat) (o o' : Obj) (hl : w.heap.size ≤ l) (h : W.heap[l]? = some o) (hc : o.isCells = false) (hw : o.isWalk = false) : KpE n₀ W (W.putObj l o') :=
  ⟨belowK_b hn W l o o' hl h hc hw, fun k cs e => (World.putObj_heap_other (fun ek => by subst ek; rw [h] at e; cases e; simp [Obj.isCells] at hc)).trans e⟩
theorem ints_R {W : World} {n : Nat} {v : Value} {zs : List Int} (h : W.ownsRow n 3 1 v zs.length (zs.map (Value.int .i64))) : Kd.R (Kd.int .i64) 3 W n (fun _ => True) v zs := by
  refine ⟨fun _ _ => trivial, _, h, ?_⟩
  clear h
  induction zs with
  | nil => exact Reps.none _ _
  | cons a t ih => exact Reps.one rfl ih
theorem R_putObj_ {W : World} {n D : Nat} {ok : Nat → Prop} {v : Value} {r : List S42} (h : Kd.R k42 42 W n ok v r) (hK : W.heap[D]? = some (.deferred (some []))) (o : Obj) : Kd.R k42 42 (W.putObj D o) n ok v r :=
  Kd.R_mono (Kd.R_move (Kd.R_bound h) (fun k hk => by
    obtain ⟨_, _, _, q, _, cells, hc⟩ := hk
    exact World.putObj_heap_other (fun e => by subst e; rw [hK] at hc; cases hc))) (fun _ hk => hk.1)
theorem kb_ {W W1 : World} (h : Below W.heap.size W W1) : KeepsOthers W W1 := ⟨h.size, fun k o hk _ => (h.block k (Array.getElem?_eq_some_iff.1 hk).1).trans hk⟩
theorem kpe_app {n₀ n B : Nat} {v vv v' : Value} {xs : List Value} {W W1 : World} {tmp : Obj} (hrow : W.ownsRow n₀ 3 1 v n xs) (hgrow : (W.alloc tmp).grownBy W1 v.ownBlock) (hv1 : Boxed W1 B 68 vv) (k : Nat) (cs : Array Value) (e : W.heap[k]? = some (.cells cs 42 (0, 0))) : (W1.setCell ⟨B, 0, none⟩ v').heap[k]? = some (.cells cs 42 (0, 0)) := by
  have hlt := (Array.getElem?_eq_some_iff.1 e).1
  have e1 : (W.alloc tmp).heap[k]? = some (.cells cs 42 (0, 0)) := (Below.heap_alloc W tmp k hlt).trans e
  have hne : some k ≠ v.ownBlock := by
    intro ek
    obtain ⟨cells, hc⟩ := own_typed hrow k ek.symm
    rw [e] at hc; simp at hc
  have e2 : W1.heap[k]? = some (.cells cs 42 (0, 0)) := (hgrow.block k (by rw [World.size_alloc]; omega) hne).trans e1
  refine far_ _ _ e2 ?_
  rintro rfl
  rw [show W1.heap[k]? = _ from hv1] at e2
  simp at e2
set_option maxHeartbeats 8000000 in
set_option maxRecDepth 100000 in
theorem marks_loop (k : Nat) (kind : Int) (A0 : Option Addr) (c0 : Nat) (l u : List S42) (c : Int) (r : List S42) (w : World) (htab : TL w.heap.size w) (hr0 : Kd.C k42 w A0 l.length l) (hc0 : l.length ≤ c0) (hk0 : kind ≠ 0) (hu : image_units.f k kind l = some u) (hcc : runs_Count.f k u = some c) (h4 : ¬ c > 400) (hok : okU u) (hr : runs_Of.f k ((upRs u).map fun n => (unit_First.val kind n).1) = some r) :
    Calls Tryd.prog 67 #[.int .i64 kind, .slice A0 l.length c0, .func (.func 61) #[] #[]] w fun e w' => ∃ v0_ : Value, e = .returned (.tuple #[v0_, .bool true]) ∧ Kd.R k42 42 w' w.heap.size (fun _ => True) v0_ r ∧ Below w.heap.size w w' := by
  have HTAB := A_ htab; have HU := A_ hu; have HW := A_ hcc; have HC0 := A_ hc0; have HR0 := A_ hr0; have HOK := A_ hok; have HF := A_ hr
  have k0 : (kind == 0) = false := beq_eq_false_iff_ne.mpr hk0
  have k4 : decide (400 < c) = false := decide_eq_false h4
  clear hu hcc hc0 hr0 hk0 h4 hok hr htab
  have HB := A_ (Below.refl w.heap.size w)
  refine (callsIn_wide (n := 5)).1 ?_
  refine callsIn_of_wp_marks Tryd.func67 rfl trivial ?_ rfl
  refine wpIn_wide.2 ?_
  simp only [Tryd.ntmps67, List.size_toArray, List.length_cons, List.length_nil, Nat.reduceAdd, Nat.reduceSub, Array.replicate_succ, Array.replicate_zero, List.push_toArray, List.append_toArray, List.nil_append, List.cons_append]
  go_wp2_with (first | ((with_reducible refine gD 3 ?_); refine bxe_ 3 #[.int .i64 kind] 3 ?_; intro g3 hg3 w1 hbox hb; have B3 := A_ hbox; have G3 := gs_ w hg3; replace HR0 := A_ (Kd.C_below HR0.out hb); replace HB := bs_ hb; clear hb hbox hg3) | ((with_reducible refine gD 5 ?_); refine bxe_ 5 #[.func (.func 61) #[] #[]] 39 ?_; intro g5 hg5 w2 hbox hb; have B5 := A_ hbox; replace HR0 := A_ (Kd.C_below HR0.out hb); replace B3 := A_ (blk_below B3.out hb); replace HB := bs_ hb; have z3 := bz1_ B3; clear hb hbox hg5) | (go_at_call 60; (with_reducible refine (image_units.calls k kind A0 c0 l u _ HR0.out HC0.out HU.out).mono ?_); rintro e1 w3 ⟨v, rfl, hR, hb⟩; obtain ⟨A1, c1, rfl, hc1, hC⟩ := Kd.R_reads hR; replace B3 := A_ (blk_below B3.out hb); replace B5 := A_ (blk_below B5.out hb); have z3b := bz1_ B3; have HC1 := A_ hC; have HL1 := A_ hc1; replace HB := bs_ hb; clear hb hR hC hc1) | (go_at_call 18; (with_reducible refine (runs_Count.calls k A1 c1 u c _ HC1.out HL1.out HW.out).mono ?_); rintro e1 w4 ⟨rfl, hb⟩; replace B3 := A_ (blk_below B3.out hb); replace B5 := A_ (blk_below B5.out hb); replace HC1 := A_ (Kd.C_below HC1.out hb); replace HB := bs_ hb; clear hb) | ((with_reducible refine gD 9 ?_); refine bxe_ 9 #[.slice none 0 0] 68 ?_; intro g9 hg9 w5 hbox hb; have B9 := A_ hbox; have HCu := A_ (cells_ u A1 _ HC1.out); have N4 := A_ hg9; have N45 := A_ hb; have L3 := A_ (blk_lt B3.out); have L5 := A_ (blk_lt B5.out); have HB4 := HB; replace B3 := A_ (blk_below B3.out hb); replace B5 := A_ (blk_below B5.out hb); replace HB := bs_ hb; clear hb hbox hg9) | (go_at_call 79; (with_reducible refine (image_each.calls A1 u.length c1 _).mono ?_); rintro e1 w6 ⟨rfl, hw6⟩))
  obtain ⟨i0, hi, hz0, hz1, hz2⟩ := info_parts info3_
  have hs45 : w4.heap.size ≤ w5.heap.size := below_size N45.out
  have hws := below_size HB4.out
  refine (wpIn_wide (n := 5)).1 ?_
  refine wpIn_rangeFunc_ownG rfl (by decide) (gf := 96) (lb := #[.pointer (some ⟨w5.heap.size, 0, none⟩)]) rfl trivial (enters_of Tryd.func96 (by kernel_rfl) rfl)
    (each_stops Fence.wide 4 trivial rfl (by decide) w5.heap.size w4.heap.size c1 A1 u _ (bq_ (A_ (blk_new w5 _)) 0) (by simp; omega) HOK.out.1 HOK.out.2.2 ?cells) KpE.trans (kpe_b (by simp; omega)) (Below.refl _ _) (fun _ => rfl)
    (fun pre W => (∃ v, Boxed W g9 68 v ∧ W.ownsRow w4.heap.size 3 1 v (pre.map fun n => (unit_First.val kind n).1).length ((pre.map fun n => (unit_First.val kind n).1).map (Value.int .i64)) ∧ True) ∧ Below w4.heap.size w5 W)
    (fun _ _ _ => False)
    (OwnFrom.and (Own.from (holdsRow_own w4.heap.size g9 68 3 1 (fun pre : List Int => (pre.map fun n => (unit_First.val kind n).1).length) (fun pre => (pre.map fun n => (unit_First.val kind n).1).map (Value.int .i64)) (fun pre v => True)) _) (ownFrom_below hs45 (by simp; omega)))
    (fun _ _ _ _ _ hs _ _ => hs)
    ⟨⟨_, blk_alloc B9.out _, World.ownsRow_nil _ _ _ _, trivial⟩, (Below.refl _ _).alloc hs45 _⟩
    (fun x => { tmps := #[.int .i64 kind, .slice A0 l.length c0, .func (.func 61) #[] #[], .pointer (some ⟨g3, 0, none⟩), undef, .pointer (some ⟨g5, 0, none⟩), .slice none 0 0, .bool false, .slice A1 u.length c1, .pointer (some ⟨g9, 0, none⟩), .int .i64 x, undef, undef, .int .i64 kind, .slice A0 l.length c0, .slice A1 u.length c1, .int .i64 kind, .bool false, undef, undef, undef, undef, .slice A1 u.length c1, .int .i64 c, .bool false, .slice A1 u.length c1, .func (.func 96) #[] #[.pointer (some ⟨w5.heap.size, 0, none⟩)], .int .i64 x, undef, undef, undef, undef, undef, undef, undef, undef, undef, undef, undef, undef, undef], defers := [] }) ?assign ?body ?done ?stop
  case cells =>
    intro hz
    obtain ⟨b, off, e, hb, hj⟩ := HCu.out hz
    refine ⟨b, off, e, hb, fun j h => ?_⟩
    have hB6 := (N45.out.alloc hs45 (.cells #[.slice A1 u.length c1] 34))
    exact ⟨(hB6.cell (p := ⟨b, off + j * 2, none⟩) hb).trans (hj j h).1, (hB6.cell (p := ⟨b, off + j * 2 + 1, none⟩) hb).trans (hj j h).2⟩
  case assign =>
    intro l x W K hK
    gi_wp2
    exact hK
  case body =>
    rintro l pre x W ⟨⟨v, hv, hrow, _⟩, hB⟩ hlt
    have hc := hv.cell
    have hl1 : pre.length < 1000 := Nat.lt_of_lt_of_le hlt HOK.out.2.1
    have hml : (pre.map fun n => (unit_First.val kind n).1).length = pre.length := List.length_map _
    have z5 : W.cell? ⟨g5, 0, none⟩ = some (.func (.func 61) #[] #[]) := (hB.cell (p := ⟨g5, 0, none⟩) L5.out).trans (bc1_ B5)
    have z3 : W.cell? ⟨g3, 0, none⟩ = some (.int .i64 kind) := (hB.cell (p := ⟨g3, 0, none⟩) L3.out).trans (bc1_ B3)
    have htW : TL W.heap.size W := TL.at_ HTAB.out (HB.out.trans (hB.mono hws))
    have hW4 : w4.heap.size ≤ W.heap.size := Nat.le_trans hs45 hB.size
    have hn1 : 1 ≤ 5 - 1 - 1 := by decide
    gi_wp2_with (first | (refine ⟨trivial, ?_⟩; gi_at_call 61; refine (CallsIn.inRound l (callsIn_wide.2 (unit_First.callsP kind x _ _ htW (unit_First.eq kind x)))).mono ?_; rintro e w7 ⟨rfl, hb⟩; have hv7 : Boxed w7 g9 68 v := blk_below hv hb; have hrow7 := own_move hrow (fun k hk => hb.block k (own_lt hrow k hk)); have hc7 := hv7.cell) | (gi_at_builtin; refine wpListIn_append_own _ rfl _ _ 68 rfl w4.heap.size 3 i0 (.int .i64 0) 1 8 Tryd.underlying68 hi hz0 hz1 hz2 rfl (by decide) _ _ _ rfl (hrow7.alloc _) ⟨w7.heap.size, 0, none⟩ 1 1 [.int .i64 (unit_First.val kind x).1] rfl rfl (cell_one_new _ _ _) (by simp [Value.oneCell']) (by rw [hml, maxLen]; omega) (by rw [hml]; omega) (by have := hb.size; simp; omega) ?_; intro v' w8 hown' hgrow _; obtain ⟨g', cap', rfl⟩ := ownsRow_succ hown'; have HA := hv7.appended (by decide) hrow7 (Nat.le_trans hW4 hb.size) (Nat.le_of_eq N4.out.symm) hown' hgrow; obtain ⟨hv1, hv2, hr2, hk2, hb2⟩ := HA; have hkp := kpe_app (v' := .slice (some ⟨g', 0, none⟩) (List.length (List.map (fun n => (unit_First.val kind n).1) pre) + 1) cap') hrow7 hgrow hv1; have hc1 := hv1.cell; have hf1 := hv1.frozen))
    simp only [hml] at hv2 hr2 hk2 hb2 hkp
    exact ⟨((kb_ hb).trans hk2).from _, ⟨(hb.mono hW4).trans hb2, fun k cs e => hkp k cs ((hb.block k (Array.getElem?_eq_some_iff.1 e).1).trans e)⟩, ⟨_, hv2, by simpa using hr2, trivial⟩, (hB.trans (hb.mono hW4)).trans hb2⟩
  case done =>
    rintro D ys W hD rfl ⟨⟨v, hv, hrow, _⟩, hB⟩ hK
    have hc := hv.cell
    have hf := hv.frozen
    have hfo := HF.out
    obtain ⟨zs, hzs⟩ : ∃ zs, zs = ((upRs u).map fun n => (unit_First.val kind n).1) := ⟨_, rfl⟩
    rw [← hzs] at hrow hfo
    obtain ⟨Ao, co, rfl, hco, hCo⟩ := Kd.R_reads (ints_R hrow)
    have HCo := A_ hCo; have HLo := A_ hco; have HFo := A_ hfo
    clear hCo hco hfo hrow hzs
    go_wp2_with (first | (go_at_call 80; (with_reducible refine (runs_Of.calls k Ao co zs r _ HCo.out HLo.out HFo.out).mono ?_); rintro e1 w9 ⟨v9, rfl, hR9, hb9⟩))
    have hK9 := (hb9.block D (Array.getElem?_eq_some_iff.1 hK).1).trans hK
    have hwW : w.heap.size ≤ W.heap.size := Nat.le_trans hws (Nat.le_trans hs45 hB.size)
    have hBW : Below w.heap.size w w9 := (HB.out.trans (hB.mono hws)).trans (hb9.mono hwW)
    refine ⟨by simp, .inl ⟨_, _, rfl, run_takeDeferred hK9, ?_⟩⟩
    refine ⟨_, results_list (rs := [.tmp 6, .tmp 7]) (vs := [v9, .bool true]) rfl (by simp) (Vals.tmp (Vals.tmp Vals.nil)), v9, rfl, R_putObj_ (Kd.R_lower hR9 hwW) hK9 _, hBW.trans (belowK_b (w := w) (Nat.le_refl _) w9 D _ _ (by simp at hD; omega) hK9 rfl rfl)⟩
  case stop =>
    rintro D c pre W _ _ h _
    exact h.elim
def image_marksv.f (val : Int → Int → Int × Bool) (k : Nat) (kind : Int) (l : List S42) : Option (List S42 × Bool) :=
  (image_units.f k kind l).bind fun u => if kind = 0 then (sets_Wide.f k u).bind fun b => some (u, !b) else (runs_Count.f k u).bind fun c => if c > 400 then some ([], false) else if okU u then (runs_Of.f k ((upRs u).map fun n => (val kind n).1)).bind fun r => some (r, true) else none
theorem marks_First.calls (k : Nat) (kind : Int) (A0 : Option Addr) (c0 : Nat) (l r : List S42) (b : Bool) (w : World) (htab : TL w.heap.size w) (hr0 : Kd.C k42 w A0 l.length l) (hc0 : l.length ≤ c0) (h : image_marksv.f unit_First.val k kind l = some (r, b)) :
    Calls Tryd.prog 67 #[.int .i64 kind, .slice A0 l.length c0, .func (.func 61) #[] #[]] w fun e w' => ∃ v0_ : Value, e = .returned (.tuple #[v0_, .bool b]) ∧ Kd.R k42 42 w' w.heap.size (fun _ => True) v0_ r ∧ Below w.heap.size w w' := by
  unfold image_marksv.f at h
  by_cases hk : kind = 0
  · subst hk
    refine marks_zero 61 (fun _ _ => none) k A0 c0 l r b w hr0 hc0 ?_
    unfold image_marks.f
    obtain ⟨u, hu, h⟩ := Option.bind_eq_some_iff.mp h
    rw [if_pos rfl] at h
    rw [hu, Option.bind_some, if_pos rfl]; exact h
  obtain ⟨u, hu, h⟩ := Option.bind_eq_some_iff.mp h
  rw [if_neg hk] at h
  obtain ⟨c, hc, h⟩ := Option.bind_eq_some_iff.mp h
  by_cases h4 : c > 400
  · rw [if_pos h4] at h
    obtain ⟨rfl, rfl⟩ := Prod.mk.inj (Option.some.inj h)
    exact (marks_many 61 k kind A0 c0 l u c w hr0 hc0 hk hu hc h4).mono fun e w' ⟨he, hb⟩ => ⟨_, he, Kd.R_nil _ _ _ _ _, hb⟩
  rw [if_neg h4] at h
  by_cases ho : okU u
  · rw [if_pos ho] at h
    obtain ⟨r1, hr1, h⟩ := Option.bind_eq_some_iff.mp h
    obtain ⟨rfl, rfl⟩ := Prod.mk.inj (Option.some.inj h)
    exact marks_loop k kind A0 c0 l u c r1 w htab hr0 hc0 hk hu hc h4 ho hr1
  · rw [if_neg ho] at h; exact absurd h (by simp)
def image_Starts.f (k : Nat) (kind : Int) (l : List S42) : Option (List S42 × Bool) := (image_marksv.f unit_First.val k kind l).bind fun p => if p.2 = true then some (p.1, true) else some ([], false)
set_option maxHeartbeats 8000000 in
set_option maxRecDepth 100000 in
theorem image_Starts.calls (k : Nat) (a0 : Int) (A1 : Option Addr) (c1 : Nat) (l1 r1 : List S42) (r2 : Bool) (w : World) (htab : TL w.heap.size w) (hr1 : Kd.C k42 w A1 l1.length l1) (hc1 : l1.length ≤ c1) (h : image_Starts.f k a0 l1 = some (r1, r2)) :
    Calls Tryd.prog 48 #[.int .i64 a0, .slice A1 l1.length c1] w fun e w' => ∃ v0_ : Value, e = .returned (.tuple #[v0_, .bool r2]) ∧ Kd.R k42 42 w' w.heap.size (fun _ => True) v0_ r1 ∧ Below w.heap.size w w' := by
  obtain ⟨⟨q, b⟩, hq, h⟩ := Option.bind_eq_some_iff.mp (show (image_marksv.f unit_First.val k a0 l1).bind _ = some (r1, r2) from h)
  have HTAB := A_ htab; have HR := A_ hr1; have HC := A_ hc1; have HQ := A_ hq
  have HB := A_ (Below.refl w.heap.size w)
  clear htab hr1 hc1 hq
  cases b with
  | true =>
    obtain ⟨rfl, rfl⟩ := Prod.mk.inj (Option.some.inj ((if_pos rfl).symm.trans h))
    clear h
    go_enter Tryd.func48, Tryd.ntmps48
    go_wp2_with (first | (go_at_call 67; (with_reducible refine (marks_First.calls k a0 A1 c1 l1 _ true _ HTAB.out HR.out HC.out HQ.out).mono ?_); rintro e1 w1 ⟨v, rfl, hR, hb⟩; have HO := A_ hR; obtain ⟨Ao, co, rfl, _, _⟩ := Kd.R_reads hR; replace HB := A_ hb; clear hb hR) | ((with_reducible refine gD 11 ?_); refine gL 11 Tryd.func67 #[.int .i64 a0, .slice A1 l1.length c1, .func (.func 61) #[] #[]] ?_; (with_reducible refine (marks_First.calls k a0 A1 c1 l1 _ true _ HTAB.out HR.out HC.out HQ.out).mono ?_); rintro e1 w1 ⟨v, rfl, hR, hb⟩; refine ⟨_, rfl, ?_⟩; have HO := A_ hR; obtain ⟨Ao, co, rfl, _, _⟩ := Kd.R_reads hR; replace HB := A_ hb; clear hb hR))
    go_ret2; exact ⟨_, re_, HO.out, hs_⟩
  | false =>
    obtain ⟨rfl, rfl⟩ := Prod.mk.inj (Option.some.inj ((if_neg (by simp)).symm.trans h))
    clear h
    go_enter Tryd.func48, Tryd.ntmps48
    go_wp2_with (first | (go_at_call 67; (with_reducible refine (marks_First.calls k a0 A1 c1 l1 _ false _ HTAB.out HR.out HC.out HQ.out).mono ?_); rintro e1 w1 ⟨v, rfl, hR, hb⟩; obtain ⟨Ao, co, rfl, _, _⟩ := Kd.R_reads hR; replace HB := A_ hb; clear hb hR) | ((with_reducible refine gD 11 ?_); refine gL 11 Tryd.func67 #[.int .i64 a0, .slice A1 l1.length c1, .func (.func 61) #[] #[]] ?_; (with_reducible refine (marks_First.calls k a0 A1 c1 l1 _ false _ HTAB.out HR.out HC.out HQ.out).mono ?_); rintro e1 w1 ⟨v, rfl, hR, hb⟩; refine ⟨_, rfl, ?_⟩; obtain ⟨Ao, co, rfl, _, _⟩ := Kd.R_reads hR; replace HB := A_ hb; clear hb hR))
    go_ret2; exact ⟨_, re_, Kd.R_nil _ _ _ _ _, hs_⟩
theorem image_marksv.mono (v : Int → Int → Int × Bool) : ∀ a0 a1 k, LeO (image_marksv.f v k a0 a1) (image_marksv.f v (k + 1) a0 a1) := by
  intro a0 a1 k
  unfold image_marksv.f
  repeat' first | (with_reducible exact image_units.mono _ _ _) | (with_reducible exact sets_Wide.mono _ _) | (with_reducible exact runs_Count.mono _ _) | (with_reducible exact runs_Of.mono _ _) | (with_reducible exact LeO.refl _) | (with_reducible exact LeO.none _) | (with_reducible refine LeO.ite ?_ ?_) | (with_reducible refine LeO.bind ?_ (fun _ => ?_))
theorem image_Starts.mono : ∀ a0 a1 k, LeO (image_Starts.f k a0 a1) (image_Starts.f (k + 1) a0 a1) := by
  intro a0 a1 k
  unfold image_Starts.f
  exact LeO.bind (image_marksv.mono _ _ _ _) (fun _ => LeO.refl _)
end Go.Proofs.YthppfagfmjchoaaDoor.A
namespace Go.Proofs.YthppfagfmjchoaaDoor.A
open Go.RowKit Go.Proofs.YthppfagfmjchoaaDoorW.PrintWords Go.Proofs.YthppfagfmjchoaaDoorW.PrintLast Go.Proofs.YthppfagfmjchoaaDoorW.PrintMore
attribute [local go_sem] max2_int min2_int max_two min_two max_three min_three max_four min_four
def point_known.f (k : Nat) (a0 : Int) (l1 : List (S42)) : Option ((List (S42)) × Int) := (image_Starts.f k a0 l1).bind fun bt148 => (if bt148.2 = true then (some (l1, 0)) else (some (([] : List (S42)), 8)))
theorem point_known.mono : ∀ a0 a1 k, LeO (point_known.f k a0 a1) (point_known.f (k + 1) a0 a1) := by
  intro a0 a1 k
  unfold point_known.f
  repeat' first
      | (with_reducible exact image_Starts.mono _ _ _)
      | (with_reducible exact LeO.refl _)
      | (with_reducible exact LeO.none _)
      | (with_reducible refine LeO.ite ?_ ?_)
      | (with_reducible refine LeO.bind ?_ (fun _ => ?_))
      | exact image_Starts.mono _ _ _
      | exact LeO.none _
      | refine LeO.ite ?_ ?_
      | refine LeO.bind ?_ (fun _ => ?_)
def point_Set.f (k : Nat) (a0_0 : Int) (a0_1 : ByteArray) (a0_2 : ByteArray) (a0_3 : ByteArray) : Option ((List (S42)) × Int) := (point_Sane.f k a0_0 a0_1 a0_2 a0_3).bind fun t153 => (if t153 = true then ((mask_Set.f a0_1).bind fun t154 => (if a0_0 = 0 then ((point_dated.f k a0_0 a0_1 a0_2 a0_3).bind fun t157 => ((point_known.f k a0_0 t157).bind fun bt160 => (some (bt160.1, bt160.2)))) else (if a0_0 = 1 then ((point_parts.f k a0_0 a0_1 a0_2 a0_3 12).bind fun t164 => ((point_known.f k a0_0 t164).bind fun bt167 => (some (bt167.1, bt167.2)))) else (if a0_0 = 2 then ((point_parts.f k a0_0 a0_1 a0_2 a0_3 4).bind fun t171 => ((point_known.f k a0_0 t171).bind fun bt174 => (some (bt174.1, bt174.2)))) else ((point_known.f k a0_0 t154).bind fun bt178 => (some (bt178.1, bt178.2))))))) else (some (([] : List (S42)), 2)))
theorem point_Set.mono : ∀ a0 a1 a2 a3 k, LeO (point_Set.f k a0 a1 a2 a3) (point_Set.f (k + 1) a0 a1 a2 a3) := by
  intro a0 a1 a2 a3 k
  unfold point_Set.f
  repeat' first
      | (with_reducible exact point_Sane.mono _ _ _ _ _)
      | (with_reducible exact point_dated.mono _ _ _ _ _)
      | (with_reducible exact point_known.mono _ _ _)
      | (with_reducible exact point_parts.mono _ _ _ _ _ _)
      | (with_reducible exact LeO.refl _)
      | (with_reducible exact LeO.none _)
      | (with_reducible refine LeO.ite ?_ ?_)
      | (with_reducible refine LeO.bind ?_ (fun _ => ?_))
      | exact point_Sane.mono _ _ _ _ _
      | exact point_dated.mono _ _ _ _ _
      | exact point_known.mono _ _ _
      | exact point_parts.mono _ _ _ _ _ _
      | exact LeO.none _
      | refine LeO.ite ?_ ?_
      | refine LeO.bind ?_ (fun _ => ?_)
def point_Radius.f (a0 : Int) : Option (Int) := if a0 = 0 then (some 3) else (if a0 = 3 then (some 2) else (if a0 < 0 then (some 0) else (if a0 > 5 then (some 0) else (some 1))))
def lustrumlaw08_awake.f (k : Nat)  : Option (Bool) := (point_Read.f k (⟨#[49, 57, 56, 52, 115, 52]⟩ : ByteArray)).bind fun bt135 => ((point_Set.f k bt135.1 bt135.2.1 bt135.2.2.1 bt135.2.2.2.1).bind fun bt141 => ((point_Set.f k 3 (⟨#[88, 88, 88, 88]⟩ : ByteArray) (⟨#[]⟩ : ByteArray) (⟨#[]⟩ : ByteArray)).bind fun bt145 => (if bt135.2.2.2.2 = true then (if bt135.1 = 2 then (if bt135.2.1.toList = ([49, 57, 56, 52] : List UInt8) then (if bt135.2.2.1.toList = ([52] : List UInt8) then (if bt141.2 = 0 then (if (bt141.1.length : Int) = 1 then (if 0 < (bt141.1.length : Int) then (if ((rd_T42 bt141.1 0).f0) = 7939 then (if bt145.2 = 8 then ((point_Text.f k bt135.1 bt135.2.1 bt135.2.2.1 bt135.2.2.2.1).bind fun t150 => (if t150.toList = ([49, 57, 56, 52, 115, 52] : List UInt8) then ((point_Radius.f 0).bind fun t151 => (some (t151 == 3))) else (some false))) else (some false)) else (some false)) else (none)) else (some false)) else (some false)) else (some false)) else (some false)) else (some false)) else (some false))))
theorem lustrumlaw08_awake.mono : ∀ k, LeO (lustrumlaw08_awake.f k ) (lustrumlaw08_awake.f (k + 1) ) := by
  intro  k
  unfold lustrumlaw08_awake.f
  repeat' first
      | (with_reducible exact point_Read.mono _ _)
      | (with_reducible exact point_Set.mono _ _ _ _ _)
      | (with_reducible exact point_Text.mono _ _ _ _ _)
      | (with_reducible exact LeO.refl _)
      | (with_reducible exact LeO.none _)
      | (with_reducible refine LeO.ite ?_ ?_)
      | (with_reducible refine LeO.bind ?_ (fun _ => ?_))
      | exact point_Read.mono _ _
      | exact point_Set.mono _ _ _ _ _
      | exact point_Text.mono _ _ _ _ _
      | exact LeO.none _
      | refine LeO.ite ?_ ?_
      | refine LeO.bind ?_ (fun _ => ?_)
mutual
def lustrumlaw08_PointBack.j0 : Nat → ByteArray → Bool → Bool → Int → ByteArray → ByteArray → ByteArray → Option (Bool)
  | 0, _, _, _, _, _, _, _ => none
  | k + 1, x1, x5, x19, x103000, x103001, x103002, x103003 => if x19 = true then (some x5) else ((point_Text.f k x103000 x103001 x103002 x103003).bind fun t105 => ((point_Sane.f k x103000 x103001 x103002 x103003).bind fun t106 => (if (t106 != (t105.toList != ([] : List UInt8))) = true then (some false) else (if t105.toList = ([] : List UInt8) then (lustrumlaw08_PointBack.j1 k x1 x5 t105) else ((point_Read.f k t105).bind fun bt107 => (if bt107.2.2.2.2 = true then (if (!(bt107.1 == x103000) || (!(bt107.2.1.toList == x103001.toList) || (!(bt107.2.2.1.toList == x103002.toList) || (!(bt107.2.2.2.1.toList == x103003.toList))))) = true then (some false) else (lustrumlaw08_PointBack.j1 k x1 x5 t105)) else (some false)))))))
def lustrumlaw08_PointBack.j1 : Nat → ByteArray → Bool → ByteArray → Option (Bool)
  | 0, _, _, _ => none
  | k + 1, x1, x5, x6 => (point_Read.f k x1).bind fun bt113 => (if bt113.2.2.2.2 = true then (if x5 = true then ((point_Sane.f k bt113.1 bt113.2.1 bt113.2.2.1 bt113.2.2.2.1).bind fun t119 => (if t119 = true then ((point_Text.f k bt113.1 bt113.2.1 bt113.2.2.1 bt113.2.2.2.1).bind fun t120 => (some (t120.toList == x1.toList))) else (some false))) else (some false)) else (if x5 = true then (if (bt113.1 == 0 && (bt113.2.1.toList == ([] : List UInt8) && (bt113.2.2.1.toList == ([] : List UInt8) && (bt113.2.2.2.1.toList == ([] : List UInt8))))) = true then (if x1.toList = ([] : List UInt8) then (some true) else (some (x1.toList != x6.toList))) else (some false)) else (some false)))
end
def lustrumlaw08_PointBack.f (k : Nat) (a0_0 : Int) (a0_1 : ByteArray) (a0_2 : ByteArray) (a0_3 : ByteArray) (a1 : ByteArray) : Option (Bool) := (lustrumlaw08_awake.f k).bind fun t103 => ((lustrumlaw08_short.f a0_0 a0_1 a0_2 a0_3).bind fun t104 => (if t104 = true then (lustrumlaw08_PointBack.j0 k a1 t103 (decide ((a1.size : Int) > 40)) a0_0 a0_1 a0_2 a0_3) else (lustrumlaw08_PointBack.j0 k a1 t103 true a0_0 a0_1 a0_2 a0_3)))
end Go.Proofs.YthppfagfmjchoaaDoor.A
namespace Go.Proofs.YthppfagfmjchoaaDoor.A
open Go.RowKit Go.Proofs.YthppfagfmjchoaaDoorW.PrintWords Go.Proofs.YthppfagfmjchoaaDoorW.PrintLast Go.Proofs.YthppfagfmjchoaaDoorW.PrintMore
attribute [local go_sem] max2_int min2_int max_two min_two max_three min_three max_four min_four
attribute [local go_sem high] eqA23
attribute [local go_sem] isSome_setCell
set_option maxHeartbeats 8000000 in
set_option maxRecDepth 100000 in
theorem lustrumlaw08_short.calls (a0_0 : Int) (a0_1 a0_2 a0_3 : ByteArray) (r : Bool) (w : World) (h : lustrumlaw08_short.f a0_0 a0_1 a0_2 a0_3 = some r) :
  Calls Tryd.prog 8 #[.agg #[.int .i64 a0_0, .string a0_1, .string a0_2, .string a0_3]] w fun e w' => e = .returned (.bool r) ∧ Below w.heap.size w w' := by
 have hu23 := Tryd.underlying23; have HB := A_ (Below.refl w.heap.size w); have H : (if (a0_1.size : Int) ≤ 10 then (if (a0_2.size : Int) ≤ 10 then (some (decide ((a0_3.size : Int) ≤ 10))) else (some false)) else (some false)) = some r := h; clear h
 by_cases c2 : (a0_1.size : Int) ≤ 10
 ·rw [if_pos c2] at H
  have c2b0 := decide_eq_true c2; have c2b1 : decide (a0_1.size ≤ 10) = true := decide_eq_true (by omega); clear c2
  by_cases c3 : (a0_2.size : Int) ≤ 10
  ·rw [if_pos c3] at H
   have c3b0 := decide_eq_true c3; have c3b1 : decide (a0_2.size ≤ 10) = true := decide_eq_true (by omega); clear c3; obtain rfl := Option.some.inj H; go_enter Tryd.func8, Tryd.ntmps8; go_wp2_with (first | ((with_reducible refine gD 1 ?_); (try (refine gate_guard (by rfl) ?_; dsimp only)); refine bxe_ 1 (n4_ a0_0 a0_1 a0_2 a0_3) 23 ?_; intro gb101 hg w4 hbox hb; have BK101 := A_ (hbox); have GW101 := gs_ w hg; have GE101 := gs_ w hg; replace HB := bs_ hb; clear hb hbox hg; have Z5 := bz4_ BK101)); go_ret; exact ⟨re_, hs_⟩
  ·rw [if_neg c3] at H
   have c3b0 := decide_eq_false c3; have c3b1 : decide (a0_2.size ≤ 10) = false := decide_eq_false (by omega); clear c3; obtain rfl := Option.some.inj H; go_enter Tryd.func8, Tryd.ntmps8; go_wp2_with (first | ((with_reducible refine gD 1 ?_); (try (refine gate_guard (by rfl) ?_; dsimp only)); refine bxe_ 1 (n4_ a0_0 a0_1 a0_2 a0_3) 23 ?_; intro gb101 hg w6 hbox hb; have BK101 := A_ (hbox); have GW101 := gs_ w hg; have GE101 := gs_ w hg; replace HB := bs_ hb; clear hb hbox hg; have Z7 := bz4_ BK101)); go_ret; exact ⟨re_, hs_⟩
 ·rw [if_neg c2] at H
  have c2b0 := decide_eq_false c2; have c2b1 : decide (a0_1.size ≤ 10) = false := decide_eq_false (by omega); clear c2; obtain rfl := Option.some.inj H; go_enter Tryd.func8, Tryd.ntmps8; go_wp2_with (first | ((with_reducible refine gD 1 ?_); (try (refine gate_guard (by rfl) ?_; dsimp only)); refine bxe_ 1 (n4_ a0_0 a0_1 a0_2 a0_3) 23 ?_; intro gb101 hg w8 hbox hb; have BK101 := A_ (hbox); have GW101 := gs_ w hg; have GE101 := gs_ w hg; replace HB := bs_ hb; clear hb hbox hg; have Z9 := bz4_ BK101)); go_ret; exact ⟨re_, hs_⟩
set_option maxHeartbeats 8000000 in
set_option maxRecDepth 100000 in
theorem point_numbers.calls (k : Nat) (a0 : ByteArray) (a1 : Int) (r : List Int) (w : World) (h : point_numbers.f k a0 a1 = some r) :
  Calls Tryd.prog 41 #[.string a0, .int .i64 a1] w fun e w' => ∃ v0_ : Value, e = .returned (v0_) ∧ Kd.R (Kd.int .i64) 3 w' w.heap.size (fun _ => True) v0_ r ∧ Below w.heap.size w w' := by
 have hu42 := Tryd.underlying42; have HB := A_ (Below.refl w.heap.size w); have H : ((mask_Set.f a0).bind fun t131 => ((sets_Clip.f k t131 1 a1).bind fun t134 => (point_numbers.l0 k ([] : List Int) t134 (t134.length : Int) 0))) = some r := h; clear h; obtain ⟨t131, A3, H⟩ := bi_ H; obtain ⟨t134, A4, H⟩ := bi_ H; have H' := A_ H; clear H; go_enter Tryd.func41, Tryd.ntmps41; go_wp2_with (first | (refine gC 30 ?_; refine gL 10 Tryd.func30 #[.string a0] ?_; (with_reducible refine (mask_Set.calls a0 t131 _ A3.out).mono ?_); rintro e w5 ⟨v132, rfl, ho0, hb⟩; refine ⟨_, rfl, ?_⟩; have HO133 := A_ (Kd.R_lower ho0 (below_size hs_)); replace HB := bs_ hb; (try clear hb); (try clear ho0); obtain ⟨Ao6, co6, eo6⟩ := Kd.R_slice HO133.out; subst eo6) | (refine gC 38 ?_; refine gL 12 Tryd.func38 #[.slice Ao6 t131.length co6, .int .i64 1, .int .i64 a1] ?_; (with_reducible refine (sets_Clip.calls k _ _ t131 1 a1 t134 _ ?side1 ?side2 A4.out).mono ?_); (case side1 => exact cr_ (Kd.R_reads' HO133.out).2.2); (case side2 => exact (Kd.R_reads' HO133.out).2.1); rintro e w7 ⟨v135, rfl, ho0, hb⟩; refine ⟨_, rfl, ?_⟩; have HO136 := A_ (Kd.R_lower (Kd.R_new' ho0 (Kd.R_lt (hrR_ HO133.out))) (below_size hs_)); replace HO133 := A_ (Kd.R_elder' (hrR_ HO133.out) (Kd.R_base ho0) hb); replace HB := bs_ hb; (try clear hb); (try clear ho0); obtain ⟨Ao8, co8, eo8⟩ := Kd.R_slice HO136.out; subst eo8)); go_loopg [5, 14] k (fun kq v5 v14 w' => ∃ (x5_1 : List Int) (x14_1 : Int), v14 = .int .i64 x14_1 ∧ Aside0 (point_numbers.l0 kq x5_1 t134 (t134.length : Int) x14_1 = some r) ∧ Aside0 (kq ≤ k) ∧ Aside0 (Kd.R (Kd.int .i64) 3 w' w.heap.size (fun _ => True) v5 x5_1) ∧ Aside0 (Kd.R k42 42 w' w.heap.size (fun _ => True) (.slice Ao8 t134.length co8) t134) ∧ Aside0 (Below w.heap.size w w'))
 case atStart => exact ⟨(([] : List Int)), (0), rf_, H', ⟨Nat.le_refl _⟩, ⟨by first | exact Kd.R_nil _ _ _ _ _ | exact Kd.N_nil _ _ _ _ _ | exact Kd.V_nil _ _ _ _ _ | exact Kd.Q_nil _ _ _ _ _ | exact Kd.S_nil _ _ _ _ _⟩, ⟨by (with_reducible repeat (first | apply Kd.R_alloc | apply Kd.R_drewN | apply Kd.R_drew)); exact Kd.R_mono HO136.out (fun _ hk => trivial)⟩, ⟨hs_⟩⟩
 case round =>
  clear H'; (try clear p2); (try clear c7); (try clear c8); obtain ⟨x5_1, x14_1, rfl, HA, HK1, HO_5, HO_12, HB⟩ := hrel
  cases gk with
  | zero => exact absurd HA.out (by simp [point_numbers.l0])
  | succ k1 =>
   have H := HA.out; clear HA; simp only [point_numbers.l0] at H
   by_cases c9 : x14_1 < (t134.length : Int)
   ·rw [if_pos c9] at H
    have c9b0 := decide_eq_true c9; clear c9
    by_cases c10 : 0 ≤ x14_1
    ·rw [if_pos c10] at H
     have c10b0 := decide_eq_true c10; clear c10
     by_cases c11 : x14_1 < (t134.length : Int)
     ·rw [if_pos c11] at H
      have c11b0 := decide_eq_true c11; clear c11; have H' := A_ H; clear H; have p137 : 0 ≤ (x14_1 : Int) := od_; have q137 : x14_1 < (t134.length : Int) := od_; obtain ⟨ad137, e137, hx137_0, hx137_1⟩ := at_T42 (Kd.R_reads' HO_12.out).2.2 x14_1 p137 q137
      cases e137
      replace p137 := eq_true p137; replace q137 := eq_true q137; go_wp2_with (first | (refine gD 7 ?_; refine bxe_ 7 #[.int .i64 0, .int .i64 0] 42 ?_; intro gb138 hg w12 hbox hb; replace HO_5 := A_ (Kd.R_below (hrR_ HO_5.out) hb); replace HO_12 := A_ (Kd.R_below (Kd.R_elderB (hrR_ HO_12.out) gb138 (Nat.le_of_eq hg.symm)) hb); have BK138 := A_ (hbox); have GW138 := gs_ w hg; have GE138 := gs_ w hg; replace HB := bs_ hb; clear hb hbox hg; have Z13 := bz2_ BK138)); go_loopg [5, 8] k1 (fun kq v5 v8 w' => ∃ (x5_2 : List Int) (x8_2 : Int), v8 = .int .i64 x8_2 ∧ Aside0 (point_numbers.l1 kq x5_2 x8_2 t134 (t134.length : Int) x14_1 ((rd_T42 t134 x14_1).f0) ((rd_T42 t134 x14_1).f1) = some r) ∧ Aside0 (kq ≤ k1) ∧ Aside0 (Kd.R (Kd.int .i64) 3 w' w.heap.size (fun _ => True) v5 x5_2) ∧ Aside0 (Kd.R k42 42 w' w.heap.size (fun k_ => k_ ≠ gb138) (.slice (some ad137) t134.length co8) t134) ∧ Aside0 (w'.heap[gb138]? = some (.cells #[.int .i64 ((rd_T42 t134 x14_1).f0), .int .i64 ((rd_T42 t134 x14_1).f1)] 42 (0, 0))) ∧ Aside0 (Below w.heap.size w w'))
      case atStart => exact ⟨(x5_1), ((rd_T42 t134 x14_1).f0), rf_, H', ⟨Nat.le_refl _⟩, ⟨by (with_reducible repeat (first | apply Kd.R_alloc | apply Kd.R_drewN | apply Kd.R_drew)); exact Kd.R_mono (Kd.R_far (p := ⟨gb138, 1, none⟩) (Kd.R_far (p := ⟨gb138, 0, none⟩) (Kd.R_types HO_5.out BK138.out (by decide)) (fun _ hk => hk.2) (.int .i64 ((rd_T42 t134 x14_1).f0))) (fun _ hk => hk.2) (.int .i64 ((rd_T42 t134 x14_1).f1))) (fun _ hk => trivial)⟩, ⟨fpR_ HO_12.out⟩, ⟨pb_ BK138.out⟩, ⟨hs_⟩⟩
      case round =>
       clear H'; (try clear c1); (try clear p1); (try clear q1); (try clear hx1); (try clear p2); (try clear c7); (try clear c8); (try clear c9); (try clear c9b0); (try clear c10); (try clear c10b0); (try clear c11); (try clear c11b0); (try clear p13); (try clear q13); (try clear hx13); (try clear Z13); (try clear hx137_0); (try clear hx137_1); (try clear p137); (try clear p2); (try clear q137); obtain ⟨x5_2, x8_2, rfl, HA, HK2, HO_5, HO_12, BK138, HB⟩ := hrel
       cases gk with
       | zero => exact absurd HA.out (by simp [point_numbers.l1])
       | succ k2 =>
        have H := HA.out; clear HA; simp only [point_numbers.l1] at H
        by_cases c14 : x8_2 ≤ ((rd_T42 t134 x14_1).f1)
        ·rw [if_pos c14] at H
         have c14b0 := decide_eq_true c14; clear c14
         by_cases c15 : x5_2.length < 17592186044416
         ·rw [if_pos c15] at H
          have LMc15 := A_ c15; clear c15; obtain ⟨y139, hy139⟩ : ∃ y_ : List Int, y_ = (x5_2 ++ [x8_2]) := ⟨_, rfl⟩; (replace H : (point_numbers.l1 k2 y139 (wrap64 (x8_2 + 1)) t134 (t134.length : Int) x14_1 ((rd_T42 t134 x14_1).f0) ((rd_T42 t134 x14_1).f1)) = some r := hy_ hy139 H); have Ny139 := A_ hy139; clear hy139; have H' := A_ H; clear H; have Z16 := bz2_ BK138; go_wp2_with (first | ((with_reducible refine gate_builtin (b := .append) (xs := #[.tmp 26, .tmp 28]) rfl ?_); at_builtin; refine Kd.R_append (Kd.int .i64) (w0 := w) w.heap.size rfl (.tmp 26) (.tmp 28) 68 3 (.int .i64 0) 8 rfl Tryd.underlying68 info3 rfl (by decide) (by omega) u5 x5_2 x8_2 [.int .i64 x8_2] (fun _ => True) (fun _ => False) rfl rfl ?aP (fun _ hk => hk.elim) ?aF ?aO ?aB ?aS ?aL ?_; (case aP => exact rfl); (case aB => exact hs_); (case aF => exact (fun _ _ => trivial)); (case aO => exact (hrR_ HO_5.out)); (case aS => exact (below_size hs_)); (case aL => have := LMc15.out; omega); intro v140 w17 ho hb hg hat; rw [← Ny139.out] at ho; replace HO_12 := A_ (Kd.R_over' (hrR_ HO_12.out) (Kd.R_typed (hrR_ HO_5.out)) (by decide) hg); replace BK138 := A_ (blk_grown (g := gb138) (o := .cells #[.int .i64 ((rd_T42 t134 x14_1).f0), .int .i64 ((rd_T42 t134 x14_1).f1)] 42 (0, 0)) (bl_ BK138.out) hg (Kd.R_ne HO_5.out BK138.out (by decide))); replace HB := A_ (hb); have HO141 := A_ (ho); clear HO_5; clear ho hb hg hat)); go_roundg k2
          case measure => have := HK1.out; have := HK2.out; omega
          case rel => exact ⟨(y139), (wrap64 (x8_2 + 1)), rf_, H', ⟨by have := HK1.out; have := HK2.out; omega⟩, ⟨fxR_ HO141.out⟩, ⟨fxR_ HO_12.out⟩, ⟨bl_ BK138.out⟩, ⟨hs_⟩⟩
         ·rw [if_neg c15] at H
          exact absurd H (by simp)
        ·rw [if_neg c14] at H
         have c14b0 := decide_eq_false c14; clear c14; have H' := A_ H; clear H; have Z18 := bz2_ BK138; go_wp2; go_roundg k2
         case measure => have := HK1.out; have := HK2.out; omega
         case rel => exact ⟨(x5_2), (wrap64 (x14_1 + 1)), rf_, H', ⟨by have := HK1.out; have := HK2.out; omega⟩, ⟨fxR_ HO_5.out⟩, ⟨by (with_reducible repeat (first | apply Kd.R_alloc | apply Kd.R_drewN | apply Kd.R_drew)); exact Kd.R_mono HO_12.out (fun _ hk => trivial)⟩, ⟨hs_⟩⟩
     ·rw [if_neg c11] at H
      exact absurd H (by simp)
    ·rw [if_neg c10] at H
     exact absurd H (by simp)
   ·rw [if_neg c9] at H
    have c9b0 := decide_eq_false c9; clear c9; obtain rfl := Option.some.inj H; go_wp2; go_ret; exact ⟨_, by first | rfl | (simp [errW_none, errW_some] <;> rfl) | (simp [*, errW_none, errW_some] <;> rfl), fxR_ HO_5.out, hs_⟩
set_option maxHeartbeats 8000000 in
set_option maxRecDepth 100000 in
theorem point_some.calls (k : Nat) (a0 : ByteArray) (a1 a2 : Int) (r : Bool) (w : World) (h : point_some.f k a0 a1 a2 = some r) :
  Calls Tryd.prog 26 #[.string a0, .int .i64 a1, .int .i64 a2] w fun e w' => e = .returned (.bool r) ∧ Below w.heap.size w w' := by
 have HB := A_ (Below.refl w.heap.size w); have H : (if (a0.size : Int) = a1 then ((point_numbers.f k a0 a2).bind fun t142 => (some (decide ((t142.length : Int) > 0)))) else (some false)) = some r := h; clear h
 by_cases c4 : (a0.size : Int) = a1
 ·rw [if_pos c4] at H
  have c4b0 : ((a0.size : Int) == a1) = true := beq_iff_eq.mpr c4; have c4b1 : ((a0.size : Int) != a1) = false := bne_eq_false_iff_eq.mpr c4; clear c4; obtain ⟨t142, A5, H⟩ := bi_ H; obtain rfl := Option.some.inj H; go_enter Tryd.func26, Tryd.ntmps26; go_wp2_with (first | (go_at_call 41; (with_reducible refine (point_numbers.calls k a0 a2 t142 _ A5.out).mono ?_); rintro e w6 ⟨v143, rfl, ho0, hb⟩; have HO144 := A_ (Kd.R_lower ho0 (below_size hs_)); replace HB := bs_ hb; (try clear hb); (try clear ho0); obtain ⟨Ao7, co7, eo7⟩ := Kd.R_slice HO144.out; subst eo7)); go_ret; exact ⟨re_, hs_⟩
 ·rw [if_neg c4] at H
  have c4b0 : ((a0.size : Int) == a1) = false := beq_eq_false_iff_ne.mpr c4; have c4b1 : ((a0.size : Int) != a1) = true := bne_iff_ne.mpr c4; obtain rfl := Option.some.inj H; go_enter Tryd.func26, Tryd.ntmps26; go_wp2; go_ret; exact ⟨re_, hs_⟩
set_option maxHeartbeats 8000000 in
set_option maxRecDepth 100000 in
theorem point_Sane.calls (k : Nat) (a0_0 : Int) (a0_1 a0_2 a0_3 : ByteArray) (r : Bool) (w : World) (h : point_Sane.f k a0_0 a0_1 a0_2 a0_3 = some r) :
  Calls Tryd.prog 10 #[.agg #[.int .i64 a0_0, .string a0_1, .string a0_2, .string a0_3]] w fun e w' => e = .returned (.bool r) ∧ Below w.heap.size w w' := by
 have hu23 := Tryd.underlying23; have HB := A_ (Below.refl w.heap.size w); have H : ((mask_Sane.f a0_1).bind fun t146 => (if t146 = true then (if a0_2.toList = ([] : List UInt8) then (point_Sane.j0 k (a0_3.toList == ([] : List UInt8)) a0_0 a0_1 a0_2 a0_3) else (point_Sane.j0 k false a0_0 a0_1 a0_2 a0_3)) else (some false))) = some r := h; clear h; obtain ⟨t146, A2, H⟩ := bi_ H
 by_cases c3 : t146 = true
 ·subst c3
  replace H := iP_ H; have HC4 := A_ H; clear H; go_enter Tryd.func10, Tryd.ntmps10; go_upto_region 3 with (first | (refine gx_ w 1 (n4_ a0_0 a0_1 a0_2 a0_3) 23 ?_; clear HB; intro gb145 w5 BK145 GE145 HB; have GW145 := GE145; have Z6 := bz4_ BK145) | (refine gC 25 ?_; refine gL 6 Tryd.func25 #[.string a0_1] ?_; (with_reducible refine (mask_Sane.calls a0_1 true _ A2.out).mono ?_); rintro e w7 ⟨rfl, hb⟩; refine ⟨_, rfl, ?_⟩; replace BK145 := bb_ BK145 hb; replace HB := bs_ hb; (try clear hb))); (try simp only [Act.put, List.setIfInBounds_toArray, List.set_cons_zero, List.set_cons_succ]); go_cut [3] (fun v3 wc => ∃ (kq : Nat) (x3_3 : Bool), v3 = .bool x3_3 ∧ Aside0 (point_Sane.j0 kq x3_3 a0_0 a0_1 a0_2 a0_3 = some r) ∧ Aside0 (kq ≤ k) ∧ Aside0 (wc.heap[gb145]? = some (.cells (n4_ a0_0 a0_1 a0_2 a0_3) 23 (0, 0))) ∧ Aside0 (Below w.heap.size w wc))
  case first =>
   have H := HC4.out; clear HC4
   by_cases c8 : a0_2.toList = ([] : List UInt8)
   ·rw [if_pos c8] at H
    have c8b0 : (a0_2.toList == ([] : List UInt8)) = true := beq_iff_eq.mpr c8; have c8b1 : (a0_2.toList != ([] : List UInt8)) = false := bne_eq_false_iff_eq.mpr c8; clear c8; (first | rw [c8b0] | (simp only [i64_w, i32_w]; rw [c8b0]) | skip); have H' := A_ H; clear H; have Z9 := bz4_ BK145; go_wp2; go_meet
    case rel => exact ⟨_, ((a0_3.toList == ([] : List UInt8))), rf_, H', ⟨by first | omega | exact Nat.le_refl _⟩, ⟨bl_ BK145.out⟩, ⟨hs_⟩⟩
   ·rw [if_neg c8] at H
    have c8b0 : (a0_2.toList == ([] : List UInt8)) = false := beq_eq_false_iff_ne.mpr c8; have c8b1 : (a0_2.toList != ([] : List UInt8)) = true := bne_iff_ne.mpr c8; (first | rw [c8b0] | (simp only [i64_w, i32_w]; rw [c8b0]) | skip); have H' := A_ H; clear H; have Z10 := bz4_ BK145; go_wp2; go_meet
    case rel => exact ⟨_, (false), rf_, H', ⟨by first | omega | exact Nat.le_refl _⟩, ⟨bl_ BK145.out⟩, ⟨hs_⟩⟩
  case rest =>
   clear HC4; (try clear c2); (try clear p2); (try clear c3); (try clear c5); (try clear c8); (try clear c8b0); (try clear c8b1); (try clear Z10); (try clear Z6); (try clear Z9); obtain ⟨kq, x3_3, rfl, HA, HJ3, BK145, HB⟩ := hcut
   cases kq with
   | zero => exact absurd HA.out (by simp [point_Sane.j0])
   | succ kj3 =>
    have H := HA.out; clear HA; simp only [point_Sane.j0] at H
    by_cases c11 : a0_0 = 0
    ·rw [if_pos c11] at H
     have c11b0 : (a0_0 == 0) = true := beq_iff_eq.mpr c11; have c11b1 : (a0_0 != 0) = false := bne_eq_false_iff_eq.mpr c11; clear c11
     by_cases c12 : (a0_1.size : Int) = 4
     ·rw [if_pos c12] at H
      have c12b0 : ((a0_1.size : Int) == 4) = true := beq_iff_eq.mpr c12; have c12b1 : ((a0_1.size : Int) != 4) = false := bne_eq_false_iff_eq.mpr c12; clear c12; obtain ⟨t147, A13, H⟩ := bi_ H
      by_cases c14 : t147 = true
      ·subst c14
       replace H := iP_ H; obtain ⟨t148, A15, H⟩ := bi_ H; obtain rfl := Option.some.inj H; have Z16 := bz4_ BK145; go_wp2_with (first | (go_at_call 26; (with_reducible refine (point_some.calls kj3 a0_2 2 12 true _ A13.out).mono ?_); rintro e w17 ⟨rfl, hb⟩; replace BK145 := bb_ BK145 hb; replace HB := bs_ hb; (try clear hb); have Z18 := bz4_ BK145) | (go_at_call 26; (with_reducible refine (point_some.calls kj3 a0_3 2 31 t148 _ A15.out).mono ?_); rintro e w19 ⟨rfl, hb⟩; replace BK145 := bb_ BK145 hb; replace HB := bs_ hb; (try clear hb))); go_ret; exact ⟨re_, hs_⟩
      ·replace c14 := Bool.eq_false_iff.mpr c14
       subst c14; replace H := iN_ H; obtain rfl := Option.some.inj H; have Z20 := bz4_ BK145; go_wp2_with (first | (go_at_call 26; (with_reducible refine (point_some.calls kj3 a0_2 2 12 false _ A13.out).mono ?_); rintro e w21 ⟨rfl, hb⟩; replace BK145 := bb_ BK145 hb; replace HB := bs_ hb; (try clear hb))); go_ret; exact ⟨re_, hs_⟩
     ·rw [if_neg c12] at H
      have c12b0 : ((a0_1.size : Int) == 4) = false := beq_eq_false_iff_ne.mpr c12; have c12b1 : ((a0_1.size : Int) != 4) = true := bne_iff_ne.mpr c12; obtain rfl := Option.some.inj H; have Z22 := bz4_ BK145; go_wp2; go_ret; exact ⟨re_, hs_⟩
    ·rw [if_neg c11] at H
     have c11b0 : (a0_0 == 0) = false := beq_eq_false_iff_ne.mpr c11; have c11b1 : (a0_0 != 0) = true := bne_iff_ne.mpr c11
     by_cases c23 : a0_0 = 1
     ·rw [if_pos c23] at H
      have c23b0 : (a0_0 == 1) = true := beq_iff_eq.mpr c23; have c23b1 : (a0_0 != 1) = false := bne_eq_false_iff_eq.mpr c23; clear c23
      by_cases c24 : (a0_1.size : Int) = 4
      ·rw [if_pos c24] at H
       have c24b0 : ((a0_1.size : Int) == 4) = true := beq_iff_eq.mpr c24; have c24b1 : ((a0_1.size : Int) != 4) = false := bne_eq_false_iff_eq.mpr c24; clear c24; obtain ⟨t149, A25, H⟩ := bi_ H
       by_cases c26 : t149 = true
       ·subst c26
        replace H := iP_ H; obtain rfl := Option.some.inj H; have Z27 := bz4_ BK145; go_wp2_with (first | (go_at_call 26; (with_reducible refine (point_some.calls kj3 a0_2 2 12 true _ A25.out).mono ?_); rintro e w28 ⟨rfl, hb⟩; replace BK145 := bb_ BK145 hb; replace HB := bs_ hb; (try clear hb); have Z29 := bz4_ BK145)); go_ret; exact ⟨re_, hs_⟩
       ·replace c26 := Bool.eq_false_iff.mpr c26
        subst c26; replace H := iN_ H; obtain rfl := Option.some.inj H; have Z30 := bz4_ BK145; go_wp2_with (first | (go_at_call 26; (with_reducible refine (point_some.calls kj3 a0_2 2 12 false _ A25.out).mono ?_); rintro e w31 ⟨rfl, hb⟩; replace BK145 := bb_ BK145 hb; replace HB := bs_ hb; (try clear hb))); go_ret; exact ⟨re_, hs_⟩
      ·rw [if_neg c24] at H
       have c24b0 : ((a0_1.size : Int) == 4) = false := beq_eq_false_iff_ne.mpr c24; have c24b1 : ((a0_1.size : Int) != 4) = true := bne_iff_ne.mpr c24; obtain rfl := Option.some.inj H; have Z32 := bz4_ BK145; go_wp2; go_ret; exact ⟨re_, hs_⟩
     ·rw [if_neg c23] at H
      have c23b0 : (a0_0 == 1) = false := beq_eq_false_iff_ne.mpr c23; have c23b1 : (a0_0 != 1) = true := bne_iff_ne.mpr c23
      by_cases c33 : a0_0 = 2
      ·rw [if_pos c33] at H
       have c33b0 : (a0_0 == 2) = true := beq_iff_eq.mpr c33; have c33b1 : (a0_0 != 2) = false := bne_eq_false_iff_eq.mpr c33; clear c33
       by_cases c34 : (a0_1.size : Int) = 4
       ·rw [if_pos c34] at H
        have c34b0 : ((a0_1.size : Int) == 4) = true := beq_iff_eq.mpr c34; have c34b1 : ((a0_1.size : Int) != 4) = false := bne_eq_false_iff_eq.mpr c34; clear c34; obtain ⟨t150, A35, H⟩ := bi_ H
        by_cases c36 : t150 = true
        ·subst c36
         replace H := iP_ H; obtain rfl := Option.some.inj H; have Z37 := bz4_ BK145; go_wp2_with (first | (go_at_call 26; (with_reducible refine (point_some.calls kj3 a0_2 1 4 true _ A35.out).mono ?_); rintro e w38 ⟨rfl, hb⟩; replace BK145 := bb_ BK145 hb; replace HB := bs_ hb; (try clear hb); have Z39 := bz4_ BK145)); go_ret; exact ⟨re_, hs_⟩
        ·replace c36 := Bool.eq_false_iff.mpr c36
         subst c36; replace H := iN_ H; obtain rfl := Option.some.inj H; have Z40 := bz4_ BK145; go_wp2_with (first | (go_at_call 26; (with_reducible refine (point_some.calls kj3 a0_2 1 4 false _ A35.out).mono ?_); rintro e w41 ⟨rfl, hb⟩; replace BK145 := bb_ BK145 hb; replace HB := bs_ hb; (try clear hb))); go_ret; exact ⟨re_, hs_⟩
       ·rw [if_neg c34] at H
        have c34b0 : ((a0_1.size : Int) == 4) = false := beq_eq_false_iff_ne.mpr c34; have c34b1 : ((a0_1.size : Int) != 4) = true := bne_iff_ne.mpr c34; obtain rfl := Option.some.inj H; have Z42 := bz4_ BK145; go_wp2; go_ret; exact ⟨re_, hs_⟩
      ·rw [if_neg c33] at H
       have c33b0 : (a0_0 == 2) = false := beq_eq_false_iff_ne.mpr c33; have c33b1 : (a0_0 != 2) = true := bne_iff_ne.mpr c33
       by_cases c43 : a0_0 = 3
       ·rw [if_pos c43] at H
        have c43b0 : (a0_0 == 3) = true := beq_iff_eq.mpr c43; have c43b1 : (a0_0 != 3) = false := bne_eq_false_iff_eq.mpr c43; clear c43
        by_cases c44 : (a0_1.size : Int) = 4
        ·rw [if_pos c44] at H
         have c44b0 : ((a0_1.size : Int) == 4) = true := beq_iff_eq.mpr c44; have c44b1 : ((a0_1.size : Int) != 4) = false := bne_eq_false_iff_eq.mpr c44; clear c44; obtain rfl := Option.some.inj H; have Z45 := bz4_ BK145; go_wp2; go_ret; exact ⟨re_, hs_⟩
        ·rw [if_neg c44] at H
         have c44b0 : ((a0_1.size : Int) == 4) = false := beq_eq_false_iff_ne.mpr c44; have c44b1 : ((a0_1.size : Int) != 4) = true := bne_iff_ne.mpr c44; obtain rfl := Option.some.inj H; have Z46 := bz4_ BK145; go_wp2; go_ret; exact ⟨re_, hs_⟩
       ·rw [if_neg c43] at H
        have c43b0 : (a0_0 == 3) = false := beq_eq_false_iff_ne.mpr c43; have c43b1 : (a0_0 != 3) = true := bne_iff_ne.mpr c43
        by_cases c47 : a0_0 = 4
        ·rw [if_pos c47] at H
         have c47b0 : (a0_0 == 4) = true := beq_iff_eq.mpr c47; have c47b1 : (a0_0 != 4) = false := bne_eq_false_iff_eq.mpr c47; clear c47
         by_cases c48 : (a0_1.size : Int) = 3
         ·rw [if_pos c48] at H
          have c48b0 : ((a0_1.size : Int) == 3) = true := beq_iff_eq.mpr c48; have c48b1 : ((a0_1.size : Int) != 3) = false := bne_eq_false_iff_eq.mpr c48; clear c48; obtain rfl := Option.some.inj H; have Z49 := bz4_ BK145; go_wp2; go_ret; exact ⟨re_, hs_⟩
         ·rw [if_neg c48] at H
          have c48b0 : ((a0_1.size : Int) == 3) = false := beq_eq_false_iff_ne.mpr c48; have c48b1 : ((a0_1.size : Int) != 3) = true := bne_iff_ne.mpr c48; obtain rfl := Option.some.inj H; have Z50 := bz4_ BK145; go_wp2; go_ret; exact ⟨re_, hs_⟩
        ·rw [if_neg c47] at H
         have c47b0 : (a0_0 == 4) = false := beq_eq_false_iff_ne.mpr c47; have c47b1 : (a0_0 != 4) = true := bne_iff_ne.mpr c47
         by_cases c51 : a0_0 = 5
         ·rw [if_pos c51] at H
          have c51b0 : (a0_0 == 5) = true := beq_iff_eq.mpr c51; have c51b1 : (a0_0 != 5) = false := bne_eq_false_iff_eq.mpr c51; clear c51
          by_cases c52 : (a0_1.size : Int) = 2
          ·rw [if_pos c52] at H
           have c52b0 : ((a0_1.size : Int) == 2) = true := beq_iff_eq.mpr c52; have c52b1 : ((a0_1.size : Int) != 2) = false := bne_eq_false_iff_eq.mpr c52; clear c52; obtain rfl := Option.some.inj H; have Z53 := bz4_ BK145; go_wp2; go_ret; exact ⟨re_, hs_⟩
          ·rw [if_neg c52] at H
           have c52b0 : ((a0_1.size : Int) == 2) = false := beq_eq_false_iff_ne.mpr c52; have c52b1 : ((a0_1.size : Int) != 2) = true := bne_iff_ne.mpr c52; obtain rfl := Option.some.inj H; have Z54 := bz4_ BK145; go_wp2; go_ret; exact ⟨re_, hs_⟩
         ·rw [if_neg c51] at H
          have c51b0 : (a0_0 == 5) = false := beq_eq_false_iff_ne.mpr c51; have c51b1 : (a0_0 != 5) = true := bne_iff_ne.mpr c51; obtain rfl := Option.some.inj H; have Z55 := bz4_ BK145; go_wp2; go_ret; exact ⟨re_, hs_⟩
 ·replace c3 := Bool.eq_false_iff.mpr c3
  subst c3; replace H := iN_ H; obtain rfl := Option.some.inj H; go_enter Tryd.func10, Tryd.ntmps10; go_wp2_with (first | (refine gx_ w 1 (n4_ a0_0 a0_1 a0_2 a0_3) 23 ?_; clear HB; intro gb145 w56 BK145 GE145 HB; have GW145 := GE145; have Z57 := bz4_ BK145) | (refine gC 25 ?_; refine gL 6 Tryd.func25 #[.string a0_1] ?_; (with_reducible refine (mask_Sane.calls a0_1 false _ A2.out).mono ?_); rintro e w58 ⟨rfl, hb⟩; refine ⟨_, rfl, ?_⟩; replace BK145 := bb_ BK145 hb; replace HB := bs_ hb; (try clear hb))); go_ret; exact ⟨re_, hs_⟩
set_option maxHeartbeats 8000000 in
set_option maxRecDepth 100000 in
theorem stringslite_HasSuffix.calls (a0 a1 : ByteArray) (r : Bool) (w : World) (h : stringslite_HasSuffix.f a0 a1 = some r) :
  Calls Tryd.prog 73 #[.string a0, .string a1] w fun e w' => e = .returned (.bool r) ∧ Drawn0 w w' := by
 have H : (if (a0.size : Int) ≥ (a1.size : Int) then (if 0 ≤ (wrap64 ((a0.size : Int) - (a1.size : Int))) then (if (wrap64 ((a0.size : Int) - (a1.size : Int))) ≤ (a0.size : Int) then (some ((a0.extract ((wrap64 ((a0.size : Int) - (a1.size : Int))) : Int).toNat a0.size).toList == a1.toList)) else (none)) else (none)) else (some false)) = some r := h; clear h
 by_cases c3 : (a0.size : Int) ≥ (a1.size : Int)
 ·rw [if_pos c3] at H
  have c3b0 := decide_eq_true c3; have c3b1 : decide (a1.size ≤ a0.size) = true := decide_eq_true (Int.ofNat_le.mp c3); clear c3; obtain ⟨ji4, hji4⟩ : ∃ j_ : Int, (wrap64 ((a0.size : Int) - (a1.size : Int))) = j_ := ⟨_, rfl⟩; (replace H : (if 0 ≤ (ji4) then (if (ji4) ≤ (a0.size : Int) then (some ((a0.extract ((ji4) : Int).toNat a0.size).toList == a1.toList)) else (none)) else (none)) = some r := by first | (rw [hji4] at H; exact H) | (simp only [hji4] at H ⊢; exact H)); have hji4w : (IntKind.i64.wrap ((a0.size : Int) - (a1.size : Int))) = ji4 := (i64_w _).trans hji4
  by_cases c5 : 0 ≤ (ji4)
  ·rw [if_pos c5] at H
   have c5b0 := eq_true c5; have c5b1 := decide_eq_true c5; clear c5
   by_cases c6 : (ji4) ≤ (a0.size : Int)
   ·rw [if_pos c6] at H
    have c6b0 := eq_true c6; have c6b1 := decide_eq_true c6; clear c6; obtain rfl := Option.some.inj H; go_enter Tryd.func73, Tryd.ntmps73; go_wp2; go_ret; exact ⟨by first | rfl | (simp; done) | (simp only [← hji4] <;> (first | rfl | simp)) | (simp [*]; done), by repeat (first | exact Drawn0.refl _ | apply Drawn0.step)⟩
   ·rw [if_neg c6] at H
    exact absurd H (by simp)
  ·rw [if_neg c5] at H
   exact absurd H (by simp)
 ·rw [if_neg c3] at H
  have c3b0 := decide_eq_false c3; have c3b1 : decide (a1.size ≤ a0.size) = false := decide_eq_false (fun h => c3 (Int.ofNat_le.mpr h)); clear c3; obtain rfl := Option.some.inj H; go_enter Tryd.func73, Tryd.ntmps73; go_wp2; go_ret; exact ⟨by first | rfl | (simp; done) | (simp [*]; done), by repeat (first | exact Drawn0.refl _ | apply Drawn0.step)⟩
set_option maxHeartbeats 8000000 in
set_option maxRecDepth 100000 in
theorem stringslite_CutSuffix.calls (a0 a1 r1 : ByteArray) (r2 : Bool) (w : World) (h : stringslite_CutSuffix.f a0 a1 = some (r1, r2)) :
  Calls Tryd.prog 58 #[.string a0, .string a1] w fun e w' => e = .returned (.tuple #[.string r1, .bool r2]) ∧ Drawn0 w w' := by
 have H : ((stringslite_HasSuffix.f a0 a1).bind fun t101 => (if t101 = true then (if 0 ≤ (wrap64 ((a0.size : Int) - (a1.size : Int))) then (if (wrap64 ((a0.size : Int) - (a1.size : Int))) ≤ (a0.size : Int) then (some (a0.extract 0 ((wrap64 ((a0.size : Int) - (a1.size : Int))) : Int).toNat, true)) else (none)) else (none)) else (some (a0, false)))) = some (r1, r2) := h; clear h; obtain ⟨t101, A3, H⟩ := bi_ H
 by_cases c4 : t101 = true
 ·subst c4
  (have H1 : (if 0 ≤ (wrap64 ((a0.size : Int) - (a1.size : Int))) then (if (wrap64 ((a0.size : Int) - (a1.size : Int))) ≤ (a0.size : Int) then (some (a0.extract 0 ((wrap64 ((a0.size : Int) - (a1.size : Int))) : Int).toNat, true)) else (none)) else (none)) = some (r1, r2) := by rw [if_pos rfl] at H; exact H); clear H; have H := H1; clear H1; obtain ⟨ji5, hji5⟩ : ∃ j_ : Int, (wrap64 ((a0.size : Int) - (a1.size : Int))) = j_ := ⟨_, rfl⟩; (replace H : (if 0 ≤ (ji5) then (if (ji5) ≤ (a0.size : Int) then (some (a0.extract 0 ((ji5) : Int).toNat, true)) else (none)) else (none)) = some (r1, r2) := by first | (rw [hji5] at H; exact H) | (simp only [hji5] at H ⊢; exact H)); (try rw [hji5] at A3); have hji5w : (IntKind.i64.wrap ((a0.size : Int) - (a1.size : Int))) = ji5 := (i64_w _).trans hji5
  by_cases c6 : 0 ≤ (ji5)
  ·rw [if_pos c6] at H
   have c6b0 := eq_true c6; have c6b1 := decide_eq_true c6; clear c6
   by_cases c7 : (ji5) ≤ (a0.size : Int)
   ·rw [if_pos c7] at H
    have c7b0 := eq_true c7; have c7b1 := decide_eq_true c7; clear c7; simp only [Option.some.injEq, Prod.mk.injEq] at H; obtain ⟨rfl, rfl⟩ := H; go_enter Tryd.func58, Tryd.ntmps58; go_wp2_with (first | ((with_reducible refine gC 73 ?_); refine goesL_ (some 8) rfl rfl Tryd.func73 (by kernel_rfl) rfl #[.string a0, .string a1] rfl ml_ ?_; (with_reducible refine (stringslite_HasSuffix.calls a0 a1 true _ A3.out).mono ?_); rintro e w' ⟨rfl, ⟨nd, rfl⟩⟩; refine ⟨_, rfl, ?_⟩)); go_ret2; exact ⟨by first | rfl | (simp; done) | (simp only [← hji5] <;> (first | rfl | simp)) | (simp [*]; done), by repeat (first | exact Drawn0.refl _ | apply Drawn0.step)⟩
   ·rw [if_neg c7] at H
    exact absurd H (by simp)
  ·rw [if_neg c6] at H
   exact absurd H (by simp)
 ·replace c4 := Bool.eq_false_iff.mpr c4
  subst c4; (have H1 : (some (a0, false)) = some (r1, r2) := by rw [if_neg (show ¬ (false = true) by decide)] at H; exact H); clear H; have H := H1; clear H1; simp only [Option.some.injEq, Prod.mk.injEq] at H; obtain ⟨rfl, rfl⟩ := H; go_enter Tryd.func58, Tryd.ntmps58; go_wp2_with (first | ((with_reducible refine gC 73 ?_); refine goesL_ (some 8) rfl rfl Tryd.func73 (by kernel_rfl) rfl #[.string a0, .string a1] rfl ml_ ?_; (with_reducible refine (stringslite_HasSuffix.calls a0 a1 false _ A3.out).mono ?_); rintro e w' ⟨rfl, ⟨nd, rfl⟩⟩; refine ⟨_, rfl, ?_⟩)); go_ret2; exact ⟨by first | rfl | (simp; done) | (simp [*]; done), by repeat (first | exact Drawn0.refl _ | apply Drawn0.step)⟩
set_option maxHeartbeats 8000000 in
set_option maxRecDepth 100000 in
theorem strings_CutSuffix.calls (a0 a1 r1 : ByteArray) (r2 : Bool) (w : World) (h : strings_CutSuffix.f a0 a1 = some (r1, r2)) :
  Calls Tryd.prog 42 #[.string a0, .string a1] w fun e w' => e = .returned (.tuple #[.string r1, .bool r2]) ∧ Drawn0 w w' := by
 have H : ((stringslite_CutSuffix.f a0 a1).bind fun bt102 => (some (bt102.1, bt102.2))) = some (r1, r2) := h; clear h; obtain ⟨⟨t102, t103⟩, A3, H⟩ := bi_ H; simp only [Option.some.injEq, Prod.mk.injEq] at H; obtain ⟨rfl, rfl⟩ := H; go_enter Tryd.func42, Tryd.ntmps42; go_wp2_with (first | ((with_reducible refine gC 58 ?_); refine goesL_ (some 8) rfl rfl Tryd.func58 (by kernel_rfl) rfl #[.string a0, .string a1] rfl ml_ ?_; (with_reducible refine (stringslite_CutSuffix.calls a0 a1 t102 t103 _ A3.out).mono ?_); rintro e w' ⟨rfl, ⟨nd, rfl⟩⟩; refine ⟨_, rfl, ?_⟩)); go_ret2; exact ⟨by first | rfl | (simp; done) | (simp [*]; done), by repeat (first | exact Drawn0.refl _ | apply Drawn0.step)⟩
set_option maxHeartbeats 8000000 in
set_option maxRecDepth 100000 in
theorem stringslite_Cut.calls (a0 a1 r1 r2 : ByteArray) (r3 : Bool) (w : World) (h : stringslite_Cut.f a0 a1 = some (r1, r2, r3)) :
  Calls Tryd.prog 59 #[.string a0, .string a1] w fun e w' => e = .returned (.tuple #[.string r1, .string r2, .bool r3]) ∧ Drawn0 w w' := by
 have H : ((stringslite_Index.f a0 a1).bind fun t104 => (if t104 ≥ 0 then (if 0 ≤ t104 then (if t104 ≤ (a0.size : Int) then (if 0 ≤ (wrap64 (t104 + (a1.size : Int))) then (if (wrap64 (t104 + (a1.size : Int))) ≤ (a0.size : Int) then (some (a0.extract 0 (t104 : Int).toNat, a0.extract ((wrap64 (t104 + (a1.size : Int))) : Int).toNat a0.size, true)) else (none)) else (none)) else (none)) else (none)) else (some (a0, (⟨#[]⟩ : ByteArray), false)))) = some (r1, r2, r3) := h; clear h; obtain ⟨t104, A3, H⟩ := bi_ H
 by_cases c4 : t104 ≥ 0
 ·rw [if_pos c4] at H
  have c4b0 := decide_eq_true c4; clear c4
  by_cases c5 : 0 ≤ t104
  ·rw [if_pos c5] at H
   have c5b0 := eq_true c5; have c5b1 := decide_eq_true c5; clear c5
   by_cases c6 : t104 ≤ (a0.size : Int)
   ·rw [if_pos c6] at H
    have c6b0 := eq_true c6; have c6b1 := decide_eq_true c6; clear c6; obtain ⟨ji7, hji7⟩ : ∃ j_ : Int, (wrap64 (t104 + (a1.size : Int))) = j_ := ⟨_, rfl⟩; (replace H : (if 0 ≤ (ji7) then (if (ji7) ≤ (a0.size : Int) then (some (a0.extract 0 (t104 : Int).toNat, a0.extract ((ji7) : Int).toNat a0.size, true)) else (none)) else (none)) = some (r1, r2, r3) := by first | (rw [hji7] at H; exact H) | (simp only [hji7] at H ⊢; exact H)); (try rw [hji7] at A3); have hji7w : (IntKind.i64.wrap (t104 + (a1.size : Int))) = ji7 := (i64_w _).trans hji7
    by_cases c8 : 0 ≤ (ji7)
    ·rw [if_pos c8] at H
     have c8b0 := eq_true c8; have c8b1 := decide_eq_true c8; clear c8
     by_cases c9 : (ji7) ≤ (a0.size : Int)
     ·rw [if_pos c9] at H
      have c9b0 := eq_true c9; have c9b1 := decide_eq_true c9; clear c9; simp only [Option.some.injEq, Prod.mk.injEq] at H; obtain ⟨rfl, rfl, rfl⟩ := H; go_enter Tryd.func59, Tryd.ntmps59; go_wp2_with (first | (go_at_call 74; (with_reducible refine (stringslite_Index.calls a0 a1 t104 _ A3.out).mono ?_); rintro e w' ⟨rfl, ⟨nd, rfl⟩⟩; (try first | exact ⟨rfl, _, World.drewN_drewN _ _ _⟩ | exact ⟨rfl, _, Eq.trans (World.drewN_drewN _ _ _) (congrArg (World.drewN _) (Nat.add_assoc _ _ _))⟩)))
      repeat (go_quiet (first | (go_at_call 74; (with_reducible refine (stringslite_Index.calls a0 a1 t104 _ A3.out).mono ?_); rintro e w' ⟨rfl, ⟨nd, rfl⟩⟩; (try first | exact ⟨rfl, _, World.drewN_drewN _ _ _⟩ | exact ⟨rfl, _, Eq.trans (World.drewN_drewN _ _ _) (congrArg (World.drewN _) (Nat.add_assoc _ _ _))⟩))); try go_wp2_with (first | (go_at_call 74; (with_reducible refine (stringslite_Index.calls a0 a1 t104 _ A3.out).mono ?_); rintro e w' ⟨rfl, ⟨nd, rfl⟩⟩; (try first | exact ⟨rfl, _, World.drewN_drewN _ _ _⟩ | exact ⟨rfl, _, Eq.trans (World.drewN_drewN _ _ _) (congrArg (World.drewN _) (Nat.add_assoc _ _ _))⟩))))
      go_ret3; exact ⟨by first | rfl | (simp; done) | (simp only [← hji7] <;> (first | rfl | simp)) | (simp [*]; done), by repeat (first | exact Drawn0.refl _ | apply Drawn0.step)⟩
     ·rw [if_neg c9] at H
      exact absurd H (by simp)
    ·rw [if_neg c8] at H
     exact absurd H (by simp)
   ·rw [if_neg c6] at H
    exact absurd H (by simp)
  ·rw [if_neg c5] at H
   exact absurd H (by simp)
 ·rw [if_neg c4] at H
  have c4b0 := decide_eq_false c4; clear c4; simp only [Option.some.injEq, Prod.mk.injEq] at H; obtain ⟨rfl, rfl, rfl⟩ := H; go_enter Tryd.func59, Tryd.ntmps59; go_wp2_with (first | (go_at_call 74; (with_reducible refine (stringslite_Index.calls a0 a1 t104 _ A3.out).mono ?_); rintro e w' ⟨rfl, ⟨nd, rfl⟩⟩; (try first | exact ⟨rfl, _, World.drewN_drewN _ _ _⟩ | exact ⟨rfl, _, Eq.trans (World.drewN_drewN _ _ _) (congrArg (World.drewN _) (Nat.add_assoc _ _ _))⟩)))
  repeat (go_quiet (first | (go_at_call 74; (with_reducible refine (stringslite_Index.calls a0 a1 t104 _ A3.out).mono ?_); rintro e w' ⟨rfl, ⟨nd, rfl⟩⟩; (try first | exact ⟨rfl, _, World.drewN_drewN _ _ _⟩ | exact ⟨rfl, _, Eq.trans (World.drewN_drewN _ _ _) (congrArg (World.drewN _) (Nat.add_assoc _ _ _))⟩))); try go_wp2_with (first | (go_at_call 74; (with_reducible refine (stringslite_Index.calls a0 a1 t104 _ A3.out).mono ?_); rintro e w' ⟨rfl, ⟨nd, rfl⟩⟩; (try first | exact ⟨rfl, _, World.drewN_drewN _ _ _⟩ | exact ⟨rfl, _, Eq.trans (World.drewN_drewN _ _ _) (congrArg (World.drewN _) (Nat.add_assoc _ _ _))⟩))))
  go_ret3; exact ⟨by first | rfl | (simp; done) | (simp [*]; done), by repeat (first | exact Drawn0.refl _ | apply Drawn0.step)⟩
set_option maxHeartbeats 8000000 in
set_option maxRecDepth 100000 in
theorem strings_Cut.calls (a0 a1 r1 r2 : ByteArray) (r3 : Bool) (w : World) (h : strings_Cut.f a0 a1 = some (r1, r2, r3)) :
  Calls Tryd.prog 43 #[.string a0, .string a1] w fun e w' => e = .returned (.tuple #[.string r1, .string r2, .bool r3]) ∧ Drawn0 w w' := by
 have H : ((stringslite_Cut.f a0 a1).bind fun bt105 => (some (bt105.1, bt105.2.1, bt105.2.2))) = some (r1, r2, r3) := h; clear h; obtain ⟨⟨t105, t106, t107⟩, A3, H⟩ := bi_ H; simp only [Option.some.injEq, Prod.mk.injEq] at H; obtain ⟨rfl, rfl, rfl⟩ := H; go_enter Tryd.func43, Tryd.ntmps43; go_wp2_with (first | ((with_reducible refine gC 59 ?_); refine goesL_ (some 9) rfl rfl Tryd.func59 (by kernel_rfl) rfl #[.string a0, .string a1] rfl ml_ ?_; (with_reducible refine (stringslite_Cut.calls a0 a1 t105 t106 t107 _ A3.out).mono ?_); rintro e w' ⟨rfl, ⟨nd, rfl⟩⟩; refine ⟨_, rfl, ?_⟩)); go_ret3; exact ⟨by first | rfl | (simp; done) | (simp [*]; done), by repeat (first | exact Drawn0.refl _ | apply Drawn0.step)⟩
set_option maxHeartbeats 8000000 in
set_option maxRecDepth 100000 in
theorem point_guess.calls (a0 : ByteArray) (r1 : Int) (r2 r3 r4 : ByteArray) (w : World) (h : point_guess.f a0 = some (r1, r2, r3, r4)) :
  Calls Tryd.prog 27 #[.string a0] w fun e w' => e = .returned (.agg #[.int .i64 r1, .string r2, .string r3, .string r4]) ∧ Below w.heap.size w w' := by
 have hu23 := Tryd.underlying23; have HB := A_ (Below.refl w.heap.size w); have H : ((strings_CutSuffix.f a0 (⟨#[100]⟩ : ByteArray)).bind fun bt109 => (if bt109.2 = true then (some (4, bt109.1, (⟨#[]⟩ : ByteArray), (⟨#[]⟩ : ByteArray))) else ((strings_CutSuffix.f a0 (⟨#[99]⟩ : ByteArray)).bind fun bt111 => (if bt111.2 = true then (some (5, bt111.1, (⟨#[]⟩ : ByteArray), (⟨#[]⟩ : ByteArray))) else ((strings_Cut.f a0 (⟨#[115]⟩ : ByteArray)).bind fun bt113 => (if bt113.2.2 = true then (some (2, bt113.1, bt113.2.1, (⟨#[]⟩ : ByteArray))) else ((strings_Cut.f a0 (⟨#[45]⟩ : ByteArray)).bind fun bt116 => (if bt116.2.2 = true then ((strings_Cut.f bt116.2.1 (⟨#[45]⟩ : ByteArray)).bind fun bt119 => (if bt119.2.2 = true then (some (0, bt116.1, bt119.1, bt119.2.1)) else (some (1, bt116.1, bt116.2.1, (⟨#[]⟩ : ByteArray))))) else (some (3, a0, (⟨#[]⟩ : ByteArray), (⟨#[]⟩ : ByteArray))))))))))) = some (r1, r2, r3, r4) := h; clear h; obtain ⟨⟨t109, t110⟩, A2, H⟩ := bi_ H
 by_cases c3 : t110 = true
 ·subst c3
  (have H1 : (some (4, t109, (⟨#[]⟩ : ByteArray), (⟨#[]⟩ : ByteArray))) = some (r1, r2, r3, r4) := by rw [if_pos rfl] at H; exact H); clear H; have H := H1; clear H1; simp only [Option.some.injEq, Prod.mk.injEq] at H; obtain ⟨rfl, rfl, rfl, rfl⟩ := H; go_enter Tryd.func27, Tryd.ntmps27; go_wp2_with (first | ((with_reducible refine gD 2 ?_); refine gx_ w 2 z4_ 23 ?_; clear HB; intro gb108 w4 BK108 GE108 HB; have GW108 := GE108) | ((with_reducible refine gC 42 ?_); refine goesL_ (some 17) rfl rfl Tryd.func42 (by kernel_rfl) rfl #[.string a0, .string ⟨#[100]⟩] rfl ml_ ?_; (with_reducible refine (strings_CutSuffix.calls a0 (⟨#[100]⟩ : ByteArray) t109 true _ A2.out).mono ?_); rintro e w' ⟨rfl, ⟨nd, rfl⟩⟩; refine ⟨_, rfl, ?_⟩; (try (rw [drewN_self w4]; generalize hq_ : World.drewN w4 _ = w4; have m0_ : Aside0 (w4.heap[gb108]? = some (.cells z4_ 23 (0, 0))) := ⟨by rw [← hq_]; exact (bl_ BK108.out)⟩; have m1_ : Aside0 (Below w.heap.size w w4) := ⟨by rw [← hq_]; exact hs_⟩; clear BK108 HB hq_; have BK108 := m0_; have HB := m1_; clear m0_ m1_)); have Z5 := bz4_ BK108)); refine bodyPost_ret (results_cell_row rfl _ _ gb108 23 #[.int .i64 4, .string t109, .string ⟨#[]⟩, .string ⟨#[]⟩] (0, 0) _ rfl (pb_ BK108.out) Tryd.underlying23 rfl (by kernel_rfl)) rfl ?_; exact ⟨re_, hs_⟩
 ·replace c3 := Bool.eq_false_iff.mpr c3
  subst c3; (have H1 : ((strings_CutSuffix.f a0 (⟨#[99]⟩ : ByteArray)).bind fun bt111 => (if bt111.2 = true then (some (5, bt111.1, (⟨#[]⟩ : ByteArray), (⟨#[]⟩ : ByteArray))) else ((strings_Cut.f a0 (⟨#[115]⟩ : ByteArray)).bind fun bt113 => (if bt113.2.2 = true then (some (2, bt113.1, bt113.2.1, (⟨#[]⟩ : ByteArray))) else ((strings_Cut.f a0 (⟨#[45]⟩ : ByteArray)).bind fun bt116 => (if bt116.2.2 = true then ((strings_Cut.f bt116.2.1 (⟨#[45]⟩ : ByteArray)).bind fun bt119 => (if bt119.2.2 = true then (some (0, bt116.1, bt119.1, bt119.2.1)) else (some (1, bt116.1, bt116.2.1, (⟨#[]⟩ : ByteArray))))) else (some (3, a0, (⟨#[]⟩ : ByteArray), (⟨#[]⟩ : ByteArray))))))))) = some (r1, r2, r3, r4) := by rw [if_neg (show ¬ (false = true) by decide)] at H; exact H); clear H; have H := H1; clear H1; obtain ⟨⟨t111, t112⟩, A6, H⟩ := bi_ H
  by_cases c7 : t112 = true
  ·subst c7
   (have H1 : (some (5, t111, (⟨#[]⟩ : ByteArray), (⟨#[]⟩ : ByteArray))) = some (r1, r2, r3, r4) := by rw [if_pos rfl] at H; exact H); clear H; have H := H1; clear H1; simp only [Option.some.injEq, Prod.mk.injEq] at H; obtain ⟨rfl, rfl, rfl, rfl⟩ := H; go_enter Tryd.func27, Tryd.ntmps27; go_wp2_with (first | ((with_reducible refine gD 2 ?_); refine gx_ w 2 z4_ 23 ?_; clear HB; intro gb108 w8 BK108 GE108 HB; have GW108 := GE108) | ((with_reducible refine gC 42 ?_); refine goesL_ (some 17) rfl rfl Tryd.func42 (by kernel_rfl) rfl #[.string a0, .string ⟨#[100]⟩] rfl ml_ ?_; (with_reducible refine (strings_CutSuffix.calls a0 (⟨#[100]⟩ : ByteArray) t109 false _ A2.out).mono ?_); rintro e w' ⟨rfl, ⟨nd, rfl⟩⟩; refine ⟨_, rfl, ?_⟩; (try (rw [drewN_self w8]; generalize hq_ : World.drewN w8 _ = w8; have m0_ : Aside0 (w8.heap[gb108]? = some (.cells z4_ 23 (0, 0))) := ⟨by rw [← hq_]; exact (bl_ BK108.out)⟩; have m1_ : Aside0 (Below w.heap.size w w8) := ⟨by rw [← hq_]; exact hs_⟩; clear BK108 HB hq_; have BK108 := m0_; have HB := m1_; clear m0_ m1_))) | ((with_reducible refine gC 42 ?_); refine goesL_ (some 25) rfl rfl Tryd.func42 (by kernel_rfl) rfl #[.string a0, .string ⟨#[99]⟩] rfl ml_ ?_; (with_reducible refine (strings_CutSuffix.calls a0 (⟨#[99]⟩ : ByteArray) t111 true _ A6.out).mono ?_); rintro e w' ⟨rfl, ⟨nd, rfl⟩⟩; refine ⟨_, rfl, ?_⟩; (try (rw [drewN_self w8]; generalize hq_ : World.drewN w8 _ = w8; have m0_ : Aside0 (w8.heap[gb108]? = some (.cells z4_ 23 (0, 0))) := ⟨by rw [← hq_]; exact (bl_ BK108.out)⟩; have m1_ : Aside0 (Below w.heap.size w w8) := ⟨by rw [← hq_]; exact hs_⟩; clear BK108 HB hq_; have BK108 := m0_; have HB := m1_; clear m0_ m1_)); have Z9 := bz4_ BK108)); refine bodyPost_ret (results_cell_row rfl _ _ gb108 23 #[.int .i64 5, .string t111, .string ⟨#[]⟩, .string ⟨#[]⟩] (0, 0) _ rfl (pb_ BK108.out) Tryd.underlying23 rfl (by kernel_rfl)) rfl ?_
   exact ⟨re_, hs_⟩
  ·replace c7 := Bool.eq_false_iff.mpr c7
   subst c7; (have H1 : ((strings_Cut.f a0 (⟨#[115]⟩ : ByteArray)).bind fun bt113 => (if bt113.2.2 = true then (some (2, bt113.1, bt113.2.1, (⟨#[]⟩ : ByteArray))) else ((strings_Cut.f a0 (⟨#[45]⟩ : ByteArray)).bind fun bt116 => (if bt116.2.2 = true then ((strings_Cut.f bt116.2.1 (⟨#[45]⟩ : ByteArray)).bind fun bt119 => (if bt119.2.2 = true then (some (0, bt116.1, bt119.1, bt119.2.1)) else (some (1, bt116.1, bt116.2.1, (⟨#[]⟩ : ByteArray))))) else (some (3, a0, (⟨#[]⟩ : ByteArray), (⟨#[]⟩ : ByteArray))))))) = some (r1, r2, r3, r4) := by rw [if_neg (show ¬ (false = true) by decide)] at H; exact H); clear H; have H := H1; clear H1; obtain ⟨⟨t113, t114, t115⟩, A10, H⟩ := bi_ H
   by_cases c11 : t115 = true
   ·subst c11
    (have H1 : (some (2, t113, t114, (⟨#[]⟩ : ByteArray))) = some (r1, r2, r3, r4) := by rw [if_pos rfl] at H; exact H); clear H; have H := H1; clear H1; simp only [Option.some.injEq, Prod.mk.injEq] at H; obtain ⟨rfl, rfl, rfl, rfl⟩ := H; go_enter Tryd.func27, Tryd.ntmps27; go_wp2_with (first | ((with_reducible refine gD 2 ?_); refine gx_ w 2 z4_ 23 ?_; clear HB; intro gb108 w12 BK108 GE108 HB; have GW108 := GE108) | ((with_reducible refine gC 42 ?_); refine goesL_ (some 17) rfl rfl Tryd.func42 (by kernel_rfl) rfl #[.string a0, .string ⟨#[100]⟩] rfl ml_ ?_; (with_reducible refine (strings_CutSuffix.calls a0 (⟨#[100]⟩ : ByteArray) t109 false _ A2.out).mono ?_); rintro e w' ⟨rfl, ⟨nd, rfl⟩⟩; refine ⟨_, rfl, ?_⟩; (try (rw [drewN_self w12]; generalize hq_ : World.drewN w12 _ = w12; have m0_ : Aside0 (w12.heap[gb108]? = some (.cells z4_ 23 (0, 0))) := ⟨by rw [← hq_]; exact (bl_ BK108.out)⟩; have m1_ : Aside0 (Below w.heap.size w w12) := ⟨by rw [← hq_]; exact hs_⟩; clear BK108 HB hq_; have BK108 := m0_; have HB := m1_; clear m0_ m1_))) | ((with_reducible refine gC 42 ?_); refine goesL_ (some 25) rfl rfl Tryd.func42 (by kernel_rfl) rfl #[.string a0, .string ⟨#[99]⟩] rfl ml_ ?_; (with_reducible refine (strings_CutSuffix.calls a0 (⟨#[99]⟩ : ByteArray) t111 false _ A6.out).mono ?_); rintro e w' ⟨rfl, ⟨nd, rfl⟩⟩; refine ⟨_, rfl, ?_⟩; (try (rw [drewN_self w12]; generalize hq_ : World.drewN w12 _ = w12; have m0_ : Aside0 (w12.heap[gb108]? = some (.cells z4_ 23 (0, 0))) := ⟨by rw [← hq_]; exact (bl_ BK108.out)⟩; have m1_ : Aside0 (Below w.heap.size w w12) := ⟨by rw [← hq_]; exact hs_⟩; clear BK108 HB hq_; have BK108 := m0_; have HB := m1_; clear m0_ m1_))) | ((with_reducible refine gC 43 ?_); refine goesL_ (some 33) rfl rfl Tryd.func43 (by kernel_rfl) rfl #[.string a0, .string ⟨#[115]⟩] rfl ml_ ?_; (with_reducible refine (strings_Cut.calls a0 (⟨#[115]⟩ : ByteArray) t113 t114 true _ A10.out).mono ?_); rintro e w' ⟨rfl, ⟨nd, rfl⟩⟩; refine ⟨_, rfl, ?_⟩; (try (rw [drewN_self w12]; generalize hq_ : World.drewN w12 _ = w12; have m0_ : Aside0 (w12.heap[gb108]? = some (.cells z4_ 23 (0, 0))) := ⟨by rw [← hq_]; exact (bl_ BK108.out)⟩; have m1_ : Aside0 (Below w.heap.size w w12) := ⟨by rw [← hq_]; exact hs_⟩; clear BK108 HB hq_; have BK108 := m0_; have HB := m1_; clear m0_ m1_)); have Z13 := bz4_ BK108))
    refine bodyPost_ret (results_cell_row rfl _ _ gb108 23 #[.int .i64 2, .string t113, .string t114, .string ⟨#[]⟩] (0, 0) _ rfl (pb_ BK108.out) Tryd.underlying23 rfl (by kernel_rfl)) rfl ?_; exact ⟨re_, hs_⟩
   ·replace c11 := Bool.eq_false_iff.mpr c11
    subst c11; (have H1 : ((strings_Cut.f a0 (⟨#[45]⟩ : ByteArray)).bind fun bt116 => (if bt116.2.2 = true then ((strings_Cut.f bt116.2.1 (⟨#[45]⟩ : ByteArray)).bind fun bt119 => (if bt119.2.2 = true then (some (0, bt116.1, bt119.1, bt119.2.1)) else (some (1, bt116.1, bt116.2.1, (⟨#[]⟩ : ByteArray))))) else (some (3, a0, (⟨#[]⟩ : ByteArray), (⟨#[]⟩ : ByteArray))))) = some (r1, r2, r3, r4) := by rw [if_neg (show ¬ (false = true) by decide)] at H; exact H); clear H; have H := H1; clear H1; obtain ⟨⟨t116, t117, t118⟩, A14, H⟩ := bi_ H
    by_cases c15 : t118 = true
    ·subst c15
     (have H1 : ((strings_Cut.f t117 (⟨#[45]⟩ : ByteArray)).bind fun bt119 => (if bt119.2.2 = true then (some (0, t116, bt119.1, bt119.2.1)) else (some (1, t116, t117, (⟨#[]⟩ : ByteArray))))) = some (r1, r2, r3, r4) := by rw [if_pos rfl] at H; exact H); clear H; have H := H1; clear H1; obtain ⟨⟨t119, t120, t121⟩, A16, H⟩ := bi_ H
     by_cases c17 : t121 = true
     ·subst c17
      (have H1 : (some (0, t116, t119, t120)) = some (r1, r2, r3, r4) := by rw [if_pos rfl] at H; exact H); clear H; have H := H1; clear H1; simp only [Option.some.injEq, Prod.mk.injEq] at H; obtain ⟨rfl, rfl, rfl, rfl⟩ := H; go_enter Tryd.func27, Tryd.ntmps27; go_wp2_with (first | ((with_reducible refine gD 2 ?_); refine gx_ w 2 z4_ 23 ?_; clear HB; intro gb108 w18 BK108 GE108 HB; have GW108 := GE108) | ((with_reducible refine gC 42 ?_); refine goesL_ (some 17) rfl rfl Tryd.func42 (by kernel_rfl) rfl #[.string a0, .string ⟨#[100]⟩] rfl ml_ ?_; (with_reducible refine (strings_CutSuffix.calls a0 (⟨#[100]⟩ : ByteArray) t109 false _ A2.out).mono ?_); rintro e w' ⟨rfl, ⟨nd, rfl⟩⟩; refine ⟨_, rfl, ?_⟩; (try (rw [drewN_self w18]; generalize hq_ : World.drewN w18 _ = w18; have m0_ : Aside0 (w18.heap[gb108]? = some (.cells z4_ 23 (0, 0))) := ⟨by rw [← hq_]; exact (bl_ BK108.out)⟩; have m1_ : Aside0 (Below w.heap.size w w18) := ⟨by rw [← hq_]; exact hs_⟩; clear BK108 HB hq_; have BK108 := m0_; have HB := m1_; clear m0_ m1_))) | ((with_reducible refine gC 42 ?_); refine goesL_ (some 25) rfl rfl Tryd.func42 (by kernel_rfl) rfl #[.string a0, .string ⟨#[99]⟩] rfl ml_ ?_; (with_reducible refine (strings_CutSuffix.calls a0 (⟨#[99]⟩ : ByteArray) t111 false _ A6.out).mono ?_); rintro e w' ⟨rfl, ⟨nd, rfl⟩⟩; refine ⟨_, rfl, ?_⟩; (try (rw [drewN_self w18]; generalize hq_ : World.drewN w18 _ = w18; have m0_ : Aside0 (w18.heap[gb108]? = some (.cells z4_ 23 (0, 0))) := ⟨by rw [← hq_]; exact (bl_ BK108.out)⟩; have m1_ : Aside0 (Below w.heap.size w w18) := ⟨by rw [← hq_]; exact hs_⟩; clear BK108 HB hq_; have BK108 := m0_; have HB := m1_; clear m0_ m1_))) | ((with_reducible refine gC 43 ?_); refine goesL_ (some 33) rfl rfl Tryd.func43 (by kernel_rfl) rfl #[.string a0, .string ⟨#[115]⟩] rfl ml_ ?_; (with_reducible refine (strings_Cut.calls a0 (⟨#[115]⟩ : ByteArray) t113 t114 false _ A10.out).mono ?_); rintro e w' ⟨rfl, ⟨nd, rfl⟩⟩; refine ⟨_, rfl, ?_⟩; (try (rw [drewN_self w18]; generalize hq_ : World.drewN w18 _ = w18; have m0_ : Aside0 (w18.heap[gb108]? = some (.cells z4_ 23 (0, 0))) := ⟨by rw [← hq_]; exact (bl_ BK108.out)⟩; have m1_ : Aside0 (Below w.heap.size w w18) := ⟨by rw [← hq_]; exact hs_⟩; clear BK108 HB hq_; have BK108 := m0_; have HB := m1_; clear m0_ m1_))) | ((with_reducible refine gC 43 ?_); refine goesL_ (some 43) rfl rfl Tryd.func43 (by kernel_rfl) rfl #[.string a0, .string ⟨#[45]⟩] rfl ml_ ?_; (with_reducible refine (strings_Cut.calls a0 (⟨#[45]⟩ : ByteArray) t116 t117 true _ A14.out).mono ?_); rintro e w' ⟨rfl, ⟨nd, rfl⟩⟩; refine ⟨_, rfl, ?_⟩; (try (rw [drewN_self w18]; generalize hq_ : World.drewN w18 _ = w18; have m0_ : Aside0 (w18.heap[gb108]? = some (.cells z4_ 23 (0, 0))) := ⟨by rw [← hq_]; exact (bl_ BK108.out)⟩; have m1_ : Aside0 (Below w.heap.size w w18) := ⟨by rw [← hq_]; exact hs_⟩; clear BK108 HB hq_; have BK108 := m0_; have HB := m1_; clear m0_ m1_))) | ((with_reducible refine gC 43 ?_); refine goesL_ (some 53) rfl rfl Tryd.func43 (by kernel_rfl) rfl #[.string t117, .string ⟨#[45]⟩] rfl ml_ ?_; (with_reducible refine (strings_Cut.calls t117 (⟨#[45]⟩ : ByteArray) t119 t120 true _ A16.out).mono ?_); rintro e w' ⟨rfl, ⟨nd, rfl⟩⟩; refine ⟨_, rfl, ?_⟩; (try (rw [drewN_self w18]; generalize hq_ : World.drewN w18 _ = w18; have m0_ : Aside0 (w18.heap[gb108]? = some (.cells z4_ 23 (0, 0))) := ⟨by rw [← hq_]; exact (bl_ BK108.out)⟩; have m1_ : Aside0 (Below w.heap.size w w18) := ⟨by rw [← hq_]; exact hs_⟩; clear BK108 HB hq_; have BK108 := m0_; have HB := m1_; clear m0_ m1_)); have Z19 := bz4_ BK108))
      refine bodyPost_ret (results_cell_row rfl _ _ gb108 23 #[.int .i64 0, .string t116, .string t119, .string t120] (0, 0) _ rfl (pb_ BK108.out) Tryd.underlying23 rfl (by kernel_rfl)) rfl ?_; exact ⟨re_, hs_⟩
     ·replace c17 := Bool.eq_false_iff.mpr c17
      subst c17; (have H1 : (some (1, t116, t117, (⟨#[]⟩ : ByteArray))) = some (r1, r2, r3, r4) := by rw [if_neg (show ¬ (false = true) by decide)] at H; exact H); clear H; have H := H1; clear H1; simp only [Option.some.injEq, Prod.mk.injEq] at H; obtain ⟨rfl, rfl, rfl, rfl⟩ := H; go_enter Tryd.func27, Tryd.ntmps27; go_wp2_with (first | ((with_reducible refine gD 2 ?_); refine gx_ w 2 z4_ 23 ?_; clear HB; intro gb108 w20 BK108 GE108 HB; have GW108 := GE108) | ((with_reducible refine gC 42 ?_); refine goesL_ (some 17) rfl rfl Tryd.func42 (by kernel_rfl) rfl #[.string a0, .string ⟨#[100]⟩] rfl ml_ ?_; (with_reducible refine (strings_CutSuffix.calls a0 (⟨#[100]⟩ : ByteArray) t109 false _ A2.out).mono ?_); rintro e w' ⟨rfl, ⟨nd, rfl⟩⟩; refine ⟨_, rfl, ?_⟩; (try (rw [drewN_self w20]; generalize hq_ : World.drewN w20 _ = w20; have m0_ : Aside0 (w20.heap[gb108]? = some (.cells z4_ 23 (0, 0))) := ⟨by rw [← hq_]; exact (bl_ BK108.out)⟩; have m1_ : Aside0 (Below w.heap.size w w20) := ⟨by rw [← hq_]; exact hs_⟩; clear BK108 HB hq_; have BK108 := m0_; have HB := m1_; clear m0_ m1_))) | ((with_reducible refine gC 42 ?_); refine goesL_ (some 25) rfl rfl Tryd.func42 (by kernel_rfl) rfl #[.string a0, .string ⟨#[99]⟩] rfl ml_ ?_; (with_reducible refine (strings_CutSuffix.calls a0 (⟨#[99]⟩ : ByteArray) t111 false _ A6.out).mono ?_); rintro e w' ⟨rfl, ⟨nd, rfl⟩⟩; refine ⟨_, rfl, ?_⟩; (try (rw [drewN_self w20]; generalize hq_ : World.drewN w20 _ = w20; have m0_ : Aside0 (w20.heap[gb108]? = some (.cells z4_ 23 (0, 0))) := ⟨by rw [← hq_]; exact (bl_ BK108.out)⟩; have m1_ : Aside0 (Below w.heap.size w w20) := ⟨by rw [← hq_]; exact hs_⟩; clear BK108 HB hq_; have BK108 := m0_; have HB := m1_; clear m0_ m1_))) | ((with_reducible refine gC 43 ?_); refine goesL_ (some 33) rfl rfl Tryd.func43 (by kernel_rfl) rfl #[.string a0, .string ⟨#[115]⟩] rfl ml_ ?_; (with_reducible refine (strings_Cut.calls a0 (⟨#[115]⟩ : ByteArray) t113 t114 false _ A10.out).mono ?_); rintro e w' ⟨rfl, ⟨nd, rfl⟩⟩; refine ⟨_, rfl, ?_⟩; (try (rw [drewN_self w20]; generalize hq_ : World.drewN w20 _ = w20; have m0_ : Aside0 (w20.heap[gb108]? = some (.cells z4_ 23 (0, 0))) := ⟨by rw [← hq_]; exact (bl_ BK108.out)⟩; have m1_ : Aside0 (Below w.heap.size w w20) := ⟨by rw [← hq_]; exact hs_⟩; clear BK108 HB hq_; have BK108 := m0_; have HB := m1_; clear m0_ m1_))) | ((with_reducible refine gC 43 ?_); refine goesL_ (some 43) rfl rfl Tryd.func43 (by kernel_rfl) rfl #[.string a0, .string ⟨#[45]⟩] rfl ml_ ?_; (with_reducible refine (strings_Cut.calls a0 (⟨#[45]⟩ : ByteArray) t116 t117 true _ A14.out).mono ?_); rintro e w' ⟨rfl, ⟨nd, rfl⟩⟩; refine ⟨_, rfl, ?_⟩; (try (rw [drewN_self w20]; generalize hq_ : World.drewN w20 _ = w20; have m0_ : Aside0 (w20.heap[gb108]? = some (.cells z4_ 23 (0, 0))) := ⟨by rw [← hq_]; exact (bl_ BK108.out)⟩; have m1_ : Aside0 (Below w.heap.size w w20) := ⟨by rw [← hq_]; exact hs_⟩; clear BK108 HB hq_; have BK108 := m0_; have HB := m1_; clear m0_ m1_))) | ((with_reducible refine gC 43 ?_); refine goesL_ (some 53) rfl rfl Tryd.func43 (by kernel_rfl) rfl #[.string t117, .string ⟨#[45]⟩] rfl ml_ ?_; (with_reducible refine (strings_Cut.calls t117 (⟨#[45]⟩ : ByteArray) t119 t120 false _ A16.out).mono ?_); rintro e w' ⟨rfl, ⟨nd, rfl⟩⟩; refine ⟨_, rfl, ?_⟩; (try (rw [drewN_self w20]; generalize hq_ : World.drewN w20 _ = w20; have m0_ : Aside0 (w20.heap[gb108]? = some (.cells z4_ 23 (0, 0))) := ⟨by rw [← hq_]; exact (bl_ BK108.out)⟩; have m1_ : Aside0 (Below w.heap.size w w20) := ⟨by rw [← hq_]; exact hs_⟩; clear BK108 HB hq_; have BK108 := m0_; have HB := m1_; clear m0_ m1_)); have Z21 := bz4_ BK108))
      refine bodyPost_ret (results_cell_row rfl _ _ gb108 23 #[.int .i64 1, .string t116, .string t117, .string ⟨#[]⟩] (0, 0) _ rfl (pb_ BK108.out) Tryd.underlying23 rfl (by kernel_rfl)) rfl ?_; exact ⟨re_, hs_⟩
    ·replace c15 := Bool.eq_false_iff.mpr c15
     subst c15; (have H1 : (some (3, a0, (⟨#[]⟩ : ByteArray), (⟨#[]⟩ : ByteArray))) = some (r1, r2, r3, r4) := by rw [if_neg (show ¬ (false = true) by decide)] at H; exact H); clear H; have H := H1; clear H1; simp only [Option.some.injEq, Prod.mk.injEq] at H; obtain ⟨rfl, rfl, rfl, rfl⟩ := H; go_enter Tryd.func27, Tryd.ntmps27; go_wp2_with (first | ((with_reducible refine gD 2 ?_); refine gx_ w 2 z4_ 23 ?_; clear HB; intro gb108 w22 BK108 GE108 HB; have GW108 := GE108) | ((with_reducible refine gC 42 ?_); refine goesL_ (some 17) rfl rfl Tryd.func42 (by kernel_rfl) rfl #[.string a0, .string ⟨#[100]⟩] rfl ml_ ?_; (with_reducible refine (strings_CutSuffix.calls a0 (⟨#[100]⟩ : ByteArray) t109 false _ A2.out).mono ?_); rintro e w' ⟨rfl, ⟨nd, rfl⟩⟩; refine ⟨_, rfl, ?_⟩; (try (rw [drewN_self w22]; generalize hq_ : World.drewN w22 _ = w22; have m0_ : Aside0 (w22.heap[gb108]? = some (.cells z4_ 23 (0, 0))) := ⟨by rw [← hq_]; exact (bl_ BK108.out)⟩; have m1_ : Aside0 (Below w.heap.size w w22) := ⟨by rw [← hq_]; exact hs_⟩; clear BK108 HB hq_; have BK108 := m0_; have HB := m1_; clear m0_ m1_))) | ((with_reducible refine gC 42 ?_); refine goesL_ (some 25) rfl rfl Tryd.func42 (by kernel_rfl) rfl #[.string a0, .string ⟨#[99]⟩] rfl ml_ ?_; (with_reducible refine (strings_CutSuffix.calls a0 (⟨#[99]⟩ : ByteArray) t111 false _ A6.out).mono ?_); rintro e w' ⟨rfl, ⟨nd, rfl⟩⟩; refine ⟨_, rfl, ?_⟩; (try (rw [drewN_self w22]; generalize hq_ : World.drewN w22 _ = w22; have m0_ : Aside0 (w22.heap[gb108]? = some (.cells z4_ 23 (0, 0))) := ⟨by rw [← hq_]; exact (bl_ BK108.out)⟩; have m1_ : Aside0 (Below w.heap.size w w22) := ⟨by rw [← hq_]; exact hs_⟩; clear BK108 HB hq_; have BK108 := m0_; have HB := m1_; clear m0_ m1_))) | ((with_reducible refine gC 43 ?_); refine goesL_ (some 33) rfl rfl Tryd.func43 (by kernel_rfl) rfl #[.string a0, .string ⟨#[115]⟩] rfl ml_ ?_; (with_reducible refine (strings_Cut.calls a0 (⟨#[115]⟩ : ByteArray) t113 t114 false _ A10.out).mono ?_); rintro e w' ⟨rfl, ⟨nd, rfl⟩⟩; refine ⟨_, rfl, ?_⟩; (try (rw [drewN_self w22]; generalize hq_ : World.drewN w22 _ = w22; have m0_ : Aside0 (w22.heap[gb108]? = some (.cells z4_ 23 (0, 0))) := ⟨by rw [← hq_]; exact (bl_ BK108.out)⟩; have m1_ : Aside0 (Below w.heap.size w w22) := ⟨by rw [← hq_]; exact hs_⟩; clear BK108 HB hq_; have BK108 := m0_; have HB := m1_; clear m0_ m1_))) | ((with_reducible refine gC 43 ?_); refine goesL_ (some 43) rfl rfl Tryd.func43 (by kernel_rfl) rfl #[.string a0, .string ⟨#[45]⟩] rfl ml_ ?_; (with_reducible refine (strings_Cut.calls a0 (⟨#[45]⟩ : ByteArray) t116 t117 false _ A14.out).mono ?_); rintro e w' ⟨rfl, ⟨nd, rfl⟩⟩; refine ⟨_, rfl, ?_⟩; (try (rw [drewN_self w22]; generalize hq_ : World.drewN w22 _ = w22; have m0_ : Aside0 (w22.heap[gb108]? = some (.cells z4_ 23 (0, 0))) := ⟨by rw [← hq_]; exact (bl_ BK108.out)⟩; have m1_ : Aside0 (Below w.heap.size w w22) := ⟨by rw [← hq_]; exact hs_⟩; clear BK108 HB hq_; have BK108 := m0_; have HB := m1_; clear m0_ m1_)); have Z23 := bz4_ BK108))
     refine bodyPost_ret (results_cell_row rfl _ _ gb108 23 #[.int .i64 3, .string a0, .string ⟨#[]⟩, .string ⟨#[]⟩] (0, 0) _ rfl (pb_ BK108.out) Tryd.underlying23 rfl (by kernel_rfl)) rfl ?_; exact ⟨re_, hs_⟩
set_option maxHeartbeats 8000000 in
set_option maxRecDepth 100000 in
theorem point_Read.calls (k : Nat) (a0 : ByteArray) (r1 : Int) (r2 r3 r4 : ByteArray) (r5 : Bool) (w : World) (h : point_Read.f k a0 = some (r1, r2, r3, r4, r5)) :
  Calls Tryd.prog 11 #[.string a0] w fun e w' => e = .returned (.tuple #[.agg #[.int .i64 r1, .string r2, .string r3, .string r4], .bool r5]) ∧ Below w.heap.size w w' := by
 have hu23 := Tryd.underlying23; have HB := A_ (Below.refl w.heap.size w); have H : ((point_guess.f a0).bind fun bt123 => ((point_Sane.f k bt123.1 bt123.2.1 bt123.2.2.1 bt123.2.2.2).bind fun t128 => (if t128 = true then (some (bt123.1, bt123.2.1, bt123.2.2.1, bt123.2.2.2, true)) else (some (0, (⟨#[]⟩ : ByteArray), (⟨#[]⟩ : ByteArray), (⟨#[]⟩ : ByteArray), false))))) = some (r1, r2, r3, r4, r5) := h; clear h; obtain ⟨⟨t123, t124, t125, t126⟩, A2, H⟩ := bi_ H; obtain ⟨t128, A3, H⟩ := bi_ H
 by_cases c4 : t128 = true
 ·subst c4
  (have H1 : (some (t123, t124, t125, t126, true)) = some (r1, r2, r3, r4, r5) := by rw [if_pos rfl] at H; exact H); clear H; have H := H1; clear H1; simp only [Option.some.injEq, Prod.mk.injEq] at H; obtain ⟨rfl, rfl, rfl, rfl, rfl⟩ := H; go_enter Tryd.func11, Tryd.ntmps11; go_wp2_with (first | ((with_reducible refine gD 2 ?_); refine gx_ w 2 z4_ 23 ?_; clear HB; intro gb122 w5 BK122 GE122 HB; have GW122 := GE122) | ((with_reducible refine gC 27 ?_); refine goesL_ (some 6) rfl rfl Tryd.func27 (by kernel_rfl) rfl #[.string a0] rfl ml_ ?_; (with_reducible refine (point_guess.calls a0 t123 t124 t125 t126 _ A2.out).mono ?_); rintro e w6 ⟨rfl, hb⟩; refine ⟨_, rfl, ?_⟩; replace BK122 := bb_ BK122 hb; replace HB := bs_ hb; (try clear hb)) | ((with_reducible refine gD 4 ?_); refine bxe_ 4 z4_ 23 ?_; intro gb127 hg w7 hbox hb; have BK127 := A_ (hbox); have GW127 := gs_ w hg; have GE127 := gs_ w hg; replace HB := bs_ hb; have NB122_127 := nl_ BK122 hg; have NB127_122 := ng_ BK122 hg; replace BK122 := bb_ BK122 hb; clear hb hbox hg; have hnb8 := NB127_122.out; have hnc8 := NB122_127.out; have Z9 := bz4_ BK127) | ((with_reducible refine gC 10 ?_); refine goesL_ (some 8) rfl rfl Tryd.func10 (by kernel_rfl) rfl #[.agg #[.int .i64 t123, .string t124, .string t125, .string t126]] rfl ml_ ?_; (with_reducible refine (point_Sane.calls k t123 t124 t125 t126 true _ A3.out).mono ?_); rintro e w10 ⟨rfl, hb⟩; refine ⟨_, rfl, ?_⟩; replace BK122 := A_ (blk_below (g := gb122) (o := .cells z4_ 23 (0, 0)) (pf_ NB122_127 BK122) hb); replace BK127 := bp_ BK127 (.cells (n4_ t123 t124 t125 t126) 23 (0, 0)) hb; replace HB := bs_ hb; (try clear hb); have Z11 := bz4_ BK127; have Z12 := bz4_ BK122))
  refine bodyPost_ret (results_ct rfl _ _ gb122 23 #[.int .i64 t123, .string t124, .string t125, .string t126] (0, 0) _ rfl (pb_ BK122.out) Tryd.underlying23 rfl (by kernel_rfl)) rfl ?_; exact ⟨re_, hs_⟩
 ·replace c4 := Bool.eq_false_iff.mpr c4
  subst c4; (have H1 : (some (0, (⟨#[]⟩ : ByteArray), (⟨#[]⟩ : ByteArray), (⟨#[]⟩ : ByteArray), false)) = some (r1, r2, r3, r4, r5) := by rw [if_neg (show ¬ (false = true) by decide)] at H; exact H); clear H; have H := H1; clear H1; simp only [Option.some.injEq, Prod.mk.injEq] at H; obtain ⟨rfl, rfl, rfl, rfl, rfl⟩ := H; go_enter Tryd.func11, Tryd.ntmps11; go_wp2_with (first | ((with_reducible refine gD 2 ?_); refine gx_ w 2 z4_ 23 ?_; clear HB; intro gb122 w13 BK122 GE122 HB; have GW122 := GE122) | ((with_reducible refine gC 27 ?_); refine goesL_ (some 6) rfl rfl Tryd.func27 (by kernel_rfl) rfl #[.string a0] rfl ml_ ?_; (with_reducible refine (point_guess.calls a0 t123 t124 t125 t126 _ A2.out).mono ?_); rintro e w14 ⟨rfl, hb⟩; refine ⟨_, rfl, ?_⟩; replace BK122 := bb_ BK122 hb; replace HB := bs_ hb; (try clear hb)) | ((with_reducible refine gD 4 ?_); refine bxe_ 4 z4_ 23 ?_; intro gb127 hg w15 hbox hb; have BK127 := A_ (hbox); have GW127 := gs_ w hg; have GE127 := gs_ w hg; replace HB := bs_ hb; have NB122_127 := nl_ BK122 hg; have NB127_122 := ng_ BK122 hg; replace BK122 := bb_ BK122 hb; clear hb hbox hg; have hnb16 := NB127_122.out; have hnc16 := NB122_127.out; have Z17 := bz4_ BK127) | ((with_reducible refine gC 10 ?_); refine goesL_ (some 8) rfl rfl Tryd.func10 (by kernel_rfl) rfl #[.agg #[.int .i64 t123, .string t124, .string t125, .string t126]] rfl ml_ ?_; (with_reducible refine (point_Sane.calls k t123 t124 t125 t126 false _ A3.out).mono ?_); rintro e w18 ⟨rfl, hb⟩; refine ⟨_, rfl, ?_⟩; replace BK122 := A_ (blk_below (g := gb122) (o := .cells z4_ 23 (0, 0)) (pf_ NB122_127 BK122) hb); replace BK127 := bp_ BK127 (.cells (n4_ t123 t124 t125 t126) 23 (0, 0)) hb; replace HB := bs_ hb; (try clear hb); have Z19 := bz4_ BK122))
  refine bodyPost_ret (results_ct rfl _ _ gb122 23 #[.int .i64 0, .string ⟨#[]⟩, .string ⟨#[]⟩, .string ⟨#[]⟩] (0, 0) _ rfl (pb_ BK122.out) Tryd.underlying23 rfl (by kernel_rfl)) rfl ?_; exact ⟨re_, hs_⟩
set_option maxHeartbeats 8000000 in
set_option maxRecDepth 100000 in
theorem point_Text.calls (k : Nat) (a0_0 : Int) (a0_1 a0_2 a0_3 r : ByteArray) (w : World) (h : point_Text.f k a0_0 a0_1 a0_2 a0_3 = some r) :
  Calls Tryd.prog 9 #[.agg #[.int .i64 a0_0, .string a0_1, .string a0_2, .string a0_3]] w fun e w' => e = .returned (.string r) ∧ Below w.heap.size w w' := by
 have hu23 := Tryd.underlying23; have HB := A_ (Below.refl w.heap.size w); have H : ((point_Sane.f k a0_0 a0_1 a0_2 a0_3).bind fun t188 => (if t188 = true then (if a0_0 = 0 then (if 1 + a0_3.size ≤ 9223372036854775807 then (if 1 + a0_2.size ≤ 9223372036854775807 then (if ((⟨#[45]⟩ : ByteArray) ++ a0_2).size + ((⟨#[45]⟩ : ByteArray) ++ a0_3).size ≤ 9223372036854775807 then (if a0_1.size + (((⟨#[45]⟩ : ByteArray) ++ a0_2) ++ ((⟨#[45]⟩ : ByteArray) ++ a0_3)).size ≤ 9223372036854775807 then (some (a0_1 ++ (((⟨#[45]⟩ : ByteArray) ++ a0_2) ++ ((⟨#[45]⟩ : ByteArray) ++ a0_3)))) else (none)) else (none)) else (none)) else (none)) else (if a0_0 = 1 then (if 1 + a0_2.size ≤ 9223372036854775807 then (if ((⟨#[45]⟩ : ByteArray) ++ a0_2).size + 0 ≤ 9223372036854775807 then (if a0_1.size + (((⟨#[45]⟩ : ByteArray) ++ a0_2) ++ (⟨#[]⟩ : ByteArray)).size ≤ 9223372036854775807 then (some (a0_1 ++ (((⟨#[45]⟩ : ByteArray) ++ a0_2) ++ (⟨#[]⟩ : ByteArray)))) else (none)) else (none)) else (none)) else (if a0_0 = 2 then (if 1 + a0_2.size ≤ 9223372036854775807 then (if a0_1.size + ((⟨#[115]⟩ : ByteArray) ++ a0_2).size ≤ 9223372036854775807 then (some (a0_1 ++ ((⟨#[115]⟩ : ByteArray) ++ a0_2))) else (none)) else (none)) else (if a0_0 = 4 then (if a0_1.size + 1 ≤ 9223372036854775807 then (some (a0_1 ++ (⟨#[100]⟩ : ByteArray))) else (none)) else (if a0_0 = 5 then (if a0_1.size + 1 ≤ 9223372036854775807 then (some (a0_1 ++ (⟨#[99]⟩ : ByteArray))) else (none)) else (if a0_1.size + 0 ≤ 9223372036854775807 then (some (a0_1 ++ (⟨#[]⟩ : ByteArray))) else (none))))))) else (some (⟨#[]⟩ : ByteArray)))) = some r := h; clear h; obtain ⟨t188, A2, H⟩ := bi_ H
 by_cases c3 : t188 = true
 ·subst c3
  replace H := iP_ H
  by_cases c4 : a0_0 = 0
  ·rw [if_pos c4] at H
   have c4b0 : (a0_0 == 0) = true := beq_iff_eq.mpr c4; have c4b1 : (a0_0 != 0) = false := bne_eq_false_iff_eq.mpr c4; clear c4
   by_cases c5 : 1 + a0_3.size ≤ 9223372036854775807
   ·rw [if_pos c5] at H
    have c5b0 := eq_true c5; have c5b1 := decide_eq_true c5; (try have c5b2 : (9223372036854775807 < 1 + a0_3.size) = False := eq_false (Nat.not_lt.2 c5))
    by_cases c6 : 1 + a0_2.size ≤ 9223372036854775807
    ·rw [if_pos c6] at H
     have c6b0 := eq_true c6; have c6b1 := decide_eq_true c6; (try have c6b2 : (9223372036854775807 < 1 + a0_2.size) = False := eq_false (Nat.not_lt.2 c6))
     by_cases c7 : ((⟨#[45]⟩ : ByteArray) ++ a0_2).size + ((⟨#[45]⟩ : ByteArray) ++ a0_3).size ≤ 9223372036854775807
     ·rw [if_pos c7] at H
      have c7b0 := eq_true c7; have c7b1 := decide_eq_true c7; (try have c7b2 : (9223372036854775807 < ((⟨#[45]⟩ : ByteArray) ++ a0_2).size + ((⟨#[45]⟩ : ByteArray) ++ a0_3).size) = False := eq_false (Nat.not_lt.2 c7)); (try have c7b3 : (9223372036854775807 < 1 + a0_2.size + (1 + a0_3.size)) = False := eq_false (Nat.not_lt.2 (by have h_ := c7; simp only [ByteArray.size_append] at h_; exact h_)))
      by_cases c8 : a0_1.size + (((⟨#[45]⟩ : ByteArray) ++ a0_2) ++ ((⟨#[45]⟩ : ByteArray) ++ a0_3)).size ≤ 9223372036854775807
      ·rw [if_pos c8] at H
       have c8b0 := eq_true c8; have c8b1 := decide_eq_true c8; (try have c8b2 : (9223372036854775807 < a0_1.size + (((⟨#[45]⟩ : ByteArray) ++ a0_2) ++ ((⟨#[45]⟩ : ByteArray) ++ a0_3)).size) = False := eq_false (Nat.not_lt.2 c8)); (try have c8b3 : (9223372036854775807 < a0_1.size + (1 + a0_2.size + (1 + a0_3.size))) = False := eq_false (Nat.not_lt.2 (by have h_ := c8; simp only [ByteArray.size_append] at h_; exact h_))); obtain rfl := Option.some.inj H; go_enter Tryd.func9, Tryd.ntmps9; go_wp2_with (first | (refine gx_ w 1 (n4_ a0_0 a0_1 a0_2 a0_3) 23 ?_; clear HB; intro gb187 w9 BK187 GE187 HB; have GW187 := GE187; have Z10 := bz4_ BK187) | (refine gC 10 ?_; refine gL 5 Tryd.func10 #[.agg (n4_ a0_0 a0_1 a0_2 a0_3)] ?_; (with_reducible refine (point_Sane.calls k a0_0 a0_1 a0_2 a0_3 true _ A2.out).mono ?_); rintro e w11 ⟨rfl, hb⟩; refine ⟨_, rfl, ?_⟩; replace BK187 := bb_ BK187 hb; replace HB := bs_ hb; (try clear hb); have Z12 := bz4_ BK187)); go_ret; exact ⟨re_, hs_⟩
      ·rw [if_neg c8] at H
       exact absurd H (by simp)
     ·rw [if_neg c7] at H
      exact absurd H (by simp)
    ·rw [if_neg c6] at H
     exact absurd H (by simp)
   ·rw [if_neg c5] at H
    exact absurd H (by simp)
  ·rw [if_neg c4] at H
   have c4b0 : (a0_0 == 0) = false := beq_eq_false_iff_ne.mpr c4; have c4b1 : (a0_0 != 0) = true := bne_iff_ne.mpr c4
   by_cases c13 : a0_0 = 1
   ·rw [if_pos c13] at H
    have c13b0 : (a0_0 == 1) = true := beq_iff_eq.mpr c13; have c13b1 : (a0_0 != 1) = false := bne_eq_false_iff_eq.mpr c13; clear c13
    by_cases c14 : 1 + a0_2.size ≤ 9223372036854775807
    ·rw [if_pos c14] at H
     have c14b0 := eq_true c14; have c14b1 := decide_eq_true c14; (try have c14b2 : (9223372036854775807 < 1 + a0_2.size) = False := eq_false (Nat.not_lt.2 c14))
     by_cases c15 : ((⟨#[45]⟩ : ByteArray) ++ a0_2).size + 0 ≤ 9223372036854775807
     ·rw [if_pos c15] at H
      have c15b0 := eq_true c15; have c15b1 := decide_eq_true c15; (try have c15b2 : (9223372036854775807 < ((⟨#[45]⟩ : ByteArray) ++ a0_2).size + 0) = False := eq_false (Nat.not_lt.2 c15)); (try have c15b3 : (9223372036854775807 < 1 + a0_2.size + 0) = False := eq_false (Nat.not_lt.2 (by have h_ := c15; simp only [ByteArray.size_append] at h_; exact h_)))
      by_cases c16 : a0_1.size + (((⟨#[45]⟩ : ByteArray) ++ a0_2) ++ (⟨#[]⟩ : ByteArray)).size ≤ 9223372036854775807
      ·rw [if_pos c16] at H
       have c16b0 := eq_true c16; have c16b1 := decide_eq_true c16; (try have c16b2 : (9223372036854775807 < a0_1.size + (((⟨#[45]⟩ : ByteArray) ++ a0_2) ++ (⟨#[]⟩ : ByteArray)).size) = False := eq_false (Nat.not_lt.2 c16)); (try have c16b3 : (9223372036854775807 < a0_1.size + (1 + a0_2.size + 0)) = False := eq_false (Nat.not_lt.2 (by have h_ := c16; simp only [ByteArray.size_append] at h_; exact h_))); obtain rfl := Option.some.inj H; go_enter Tryd.func9, Tryd.ntmps9; go_wp2_with (first | (refine gx_ w 1 (n4_ a0_0 a0_1 a0_2 a0_3) 23 ?_; clear HB; intro gb187 w17 BK187 GE187 HB; have GW187 := GE187; have Z18 := bz4_ BK187) | (refine gC 10 ?_; refine gL 5 Tryd.func10 #[.agg (n4_ a0_0 a0_1 a0_2 a0_3)] ?_; (with_reducible refine (point_Sane.calls k a0_0 a0_1 a0_2 a0_3 true _ A2.out).mono ?_); rintro e w19 ⟨rfl, hb⟩; refine ⟨_, rfl, ?_⟩; replace BK187 := bb_ BK187 hb; replace HB := bs_ hb; (try clear hb); have Z20 := bz4_ BK187)); go_ret; exact ⟨re_, hs_⟩
      ·rw [if_neg c16] at H
       exact absurd H (by simp)
     ·rw [if_neg c15] at H
      exact absurd H (by simp)
    ·rw [if_neg c14] at H
     exact absurd H (by simp)
   ·rw [if_neg c13] at H
    have c13b0 : (a0_0 == 1) = false := beq_eq_false_iff_ne.mpr c13; have c13b1 : (a0_0 != 1) = true := bne_iff_ne.mpr c13
    by_cases c21 : a0_0 = 2
    ·rw [if_pos c21] at H
     have c21b0 : (a0_0 == 2) = true := beq_iff_eq.mpr c21; have c21b1 : (a0_0 != 2) = false := bne_eq_false_iff_eq.mpr c21; clear c21
     by_cases c22 : 1 + a0_2.size ≤ 9223372036854775807
     ·rw [if_pos c22] at H
      have c22b0 := eq_true c22; have c22b1 := decide_eq_true c22; (try have c22b2 : (9223372036854775807 < 1 + a0_2.size) = False := eq_false (Nat.not_lt.2 c22))
      by_cases c23 : a0_1.size + ((⟨#[115]⟩ : ByteArray) ++ a0_2).size ≤ 9223372036854775807
      ·rw [if_pos c23] at H
       have c23b0 := eq_true c23; have c23b1 := decide_eq_true c23; (try have c23b2 : (9223372036854775807 < a0_1.size + ((⟨#[115]⟩ : ByteArray) ++ a0_2).size) = False := eq_false (Nat.not_lt.2 c23)); (try have c23b3 : (9223372036854775807 < a0_1.size + (1 + a0_2.size)) = False := eq_false (Nat.not_lt.2 (by have h_ := c23; simp only [ByteArray.size_append] at h_; exact h_))); obtain rfl := Option.some.inj H; go_enter Tryd.func9, Tryd.ntmps9; go_wp2_with (first | (refine gx_ w 1 (n4_ a0_0 a0_1 a0_2 a0_3) 23 ?_; clear HB; intro gb187 w24 BK187 GE187 HB; have GW187 := GE187; have Z25 := bz4_ BK187) | (refine gC 10 ?_; refine gL 5 Tryd.func10 #[.agg (n4_ a0_0 a0_1 a0_2 a0_3)] ?_; (with_reducible refine (point_Sane.calls k a0_0 a0_1 a0_2 a0_3 true _ A2.out).mono ?_); rintro e w26 ⟨rfl, hb⟩; refine ⟨_, rfl, ?_⟩; replace BK187 := bb_ BK187 hb; replace HB := bs_ hb; (try clear hb); have Z27 := bz4_ BK187)); go_ret; exact ⟨re_, hs_⟩
      ·rw [if_neg c23] at H
       exact absurd H (by simp)
     ·rw [if_neg c22] at H
      exact absurd H (by simp)
    ·rw [if_neg c21] at H
     have c21b0 : (a0_0 == 2) = false := beq_eq_false_iff_ne.mpr c21; have c21b1 : (a0_0 != 2) = true := bne_iff_ne.mpr c21
     by_cases c28 : a0_0 = 4
     ·rw [if_pos c28] at H
      have c28b0 : (a0_0 == 4) = true := beq_iff_eq.mpr c28; have c28b1 : (a0_0 != 4) = false := bne_eq_false_iff_eq.mpr c28; clear c28
      by_cases c29 : a0_1.size + 1 ≤ 9223372036854775807
      ·rw [if_pos c29] at H
       have c29b0 := eq_true c29; have c29b1 := decide_eq_true c29; (try have c29b2 : (9223372036854775807 < a0_1.size + 1) = False := eq_false (Nat.not_lt.2 c29)); obtain rfl := Option.some.inj H; go_enter Tryd.func9, Tryd.ntmps9; go_wp2_with (first | (refine gx_ w 1 (n4_ a0_0 a0_1 a0_2 a0_3) 23 ?_; clear HB; intro gb187 w30 BK187 GE187 HB; have GW187 := GE187; have Z31 := bz4_ BK187) | (refine gC 10 ?_; refine gL 5 Tryd.func10 #[.agg (n4_ a0_0 a0_1 a0_2 a0_3)] ?_; (with_reducible refine (point_Sane.calls k a0_0 a0_1 a0_2 a0_3 true _ A2.out).mono ?_); rintro e w32 ⟨rfl, hb⟩; refine ⟨_, rfl, ?_⟩; replace BK187 := bb_ BK187 hb; replace HB := bs_ hb; (try clear hb); have Z33 := bz4_ BK187)); go_ret; exact ⟨re_, hs_⟩
      ·rw [if_neg c29] at H
       exact absurd H (by simp)
     ·rw [if_neg c28] at H
      have c28b0 : (a0_0 == 4) = false := beq_eq_false_iff_ne.mpr c28; have c28b1 : (a0_0 != 4) = true := bne_iff_ne.mpr c28
      by_cases c34 : a0_0 = 5
      ·rw [if_pos c34] at H
       have c34b0 : (a0_0 == 5) = true := beq_iff_eq.mpr c34; have c34b1 : (a0_0 != 5) = false := bne_eq_false_iff_eq.mpr c34; clear c34
       by_cases c35 : a0_1.size + 1 ≤ 9223372036854775807
       ·rw [if_pos c35] at H
        have c35b0 := eq_true c35; have c35b1 := decide_eq_true c35; (try have c35b2 : (9223372036854775807 < a0_1.size + 1) = False := eq_false (Nat.not_lt.2 c35)); obtain rfl := Option.some.inj H; go_enter Tryd.func9, Tryd.ntmps9; go_wp2_with (first | (refine gx_ w 1 (n4_ a0_0 a0_1 a0_2 a0_3) 23 ?_; clear HB; intro gb187 w36 BK187 GE187 HB; have GW187 := GE187; have Z37 := bz4_ BK187) | (refine gC 10 ?_; refine gL 5 Tryd.func10 #[.agg (n4_ a0_0 a0_1 a0_2 a0_3)] ?_; (with_reducible refine (point_Sane.calls k a0_0 a0_1 a0_2 a0_3 true _ A2.out).mono ?_); rintro e w38 ⟨rfl, hb⟩; refine ⟨_, rfl, ?_⟩; replace BK187 := bb_ BK187 hb; replace HB := bs_ hb; (try clear hb); have Z39 := bz4_ BK187)); go_ret; exact ⟨re_, hs_⟩
       ·rw [if_neg c35] at H
        exact absurd H (by simp)
      ·rw [if_neg c34] at H
       have c34b0 : (a0_0 == 5) = false := beq_eq_false_iff_ne.mpr c34; have c34b1 : (a0_0 != 5) = true := bne_iff_ne.mpr c34
       by_cases c40 : a0_1.size + 0 ≤ 9223372036854775807
       ·rw [if_pos c40] at H
        have c40b0 := eq_true c40; have c40b1 := decide_eq_true c40; (try have c40b2 : (9223372036854775807 < a0_1.size + 0) = False := eq_false (Nat.not_lt.2 c40)); obtain rfl := Option.some.inj H; go_enter Tryd.func9, Tryd.ntmps9; go_wp2_with (first | (refine gx_ w 1 (n4_ a0_0 a0_1 a0_2 a0_3) 23 ?_; clear HB; intro gb187 w41 BK187 GE187 HB; have GW187 := GE187; have Z42 := bz4_ BK187) | (refine gC 10 ?_; refine gL 5 Tryd.func10 #[.agg (n4_ a0_0 a0_1 a0_2 a0_3)] ?_; (with_reducible refine (point_Sane.calls k a0_0 a0_1 a0_2 a0_3 true _ A2.out).mono ?_); rintro e w43 ⟨rfl, hb⟩; refine ⟨_, rfl, ?_⟩; replace BK187 := bb_ BK187 hb; replace HB := bs_ hb; (try clear hb); have Z44 := bz4_ BK187)); go_ret; exact ⟨re_, hs_⟩
       ·rw [if_neg c40] at H
        exact absurd H (by simp)
 ·replace c3 := Bool.eq_false_iff.mpr c3
  subst c3; replace H := iN_ H; obtain rfl := Option.some.inj H; go_enter Tryd.func9, Tryd.ntmps9; go_wp2_with (first | (refine gx_ w 1 (n4_ a0_0 a0_1 a0_2 a0_3) 23 ?_; clear HB; intro gb187 w45 BK187 GE187 HB; have GW187 := GE187; have Z46 := bz4_ BK187) | (refine gC 10 ?_; refine gL 5 Tryd.func10 #[.agg (n4_ a0_0 a0_1 a0_2 a0_3)] ?_; (with_reducible refine (point_Sane.calls k a0_0 a0_1 a0_2 a0_3 false _ A2.out).mono ?_); rintro e w47 ⟨rfl, hb⟩; refine ⟨_, rfl, ?_⟩; replace BK187 := bb_ BK187 hb; replace HB := bs_ hb; (try clear hb))); go_ret; exact ⟨re_, hs_⟩
set_option maxHeartbeats 8000000 in
set_option maxRecDepth 100000 in
theorem image_Cover.calls (k : Nat) (a0 : Int) (A1 : Option Addr) (c1 : Nat) (l1 r : List (S42)) (w : World) (htab : TL w.heap.size w) (hr1 : Kd.C k42 w A1 l1.length l1) (hc1 : l1.length ≤ c1) (h : image_Cover.f k a0 l1 = some r) :
  Calls Tryd.prog 44 #[.int .i64 a0, .slice A1 l1.length c1] w fun e w' => ∃ v0_ : Value, e = .returned (v0_) ∧ Kd.R k42 42 w' w.heap.size (fun _ => True) v0_ r ∧ Below w.heap.size w w' := by
 have HTAB := A_ htab; clear htab; have hu42 := Tryd.underlying42; have HR1 := A_ hr1; have HC1 := A_ hc1; clear hr1 hc1; have HB := A_ (Below.refl w.heap.size w); have H : ((image_units.f k a0 l1).bind fun t105 => (image_Cover.l0 k a0 ([] : List (S42)) t105 (t105.length : Int) 0)) = some r := h; clear h; obtain ⟨t105, A3, H⟩ := bi_ H; have H' := A_ H; clear H; go_enter Tryd.func44, Tryd.ntmps44; go_wp2_with (first | ((with_reducible refine gC 60 ?_); refine goesL_ (some 14) rfl rfl Tryd.func60 (by kernel_rfl) rfl #[.int .i64 a0, .slice A1 l1.length c1] rfl ml_ ?_; (with_reducible refine (image_units.calls k a0 _ _ l1 t105 _ ?side1 ?side2 A3.out).mono ?_); (case side1 => repeat (first | exact HR1.out | (with_reducible refine Kd.C_alloc ?_ _) | (with_reducible refine Kd.C_drewN ?_ _) | (with_reducible refine Kd.C_drew ?_))); (case side2 => exact HC1.out); rintro e w4 ⟨v106, rfl, ho0, hb⟩; refine ⟨_, rfl, ?_⟩; have HO107 := A_ (Kd.R_lower ho0 (below_size hs_)); replace HB := bs_ hb; (try clear hb); (try clear ho0); obtain ⟨Ao5, co5, eo5⟩ := Kd.R_slice HO107.out; subst eo5)); go_loopg [5, 16] k (fun kq v5 v16 w' => ∃ (x5_1 : List (S42)) (x16_1 : Int), v16 = .int .i64 x16_1 ∧ Aside0 (image_Cover.l0 kq a0 x5_1 t105 (t105.length : Int) x16_1 = some r) ∧ Aside0 (kq ≤ k) ∧ Aside0 (Kd.R k42 42 w' w.heap.size (fun k_ => some k_ ≠ ((.slice Ao5 t105.length co5) : Value).ownBlock) v5 x5_1) ∧ Aside0 (Kd.R k42 42 w' w.heap.size (fun k_ => nv_ k_ v5) (.slice Ao5 t105.length co5) t105) ∧ Aside0 (Below w.heap.size w w'))
 case atStart => exact ⟨(([] : List (S42))), (0), rf_, H', ⟨Nat.le_refl _⟩, ⟨by first | exact Kd.R_nil _ _ _ _ _ | exact Kd.N_nil _ _ _ _ _ | exact Kd.V_nil _ _ _ _ _ | exact Kd.Q_nil _ _ _ _ _ | exact Kd.S_nil _ _ _ _ _⟩, ⟨by (with_reducible repeat (first | apply Kd.R_alloc | apply Kd.R_drewN | apply Kd.R_drew)); exact Kd.R_mono HO107.out (fun _ hk => (by simp [Value.ownBlock]))⟩, ⟨hs_⟩⟩
 case round =>
  clear H'; (try clear c1); (try clear p2); obtain ⟨x5_1, x16_1, rfl, HA, HK1, HO_5, HO_14, HB⟩ := hrel
  cases gk with
  | zero => exact absurd HA.out (by simp [image_Cover.l0])
  | succ k1 =>
   have H := HA.out; clear HA; simp only [image_Cover.l0] at H
   by_cases c6 : x16_1 < (t105.length : Int)
   ·rw [if_pos c6] at H
    have c6b0 := decide_eq_true c6; clear c6
    by_cases c7 : 0 ≤ x16_1
    ·rw [if_pos c7] at H
     have c7b0 := decide_eq_true c7; clear c7
     by_cases c8 : x16_1 < (t105.length : Int)
     ·rw [if_pos c8] at H
      have c8b0 := decide_eq_true c8; clear c8; obtain ⟨⟨t110, t111⟩, A9, H⟩ := bi_ H; obtain ⟨⟨t112, t113⟩, A10, H⟩ := bi_ H
      by_cases c11 : x5_1.length < 8796093022208
      ·rw [if_pos c11] at H
       have LMc11 := A_ c11; clear c11; obtain ⟨y114, hy114⟩ : ∃ y_ : List (S42), y_ = (x5_1 ++ [(⟨t110, t112⟩ : S42)]) := ⟨_, rfl⟩; (replace H : (image_Cover.l0 k1 a0 y114 t105 (t105.length : Int) (wrap64 (x16_1 + 1))) = some r := by first | (rw [hy114]; with_reducible exact H) | (have H2_ := (Option.bind_some _ _).symm.trans H; rw [hy114]; with_reducible exact H2_) | (have H2_ := (Option.bind_some _ _).symm.trans H; with_reducible exact H2_) | with_reducible exact H | (rw [hy114]; exact H) | exact H); have Ny114 := A_ hy114; clear hy114; have H' := A_ H; clear H; have p108 : 0 ≤ (x16_1 : Int) := od_; have q108 : x16_1 < (t105.length : Int) := od_; obtain ⟨ad108, e108, hx108_0, hx108_1⟩ := at_T42 (Kd.R_reads' HO_14.out).2.2 x16_1 p108 q108
       cases e108
       replace p108 := eq_true p108; replace q108 := eq_true q108; go_wp2_with (first | ((with_reducible refine gD 7 ?_); refine bxe_ 7 #[.int .i64 0, .int .i64 0] 42 ?_; intro gb109 hg w12 hbox hb; replace HO_5 := A_ (Kd.R_below (Kd.R_elderB (fxR_ HO_5.out) gb109 (Nat.le_of_eq hg.symm)) hb); replace HO_14 := A_ (Kd.R_below (Kd.R_elderB (fxR_ HO_14.out) gb109 (Nat.le_of_eq hg.symm)) hb); have BK109 := A_ (hbox); have GW109 := gs_ w hg; have GE109 := gs_ w hg; replace HB := bs_ hb; clear hb hbox hg; have Z13 := bz2_ BK109) | ((with_reducible refine gC 61 ?_); refine goesL_ (some 24) rfl rfl Tryd.func61 (by kernel_rfl) rfl #[.int .i64 a0, .int .i64 ((rd_T42 t105 x16_1).f0)] rfl ml_ ?_; (with_reducible refine (unit_First.calls a0 ((rd_T42 t105 x16_1).f0) t110 t111 _ tl_ A9.out).mono ?_); rintro e w14 ⟨rfl, hb⟩; refine ⟨_, rfl, ?_⟩; replace HO_5 := A_ (Kd.R_below (fxR_ HO_5.out) hb); replace HO_14 := A_ (Kd.R_below (fxR_ HO_14.out) hb); replace BK109 := bp_ BK109 (.cells #[.int .i64 ((rd_T42 t105 x16_1).f0), .int .i64 ((rd_T42 t105 x16_1).f1)] 42 (0, 0)) hb; replace HB := bs_ hb; (try clear hb); have Z15 := bz2_ BK109) | ((with_reducible refine gC 62 ?_); refine goesL_ (some 31) rfl rfl Tryd.func62 (by kernel_rfl) rfl #[.int .i64 a0, .int .i64 ((rd_T42 t105 x16_1).f1)] rfl ml_ ?_; (with_reducible refine (unit_Last.calls a0 ((rd_T42 t105 x16_1).f1) t112 t113 _ tl_ A10.out).mono ?_); rintro e w16 ⟨rfl, hb⟩; refine ⟨_, rfl, ?_⟩; replace HO_5 := A_ (Kd.R_below (fxR_ HO_5.out) hb); replace HO_14 := A_ (Kd.R_below (fxR_ HO_14.out) hb); replace BK109 := bb_ BK109 hb; replace HB := bs_ hb; (try clear hb)) | ((with_reducible refine gate_builtin (b := .append) (xs := #[.tmp 34, .tmp 38]) rfl ?_); at_builtin; refine Kd.R_append k42 (w0 := w) w.heap.size rfl (.tmp 34) (.tmp 38) 34 42 (.agg #[(.int .i64 0), (.int .i64 0)]) 16 rfl Tryd.underlying34 info42 rfl (by decide) (by omega) u5 x5_1 (⟨t110, t112⟩ : S42) [.int .i64 t110, .int .i64 t112] (fun k_ => nv_ k_ (.slice (some ad108) t105.length co5) ∧ k_ ≠ gb109) (fun _ => False) rfl rfl ?aP (fun _ hk => hk.elim) ?aF ?aO ?aB ?aS ?aL ?_; (case aP => exact k42_mkM _ _ _ (⟨t110, t112⟩ : S42)); (case aB => exact hs_); (case aF => exact (fun k_ hk => ⟨Kd.fresh' (Kd.R_lt (fxR_ HO_14.out)) k_ hk, fb_ BK109 k_ hk⟩)); (case aO => exact (fxR_ HO_5.out)); (case aS => exact (below_size hs_)); (case aL => have := LMc11.out; omega); intro v115 w17 ho hb hg hat; rw [← Ny114.out] at ho; replace HO_14 := A_ (Kd.R_after (ok := (fun k_ => k_ ≠ gb109)) (fmR_ HO_14.out) hg hat); replace BK109 := A_ (blk_grown (g := gb109) (o := .cells #[.int .i64 ((rd_T42 t105 x16_1).f0), .int .i64 ((rd_T42 t105 x16_1).f1)] 42 (0, 0)) (bl_ BK109.out) hg (Kd.R_away HO_5.out (fun _ hk => hk.2))); replace HB := A_ (hb); have HO116 := A_ (ho); clear HO_5; clear ho hb hg hat))
       go_roundg k1
       case measure => have := HK1.out; omega
       case rel => exact ⟨(y114), (wrap64 (x16_1 + 1)), rf_, H', ⟨by have := HK1.out; omega⟩, ⟨by (with_reducible repeat (first | apply Kd.R_alloc | apply Kd.R_drewN | apply Kd.R_drew)); exact Kd.R_mono HO116.out (fun _ hk => hk.1)⟩, ⟨by (with_reducible repeat (first | apply Kd.R_alloc | apply Kd.R_drewN | apply Kd.R_drew)); exact Kd.R_mono HO_14.out (fun _ hk => hk.2)⟩, ⟨hs_⟩⟩
      ·rw [if_neg c11] at H
       exact absurd H (by simp)
     ·rw [if_neg c8] at H
      exact absurd H (by simp)
    ·rw [if_neg c7] at H
     exact absurd H (by simp)
   ·rw [if_neg c6] at H
    have c6b0 := decide_eq_false c6; clear c6; obtain ⟨t117, A18, H⟩ := bi_ H; obtain rfl := Option.some.inj H; obtain ⟨Ao19, co19, eo19⟩ := Kd.R_slice HO_5.out; subst eo19; go_wp2_with (first | ((with_reducible refine gC 46 ?_); refine goesL_ (some 42) rfl rfl Tryd.func46 (by kernel_rfl) rfl #[.slice Ao19 x5_1.length co19] rfl ml_ ?_; (with_reducible refine (runs_Make.calls _ _ x5_1 t117 _ ?side1 ?side2 A18.out).mono ?_); (case side1 => repeat (first | exact (Kd.R_reads' HO_5.out).2.2 | (with_reducible refine Kd.C_alloc ?_ _) | (with_reducible refine Kd.C_drewN ?_ _) | (with_reducible refine Kd.C_drew ?_))); (case side2 => exact (Kd.R_reads' HO_5.out).2.1); rintro e w20 ⟨v118, rfl, ho0, hb⟩; refine ⟨_, rfl, ?_⟩; have HO119 := A_ (Kd.R_lower (Kd.R_new' (Kd.R_new' ho0 (Kd.R_lt (fxR_ HO_5.out))) (Kd.R_lt (fxR_ HO_14.out))) (below_size hs_)); replace HO_5 := A_ (Kd.R_elder' (fxR_ HO_5.out) (Kd.R_base ho0) hb); replace HO_14 := A_ (Kd.R_elder' (fxR_ HO_14.out) (Kd.R_base ho0) hb); replace HB := bs_ hb; (try clear hb); (try clear ho0))); go_ret; exact ⟨_, by first | rfl | (simp [errW_none, errW_some] <;> rfl) | (simp [*, errW_none, errW_some] <;> rfl), by (with_reducible repeat (first | apply Kd.R_alloc | apply Kd.R_drewN | apply Kd.R_drew)); exact Kd.R_mono HO119.out (fun _ hk => trivial), hs_⟩
set_option maxHeartbeats 8000000 in
set_option maxRecDepth 100000 in
theorem point_days.calls (k : Nat) (a0 : Int) (A1 : Option Addr) (c1 : Nat) (l1 : List Int) (A2 : Option Addr) (c2 : Nat) (l2 : List Int) (r : List (S42)) (w : World) (htab : TL w.heap.size w) (hr1 : Kd.C (Kd.int .i64) w A1 l1.length l1) (hc1 : l1.length ≤ c1) (hr2 : Kd.C (Kd.int .i64) w A2 l2.length l2) (hc2 : l2.length ≤ c2) (h : point_days.f k a0 l1 l2 = some r) :
  Calls Tryd.prog 45 #[.int .i64 a0, .slice A1 l1.length c1, .slice A2 l2.length c2] w fun e w' => ∃ v0_ : Value, e = .returned (v0_) ∧ Kd.R k42 42 w' w.heap.size (fun _ => True) v0_ r ∧ Below w.heap.size w w' := by
 have HTAB := A_ htab; clear htab; have hu42 := Tryd.underlying42; have HR1 := A_ hr1; have HC1 := A_ hc1; clear hr1 hc1; have HR2 := A_ hr2; have HC2 := A_ hc2; clear hr2 hc2; have HB := A_ (Below.refl w.heap.size w); have H : (point_days.l0 k a0 l2 ([] : List (S42)) l1 (l1.length : Int) 0) = some r := h; clear h; have H' := A_ H; clear H; go_enter Tryd.func45, Tryd.ntmps45; go_wp2; go_loopg [7, 16] k (fun kq v7 v16 w' => ∃ (x7_1 : List (S42)) (x16_1 : Int), v16 = .int .i64 x16_1 ∧ Aside0 (point_days.l0 kq a0 l2 x7_1 l1 (l1.length : Int) x16_1 = some r) ∧ Aside0 (kq ≤ k) ∧ Aside0 (Kd.R k42 42 w' w.heap.size (fun _ => True) v7 x7_1) ∧ Aside0 (Below w.heap.size w w'))
 case atStart => exact ⟨(([] : List (S42))), (0), rf_, H', ⟨Nat.le_refl _⟩, ⟨by first | exact Kd.R_nil _ _ _ _ _ | exact Kd.N_nil _ _ _ _ _ | exact Kd.V_nil _ _ _ _ _ | exact Kd.Q_nil _ _ _ _ _ | exact Kd.S_nil _ _ _ _ _⟩, ⟨hs_⟩⟩
 case round =>
  clear H'; (try clear c1); (try clear c2); (try clear p2); obtain ⟨x7_1, x16_1, rfl, HA, HK1, HO_7, HB⟩ := hrel
  cases gk with
  | zero => exact absurd HA.out (by simp [point_days.l0])
  | succ k1 =>
   have H := HA.out; clear HA; simp only [point_days.l0] at H
   by_cases c4 : x16_1 < (l1.length : Int)
   ·rw [if_pos c4] at H
    have c4b0 := decide_eq_true c4; clear c4
    by_cases c5 : 0 ≤ x16_1
    ·rw [if_pos c5] at H
     have c5b0 := decide_eq_true c5; clear c5
     by_cases c6 : x16_1 < (l1.length : Int)
     ·rw [if_pos c6] at H
      have c6b0 := decide_eq_true c6; clear c6; obtain ⟨⟨t105, t106⟩, A7, H⟩ := bi_ H; have H' := A_ H; clear H; have p104 : 0 ≤ (x16_1 : Int) := od_; have q104 : x16_1 < (l1.length : Int) := od_; obtain ⟨ad104, e104, hx104_0⟩ := Kd.at_int HR1.out x16_1 p104 q104
      cases e104
      replace hx104_0 := cl_ HB hx104_0; replace p104 := eq_true p104; replace q104 := eq_true q104; go_wp2_with (first | ((with_reducible refine gC 63 ?_); refine goesL_ (some 23) rfl rfl Tryd.func63 (by kernel_rfl) rfl #[.int .i64 a0, .int .i64 (rd l1 x16_1), .int .i64 1] rfl ml_ ?_; (with_reducible refine (civil_Number.calls a0 (rd l1 x16_1) 1 t105 t106 _ tl_ A7.out).mono ?_); rintro e w' ⟨rfl, ⟨nd, rfl⟩⟩; refine ⟨_, rfl, ?_⟩)); go_loopg [7, 28] k1 (fun kq v7 v28 w' => ∃ (x7_2 : List (S42)) (x28_2 : Int), v28 = .int .i64 x28_2 ∧ Aside0 (point_days.l1 kq a0 l2 x7_2 (rd l1 x16_1) t105 l1 (l1.length : Int) x16_1 l2 (l2.length : Int) x28_2 = some r) ∧ Aside0 (kq ≤ k1) ∧ Aside0 (Kd.R k42 42 w' w.heap.size (fun _ => True) v7 x7_2) ∧ Aside0 (Below w.heap.size w w'))
      case atStart => exact ⟨(x7_1), (0), rf_, H', ⟨Nat.le_refl _⟩, ⟨fxR_ HO_7.out⟩, ⟨hs_⟩⟩
      case round =>
       clear H'; (try clear c1); (try clear p1); (try clear q1); (try clear hx1); (try clear c2); (try clear p2); (try clear c4); (try clear c4b0); (try clear c5); (try clear c5b0); (try clear c6); (try clear c6b0); (try clear hx104_0); (try clear p104); (try clear p2); (try clear q104); obtain ⟨x7_2, x28_2, rfl, HA, HK2, HO_7, HB⟩ := hrel
       cases gk with
       | zero => exact absurd HA.out (by simp [point_days.l1])
       | succ k2 =>
        have H := HA.out; clear HA; simp only [point_days.l1] at H
        by_cases c8 : x28_2 < (l2.length : Int)
        ·rw [if_pos c8] at H
         have c8b0 := decide_eq_true c8; clear c8
         by_cases c9 : 0 ≤ x28_2
         ·rw [if_pos c9] at H
          have c9b0 := decide_eq_true c9; clear c9
          by_cases c10 : x28_2 < (l2.length : Int)
          ·rw [if_pos c10] at H
           have c10b0 := decide_eq_true c10; clear c10; obtain ⟨t108, A11, H⟩ := bi_ H
           by_cases c12 : (rd l2 x28_2) ≤ t108
           ·rw [if_pos c12] at H
            have c12b0 := decide_eq_true c12; clear c12
            by_cases c13 : x7_2.length < 8796093022208
            ·rw [if_pos c13] at H
             have LMc13 := A_ c13; clear c13; obtain ⟨y109, hy109⟩ : ∃ y_ : List (S42), y_ = (x7_2 ++ [(⟨wrap64 ((wrap64 (t105 + (rd l2 x28_2))) - 1), wrap64 ((wrap64 (t105 + (rd l2 x28_2))) - 1)⟩ : S42)]) := ⟨_, rfl⟩; (replace H : (point_days.l1 k2 a0 l2 y109 (rd l1 x16_1) t105 l1 (l1.length : Int) x16_1 l2 (l2.length : Int) (wrap64 (x28_2 + 1))) = some r := by first | (rw [hy109]; with_reducible exact H) | (have H2_ := (Option.bind_some _ _).symm.trans H; rw [hy109]; with_reducible exact H2_) | (have H2_ := (Option.bind_some _ _).symm.trans H; with_reducible exact H2_) | with_reducible exact H | (rw [hy109]; exact H) | exact H); have Ny109 := A_ hy109; clear hy109; have H' := A_ H; clear H; have p107 : 0 ≤ (x28_2 : Int) := od_; have q107 : x28_2 < (l2.length : Int) := od_; obtain ⟨ad107, e107, hx107_0⟩ := Kd.at_int HR2.out x28_2 p107 q107
             cases e107
             replace hx107_0 := cl_ HB hx107_0; replace p107 := eq_true p107; replace q107 := eq_true q107; go_wp2_with (first | ((with_reducible refine gC 64 ?_); refine goesL_ (some 35) rfl rfl Tryd.func64 (by kernel_rfl) rfl #[.int .i64 a0, .int .i64 (rd l1 x16_1)] rfl ml_ ?_; (with_reducible refine (civil_Days.calls a0 (rd l1 x16_1) t108 _ tl_ A11.out).mono ?_); rintro e w' ⟨rfl, ⟨nd, rfl⟩⟩; refine ⟨_, rfl, ?_⟩) | ((with_reducible refine gate_builtin (b := .append) (xs := #[.tmp 37, .tmp 47]) rfl ?_); at_builtin; refine Kd.R_append k42 (w0 := w) w.heap.size rfl (.tmp 37) (.tmp 47) 34 42 (.agg #[(.int .i64 0), (.int .i64 0)]) 16 rfl Tryd.underlying34 info42 rfl (by decide) (by omega) u7 x7_2 (⟨wrap64 ((wrap64 (t105 + (rd l2 x28_2))) - 1), wrap64 ((wrap64 (t105 + (rd l2 x28_2))) - 1)⟩ : S42) [.int .i64 (wrap64 ((wrap64 (t105 + (rd l2 x28_2))) - 1)), .int .i64 (wrap64 ((wrap64 (t105 + (rd l2 x28_2))) - 1))] (fun _ => True) (fun _ => False) rfl rfl ?aP (fun _ hk => hk.elim) ?aF ?aO ?aB ?aS ?aL ?_; (case aP => exact k42_mkM _ _ _ (⟨wrap64 ((wrap64 (t105 + (rd l2 x28_2))) - 1), wrap64 ((wrap64 (t105 + (rd l2 x28_2))) - 1)⟩ : S42)); (case aB => exact hs_); (case aF => exact (fun _ _ => trivial)); (case aO => exact (fxR_ HO_7.out)); (case aS => exact (below_size hs_)); (case aL => have := LMc13.out; omega); intro v110 w14 ho hb hg hat; rw [← Ny109.out] at ho; replace HB := A_ (hb); have HO111 := A_ (ho); clear HO_7; clear ho hb hg hat)); go_roundg k2
             case measure => have := HK1.out; have := HK2.out; omega
             case rel => exact ⟨(y109), (wrap64 (x28_2 + 1)), rf_, H', ⟨by have := HK1.out; have := HK2.out; omega⟩, ⟨fxR_ HO111.out⟩, ⟨hs_⟩⟩
            ·rw [if_neg c13] at H
             exact absurd H (by simp)
           ·rw [if_neg c12] at H
            have c12b0 := decide_eq_false c12; clear c12; have H' := A_ H; clear H; have p107 : 0 ≤ (x28_2 : Int) := od_; have q107 : x28_2 < (l2.length : Int) := od_; obtain ⟨ad107, e107, hx107_0⟩ := Kd.at_int HR2.out x28_2 p107 q107
            cases e107
            replace hx107_0 := cl_ HB hx107_0; replace p107 := eq_true p107; replace q107 := eq_true q107; go_wp2_with (first | ((with_reducible refine gC 64 ?_); refine goesL_ (some 35) rfl rfl Tryd.func64 (by kernel_rfl) rfl #[.int .i64 a0, .int .i64 (rd l1 x16_1)] rfl ml_ ?_; (with_reducible refine (civil_Days.calls a0 (rd l1 x16_1) t108 _ tl_ A11.out).mono ?_); rintro e w' ⟨rfl, ⟨nd, rfl⟩⟩; refine ⟨_, rfl, ?_⟩)); go_roundg k2
            case measure => have := HK1.out; have := HK2.out; omega
            case rel => exact ⟨(x7_2), (wrap64 (x28_2 + 1)), rf_, H', ⟨by have := HK1.out; have := HK2.out; omega⟩, ⟨fxR_ HO_7.out⟩, ⟨hs_⟩⟩
          ·rw [if_neg c10] at H
           exact absurd H (by simp)
         ·rw [if_neg c9] at H
          exact absurd H (by simp)
        ·rw [if_neg c8] at H
         have c8b0 := decide_eq_false c8; clear c8; have H' := A_ H; clear H; go_wp2; go_roundg k2
         case measure => have := HK1.out; have := HK2.out; omega
         case rel => exact ⟨(x7_2), (wrap64 (x16_1 + 1)), rf_, H', ⟨by have := HK1.out; have := HK2.out; omega⟩, ⟨fxR_ HO_7.out⟩, ⟨hs_⟩⟩
     ·rw [if_neg c6] at H
      exact absurd H (by simp)
    ·rw [if_neg c5] at H
     exact absurd H (by simp)
   ·rw [if_neg c4] at H
    have c4b0 := decide_eq_false c4; clear c4; obtain ⟨t101, A15, H⟩ := bi_ H; obtain rfl := Option.some.inj H; obtain ⟨Ao16, co16, eo16⟩ := Kd.R_slice HO_7.out; subst eo16; go_wp2_with (first | ((with_reducible refine gC 46 ?_); refine goesL_ (some 52) rfl rfl Tryd.func46 (by kernel_rfl) rfl #[.slice Ao16 x7_1.length co16] rfl ml_ ?_; (with_reducible refine (runs_Make.calls _ _ x7_1 t101 _ ?side1 ?side2 A15.out).mono ?_); (case side1 => repeat (first | exact (Kd.R_reads' HO_7.out).2.2 | (with_reducible refine Kd.C_alloc ?_ _) | (with_reducible refine Kd.C_drewN ?_ _) | (with_reducible refine Kd.C_drew ?_))); (case side2 => exact (Kd.R_reads' HO_7.out).2.1); rintro e w17 ⟨v102, rfl, ho0, hb⟩; refine ⟨_, rfl, ?_⟩; have HO103 := A_ (Kd.R_lower (Kd.R_new' ho0 (Kd.R_lt (fxR_ HO_7.out))) (below_size hs_)); replace HO_7 := A_ (Kd.R_elder' (fxR_ HO_7.out) (Kd.R_base ho0) hb); replace HB := bs_ hb; (try clear hb); (try clear ho0))); go_ret; exact ⟨_, by first | rfl | (simp [errW_none, errW_some] <;> rfl) | (simp [*, errW_none, errW_some] <;> rfl), by (with_reducible repeat (first | apply Kd.R_alloc | apply Kd.R_drewN | apply Kd.R_drew)); exact Kd.R_mono HO103.out (fun _ hk => trivial), hs_⟩
def point_dated.T1 : Bool × List (List Nat × List Nat) := (true, [([], []), ([0], [0]), ([1], [1]), ([], []), ([3], [3]), ([4, 2], [4]), ([], []), ([6], [6]), ([7, 5], [7]), ([2, 8, 0, 1, 2], [2]), ([5, 9, 0, 1, 2, 3, 4, 5, 9], [5]), ([8, 10, 0, 1, 2, 3, 4, 5, 6, 7, 8, 9, 10], [8])])
def point_dated.B1 : List Nat := [0, 1, 3, 0, 8, 31, 0, 64, 255, 511, 1023, 2047]
theorem point_dated.tab1 : rtab .any (opsOf Tryd.f31 1) = point_dated.T1 := by kernel_rfl
theorem point_dated.bits1 : waitsOk point_dated.T1.2 point_dated.B1 = true := by kernel_rfl
set_option maxHeartbeats 8000000 in
set_option maxRecDepth 100000 in
theorem point_dated.calls (k : Nat) (a0_0 : Int) (a0_1 a0_2 a0_3 : ByteArray) (r : List (S42)) (w : World) (htab : TL w.heap.size w) (h : point_dated.f k a0_0 a0_1 a0_2 a0_3 = some r) :
  Calls Tryd.prog 31 #[.agg #[.int .i64 a0_0, .string a0_1, .string a0_2, .string a0_3]] w fun e w' => ∃ v0_ : Value, e = .returned (v0_) ∧ Kd.R k42 42 w' w.heap.size (fun _ => True) v0_ r ∧ Below w.heap.size w w' := by
 have HTAB := A_ htab; clear htab; have hu23 := Tryd.underlying23; have hu42 := Tryd.underlying42; have HB := A_ (Below.refl w.heap.size w); have H : ((mask_Set.f a0_1).bind fun t102 => ((point_numbers.f k a0_2 12).bind fun t105 => ((point_numbers.f k a0_3 31).bind fun t108 => (if (t105.length : Int) = 12 then (point_dated.j0 k t102 t105 t108 ((t108.length : Int) == 31)) else (point_dated.j0 k t102 t105 t108 false))))) = some r := h; clear h; obtain ⟨t102, A2, H⟩ := bi_ H; obtain ⟨t105, A3, H⟩ := bi_ H; obtain ⟨t108, A4, H⟩ := bi_ H; have HC5 := A_ H; clear H; go_enter Tryd.func31, Tryd.ntmps31; (try go_wp2_with (first | ((with_reducible refine gD 1 ?_); (try (refine gate_guard (by rfl) ?_; dsimp only)); refine bxe_ 1 (n4_ a0_0 a0_1 a0_2 a0_3) 23 ?_; intro gb101 hg w6 hbox hb; have BK101 := A_ (hbox); have GW101 := gs_ w hg; have GE101 := gs_ w hg; replace HB := bs_ hb; clear hb hbox hg))); replace BK101 := A_ (blk_drew BK101.out); replace HB := A_ (below_drew1 HB.out); refine start_ (n := 12) (S := fun w' => C4 w' gb101 (.int .i64 a0_0) (.string a0_1) (.string a0_2) (.string a0_3)) (ds := []) (ab 12 0) (by kernel_rfl) rfl rfl (cq4_ BK101) (fun hHeld => ?_); refine with_tabW point_dated.tab1 point_dated.bits1 (fun HT_ HW_ => ?_); generalize w6.drew = w7 at BK101 HB hHeld ⊢; refine pA 0 10 12 1 ?_; refine pA 3 13 12 9 ?_; refine pA 6 16 12 73 ?_; refine tB 1 11 12 75 ?_; refine tB 4 14 12 91 ?_; refine tB 7 17 12 219 ?_; refine oA 2 (some 12) 12 223 fun K hK => ?_; refine goes_ Tryd.func30 (by kernel_rfl) rfl #[.string a0_1] (by rfl) rfl rfl ml_ ?_; (with_reducible refine (mask_Set.calls a0_1 t102 _ A2.out).mono ?_); rintro e w8 ⟨v103, rfl, ho0, hb⟩; refine ⟨_, rfl, ?_⟩; have HO104 := A_ (Kd.R_lower ho0 (below_size hs_)); replace BK101 := bb_ BK101 hb; replace HB := bs_ hb; (try clear hb); (try clear ho0); refine hK.out _ _ (cq4_ BK101) (fun hHeld => ?_); clear hK K; refine nA ?_; refine oA 5 (some 15) 12 255 fun K hK => ?_; refine goes_ Tryd.func41 (by kernel_rfl) rfl #[.string a0_2, .int .i64 12] (by rfl) rfl rfl ml_ ?_; (with_reducible refine (point_numbers.calls k a0_2 12 t105 _ A3.out).mono ?_); rintro e w9 ⟨v106, rfl, ho0, hb⟩; refine ⟨_, rfl, ?_⟩; replace HO104 := A_ (Kd.R_below (fxR_ HO104.out) hb); have HO107 := A_ (Kd.R_lower ho0 (below_size hs_)); replace BK101 := bb_ BK101 hb; replace HB := bs_ hb; (try clear hb); (try clear ho0); refine hK.out _ _ (cq4_ BK101) (fun hHeld => ?_); clear hK K; refine nA ?_; refine oA 8 (some 18) 12 511 fun K hK => ?_; refine goes_ Tryd.func41 (by kernel_rfl) rfl #[.string a0_3, .int .i64 31] (by rfl) rfl rfl ml_ ?_; (with_reducible refine (point_numbers.calls k a0_3 31 t108 _ A4.out).mono ?_); rintro e w10 ⟨v109, rfl, ho0, hb⟩; refine ⟨_, rfl, ?_⟩; replace HO104 := A_ (Kd.R_below (fxR_ HO104.out) hb); have HO110 := A_ (Kd.R_lower (Kd.R_new' ho0 (Kd.R_lt (fxR_ HO107.out))) (below_size hs_)); replace HO107 := A_ (Kd.R_elder' (fxR_ HO107.out) (Kd.R_base ho0) hb); replace BK101 := bb_ BK101 hb; replace HB := bs_ hb; (try clear hb); (try clear ho0); refine hK.out _ _ (cq4_ BK101) (fun hHeld => ?_); clear hK K; refine nA ?_; refine pA 9 3 12 1023 ?_; refine pA 10 4 12 2047 ?_; refine pA 11 5 12 4095 ?_
 refine done_ (done_of HT_.out (by kernel_rfl)) ?_; go_upto_region 2 with (fail); go_cut [26] (fun v26 wc => ∃ (kq : Nat) (x26_4 : Bool), v26 = .bool x26_4 ∧ Aside0 (point_dated.j0 kq t102 t105 t108 x26_4 = some r) ∧ Aside0 (kq ≤ k) ∧ Aside0 (Kd.R k42 42 wc w.heap.size (fun _ => True) v103 t102) ∧ Aside0 (Kd.R (Kd.int .i64) 3 wc w.heap.size (fun k_ => nv_ k_ v109) v106 t105) ∧ Aside0 (Kd.R (Kd.int .i64) 3 wc w.heap.size (fun k_ => nv_ k_ v106) v109 t108) ∧ Aside0 (wc.heap[gb101]? = some (.cells (n4_ a0_0 a0_1 a0_2 a0_3) 23 (0, 0))) ∧ Aside0 (Below w.heap.size w wc))
 case first =>
  have H := HC5.out; clear HC5
  by_cases c11 : (t105.length : Int) = 12
  ·rw [if_pos c11] at H
   have c11b0 : ((t105.length : Int) == 12) = true := beq_iff_eq.mpr c11; have c11b1 : ((t105.length : Int) != 12) = false := bne_eq_false_iff_eq.mpr c11; clear c11; (first | rw [c11b0] | (simp only [i64_w, i32_w]; rw [c11b0]) | skip); have H' := A_ H; clear H; obtain ⟨Ao12, co12, eo12⟩ := Kd.R_slice HO107.out; subst eo12; obtain ⟨Ao13, co13, eo13⟩ := Kd.R_slice HO110.out; subst eo13; go_wp2; go_meet
   case rel => exact ⟨_, (((t108.length : Int) == 31)), rf_, H', ⟨by first | omega | exact Nat.le_refl _⟩, ⟨fxR_ HO104.out⟩, ⟨by (with_reducible repeat (first | apply Kd.R_alloc | apply Kd.R_drewN | apply Kd.R_drew)); exact Kd.R_mono HO107.out (fun _ hk => hk.2)⟩, ⟨by (with_reducible repeat (first | apply Kd.R_alloc | apply Kd.R_drewN | apply Kd.R_drew)); exact Kd.R_mono HO110.out (fun _ hk => hk.2)⟩, ⟨bl_ BK101.out⟩, ⟨hs_⟩⟩
  ·rw [if_neg c11] at H
   have c11b0 : ((t105.length : Int) == 12) = false := beq_eq_false_iff_ne.mpr c11; have c11b1 : ((t105.length : Int) != 12) = true := bne_iff_ne.mpr c11; (first | rw [c11b0] | (simp only [i64_w, i32_w]; rw [c11b0]) | skip); have H' := A_ H; clear H; obtain ⟨Ao14, co14, eo14⟩ := Kd.R_slice HO107.out; subst eo14; go_wp2; go_meet
   case rel => exact ⟨_, (false), rf_, H', ⟨by first | omega | exact Nat.le_refl _⟩, ⟨fxR_ HO104.out⟩, ⟨by (with_reducible repeat (first | apply Kd.R_alloc | apply Kd.R_drewN | apply Kd.R_drew)); exact Kd.R_mono HO107.out (fun _ hk => hk.2)⟩, ⟨by (with_reducible repeat (first | apply Kd.R_alloc | apply Kd.R_drewN | apply Kd.R_drew)); exact Kd.R_mono HO110.out (fun _ hk => hk.2)⟩, ⟨bl_ BK101.out⟩, ⟨hs_⟩⟩
 case rest =>
  clear HC5; (try clear c1); (try clear p2); (try clear c5); (try clear c9); (try clear c11); (try clear c11b0); (try clear c11b1); obtain ⟨kq, x26_4, rfl, HA, HJ4, HO_3, HO_4, HO_5, BK101, HB⟩ := hcut
  cases kq with
  | zero => exact absurd HA.out (by simp [point_dated.j0])
  | succ kj4 =>
   have H := HA.out; clear HA; simp only [point_dated.j0] at H
   by_cases c15 : x26_4 = true
   ·subst c15
    replace H := iP_ H; obtain ⟨t111, A16, H⟩ := bi_ H; obtain rfl := Option.some.inj H; obtain ⟨Ao17, co17, eo17⟩ := Kd.R_slice HO_3.out; subst eo17; go_wp2_with (first | ((with_reducible refine gC 44 ?_); refine goesL_ (some 28) rfl rfl Tryd.func44 (by kernel_rfl) rfl #[.int .i64 3, .slice Ao17 t102.length co17] rfl ml_ ?_; (with_reducible refine (image_Cover.calls kj4 3 _ _ t102 t111 _ tl_ ?side1 ?side2 A16.out).mono ?_); (case side1 => repeat (first | exact (Kd.R_reads' HO_3.out).2.2 | (with_reducible refine Kd.C_alloc ?_ _) | (with_reducible refine Kd.C_drewN ?_ _) | (with_reducible refine Kd.C_drew ?_))); (case side2 => exact (Kd.R_reads' HO_3.out).2.1); rintro e w18 ⟨v112, rfl, ho0, hb⟩; refine ⟨_, rfl, ?_⟩; replace HO_4 := A_ (Kd.R_below (fxR_ HO_4.out) hb); replace HO_5 := A_ (Kd.R_below (fxR_ HO_5.out) hb); have HO113 := A_ (Kd.R_lower (Kd.R_new' ho0 (Kd.R_lt (fxR_ HO_3.out))) (below_size hs_)); replace HO_3 := A_ (Kd.R_elder' (fxR_ HO_3.out) (Kd.R_base ho0) hb); replace BK101 := bb_ BK101 hb; replace HB := bs_ hb; (try clear hb); (try clear ho0))); go_ret; exact ⟨_, by first | rfl | (simp [errW_none, errW_some] <;> rfl) | (simp [*, errW_none, errW_some] <;> rfl), by (with_reducible repeat (first | apply Kd.R_alloc | apply Kd.R_drewN | apply Kd.R_drew)); exact Kd.R_mono HO113.out (fun _ hk => trivial), hs_⟩
   ·replace c15 := Bool.eq_false_iff.mpr c15
    subst c15; replace H := iN_ H; have H' := A_ H; clear H; obtain ⟨Ao19, co19, eo19⟩ := Kd.R_slice HO_3.out; subst eo19; go_wp2; go_loopg [6, 31] kj4 (fun kq v6 v31 w' => ∃ (x6_2 : List (S42)) (x31_2 : Int), v31 = .int .i64 x31_2 ∧ Aside0 (point_dated.l0 kq t105 t108 x6_2 t102 (t102.length : Int) x31_2 = some r) ∧ Aside0 (kq ≤ kj4) ∧ Aside0 (Kd.R (Kd.int .i64) 3 w' w.heap.size (fun k_ => nv_ k_ v109) v106 t105) ∧ Aside0 (Kd.R (Kd.int .i64) 3 w' w.heap.size (fun k_ => nv_ k_ v106) v109 t108) ∧ Aside0 (Kd.R k42 42 w' w.heap.size (fun k_ => some k_ ≠ ((.slice Ao19 t102.length co19) : Value).ownBlock) v6 x6_2) ∧ Aside0 (Kd.R k42 42 w' w.heap.size (fun k_ => nv_ k_ v6) (.slice Ao19 t102.length co19) t102) ∧ Aside0 (w'.heap[gb101]? = some (.cells (n4_ a0_0 a0_1 a0_2 a0_3) 23 (0, 0))) ∧ Aside0 (Below w.heap.size w w'))
    case atStart => exact ⟨(([] : List (S42))), (0), rf_, H', ⟨Nat.le_refl _⟩, ⟨fxR_ HO_4.out⟩, ⟨fxR_ HO_5.out⟩, ⟨by first | exact Kd.R_nil _ _ _ _ _ | exact Kd.N_nil _ _ _ _ _ | exact Kd.V_nil _ _ _ _ _ | exact Kd.Q_nil _ _ _ _ _ | exact Kd.S_nil _ _ _ _ _⟩, ⟨by (with_reducible repeat (first | apply Kd.R_alloc | apply Kd.R_drewN | apply Kd.R_drew)); exact Kd.R_mono HO_3.out (fun _ hk => (by simp [Value.ownBlock]))⟩, ⟨bl_ BK101.out⟩, ⟨hs_⟩⟩
    case round =>
     clear H'; (try clear c1); (try clear p2); (try clear c5); (try clear c9); (try clear c11); (try clear c11b0); (try clear c11b1); (try clear c15); (try clear p2); obtain ⟨x6_2, x31_2, rfl, HA, HK2, HO_4, HO_5, HO_6, HO_29, BK101, HB⟩ := hrel
     cases gk with
     | zero => exact absurd HA.out (by simp [point_dated.l0])
     | succ k2 =>
      have H := HA.out; clear HA; simp only [point_dated.l0] at H
      by_cases c20 : x31_2 < (t102.length : Int)
      ·rw [if_pos c20] at H
       have c20b0 := decide_eq_true c20; clear c20
       by_cases c21 : 0 ≤ x31_2
       ·rw [if_pos c21] at H
        have c21b0 := decide_eq_true c21; clear c21
        by_cases c22 : x31_2 < (t102.length : Int)
        ·rw [if_pos c22] at H
         have c22b0 := decide_eq_true c22; clear c22; have H' := A_ H; clear H; have p117 : 0 ≤ (x31_2 : Int) := od_; have q117 : x31_2 < (t102.length : Int) := od_; obtain ⟨ad117, e117, hx117_0, hx117_1⟩ := at_T42 (Kd.R_reads' HO_29.out).2.2 x31_2 p117 q117
         cases e117
         replace p117 := eq_true p117; replace q117 := eq_true q117; go_wp2_with (first | ((with_reducible refine gD 8 ?_); (try (refine gate_guard (by rfl) ?_; dsimp only)); refine bxe_ 8 #[.int .i64 0, .int .i64 0] 42 ?_; intro gb118 hg w23 hbox hb; replace HO_4 := A_ (Kd.R_below (fxR_ HO_4.out) hb); replace HO_5 := A_ (Kd.R_below (fxR_ HO_5.out) hb); replace HO_6 := A_ (Kd.R_below (Kd.R_elderB (fxR_ HO_6.out) gb118 (Nat.le_of_eq hg.symm)) hb); replace HO_29 := A_ (Kd.R_below (Kd.R_elderB (fxR_ HO_29.out) gb118 (Nat.le_of_eq hg.symm)) hb); have BK118 := A_ (hbox); have GW118 := gs_ w hg; have GE118 := gs_ w hg; replace HB := bs_ hb; have NB101_118 := nl_ BK101 hg; have NB118_101 := ng_ BK101 hg; replace BK101 := bb_ BK101 hb; clear hb hbox hg; have hnb24 := NB118_101.out; have hnc24 := NB101_118.out; have Z25 := bz2_ BK118)); go_loopg [6, 9] k2 (fun kq v6 v9 w' => ∃ (x6_3 : List (S42)) (x9_3 : Int), v9 = .int .i64 x9_3 ∧ Aside0 (point_dated.l1 kq t105 t108 x6_3 x9_3 t102 (t102.length : Int) x31_2 ((rd_T42 t102 x31_2).f0) ((rd_T42 t102 x31_2).f1) = some r) ∧ Aside0 (kq ≤ k2) ∧ Aside0 (Kd.R (Kd.int .i64) 3 w' w.heap.size (fun k_ => nv_ k_ v109) v106 t105) ∧ Aside0 (Kd.R (Kd.int .i64) 3 w' w.heap.size (fun k_ => nv_ k_ v106) v109 t108) ∧ Aside0 (Kd.R k42 42 w' w.heap.size (fun k_ => some k_ ≠ ((.slice (some ad117) t102.length co19) : Value).ownBlock ∧ k_ ≠ gb118) v6 x6_3) ∧ Aside0 (Kd.R k42 42 w' w.heap.size (fun k_ => nv_ k_ v6 ∧ k_ ≠ gb118) (.slice (some ad117) t102.length co19) t102) ∧ Aside0 (w'.heap[gb101]? = some (.cells (n4_ a0_0 a0_1 a0_2 a0_3) 23 (0, 0))) ∧ Aside0 (w'.heap[gb118]? = some (.cells #[.int .i64 ((rd_T42 t102 x31_2).f0), .int .i64 ((rd_T42 t102 x31_2).f1)] 42 (0, 0))) ∧ Aside0 (Below w.heap.size w w'))
         case atStart => exact ⟨(x6_2), ((rd_T42 t102 x31_2).f0), rf_, H', ⟨Nat.le_refl _⟩, ⟨by (with_reducible repeat (first | apply Kd.R_alloc | apply Kd.R_drewN | apply Kd.R_drew)); exact Kd.R_mono (Kd.R_far (p := ⟨gb118, 1, none⟩) (Kd.R_far (p := ⟨gb118, 0, none⟩) (Kd.R_types HO_4.out BK118.out (by decide)) (fun _ hk => hk.2) (.int .i64 ((rd_T42 t102 x31_2).f0))) (fun _ hk => hk.2) (.int .i64 ((rd_T42 t102 x31_2).f1))) (fun _ hk => hk.1)⟩, ⟨by (with_reducible repeat (first | apply Kd.R_alloc | apply Kd.R_drewN | apply Kd.R_drew)); exact Kd.R_mono (Kd.R_far (p := ⟨gb118, 1, none⟩) (Kd.R_far (p := ⟨gb118, 0, none⟩) (Kd.R_types HO_5.out BK118.out (by decide)) (fun _ hk => hk.2) (.int .i64 ((rd_T42 t102 x31_2).f0))) (fun _ hk => hk.2) (.int .i64 ((rd_T42 t102 x31_2).f1))) (fun _ hk => hk.1)⟩, ⟨fpR_ HO_6.out⟩, ⟨fpR_ HO_29.out⟩, ⟨pf_ NB101_118 BK101⟩, ⟨pb_ BK118.out⟩, ⟨hs_⟩⟩
         case round =>
          clear H'; (try clear c1); (try clear p1); (try clear q1); (try clear hx1); (try clear c2); (try clear p2); (try clear c5); (try clear c9); (try clear c11); (try clear c11b0); (try clear c11b1); (try clear p11); (try clear q11); (try clear hx11); (try clear c15); (try clear c20); (try clear c20b0); (try clear c21); (try clear c21b0); (try clear c22); (try clear c22b0); (try clear c24); (try clear Z25); (try clear hx117_0); (try clear hx117_1); (try clear p117); (try clear p2); (try clear q117); obtain ⟨x6_3, x9_3, rfl, HA, HK3, HO_4, HO_5, HO_6, HO_29, BK101, BK118, HB⟩ := hrel
          cases gk with
          | zero => exact absurd HA.out (by simp [point_dated.l1])
          | succ k3 =>
           have H := HA.out; clear HA; simp only [point_dated.l1] at H
           by_cases c26 : x9_3 ≤ ((rd_T42 t102 x31_2).f1)
           ·rw [if_pos c26] at H
            have c26b0 := decide_eq_true c26; clear c26; obtain ⟨t119, A27, H⟩ := bi_ H
            by_cases c28 : x6_3.length + t119.length < 8796093022208
            ·rw [if_pos c28] at H
             have LMc28 := A_ c28; clear c28; obtain ⟨y122, hy122⟩ : ∃ y_ : List (S42), y_ = (x6_3 ++ t119) := ⟨_, rfl⟩; (replace H : (if (y122.length : Int) > 1200 then ((runs_Make.f y122).bind fun t125 => ((sets_Wide.f k3 t125).bind fun t128 => (if t128 = true then (some t125) else (point_dated.l1 k3 t105 t108 t125 (wrap64 (x9_3 + 1)) t102 (t102.length : Int) x31_2 ((rd_T42 t102 x31_2).f0) ((rd_T42 t102 x31_2).f1))))) else (point_dated.l1 k3 t105 t108 y122 (wrap64 (x9_3 + 1)) t102 (t102.length : Int) x31_2 ((rd_T42 t102 x31_2).f0) ((rd_T42 t102 x31_2).f1))) = some r := by first | (rw [hy122]; with_reducible exact H) | (have H2_ := (Option.bind_some _ _).symm.trans H; rw [hy122]; with_reducible exact H2_) | (have H2_ := (Option.bind_some _ _).symm.trans H; with_reducible exact H2_) | with_reducible exact H | (rw [hy122]; exact H) | exact H); have Ny122 := A_ hy122; clear hy122
             by_cases c29 : (y122.length : Int) > 1200
             ·rw [if_pos c29] at H
              have c29b0 := decide_eq_true c29; have c29b1 : decide (1200 < y122.length) = true := decide_eq_true (by omega); clear c29; obtain ⟨t125, A30, H⟩ := bi_ H; obtain ⟨t128, A31, H⟩ := bi_ H
              by_cases c32 : t128 = true
              ·subst c32
               replace H := iP_ H; obtain rfl := Option.some.inj H; have hnb33 := NB118_101.out; have hnc33 := NB101_118.out; have Z34 := bz2_ BK118; obtain ⟨Ao35, co35, eo35⟩ := Kd.R_slice HO_4.out; subst eo35; obtain ⟨Ao36, co36, eo36⟩ := Kd.R_slice HO_5.out; subst eo36; go_wp2_with (first | ((with_reducible refine gC 45 ?_); refine goesL_ (some 47) rfl rfl Tryd.func45 (by kernel_rfl) rfl #[.int .i64 x9_3, .slice Ao35 t105.length co35, .slice Ao36 t108.length co36] rfl ml_ ?_; (with_reducible refine (point_days.calls k3 x9_3 _ _ t105 _ _ t108 t119 _ tl_ ?side1 ?side2 ?side3 ?side4 A27.out).mono ?_); (case side1 => repeat (first | exact (Kd.R_reads' HO_4.out).2.2 | (with_reducible refine Kd.C_alloc ?_ _) | (with_reducible refine Kd.C_drewN ?_ _) | (with_reducible refine Kd.C_drew ?_))); (case side2 => exact (Kd.R_reads' HO_4.out).2.1); (case side3 => repeat (first | exact (Kd.R_reads' HO_5.out).2.2 | (with_reducible refine Kd.C_alloc ?_ _) | (with_reducible refine Kd.C_drewN ?_ _) | (with_reducible refine Kd.C_drew ?_))); (case side4 => exact (Kd.R_reads' HO_5.out).2.1); rintro e w37 ⟨v120, rfl, ho0, hb⟩; refine ⟨_, rfl, ?_⟩; replace HO_4 := A_ (Kd.R_below (fxR_ HO_4.out) hb); replace HO_5 := A_ (Kd.R_below (fxR_ HO_5.out) hb); have HO121 := A_ (Kd.R_lower (Kd.R_newB (Kd.R_new' (Kd.R_new' ho0 (Kd.R_lt (fxR_ HO_6.out))) (Kd.R_lt (fxR_ HO_29.out))) (g := gb118) (o := .cells #[.int .i64 ((rd_T42 t102 x31_2).f0), .int .i64 ((rd_T42 t102 x31_2).f1)] 42 (0, 0)) (bl_ BK118.out)) (below_size hs_)); replace HO_6 := A_ (Kd.R_elder' (fxR_ HO_6.out) (Kd.R_base ho0) hb); replace HO_29 := A_ (Kd.R_elder' (fxR_ HO_29.out) (Kd.R_base ho0) hb); replace BK101 := bb_ BK101 hb; replace BK118 := bb_ BK118 hb; replace HB := bs_ hb; (try clear hb); (try clear ho0); obtain ⟨Ao39, co39, eo39⟩ := Kd.R_slice HO121.out; subst eo39) | ((with_reducible refine gate_builtin (b := .append) (xs := #[.tmp 43, .tmp 47]) rfl ?_); (try (refine gate_guard (by rfl) ?_; dsimp only)); at_builtin; refine Kd.R_append_rows k42 (w0 := w) w.heap.size rfl (.tmp 43) (.tmp 47) 34 42 (.agg #[(.int .i64 0), (.int .i64 0)]) 16 rfl Tryd.underlying34 info42 rfl (by decide) (by omega) u6 x6_3 t119 _ _ _ (fun k_ => nv_ k_ (.slice (some ad117) t102.length co19) ∧ nv_ k_ (.slice Ao39 t119.length co39) ∧ k_ ≠ gb118) (fun _ => False) rfl rfl ?aO ?aR (fun _ _ h => h) (fun _ h => h.elim) ?aF ?aB ?aS ?aL ?_; (case aR => repeat (first | exact (Kd.R_reads' HO121.out).2.2 | (with_reducible refine Kd.C_alloc ?_ _) | (with_reducible refine Kd.C_drewN ?_ _) | (with_reducible refine Kd.C_drew ?_))); (case aB => exact hs_); (case aF => exact (fun k_ hk => ⟨Kd.fresh' (Kd.R_lt (fxR_ HO_29.out)) k_ hk, Kd.fresh' (Kd.R_lt (fxR_ HO121.out)) k_ hk, fb_ BK118 k_ hk⟩)); (case aO => exact (fmR_ HO_6.out)); (case aS => exact (below_size hs_)); (case aL => have := LMc28.out; omega); intro v123 w38 ho hb hg hat; rw [← Ny122.out] at ho; replace HO_4 := A_ (Kd.R_over' (fxR_ HO_4.out) (Kd.R_typed (fxR_ HO_6.out)) (by decide) hg); replace HO_5 := A_ (Kd.R_over' (fxR_ HO_5.out) (Kd.R_typed (fxR_ HO_6.out)) (by decide) hg); replace HO_29 := A_ (Kd.R_after (ok := (fun k_ => nv_ k_ (.slice Ao39 t119.length co39) ∧ k_ ≠ gb118)) (fmR_ HO_29.out) hg hat); replace BK101 := A_ (blk_grown (g := gb101) (o := .cells (n4_ a0_0 a0_1 a0_2 a0_3) 23 (0, 0)) (bl_ BK101.out) hg (Kd.R_ne HO_6.out BK101.out (by decide))); replace BK118 := A_ (blk_grown (g := gb118) (o := .cells #[.int .i64 ((rd_T42 t102 x31_2).f0), .int .i64 ((rd_T42 t102 x31_2).f1)] 42 (0, 0)) (bl_ BK118.out) hg (Kd.R_away HO_6.out (fun _ hk => hk.1.2))); replace HO121 := A_ (Kd.R_after (ok := (fun k_ => nv_ k_ (.slice (some ad117) t102.length co19) ∧ k_ ≠ gb118)) (fmR_ HO121.out) hg hat); replace HB := A_ (hb); have HO124 := A_ (ho); clear HO_6; clear ho hb hg hat; obtain ⟨Ao40, co40, eo40⟩ := Kd.R_slice HO124.out; subst eo40) | ((with_reducible refine gC 46 ?_); refine goesL_ (some 53) rfl rfl Tryd.func46 (by kernel_rfl) rfl #[.slice Ao40 y122.length co40] rfl ml_ ?_; (with_reducible refine (runs_Make.calls _ _ y122 t125 _ ?side1 ?side2 A30.out).mono ?_); (case side1 => repeat (first | exact (Kd.R_reads' HO124.out).2.2 | (with_reducible refine Kd.C_alloc ?_ _) | (with_reducible refine Kd.C_drewN ?_ _) | (with_reducible refine Kd.C_drew ?_))); (case side2 => exact (Kd.R_reads' HO124.out).2.1); rintro e w41 ⟨v126, rfl, ho0, hb⟩; refine ⟨_, rfl, ?_⟩; replace HO_4 := A_ (Kd.R_below (fxR_ HO_4.out) hb); replace HO_5 := A_ (Kd.R_below (fxR_ HO_5.out) hb); have HO127 := A_ (Kd.R_lower (Kd.R_newB (Kd.R_new' (Kd.R_new' (Kd.R_new' ho0 (Kd.R_lt (fxR_ HO_29.out))) (Kd.R_lt (fxR_ HO121.out))) (Kd.R_lt (fxR_ HO124.out))) (g := gb118) (o := .cells #[.int .i64 ((rd_T42 t102 x31_2).f0), .int .i64 ((rd_T42 t102 x31_2).f1)] 42 (0, 0)) (bl_ BK118.out)) (below_size hs_)); replace HO_29 := A_ (Kd.R_elder' (fxR_ HO_29.out) (Kd.R_base ho0) hb); replace HO121 := A_ (Kd.R_elder' (fxR_ HO121.out) (Kd.R_base ho0) hb); replace HO124 := A_ (Kd.R_elder' (fxR_ HO124.out) (Kd.R_base ho0) hb); replace BK101 := bb_ BK101 hb; replace BK118 := bb_ BK118 hb; replace HB := bs_ hb; (try clear hb); (try clear ho0); obtain ⟨Ao42, co42, eo42⟩ := Kd.R_slice HO127.out; subst eo42) | ((with_reducible refine gC 47 ?_); refine goesL_ (some 55) rfl rfl Tryd.func47 (by kernel_rfl) rfl #[.slice Ao42 t125.length co42] rfl ml_ ?_; (with_reducible refine (sets_Wide.calls k3 _ _ t125 true _ ?side1 ?side2 A31.out).mono ?_); (case side1 => repeat (first | exact (Kd.R_reads' HO127.out).2.2 | (with_reducible refine Kd.C_alloc ?_ _) | (with_reducible refine Kd.C_drewN ?_ _) | (with_reducible refine Kd.C_drew ?_))); (case side2 => exact (Kd.R_reads' HO127.out).2.1); rintro e w43 ⟨rfl, hb⟩; refine ⟨_, rfl, ?_⟩; replace HO_4 := A_ (Kd.R_below (fxR_ HO_4.out) hb); replace HO_5 := A_ (Kd.R_below (fxR_ HO_5.out) hb); replace HO_29 := A_ (Kd.R_below (fxR_ HO_29.out) hb); replace HO121 := A_ (Kd.R_below (fxR_ HO121.out) hb); replace HO124 := A_ (Kd.R_below (fxR_ HO124.out) hb); replace HO127 := A_ (Kd.R_below (fxR_ HO127.out) hb); replace BK101 := bb_ BK101 hb; replace BK118 := bb_ BK118 hb; replace HB := bs_ hb; (try clear hb)))
               go_ret; exact ⟨_, by first | rfl | (simp [errW_none, errW_some] <;> rfl) | (simp [*, errW_none, errW_some] <;> rfl), by (with_reducible repeat (first | apply Kd.R_alloc | apply Kd.R_drewN | apply Kd.R_drew)); exact Kd.R_mono HO127.out (fun _ hk => trivial), hs_⟩
              ·replace c32 := Bool.eq_false_iff.mpr c32
               subst c32; replace H := iN_ H; have H' := A_ H; clear H; have hnb44 := NB118_101.out; have hnc44 := NB101_118.out; have Z45 := bz2_ BK118; obtain ⟨Ao46, co46, eo46⟩ := Kd.R_slice HO_4.out; subst eo46; obtain ⟨Ao47, co47, eo47⟩ := Kd.R_slice HO_5.out; subst eo47; go_wp2_with (first | ((with_reducible refine gC 45 ?_); refine goesL_ (some 47) rfl rfl Tryd.func45 (by kernel_rfl) rfl #[.int .i64 x9_3, .slice Ao46 t105.length co46, .slice Ao47 t108.length co47] rfl ml_ ?_; (with_reducible refine (point_days.calls k3 x9_3 _ _ t105 _ _ t108 t119 _ tl_ ?side1 ?side2 ?side3 ?side4 A27.out).mono ?_); (case side1 => repeat (first | exact (Kd.R_reads' HO_4.out).2.2 | (with_reducible refine Kd.C_alloc ?_ _) | (with_reducible refine Kd.C_drewN ?_ _) | (with_reducible refine Kd.C_drew ?_))); (case side2 => exact (Kd.R_reads' HO_4.out).2.1); (case side3 => repeat (first | exact (Kd.R_reads' HO_5.out).2.2 | (with_reducible refine Kd.C_alloc ?_ _) | (with_reducible refine Kd.C_drewN ?_ _) | (with_reducible refine Kd.C_drew ?_))); (case side4 => exact (Kd.R_reads' HO_5.out).2.1); rintro e w48 ⟨v120, rfl, ho0, hb⟩; refine ⟨_, rfl, ?_⟩; replace HO_4 := A_ (Kd.R_below (fxR_ HO_4.out) hb); replace HO_5 := A_ (Kd.R_below (fxR_ HO_5.out) hb); have HO121 := A_ (Kd.R_lower (Kd.R_newB (Kd.R_new' (Kd.R_new' ho0 (Kd.R_lt (fxR_ HO_6.out))) (Kd.R_lt (fxR_ HO_29.out))) (g := gb118) (o := .cells #[.int .i64 ((rd_T42 t102 x31_2).f0), .int .i64 ((rd_T42 t102 x31_2).f1)] 42 (0, 0)) (bl_ BK118.out)) (below_size hs_)); replace HO_6 := A_ (Kd.R_elder' (fxR_ HO_6.out) (Kd.R_base ho0) hb); replace HO_29 := A_ (Kd.R_elder' (fxR_ HO_29.out) (Kd.R_base ho0) hb); replace BK101 := bb_ BK101 hb; replace BK118 := bb_ BK118 hb; replace HB := bs_ hb; (try clear hb); (try clear ho0); obtain ⟨Ao50, co50, eo50⟩ := Kd.R_slice HO121.out; subst eo50) | ((with_reducible refine gate_builtin (b := .append) (xs := #[.tmp 43, .tmp 47]) rfl ?_); (try (refine gate_guard (by rfl) ?_; dsimp only)); at_builtin; refine Kd.R_append_rows k42 (w0 := w) w.heap.size rfl (.tmp 43) (.tmp 47) 34 42 (.agg #[(.int .i64 0), (.int .i64 0)]) 16 rfl Tryd.underlying34 info42 rfl (by decide) (by omega) u6 x6_3 t119 _ _ _ (fun k_ => nv_ k_ (.slice (some ad117) t102.length co19) ∧ nv_ k_ (.slice Ao50 t119.length co50) ∧ k_ ≠ gb118) (fun _ => False) rfl rfl ?aO ?aR (fun _ _ h => h) (fun _ h => h.elim) ?aF ?aB ?aS ?aL ?_; (case aR => repeat (first | exact (Kd.R_reads' HO121.out).2.2 | (with_reducible refine Kd.C_alloc ?_ _) | (with_reducible refine Kd.C_drewN ?_ _) | (with_reducible refine Kd.C_drew ?_))); (case aB => exact hs_); (case aF => exact (fun k_ hk => ⟨Kd.fresh' (Kd.R_lt (fxR_ HO_29.out)) k_ hk, Kd.fresh' (Kd.R_lt (fxR_ HO121.out)) k_ hk, fb_ BK118 k_ hk⟩)); (case aO => exact (fmR_ HO_6.out)); (case aS => exact (below_size hs_)); (case aL => have := LMc28.out; omega); intro v123 w49 ho hb hg hat; rw [← Ny122.out] at ho; replace HO_4 := A_ (Kd.R_over' (fxR_ HO_4.out) (Kd.R_typed (fxR_ HO_6.out)) (by decide) hg); replace HO_5 := A_ (Kd.R_over' (fxR_ HO_5.out) (Kd.R_typed (fxR_ HO_6.out)) (by decide) hg); replace HO_29 := A_ (Kd.R_after (ok := (fun k_ => nv_ k_ (.slice Ao50 t119.length co50) ∧ k_ ≠ gb118)) (fmR_ HO_29.out) hg hat); replace BK101 := A_ (blk_grown (g := gb101) (o := .cells (n4_ a0_0 a0_1 a0_2 a0_3) 23 (0, 0)) (bl_ BK101.out) hg (Kd.R_ne HO_6.out BK101.out (by decide))); replace BK118 := A_ (blk_grown (g := gb118) (o := .cells #[.int .i64 ((rd_T42 t102 x31_2).f0), .int .i64 ((rd_T42 t102 x31_2).f1)] 42 (0, 0)) (bl_ BK118.out) hg (Kd.R_away HO_6.out (fun _ hk => hk.1.2))); replace HO121 := A_ (Kd.R_after (ok := (fun k_ => nv_ k_ (.slice (some ad117) t102.length co19) ∧ k_ ≠ gb118)) (fmR_ HO121.out) hg hat); replace HB := A_ (hb); have HO124 := A_ (ho); clear HO_6; clear ho hb hg hat; obtain ⟨Ao51, co51, eo51⟩ := Kd.R_slice HO124.out; subst eo51) | ((with_reducible refine gC 46 ?_); refine goesL_ (some 53) rfl rfl Tryd.func46 (by kernel_rfl) rfl #[.slice Ao51 y122.length co51] rfl ml_ ?_; (with_reducible refine (runs_Make.calls _ _ y122 t125 _ ?side1 ?side2 A30.out).mono ?_); (case side1 => repeat (first | exact (Kd.R_reads' HO124.out).2.2 | (with_reducible refine Kd.C_alloc ?_ _) | (with_reducible refine Kd.C_drewN ?_ _) | (with_reducible refine Kd.C_drew ?_))); (case side2 => exact (Kd.R_reads' HO124.out).2.1); rintro e w52 ⟨v126, rfl, ho0, hb⟩; refine ⟨_, rfl, ?_⟩; replace HO_4 := A_ (Kd.R_below (fxR_ HO_4.out) hb); replace HO_5 := A_ (Kd.R_below (fxR_ HO_5.out) hb); have HO127 := A_ (Kd.R_lower (Kd.R_newB (Kd.R_new' (Kd.R_new' (Kd.R_new' ho0 (Kd.R_lt (fxR_ HO_29.out))) (Kd.R_lt (fxR_ HO121.out))) (Kd.R_lt (fxR_ HO124.out))) (g := gb118) (o := .cells #[.int .i64 ((rd_T42 t102 x31_2).f0), .int .i64 ((rd_T42 t102 x31_2).f1)] 42 (0, 0)) (bl_ BK118.out)) (below_size hs_)); replace HO_29 := A_ (Kd.R_elder' (fxR_ HO_29.out) (Kd.R_base ho0) hb); replace HO121 := A_ (Kd.R_elder' (fxR_ HO121.out) (Kd.R_base ho0) hb); replace HO124 := A_ (Kd.R_elder' (fxR_ HO124.out) (Kd.R_base ho0) hb); replace BK101 := bb_ BK101 hb; replace BK118 := bb_ BK118 hb; replace HB := bs_ hb; (try clear hb); (try clear ho0); obtain ⟨Ao53, co53, eo53⟩ := Kd.R_slice HO127.out; subst eo53) | ((with_reducible refine gC 47 ?_); refine goesL_ (some 55) rfl rfl Tryd.func47 (by kernel_rfl) rfl #[.slice Ao53 t125.length co53] rfl ml_ ?_; (with_reducible refine (sets_Wide.calls k3 _ _ t125 false _ ?side1 ?side2 A31.out).mono ?_); (case side1 => repeat (first | exact (Kd.R_reads' HO127.out).2.2 | (with_reducible refine Kd.C_alloc ?_ _) | (with_reducible refine Kd.C_drewN ?_ _) | (with_reducible refine Kd.C_drew ?_))); (case side2 => exact (Kd.R_reads' HO127.out).2.1); rintro e w54 ⟨rfl, hb⟩; refine ⟨_, rfl, ?_⟩; replace HO_4 := A_ (Kd.R_below (fxR_ HO_4.out) hb); replace HO_5 := A_ (Kd.R_below (fxR_ HO_5.out) hb); replace HO_29 := A_ (Kd.R_below (fxR_ HO_29.out) hb); replace HO121 := A_ (Kd.R_below (fxR_ HO121.out) hb); replace HO124 := A_ (Kd.R_below (fxR_ HO124.out) hb); replace HO127 := A_ (Kd.R_below (fxR_ HO127.out) hb); replace BK101 := bb_ BK101 hb; replace BK118 := bb_ BK118 hb; replace HB := bs_ hb; (try clear hb)))
               go_roundg k3
               case measure => have := HJ4.out; have := HK2.out; have := HK3.out; omega
               case rel => exact ⟨(t125), (wrap64 (x9_3 + 1)), rf_, H', ⟨by have := HJ4.out; have := HK2.out; have := HK3.out; omega⟩, ⟨fxR_ HO_4.out⟩, ⟨fxR_ HO_5.out⟩, ⟨fmR_ HO127.out⟩, ⟨fmR_ HO_29.out⟩, ⟨bl_ BK101.out⟩, ⟨bl_ BK118.out⟩, ⟨hs_⟩⟩
             ·rw [if_neg c29] at H
              have c29b0 := decide_eq_false c29; have c29b1 : decide (1200 < y122.length) = false := decide_eq_false (by omega); clear c29; have H' := A_ H; clear H; have hnb55 := NB118_101.out; have hnc55 := NB101_118.out; have Z56 := bz2_ BK118; obtain ⟨Ao57, co57, eo57⟩ := Kd.R_slice HO_4.out; subst eo57; obtain ⟨Ao58, co58, eo58⟩ := Kd.R_slice HO_5.out; subst eo58; go_wp2_with (first | ((with_reducible refine gC 45 ?_); refine goesL_ (some 47) rfl rfl Tryd.func45 (by kernel_rfl) rfl #[.int .i64 x9_3, .slice Ao57 t105.length co57, .slice Ao58 t108.length co58] rfl ml_ ?_; (with_reducible refine (point_days.calls k3 x9_3 _ _ t105 _ _ t108 t119 _ tl_ ?side1 ?side2 ?side3 ?side4 A27.out).mono ?_); (case side1 => repeat (first | exact (Kd.R_reads' HO_4.out).2.2 | (with_reducible refine Kd.C_alloc ?_ _) | (with_reducible refine Kd.C_drewN ?_ _) | (with_reducible refine Kd.C_drew ?_))); (case side2 => exact (Kd.R_reads' HO_4.out).2.1); (case side3 => repeat (first | exact (Kd.R_reads' HO_5.out).2.2 | (with_reducible refine Kd.C_alloc ?_ _) | (with_reducible refine Kd.C_drewN ?_ _) | (with_reducible refine Kd.C_drew ?_))); (case side4 => exact (Kd.R_reads' HO_5.out).2.1); rintro e w59 ⟨v120, rfl, ho0, hb⟩; refine ⟨_, rfl, ?_⟩; replace HO_4 := A_ (Kd.R_below (fxR_ HO_4.out) hb); replace HO_5 := A_ (Kd.R_below (fxR_ HO_5.out) hb); have HO121 := A_ (Kd.R_lower (Kd.R_newB (Kd.R_new' (Kd.R_new' ho0 (Kd.R_lt (fxR_ HO_6.out))) (Kd.R_lt (fxR_ HO_29.out))) (g := gb118) (o := .cells #[.int .i64 ((rd_T42 t102 x31_2).f0), .int .i64 ((rd_T42 t102 x31_2).f1)] 42 (0, 0)) (bl_ BK118.out)) (below_size hs_)); replace HO_6 := A_ (Kd.R_elder' (fxR_ HO_6.out) (Kd.R_base ho0) hb); replace HO_29 := A_ (Kd.R_elder' (fxR_ HO_29.out) (Kd.R_base ho0) hb); replace BK101 := bb_ BK101 hb; replace BK118 := bb_ BK118 hb; replace HB := bs_ hb; (try clear hb); (try clear ho0); obtain ⟨Ao61, co61, eo61⟩ := Kd.R_slice HO121.out; subst eo61) | ((with_reducible refine gate_builtin (b := .append) (xs := #[.tmp 43, .tmp 47]) rfl ?_); (try (refine gate_guard (by rfl) ?_; dsimp only)); at_builtin; refine Kd.R_append_rows k42 (w0 := w) w.heap.size rfl (.tmp 43) (.tmp 47) 34 42 (.agg #[(.int .i64 0), (.int .i64 0)]) 16 rfl Tryd.underlying34 info42 rfl (by decide) (by omega) u6 x6_3 t119 _ _ _ (fun k_ => nv_ k_ (.slice (some ad117) t102.length co19) ∧ nv_ k_ (.slice Ao61 t119.length co61) ∧ k_ ≠ gb118) (fun _ => False) rfl rfl ?aO ?aR (fun _ _ h => h) (fun _ h => h.elim) ?aF ?aB ?aS ?aL ?_; (case aR => repeat (first | exact (Kd.R_reads' HO121.out).2.2 | (with_reducible refine Kd.C_alloc ?_ _) | (with_reducible refine Kd.C_drewN ?_ _) | (with_reducible refine Kd.C_drew ?_))); (case aB => exact hs_); (case aF => exact (fun k_ hk => ⟨Kd.fresh' (Kd.R_lt (fxR_ HO_29.out)) k_ hk, Kd.fresh' (Kd.R_lt (fxR_ HO121.out)) k_ hk, fb_ BK118 k_ hk⟩)); (case aO => exact (fmR_ HO_6.out)); (case aS => exact (below_size hs_)); (case aL => have := LMc28.out; omega); intro v123 w60 ho hb hg hat; rw [← Ny122.out] at ho; replace HO_4 := A_ (Kd.R_over' (fxR_ HO_4.out) (Kd.R_typed (fxR_ HO_6.out)) (by decide) hg); replace HO_5 := A_ (Kd.R_over' (fxR_ HO_5.out) (Kd.R_typed (fxR_ HO_6.out)) (by decide) hg); replace HO_29 := A_ (Kd.R_after (ok := (fun k_ => nv_ k_ (.slice Ao61 t119.length co61) ∧ k_ ≠ gb118)) (fmR_ HO_29.out) hg hat); replace BK101 := A_ (blk_grown (g := gb101) (o := .cells (n4_ a0_0 a0_1 a0_2 a0_3) 23 (0, 0)) (bl_ BK101.out) hg (Kd.R_ne HO_6.out BK101.out (by decide))); replace BK118 := A_ (blk_grown (g := gb118) (o := .cells #[.int .i64 ((rd_T42 t102 x31_2).f0), .int .i64 ((rd_T42 t102 x31_2).f1)] 42 (0, 0)) (bl_ BK118.out) hg (Kd.R_away HO_6.out (fun _ hk => hk.1.2))); replace HO121 := A_ (Kd.R_after (ok := (fun k_ => nv_ k_ (.slice (some ad117) t102.length co19) ∧ k_ ≠ gb118)) (fmR_ HO121.out) hg hat); replace HB := A_ (hb); have HO124 := A_ (ho); clear HO_6; clear ho hb hg hat; obtain ⟨Ao62, co62, eo62⟩ := Kd.R_slice HO124.out; subst eo62))
              go_roundg k3
              case measure => have := HJ4.out; have := HK2.out; have := HK3.out; omega
              case rel => exact ⟨(y122), (wrap64 (x9_3 + 1)), rf_, H', ⟨by have := HJ4.out; have := HK2.out; have := HK3.out; omega⟩, ⟨fxR_ HO_4.out⟩, ⟨fxR_ HO_5.out⟩, ⟨fmR_ HO124.out⟩, ⟨fmR_ HO_29.out⟩, ⟨bl_ BK101.out⟩, ⟨bl_ BK118.out⟩, ⟨hs_⟩⟩
            ·rw [if_neg c28] at H
             exact absurd H (by simp)
           ·rw [if_neg c26] at H
            have c26b0 := decide_eq_false c26; clear c26; have H' := A_ H; clear H; have hnb63 := NB118_101.out; have hnc63 := NB101_118.out; have Z64 := bz2_ BK118; go_wp2; go_roundg k3
            case measure => have := HJ4.out; have := HK2.out; have := HK3.out; omega
            case rel => exact ⟨(x6_3), (wrap64 (x31_2 + 1)), rf_, H', ⟨by have := HJ4.out; have := HK2.out; have := HK3.out; omega⟩, ⟨fxR_ HO_4.out⟩, ⟨fxR_ HO_5.out⟩, ⟨by (with_reducible repeat (first | apply Kd.R_alloc | apply Kd.R_drewN | apply Kd.R_drew)); exact Kd.R_mono HO_6.out (fun _ hk => hk.1)⟩, ⟨by (with_reducible repeat (first | apply Kd.R_alloc | apply Kd.R_drewN | apply Kd.R_drew)); exact Kd.R_mono HO_29.out (fun _ hk => hk.1)⟩, ⟨bl_ BK101.out⟩, ⟨hs_⟩⟩
        ·rw [if_neg c22] at H
         exact absurd H (by simp)
       ·rw [if_neg c21] at H
        exact absurd H (by simp)
      ·rw [if_neg c20] at H
       have c20b0 := decide_eq_false c20; clear c20; obtain ⟨t114, A65, H⟩ := bi_ H; obtain rfl := Option.some.inj H; obtain ⟨Ao66, co66, eo66⟩ := Kd.R_slice HO_6.out; subst eo66; go_wp2_with (first | ((with_reducible refine gC 46 ?_); refine goesL_ (some 59) rfl rfl Tryd.func46 (by kernel_rfl) rfl #[.slice Ao66 x6_2.length co66] rfl ml_ ?_; (with_reducible refine (runs_Make.calls _ _ x6_2 t114 _ ?side1 ?side2 A65.out).mono ?_); (case side1 => repeat (first | exact (Kd.R_reads' HO_6.out).2.2 | (with_reducible refine Kd.C_alloc ?_ _) | (with_reducible refine Kd.C_drewN ?_ _) | (with_reducible refine Kd.C_drew ?_))); (case side2 => exact (Kd.R_reads' HO_6.out).2.1); rintro e w67 ⟨v115, rfl, ho0, hb⟩; refine ⟨_, rfl, ?_⟩; replace HO_4 := A_ (Kd.R_below (fxR_ HO_4.out) hb); replace HO_5 := A_ (Kd.R_below (fxR_ HO_5.out) hb); have HO116 := A_ (Kd.R_lower (Kd.R_new' (Kd.R_new' ho0 (Kd.R_lt (fxR_ HO_6.out))) (Kd.R_lt (fxR_ HO_29.out))) (below_size hs_)); replace HO_6 := A_ (Kd.R_elder' (fxR_ HO_6.out) (Kd.R_base ho0) hb); replace HO_29 := A_ (Kd.R_elder' (fxR_ HO_29.out) (Kd.R_base ho0) hb); replace BK101 := bb_ BK101 hb; replace HB := bs_ hb; (try clear hb); (try clear ho0))); go_ret; exact ⟨_, by first | rfl | (simp [errW_none, errW_some] <;> rfl) | (simp [*, errW_none, errW_some] <;> rfl), by (with_reducible repeat (first | apply Kd.R_alloc | apply Kd.R_drewN | apply Kd.R_drew)); exact Kd.R_mono HO116.out (fun _ hk => trivial), hs_⟩
set_option maxHeartbeats 8000000 in
set_option maxRecDepth 100000 in
theorem point_parts.calls (k : Nat) (a0_0 : Int) (a0_1 a0_2 a0_3 : ByteArray) (a1 : Int) (r : List (S42)) (w : World) (h : point_parts.f k a0_0 a0_1 a0_2 a0_3 a1 = some r) :
  Calls Tryd.prog 32 #[.agg #[.int .i64 a0_0, .string a0_1, .string a0_2, .string a0_3], .int .i64 a1] w fun e w' => ∃ v0_ : Value, e = .returned (v0_) ∧ Kd.R k42 42 w' w.heap.size (fun _ => True) v0_ r ∧ Below w.heap.size w w' := by
 have hu23 := Tryd.underlying23; have hu42 := Tryd.underlying42; have HB := A_ (Below.refl w.heap.size w); have H : ((point_numbers.f k a0_2 a1).bind fun t130 => ((mask_Set.f a0_1).bind fun t133 => (point_parts.l0 k a1 ([] : List (S42)) t130 t133 (t133.length : Int) 0))) = some r := h; clear h; obtain ⟨t130, A3, H⟩ := bi_ H; obtain ⟨t133, A4, H⟩ := bi_ H; have H' := A_ H; clear H; go_enter Tryd.func32, Tryd.ntmps32; go_wp2_with (first | ((with_reducible refine gD 2 ?_); refine gx_ w 2 (n4_ a0_0 a0_1 a0_2 a0_3) 23 ?_; clear HB; intro gb129 w5 BK129 GE129 HB; have GW129 := GE129; have Z6 := bz4_ BK129) | ((with_reducible refine gC 41 ?_); refine goesL_ (some 15) rfl rfl Tryd.func41 (by kernel_rfl) rfl #[.string a0_2, .int .i64 a1] rfl ml_ ?_; (with_reducible refine (point_numbers.calls k a0_2 a1 t130 _ A3.out).mono ?_); rintro e w7 ⟨v131, rfl, ho0, hb⟩; refine ⟨_, rfl, ?_⟩; have HO132 := A_ (Kd.R_lower ho0 (below_size hs_)); replace BK129 := bb_ BK129 hb; replace HB := bs_ hb; (try clear hb); (try clear ho0); have Z8 := bz4_ BK129) | ((with_reducible refine gC 30 ?_); refine goesL_ (some 18) rfl rfl Tryd.func30 (by kernel_rfl) rfl #[.string a0_1] rfl ml_ ?_; (with_reducible refine (mask_Set.calls a0_1 t133 _ A4.out).mono ?_); rintro e w9 ⟨v134, rfl, ho0, hb⟩; refine ⟨_, rfl, ?_⟩; replace HO132 := A_ (Kd.R_below (fxR_ HO132.out) hb); have HO135 := A_ (Kd.R_lower ho0 (below_size hs_)); replace BK129 := bb_ BK129 hb; replace HB := bs_ hb; (try clear hb); (try clear ho0); obtain ⟨Ao10, co10, eo10⟩ := Kd.R_slice HO135.out; subst eo10))
 go_loopg [5, 20] k (fun kq v5 v20 w' => ∃ (x5_1 : List (S42)) (x20_1 : Int), v20 = .int .i64 x20_1 ∧ Aside0 (point_parts.l0 kq a1 x5_1 t130 t133 (t133.length : Int) x20_1 = some r) ∧ Aside0 (kq ≤ k) ∧ Aside0 (Kd.R k42 42 w' w.heap.size (fun k_ => some k_ ≠ ((.slice Ao10 t133.length co10) : Value).ownBlock) v5 x5_1) ∧ Aside0 (Kd.R (Kd.int .i64) 3 w' w.heap.size (fun _ => True) v131 t130) ∧ Aside0 (Kd.R k42 42 w' w.heap.size (fun k_ => nv_ k_ v5) (.slice Ao10 t133.length co10) t133) ∧ Aside0 (w'.heap[gb129]? = some (.cells (n4_ a0_0 a0_1 a0_2 a0_3) 23 (0, 0))) ∧ Aside0 (Below w.heap.size w w'))
 case atStart => exact ⟨(([] : List (S42))), (0), rf_, H', ⟨Nat.le_refl _⟩, ⟨by first | exact Kd.R_nil _ _ _ _ _ | exact Kd.N_nil _ _ _ _ _ | exact Kd.V_nil _ _ _ _ _ | exact Kd.Q_nil _ _ _ _ _ | exact Kd.S_nil _ _ _ _ _⟩, ⟨fxR_ HO132.out⟩, ⟨by (with_reducible repeat (first | apply Kd.R_alloc | apply Kd.R_drewN | apply Kd.R_drew)); exact Kd.R_mono HO135.out (fun _ hk => (by simp [Value.ownBlock]))⟩, ⟨bl_ BK129.out⟩, ⟨hs_⟩⟩
 case round =>
  clear H'; (try clear p2); (try clear c5); (try clear c9); (try clear Z6); (try clear Z8); obtain ⟨x5_1, x20_1, rfl, HA, HK1, HO_5, HO_6, HO_18, BK129, HB⟩ := hrel
  cases gk with
  | zero => exact absurd HA.out (by simp [point_parts.l0])
  | succ k1 =>
   have H := HA.out; clear HA; simp only [point_parts.l0] at H
   by_cases c11 : x20_1 < (t133.length : Int)
   ·rw [if_pos c11] at H
    have c11b0 := decide_eq_true c11; clear c11
    by_cases c12 : 0 ≤ x20_1
    ·rw [if_pos c12] at H
     have c12b0 := decide_eq_true c12; clear c12
     by_cases c13 : x20_1 < (t133.length : Int)
     ·rw [if_pos c13] at H
      have c13b0 := decide_eq_true c13; clear c13
      by_cases c14 : (t130.length : Int) = a1
      ·rw [if_pos c14] at H
       have c14b0 : ((t130.length : Int) == a1) = true := beq_iff_eq.mpr c14; have c14b1 : ((t130.length : Int) != a1) = false := bne_eq_false_iff_eq.mpr c14; clear c14
       by_cases c15 : x5_1.length < 8796093022208
       ·rw [if_pos c15] at H
        have LMc15 := A_ c15; clear c15; obtain ⟨y141, hy141⟩ : ∃ y_ : List (S42), y_ = (x5_1 ++ [(⟨wrap64 (((rd_T42 t133 x20_1).f0) * a1), wrap64 ((wrap64 ((wrap64 (((rd_T42 t133 x20_1).f1) * a1)) + a1)) - 1)⟩ : S42)]) := ⟨_, rfl⟩; (replace H : (point_parts.l0 k1 a1 y141 t130 t133 (t133.length : Int) (wrap64 (x20_1 + 1))) = some r := by first | (rw [hy141]; with_reducible exact H) | (have H2_ := (Option.bind_some _ _).symm.trans H; rw [hy141]; with_reducible exact H2_) | (have H2_ := (Option.bind_some _ _).symm.trans H; with_reducible exact H2_) | with_reducible exact H | (rw [hy141]; exact H) | exact H); have Ny141 := A_ hy141; clear hy141; have H' := A_ H; clear H; have p139 : 0 ≤ (x20_1 : Int) := od_; have q139 : x20_1 < (t133.length : Int) := od_; obtain ⟨ad139, e139, hx139_0, hx139_1⟩ := at_T42 (Kd.R_reads' HO_18.out).2.2 x20_1 p139 q139
        cases e139
        replace p139 := eq_true p139; replace q139 := eq_true q139; go_wp2_with (first | ((with_reducible refine gD 8 ?_); refine bxe_ 8 #[.int .i64 0, .int .i64 0] 42 ?_; intro gb140 hg w16 hbox hb; replace HO_5 := A_ (Kd.R_below (Kd.R_elderB (fxR_ HO_5.out) gb140 (Nat.le_of_eq hg.symm)) hb); replace HO_6 := A_ (Kd.R_below (fxR_ HO_6.out) hb); replace HO_18 := A_ (Kd.R_below (Kd.R_elderB (fxR_ HO_18.out) gb140 (Nat.le_of_eq hg.symm)) hb); have BK140 := A_ (hbox); have GW140 := gs_ w hg; have GE140 := gs_ w hg; replace HB := bs_ hb; have NB129_140 := nl_ BK129 hg; have NB140_129 := ng_ BK129 hg; replace BK129 := bb_ BK129 hb; clear hb hbox hg; have hnb17 := NB140_129.out; have hnc17 := NB129_140.out; have Z18 := bz2_ BK140; obtain ⟨Ao19, co19, eo19⟩ := Kd.R_slice HO_6.out; subst eo19) | ((with_reducible refine gate_builtin (b := .append) (xs := #[.tmp 28, .tmp 41]) rfl ?_); at_builtin; refine Kd.R_append k42 (w0 := w) w.heap.size rfl (.tmp 28) (.tmp 41) 34 42 (.agg #[(.int .i64 0), (.int .i64 0)]) 16 rfl Tryd.underlying34 info42 rfl (by decide) (by omega) u5 x5_1 (⟨wrap64 (((rd_T42 t133 x20_1).f0) * a1), wrap64 ((wrap64 ((wrap64 (((rd_T42 t133 x20_1).f1) * a1)) + a1)) - 1)⟩ : S42) [.int .i64 (wrap64 (((rd_T42 t133 x20_1).f0) * a1)), .int .i64 (wrap64 ((wrap64 ((wrap64 (((rd_T42 t133 x20_1).f1) * a1)) + a1)) - 1))] (fun k_ => nv_ k_ (.slice (some ad139) t133.length co10) ∧ k_ ≠ gb140) (fun _ => False) rfl (by first | (go_simp; done) | (go_simp; rfl)) ?aP (fun _ hk => hk.elim) ?aF ?aO ?aB ?aS ?aL ?_; (case aP => exact k42_mkM _ _ _ (⟨wrap64 (((rd_T42 t133 x20_1).f0) * a1), wrap64 ((wrap64 ((wrap64 (((rd_T42 t133 x20_1).f1) * a1)) + a1)) - 1)⟩ : S42)); (case aB => exact hs_); (case aF => exact (fun k_ hk => ⟨Kd.fresh' (Kd.R_lt (fxR_ HO_18.out)) k_ hk, fb_ BK140 k_ hk⟩)); (case aO => exact (fpR_ HO_5.out)); (case aS => exact (below_size hs_)); (case aL => have := LMc15.out; omega); intro v142 w20 ho hb hg hat; rw [← Ny141.out] at ho; replace HO_6 := A_ (Kd.R_over' (by (with_reducible repeat (first | apply Kd.R_alloc | apply Kd.R_drewN | apply Kd.R_drew)); exact (Kd.R_mono (Kd.R_far (p := ⟨gb140, 1, none⟩) (Kd.R_far (p := ⟨gb140, 0, none⟩) (Kd.R_types HO_6.out BK140.out (by decide)) (fun _ hk => hk.2) (.int .i64 ((rd_T42 t133 x20_1).f0))) (fun _ hk => hk.2) (.int .i64 ((rd_T42 t133 x20_1).f1))) (fun _ h_ => h_.1))) (Kd.R_typed (fxR_ HO_5.out)) (by decide) hg); replace HO_18 := A_ (Kd.R_after (ok := (fun k_ => k_ ≠ gb140)) (fpR_ HO_18.out) hg hat); replace BK129 := A_ (blk_grown (g := gb129) (o := .cells (n4_ a0_0 a0_1 a0_2 a0_3) 23 (0, 0)) (pf_ NB129_140 BK129) hg (Kd.R_ne HO_5.out BK129.out (by decide))); replace BK140 := A_ (blk_grown (g := gb140) (o := .cells #[.int .i64 ((rd_T42 t133 x20_1).f0), .int .i64 ((rd_T42 t133 x20_1).f1)] 42 (0, 0)) (pb_ BK140.out) hg (Kd.R_away HO_5.out (fun _ hk => hk.2))); replace HB := A_ (hb); have HO143 := A_ (ho); clear HO_5; clear ho hb hg hat))
        go_roundg k1
        case measure => have := HK1.out; omega
        case rel => exact ⟨(y141), (wrap64 (x20_1 + 1)), rf_, H', ⟨by have := HK1.out; omega⟩, ⟨by (with_reducible repeat (first | apply Kd.R_alloc | apply Kd.R_drewN | apply Kd.R_drew)); exact Kd.R_mono HO143.out (fun _ hk => hk.1)⟩, ⟨fxR_ HO_6.out⟩, ⟨by (with_reducible repeat (first | apply Kd.R_alloc | apply Kd.R_drewN | apply Kd.R_drew)); exact Kd.R_mono HO_18.out (fun _ hk => hk.2)⟩, ⟨bl_ BK129.out⟩, ⟨hs_⟩⟩
       ·rw [if_neg c15] at H
        exact absurd H (by simp)
      ·rw [if_neg c14] at H
       have c14b0 : ((t130.length : Int) == a1) = false := beq_eq_false_iff_ne.mpr c14; have c14b1 : ((t130.length : Int) != a1) = true := bne_iff_ne.mpr c14; have H' := A_ H; clear H; have p139 : 0 ≤ (x20_1 : Int) := od_; have q139 : x20_1 < (t133.length : Int) := od_; obtain ⟨ad139, e139, hx139_0, hx139_1⟩ := at_T42 (Kd.R_reads' HO_18.out).2.2 x20_1 p139 q139
       cases e139
       replace p139 := eq_true p139; replace q139 := eq_true q139; go_wp2_with (first | ((with_reducible refine gD 8 ?_); refine bxe_ 8 #[.int .i64 0, .int .i64 0] 42 ?_; intro gb140 hg w21 hbox hb; replace HO_5 := A_ (Kd.R_below (Kd.R_elderB (fxR_ HO_5.out) gb140 (Nat.le_of_eq hg.symm)) hb); replace HO_6 := A_ (Kd.R_below (fxR_ HO_6.out) hb); replace HO_18 := A_ (Kd.R_below (Kd.R_elderB (fxR_ HO_18.out) gb140 (Nat.le_of_eq hg.symm)) hb); have BK140 := A_ (hbox); have GW140 := gs_ w hg; have GE140 := gs_ w hg; replace HB := bs_ hb; have NB129_140 := nl_ BK129 hg; have NB140_129 := ng_ BK129 hg; replace BK129 := bb_ BK129 hb; clear hb hbox hg; have hnb22 := NB140_129.out; have hnc22 := NB129_140.out; have Z23 := bz2_ BK140; obtain ⟨Ao24, co24, eo24⟩ := Kd.R_slice HO_6.out; subst eo24)); go_loopg [5, 9] k1 (fun kq v5 v9 w' => ∃ (x5_2 : List (S42)) (x9_2 : Int), v9 = .int .i64 x9_2 ∧ Aside0 (point_parts.l1 kq a1 x5_2 t130 x9_2 t133 (t133.length : Int) x20_1 ((rd_T42 t133 x20_1).f0) ((rd_T42 t133 x20_1).f1) = some r) ∧ Aside0 (kq ≤ k1) ∧ Aside0 (Kd.R k42 42 w' w.heap.size (fun k_ => some k_ ≠ ((.slice (some ad139) t133.length co10) : Value).ownBlock ∧ k_ ≠ gb140) v5 x5_2) ∧ Aside0 (Kd.R (Kd.int .i64) 3 w' w.heap.size (fun _ => True) (.slice Ao24 t130.length co24) t130) ∧ Aside0 (Kd.R k42 42 w' w.heap.size (fun k_ => nv_ k_ v5 ∧ k_ ≠ gb140) (.slice (some ad139) t133.length co10) t133) ∧ Aside0 (w'.heap[gb129]? = some (.cells (n4_ a0_0 a0_1 a0_2 a0_3) 23 (0, 0))) ∧ Aside0 (w'.heap[gb140]? = some (.cells #[.int .i64 ((rd_T42 t133 x20_1).f0), .int .i64 ((rd_T42 t133 x20_1).f1)] 42 (0, 0))) ∧ Aside0 (Below w.heap.size w w'))
       case atStart => exact ⟨(x5_1), ((rd_T42 t133 x20_1).f0), rf_, H', ⟨Nat.le_refl _⟩, ⟨fpR_ HO_5.out⟩, ⟨by (with_reducible repeat (first | apply Kd.R_alloc | apply Kd.R_drewN | apply Kd.R_drew)); exact Kd.R_mono (Kd.R_far (p := ⟨gb140, 1, none⟩) (Kd.R_far (p := ⟨gb140, 0, none⟩) (Kd.R_types HO_6.out BK140.out (by decide)) (fun _ hk => hk.2) (.int .i64 ((rd_T42 t133 x20_1).f0))) (fun _ hk => hk.2) (.int .i64 ((rd_T42 t133 x20_1).f1))) (fun _ hk => trivial)⟩, ⟨fpR_ HO_18.out⟩, ⟨pf_ NB129_140 BK129⟩, ⟨pb_ BK140.out⟩, ⟨hs_⟩⟩
       case round =>
        clear H'; (try clear c1); (try clear p1); (try clear q1); (try clear hx1); (try clear c2); (try clear p2); (try clear c5); (try clear p6); (try clear c9); (try clear c11); (try clear c11b0); (try clear c12); (try clear c12b0); (try clear c13); (try clear c13b0); (try clear p13); (try clear q13); (try clear hx13); (try clear c14); (try clear c14b0); (try clear c14b1); (try clear c15); (try clear c17); (try clear c22); (try clear Z18); (try clear Z23); (try clear Z6); (try clear Z8); (try clear hx139_0); (try clear hx139_1); (try clear p139); (try clear p2); (try clear q139); obtain ⟨x5_2, x9_2, rfl, HA, HK2, HO_5, HO_6, HO_18, BK129, BK140, HB⟩ := hrel
        cases gk with
        | zero => exact absurd HA.out (by simp [point_parts.l1])
        | succ k2 =>
         have H := HA.out; clear HA; simp only [point_parts.l1] at H
         by_cases c25 : x9_2 ≤ ((rd_T42 t133 x20_1).f1)
         ·rw [if_pos c25] at H
          have c25b0 := decide_eq_true c25; clear c25; have H' := A_ H; clear H; have hnb26 := NB140_129.out; have hnc26 := NB129_140.out; have Z27 := bz2_ BK140; go_wp2; go_loopg [5, 53] k2 (fun kq v5 v53 w' => ∃ (x5_3 : List (S42)) (x53_3 : Int), v53 = .int .i64 x53_3 ∧ Aside0 (point_parts.l2 kq a1 x5_3 t130 x9_2 t133 (t133.length : Int) x20_1 t130 (t130.length : Int) x53_3 ((rd_T42 t133 x20_1).f0) ((rd_T42 t133 x20_1).f1) = some r) ∧ Aside0 (kq ≤ k2) ∧ Aside0 (Kd.R k42 42 w' w.heap.size (fun k_ => some k_ ≠ ((.slice (some ad139) t133.length co10) : Value).ownBlock ∧ k_ ≠ gb140) v5 x5_3) ∧ Aside0 (Kd.R (Kd.int .i64) 3 w' w.heap.size (fun _ => True) (.slice Ao24 t130.length co24) t130) ∧ Aside0 (Kd.R k42 42 w' w.heap.size (fun k_ => nv_ k_ v5 ∧ k_ ≠ gb140) (.slice (some ad139) t133.length co10) t133) ∧ Aside0 (Kd.R (Kd.int .i64) 3 w' w.heap.size (fun _ => True) (.slice Ao24 t130.length co24) t130) ∧ Aside0 (w'.heap[gb129]? = some (.cells (n4_ a0_0 a0_1 a0_2 a0_3) 23 (0, 0))) ∧ Aside0 (w'.heap[gb140]? = some (.cells #[.int .i64 ((rd_T42 t133 x20_1).f0), .int .i64 ((rd_T42 t133 x20_1).f1)] 42 (0, 0))) ∧ Aside0 (Below w.heap.size w w'))
          case atStart => exact ⟨(x5_2), (0), rf_, H', ⟨Nat.le_refl _⟩, ⟨fxR_ HO_5.out⟩, ⟨fxR_ HO_6.out⟩, ⟨fxR_ HO_18.out⟩, ⟨fxR_ HO_6.out⟩, ⟨bl_ BK129.out⟩, ⟨bl_ BK140.out⟩, ⟨hs_⟩⟩
          case round =>
           clear H'; (try clear c1); (try clear p1); (try clear q1); (try clear hx1); (try clear c2); (try clear p2); (try clear c5); (try clear p6); (try clear c9); (try clear c11); (try clear c11b0); (try clear c12); (try clear c12b0); (try clear c13); (try clear c13b0); (try clear p13); (try clear q13); (try clear hx13); (try clear c14); (try clear c14b0); (try clear c14b1); (try clear c15); (try clear c17); (try clear c22); (try clear c25); (try clear c25b0); (try clear c26); (try clear Z18); (try clear Z23); (try clear Z27); (try clear Z6); (try clear Z8); (try clear hx139_0); (try clear hx139_1); (try clear p1); (try clear p13); (try clear p139); (try clear p2); (try clear p6); (try clear q1); (try clear q13); (try clear q139); obtain ⟨x5_3, x53_3, rfl, HA, HK3, HO_5, HO_6, HO_18, HO_51, BK129, BK140, HB⟩ := hrel
           cases gk with
           | zero => exact absurd HA.out (by simp [point_parts.l2])
           | succ k3 =>
            have H := HA.out; clear HA; simp only [point_parts.l2] at H
            by_cases c28 : x53_3 < (t130.length : Int)
            ·rw [if_pos c28] at H
             have c28b0 := decide_eq_true c28; clear c28
             by_cases c29 : 0 ≤ x53_3
             ·rw [if_pos c29] at H
              have c29b0 := decide_eq_true c29; clear c29
              by_cases c30 : x53_3 < (t130.length : Int)
              ·rw [if_pos c30] at H
               have c30b0 := decide_eq_true c30; clear c30
               by_cases c31 : x5_3.length < 8796093022208
               ·rw [if_pos c31] at H
                have LMc31 := A_ c31; clear c31; obtain ⟨y145, hy145⟩ : ∃ y_ : List (S42), y_ = (x5_3 ++ [(⟨wrap64 ((wrap64 ((wrap64 (x9_2 * a1)) + (rd t130 x53_3))) - 1), wrap64 ((wrap64 ((wrap64 (x9_2 * a1)) + (rd t130 x53_3))) - 1)⟩ : S42)]) := ⟨_, rfl⟩; (replace H : (point_parts.l2 k3 a1 y145 t130 x9_2 t133 (t133.length : Int) x20_1 t130 (t130.length : Int) (wrap64 (x53_3 + 1)) ((rd_T42 t133 x20_1).f0) ((rd_T42 t133 x20_1).f1)) = some r := by first | (rw [hy145]; with_reducible exact H) | (have H2_ := (Option.bind_some _ _).symm.trans H; rw [hy145]; with_reducible exact H2_) | (have H2_ := (Option.bind_some _ _).symm.trans H; with_reducible exact H2_) | with_reducible exact H | (rw [hy145]; exact H) | exact H); have Ny145 := A_ hy145; clear hy145; have H' := A_ H; clear H; have p144 : 0 ≤ (x53_3 : Int) := od_; have q144 : x53_3 < (t130.length : Int) := od_; obtain ⟨ad144, e144, hx144_0⟩ := Kd.at_int (Kd.R_reads' HO_51.out).2.2 x53_3 p144 q144
                cases e144
                replace p144 := eq_true p144; replace q144 := eq_true q144; go_wp2_with (first | ((with_reducible refine gate_builtin (b := .append) (xs := #[.tmp 57, .tmp 71]) rfl ?_); at_builtin; refine Kd.R_append k42 (w0 := w) w.heap.size rfl (.tmp 57) (.tmp 71) 34 42 (.agg #[(.int .i64 0), (.int .i64 0)]) 16 rfl Tryd.underlying34 info42 rfl (by decide) (by omega) u5 x5_3 (⟨wrap64 ((wrap64 ((wrap64 (x9_2 * a1)) + (rd t130 x53_3))) - 1), wrap64 ((wrap64 ((wrap64 (x9_2 * a1)) + (rd t130 x53_3))) - 1)⟩ : S42) [.int .i64 (wrap64 ((wrap64 ((wrap64 (x9_2 * a1)) + (rd t130 x53_3))) - 1)), .int .i64 (wrap64 ((wrap64 ((wrap64 (x9_2 * a1)) + (rd t130 x53_3))) - 1))] (fun k_ => nv_ k_ (.slice (some ad139) t133.length co10) ∧ k_ ≠ gb140) (fun _ => False) rfl rfl ?aP (fun _ hk => hk.elim) ?aF ?aO ?aB ?aS ?aL ?_; (case aP => exact k42_mkM _ _ _ (⟨wrap64 ((wrap64 ((wrap64 (x9_2 * a1)) + (rd t130 x53_3))) - 1), wrap64 ((wrap64 ((wrap64 (x9_2 * a1)) + (rd t130 x53_3))) - 1)⟩ : S42)); (case aB => exact hs_); (case aF => exact (fun k_ hk => ⟨Kd.fresh' (Kd.R_lt (fxR_ HO_18.out)) k_ hk, fb_ BK140 k_ hk⟩)); (case aO => exact (fxR_ HO_5.out)); (case aS => exact (below_size hs_)); (case aL => have := LMc31.out; omega); intro v146 w32 ho hb hg hat; rw [← Ny145.out] at ho; replace HO_6 := A_ (Kd.R_over' (fxR_ HO_6.out) (Kd.R_typed (fxR_ HO_5.out)) (by decide) hg); replace HO_18 := A_ (Kd.R_after (ok := (fun k_ => k_ ≠ gb140)) (fmR_ HO_18.out) hg hat); replace HO_51 := A_ (Kd.R_over' (fxR_ HO_51.out) (Kd.R_typed (fxR_ HO_5.out)) (by decide) hg); replace BK129 := A_ (blk_grown (g := gb129) (o := .cells (n4_ a0_0 a0_1 a0_2 a0_3) 23 (0, 0)) (bl_ BK129.out) hg (Kd.R_ne HO_5.out BK129.out (by decide))); replace BK140 := A_ (blk_grown (g := gb140) (o := .cells #[.int .i64 ((rd_T42 t133 x20_1).f0), .int .i64 ((rd_T42 t133 x20_1).f1)] 42 (0, 0)) (bl_ BK140.out) hg (Kd.R_away HO_5.out (fun _ hk => hk.2))); replace HB := A_ (hb); have HO147 := A_ (ho); clear HO_5; clear ho hb hg hat)); go_roundg k3
                case measure => have := HK1.out; have := HK2.out; have := HK3.out; omega
                case rel => exact ⟨(y145), (wrap64 (x53_3 + 1)), rf_, H', ⟨by have := HK1.out; have := HK2.out; have := HK3.out; omega⟩, ⟨fxR_ HO147.out⟩, ⟨fxR_ HO_6.out⟩, ⟨fmR_ HO_18.out⟩, ⟨fxR_ HO_51.out⟩, ⟨bl_ BK129.out⟩, ⟨bl_ BK140.out⟩, ⟨hs_⟩⟩
               ·rw [if_neg c31] at H
                exact absurd H (by simp)
              ·rw [if_neg c30] at H
               exact absurd H (by simp)
             ·rw [if_neg c29] at H
              exact absurd H (by simp)
            ·rw [if_neg c28] at H
             have c28b0 := decide_eq_false c28; clear c28; have H' := A_ H; clear H; go_wp2; go_roundg k3
             case measure => have := HK1.out; have := HK2.out; have := HK3.out; omega
             case rel => exact ⟨(x5_3), (wrap64 (x9_2 + 1)), rf_, H', ⟨by have := HK1.out; have := HK2.out; have := HK3.out; omega⟩, ⟨fxR_ HO_5.out⟩, ⟨fxR_ HO_6.out⟩, ⟨fxR_ HO_18.out⟩, ⟨bl_ BK129.out⟩, ⟨bl_ BK140.out⟩, ⟨hs_⟩⟩
         ·rw [if_neg c25] at H
          have c25b0 := decide_eq_false c25; clear c25; have H' := A_ H; clear H; have hnb33 := NB140_129.out; have hnc33 := NB129_140.out; have Z34 := bz2_ BK140; go_wp2; go_roundg k2
          case measure => have := HK1.out; have := HK2.out; omega
          case rel => exact ⟨(x5_2), (wrap64 (x20_1 + 1)), rf_, H', ⟨by have := HK1.out; have := HK2.out; omega⟩, ⟨by (with_reducible repeat (first | apply Kd.R_alloc | apply Kd.R_drewN | apply Kd.R_drew)); exact Kd.R_mono HO_5.out (fun _ hk => hk.1)⟩, ⟨fxR_ HO_6.out⟩, ⟨by (with_reducible repeat (first | apply Kd.R_alloc | apply Kd.R_drewN | apply Kd.R_drew)); exact Kd.R_mono HO_18.out (fun _ hk => hk.1)⟩, ⟨bl_ BK129.out⟩, ⟨hs_⟩⟩
     ·rw [if_neg c13] at H
      exact absurd H (by simp)
    ·rw [if_neg c12] at H
     exact absurd H (by simp)
   ·rw [if_neg c11] at H
    have c11b0 := decide_eq_false c11; clear c11; obtain ⟨t136, A35, H⟩ := bi_ H; obtain rfl := Option.some.inj H; obtain ⟨Ao36, co36, eo36⟩ := Kd.R_slice HO_5.out; subst eo36; go_wp2_with (first | ((with_reducible refine gC 46 ?_); refine goesL_ (some 76) rfl rfl Tryd.func46 (by kernel_rfl) rfl #[.slice Ao36 x5_1.length co36] rfl ml_ ?_; (with_reducible refine (runs_Make.calls _ _ x5_1 t136 _ ?side1 ?side2 A35.out).mono ?_); (case side1 => repeat (first | exact (Kd.R_reads' HO_5.out).2.2 | (with_reducible refine Kd.C_alloc ?_ _) | (with_reducible refine Kd.C_drewN ?_ _) | (with_reducible refine Kd.C_drew ?_))); (case side2 => exact (Kd.R_reads' HO_5.out).2.1); rintro e w37 ⟨v137, rfl, ho0, hb⟩; refine ⟨_, rfl, ?_⟩; replace HO_6 := A_ (Kd.R_below (fxR_ HO_6.out) hb); have HO138 := A_ (Kd.R_lower (Kd.R_new' (Kd.R_new' ho0 (Kd.R_lt (fxR_ HO_5.out))) (Kd.R_lt (fxR_ HO_18.out))) (below_size hs_)); replace HO_5 := A_ (Kd.R_elder' (fxR_ HO_5.out) (Kd.R_base ho0) hb); replace HO_18 := A_ (Kd.R_elder' (fxR_ HO_18.out) (Kd.R_base ho0) hb); replace BK129 := bb_ BK129 hb; replace HB := bs_ hb; (try clear hb); (try clear ho0))); go_ret; exact ⟨_, by first | rfl | (simp [errW_none, errW_some] <;> rfl) | (simp [*, errW_none, errW_some] <;> rfl), by (with_reducible repeat (first | apply Kd.R_alloc | apply Kd.R_drewN | apply Kd.R_drew)); exact Kd.R_mono HO138.out (fun _ hk => trivial), hs_⟩
set_option maxHeartbeats 8000000 in
set_option maxRecDepth 100000 in
theorem point_known.calls (k : Nat) (a0 : Int) (P1_ : Nat → Prop) (A1 : Option Addr) (c1 : Nat) (l1 r1 : List (S42)) (r2 : Int) (w : World) (htab : TL w.heap.size w) (hs1 : Kd.V k42 42 w w.heap.size (fun k_ => P1_ k_) (.slice A1 l1.length c1) l1) (h : point_known.f k a0 l1 = some (r1, r2)) :
  Calls Tryd.prog 33 #[.int .i64 a0, .slice A1 l1.length c1] w fun e w' => ∃ v0_ : Value, e = .returned (.tuple #[v0_, .int .i64 r2]) ∧ Kd.V k42 42 w' w.heap.size (fun k_ => (P1_ k_ ∨ w.heap.size ≤ k_)) v0_ r1 ∧ Below w.heap.size w w' := by
 have HTAB := A_ htab; clear htab; have HO1 := A_ (show Kd.V k42 42 w w.heap.size (fun k_ => (P1_ k_ ∨ w.heap.size ≤ k_)) (.slice A1 l1.length c1) l1 from Kd.V_mono hs1 (fun k_ hk => .inl hk)); have HB := A_ (Below.refl w.heap.size w); have H : ((image_Starts.f k a0 l1).bind fun bt148 => (if bt148.2 = true then (some (l1, 0)) else (some (([] : List (S42)), 8)))) = some (r1, r2) := h; clear h; obtain ⟨⟨t148, t149⟩, A3, H⟩ := bi_ H
 by_cases c4 : t149 = true
 ·subst c4
  (have H1 : (some (l1, 0)) = some (r1, r2) := by rw [if_pos rfl] at H; exact H); clear H; have H := H1; clear H1; simp only [Option.some.injEq, Prod.mk.injEq] at H; obtain ⟨rfl, rfl⟩ := H; go_enter Tryd.func33, Tryd.ntmps33; go_wp2_with (first | ((with_reducible refine gC 48 ?_); refine goesL_ (some 11) rfl rfl Tryd.func48 (by kernel_rfl) rfl #[.int .i64 a0, .slice A1 l1.length c1] rfl ml_ ?_; (with_reducible refine (image_Starts.calls k a0 _ _ l1 t148 true _ tl_ ?side1 ?side2 A3.out).mono ?_); (case side1 => repeat (first | exact (Kd.V_reads' HO1.out).2.2 | (with_reducible refine Kd.C_alloc ?_ _) | (with_reducible refine Kd.C_drewN ?_ _) | (with_reducible refine Kd.C_drew ?_))); (case side2 => exact (Kd.V_reads' HO1.out).2.1); rintro e w5 ⟨v150, rfl, ho0, hb⟩; refine ⟨_, rfl, ?_⟩; replace HO1 := A_ (Kd.V_elder' (fxV_ HO1.out) (Kd.R_base ho0) hb); have HO151 := A_ (Kd.R_lower (Kd.R_newM (M := fun k_ => (w.heap.size ≤ k_)) ho0 (below_size hs_) (fun k_ h_ => h_)) (below_size hs_)); replace HB := bs_ hb; (try clear hb); (try clear ho0))); go_ret2; exact ⟨_, by first | rfl | (simp [errW_none, errW_some] <;> rfl) | (simp [*, errW_none, errW_some] <;> rfl), by (with_reducible repeat (first | apply Kd.V_alloc | apply Kd.V_drewN | apply Kd.V_drew)); exact Kd.V_mono HO1.out (fun _ hk => hk.1), hs_⟩
 ·replace c4 := Bool.eq_false_iff.mpr c4
  subst c4; (have H1 : (some (([] : List (S42)), 8)) = some (r1, r2) := by rw [if_neg (show ¬ (false = true) by decide)] at H; exact H); clear H; have H := H1; clear H1; simp only [Option.some.injEq, Prod.mk.injEq] at H; obtain ⟨rfl, rfl⟩ := H; go_enter Tryd.func33, Tryd.ntmps33; go_wp2_with (first | ((with_reducible refine gC 48 ?_); refine goesL_ (some 11) rfl rfl Tryd.func48 (by kernel_rfl) rfl #[.int .i64 a0, .slice A1 l1.length c1] rfl ml_ ?_; (with_reducible refine (image_Starts.calls k a0 _ _ l1 t148 false _ tl_ ?side1 ?side2 A3.out).mono ?_); (case side1 => repeat (first | exact (Kd.V_reads' HO1.out).2.2 | (with_reducible refine Kd.C_alloc ?_ _) | (with_reducible refine Kd.C_drewN ?_ _) | (with_reducible refine Kd.C_drew ?_))); (case side2 => exact (Kd.V_reads' HO1.out).2.1); rintro e w6 ⟨v150, rfl, ho0, hb⟩; refine ⟨_, rfl, ?_⟩; replace HO1 := A_ (Kd.V_elder' (fxV_ HO1.out) (Kd.R_base ho0) hb); have HO151 := A_ (Kd.R_lower (Kd.R_newM (M := fun k_ => (w.heap.size ≤ k_)) ho0 (below_size hs_) (fun k_ h_ => h_)) (below_size hs_)); replace HB := bs_ hb; (try clear hb); (try clear ho0))); go_ret2; exact ⟨_, by first | rfl | (simp [errW_none, errW_some] <;> rfl) | (simp [*, errW_none, errW_some] <;> rfl), Kd.V_nil _ _ _ _ _, hs_⟩
end Go.Proofs.YthppfagfmjchoaaDoor.A