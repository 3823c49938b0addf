/- Walks of functions, and plain facts about what they compute. No conditions. -/
import Derived.Test.YtjgjhekpiijniaaGreatPi0
import Derived.Lib.SliceRun
import Derived.Maps.OwnSet
set_option linter.unusedVariables false
set_option linter.unusedSimpArgs false
namespace Go.Proofs.YtjgjhekpiijniaaGreat.A
open Go.RowKit Go.Proofs.YtjgjhekpiijniaaGreatW.PrintWords Go.Proofs.YtjgjhekpiijniaaGreatW.PrintLast Go.Proofs.YtjgjhekpiijniaaGreatW.PrintMore
attribute [local go_sem] max2_int min2_int max_two min_two max_three min_three max_four min_four
attribute [local go_sem high] eqA23
attribute [local go_sem] isSome_setCell
set_option maxHeartbeats 8000000 in
set_option maxRecDepth 100000 in
theorem point_numbers.calls (k : Nat) (a0 : ByteArray) (a1 : Int) (r : List Int) (w : World) (h : point_numbers.f k a0 a1 = some r) :
  Calls Tryz.prog 85 #[.string a0, .int .i64 a1] w fun e w' => ∃ v0_ : Value, e = .returned (v0_) ∧ Kd.R (Kd.int .i64) 3 w' w.heap.size (fun _ => True) v0_ r ∧ Below w.heap.size w w' := by
 have hu120 := Tryz.underlying120; have HB := A_ (Below.refl w.heap.size w); have H : ((mask_Set.f a0).bind fun t131 => ((sets_Clip.f k t131 1 a1).bind fun t134 => (point_numbers.l0 k ([] : List Int) t134 (t134.length : Int) 0))) = some r := h; clear h; obtain ⟨t131, A3, H⟩ := bi_ H; obtain ⟨t134, A4, H⟩ := bi_ H; have H' := A_ H; clear H; go_enter Tryz.func85, Tryz.ntmps85; go_wp2_with (first | (refine gC 91 ?_; refine gL 10 Tryz.func91 #[.string a0] ?_; (with_reducible refine (mask_Set.calls a0 t131 _ A3.out).mono ?_); rintro e w5 ⟨v132, rfl, ho0, hb⟩; refine ⟨_, rfl, ?_⟩; have HO133 := A_ (Kd.R_lower ho0 (below_size hs_)); replace HB := bs_ hb; (try clear hb); (try clear ho0); obtain ⟨Ao6, co6, eo6⟩ := Kd.R_slice HO133.out; subst eo6) | (refine gC 90 ?_; refine gL 12 Tryz.func90 #[.slice Ao6 t131.length co6, .int .i64 1, .int .i64 a1] ?_; (with_reducible refine (sets_Clip.calls k _ _ t131 1 a1 t134 _ ?side1 ?side2 A4.out).mono ?_); (case side1 => exact cr_ (Kd.R_reads' HO133.out).2.2); (case side2 => exact (Kd.R_reads' HO133.out).2.1); rintro e w7 ⟨v135, rfl, ho0, hb⟩; refine ⟨_, rfl, ?_⟩; have HO136 := A_ (Kd.R_lower (Kd.R_new' ho0 (Kd.R_lt (hrR_ HO133.out))) (below_size hs_)); replace HO133 := A_ (Kd.R_elder' (hrR_ HO133.out) (Kd.R_base ho0) hb); replace HB := bs_ hb; (try clear hb); (try clear ho0); obtain ⟨Ao8, co8, eo8⟩ := Kd.R_slice HO136.out; subst eo8)); go_loopg [5, 14] k (fun kq v5 v14 w' => ∃ (x5_1 : List Int) (x14_1 : Int), v14 = .int .i64 x14_1 ∧ Aside0 (point_numbers.l0 kq x5_1 t134 (t134.length : Int) x14_1 = some r) ∧ Aside0 (kq ≤ k) ∧ Aside0 (Kd.R (Kd.int .i64) 3 w' w.heap.size (fun _ => True) v5 x5_1) ∧ Aside0 (Kd.R k120 120 w' w.heap.size (fun _ => True) (.slice Ao8 t134.length co8) t134) ∧ Aside0 (Below w.heap.size w w'))
 case atStart => exact ⟨(([] : List Int)), (0), rf_, H', ⟨Nat.le_refl _⟩, ⟨by first | exact Kd.R_nil _ _ _ _ _ | exact Kd.N_nil _ _ _ _ _ | exact Kd.V_nil _ _ _ _ _ | exact Kd.Q_nil _ _ _ _ _ | exact Kd.S_nil _ _ _ _ _⟩, ⟨by (with_reducible repeat (first | apply Kd.R_alloc | apply Kd.R_drewN | apply Kd.R_drew)); exact Kd.R_mono HO136.out (fun _ hk => trivial)⟩, ⟨hs_⟩⟩
 case round =>
  clear H'; (try clear p2); (try clear c7); (try clear c8); obtain ⟨x5_1, x14_1, rfl, HA, HK1, HO_5, HO_12, HB⟩ := hrel
  cases gk with
  | zero => exact absurd HA.out (by simp [point_numbers.l0])
  | succ k1 =>
   have H := HA.out; clear HA; simp only [point_numbers.l0] at H
   by_cases c9 : x14_1 < (t134.length : Int)
   ·rw [if_pos c9] at H
    have c9b0 := decide_eq_true c9; clear c9
    by_cases c10 : 0 ≤ x14_1
    ·rw [if_pos c10] at H
     have c10b0 := decide_eq_true c10; clear c10
     by_cases c11 : x14_1 < (t134.length : Int)
     ·rw [if_pos c11] at H
      have c11b0 := decide_eq_true c11; clear c11; have H' := A_ H; clear H; have p137 : 0 ≤ (x14_1 : Int) := od_; have q137 : x14_1 < (t134.length : Int) := od_; obtain ⟨ad137, e137, hx137_0, hx137_1⟩ := at_T120 (Kd.R_reads' HO_12.out).2.2 x14_1 p137 q137
      cases e137
      replace p137 := eq_true p137; replace q137 := eq_true q137; go_wp2_with (first | (refine gD 7 ?_; refine bxe_ 7 #[.int .i64 0, .int .i64 0] 120 ?_; intro gb138 hg w12 hbox hb; replace HO_5 := A_ (Kd.R_below (hrR_ HO_5.out) hb); replace HO_12 := A_ (Kd.R_below (Kd.R_elderB (hrR_ HO_12.out) gb138 (Nat.le_of_eq hg.symm)) hb); have BK138 := A_ (hbox); have GW138 := gs_ w hg; have GE138 := gs_ w hg; replace HB := bs_ hb; clear hb hbox hg; have Z13 := bz2_ BK138)); go_loopg [5, 8] k1 (fun kq v5 v8 w' => ∃ (x5_2 : List Int) (x8_2 : Int), v8 = .int .i64 x8_2 ∧ Aside0 (point_numbers.l1 kq x5_2 x8_2 t134 (t134.length : Int) x14_1 ((rd_T120 t134 x14_1).f0) ((rd_T120 t134 x14_1).f1) = some r) ∧ Aside0 (kq ≤ k1) ∧ Aside0 (Kd.R (Kd.int .i64) 3 w' w.heap.size (fun _ => True) v5 x5_2) ∧ Aside0 (Kd.R k120 120 w' w.heap.size (fun k_ => k_ ≠ gb138) (.slice (some ad137) t134.length co8) t134) ∧ Aside0 (w'.heap[gb138]? = some (.cells #[.int .i64 ((rd_T120 t134 x14_1).f0), .int .i64 ((rd_T120 t134 x14_1).f1)] 120 (0, 0))) ∧ Aside0 (Below w.heap.size w w'))
      case atStart => exact ⟨(x5_1), ((rd_T120 t134 x14_1).f0), rf_, H', ⟨Nat.le_refl _⟩, ⟨by (with_reducible repeat (first | apply Kd.R_alloc | apply Kd.R_drewN | apply Kd.R_drew)); exact Kd.R_mono (Kd.R_far (p := ⟨gb138, 1, none⟩) (Kd.R_far (p := ⟨gb138, 0, none⟩) (Kd.R_types HO_5.out BK138.out (by decide)) (fun _ hk => hk.2) (.int .i64 ((rd_T120 t134 x14_1).f0))) (fun _ hk => hk.2) (.int .i64 ((rd_T120 t134 x14_1).f1))) (fun _ hk => trivial)⟩, ⟨fpR_ HO_12.out⟩, ⟨pb_ BK138.out⟩, ⟨hs_⟩⟩
      case round =>
       clear H'; (try clear c1); (try clear p1); (try clear q1); (try clear hx1); (try clear p2); (try clear c7); (try clear c8); (try clear c9); (try clear c9b0); (try clear c10); (try clear c10b0); (try clear c11); (try clear c11b0); (try clear p13); (try clear q13); (try clear hx13); (try clear Z13); (try clear hx137_0); (try clear hx137_1); (try clear p137); (try clear p2); (try clear q137); obtain ⟨x5_2, x8_2, rfl, HA, HK2, HO_5, HO_12, BK138, HB⟩ := hrel
       cases gk with
       | zero => exact absurd HA.out (by simp [point_numbers.l1])
       | succ k2 =>
        have H := HA.out; clear HA; simp only [point_numbers.l1] at H
        by_cases c14 : x8_2 ≤ ((rd_T120 t134 x14_1).f1)
        ·rw [if_pos c14] at H
         have c14b0 := decide_eq_true c14; clear c14
         by_cases c15 : x5_2.length < 17592186044416
         ·rw [if_pos c15] at H
          have LMc15 := A_ c15; clear c15; obtain ⟨y139, hy139⟩ : ∃ y_ : List Int, y_ = (x5_2 ++ [x8_2]) := ⟨_, rfl⟩; (replace H : (point_numbers.l1 k2 y139 (wrap64 (x8_2 + 1)) t134 (t134.length : Int) x14_1 ((rd_T120 t134 x14_1).f0) ((rd_T120 t134 x14_1).f1)) = some r := hy_ hy139 H); have Ny139 := A_ hy139; clear hy139; have H' := A_ H; clear H; have Z16 := bz2_ BK138; go_wp2_with (first | ((with_reducible refine gate_builtin (b := .append) (xs := #[.tmp 26, .tmp 28]) rfl ?_); at_builtin; refine Kd.R_append (Kd.int .i64) (w0 := w) w.heap.size rfl (.tmp 26) (.tmp 28) 103 3 (.int .i64 0) 8 rfl Tryz.underlying103 info3 rfl (by decide) (by omega) u5 x5_2 x8_2 [.int .i64 x8_2] (fun _ => True) (fun _ => False) rfl rfl ?aP (fun _ hk => hk.elim) ?aF ?aO ?aB ?aS ?aL ?_; (case aP => exact rfl); (case aB => exact hs_); (case aF => exact (fun _ _ => trivial)); (case aO => exact (hrR_ HO_5.out)); (case aS => exact (below_size hs_)); (case aL => have := LMc15.out; omega); intro v140 w17 ho hb hg hat; rw [← Ny139.out] at ho; replace HO_12 := A_ (Kd.R_over' (hrR_ HO_12.out) (Kd.R_typed (hrR_ HO_5.out)) (by decide) hg); replace BK138 := A_ (blk_grown (g := gb138) (o := .cells #[.int .i64 ((rd_T120 t134 x14_1).f0), .int .i64 ((rd_T120 t134 x14_1).f1)] 120 (0, 0)) (bl_ BK138.out) hg (Kd.R_ne HO_5.out BK138.out (by decide))); replace HB := A_ (hb); have HO141 := A_ (ho); clear HO_5; clear ho hb hg hat)); go_roundg k2
          case measure => have := HK1.out; have := HK2.out; omega
          case rel => exact ⟨(y139), (wrap64 (x8_2 + 1)), rf_, H', ⟨by have := HK1.out; have := HK2.out; omega⟩, ⟨fxR_ HO141.out⟩, ⟨fxR_ HO_12.out⟩, ⟨bl_ BK138.out⟩, ⟨hs_⟩⟩
         ·rw [if_neg c15] at H
          exact absurd H (by simp)
        ·rw [if_neg c14] at H
         have c14b0 := decide_eq_false c14; clear c14; have H' := A_ H; clear H; have Z18 := bz2_ BK138; go_wp2; go_roundg k2
         case measure => have := HK1.out; have := HK2.out; omega
         case rel => exact ⟨(x5_2), (wrap64 (x14_1 + 1)), rf_, H', ⟨by have := HK1.out; have := HK2.out; omega⟩, ⟨fxR_ HO_5.out⟩, ⟨by (with_reducible repeat (first | apply Kd.R_alloc | apply Kd.R_drewN | apply Kd.R_drew)); exact Kd.R_mono HO_12.out (fun _ hk => trivial)⟩, ⟨hs_⟩⟩
     ·rw [if_neg c11] at H
      exact absurd H (by simp)
    ·rw [if_neg c10] at H
     exact absurd H (by simp)
   ·rw [if_neg c9] at H
    have c9b0 := decide_eq_false c9; clear c9; obtain rfl := Option.some.inj H; go_wp2; go_ret; exact ⟨_, by first | rfl | (simp [errW_none, errW_some] <;> rfl) | (simp [*, errW_none, errW_some] <;> rfl), fxR_ HO_5.out, hs_⟩
set_option maxHeartbeats 8000000 in
set_option maxRecDepth 100000 in
theorem point_some.calls (k : Nat) (a0 : ByteArray) (a1 a2 : Int) (r : Bool) (w : World) (h : point_some.f k a0 a1 a2 = some r) :
  Calls Tryz.prog 76 #[.string a0, .int .i64 a1, .int .i64 a2] w fun e w' => e = .returned (.bool r) ∧ Below w.heap.size w w' := by
 have HB := A_ (Below.refl w.heap.size w); have H : (if (a0.size : Int) = a1 then ((point_numbers.f k a0 a2).bind fun t142 => (some (decide ((t142.length : Int) > 0)))) else (some false)) = some r := h; clear h
 by_cases c4 : (a0.size : Int) = a1
 ·rw [if_pos c4] at H
  have c4b0 : ((a0.size : Int) == a1) = true := beq_iff_eq.mpr c4; have c4b1 : ((a0.size : Int) != a1) = false := bne_eq_false_iff_eq.mpr c4; clear c4; obtain ⟨t142, A5, H⟩ := bi_ H; obtain rfl := Option.some.inj H; go_enter Tryz.func76, Tryz.ntmps76; go_wp2_with (first | (go_at_call 85; (with_reducible refine (point_numbers.calls k a0 a2 t142 _ A5.out).mono ?_); rintro e w6 ⟨v143, rfl, ho0, hb⟩; have HO144 := A_ (Kd.R_lower ho0 (below_size hs_)); replace HB := bs_ hb; (try clear hb); (try clear ho0); obtain ⟨Ao7, co7, eo7⟩ := Kd.R_slice HO144.out; subst eo7)); go_ret; exact ⟨re_, hs_⟩
 ·rw [if_neg c4] at H
  have c4b0 : ((a0.size : Int) == a1) = false := beq_eq_false_iff_ne.mpr c4; have c4b1 : ((a0.size : Int) != a1) = true := bne_iff_ne.mpr c4; obtain rfl := Option.some.inj H; go_enter Tryz.func76, Tryz.ntmps76; go_wp2; go_ret; exact ⟨re_, hs_⟩
set_option maxHeartbeats 8000000 in
set_option maxRecDepth 100000 in
theorem point_Sane.calls (k : Nat) (a0_0 : Int) (a0_1 a0_2 a0_3 : ByteArray) (r : Bool) (w : World) (h : point_Sane.f k a0_0 a0_1 a0_2 a0_3 = some r) :
  Calls Tryz.prog 64 #[.agg #[.int .i64 a0_0, .string a0_1, .string a0_2, .string a0_3]] w fun e w' => e = .returned (.bool r) ∧ Below w.heap.size w w' := by
 have hu24 := Tryz.underlying24; have HB := A_ (Below.refl w.heap.size w); have H : ((mask_Sane.f a0_1).bind fun t146 => (if t146 = true then (if a0_2.toList = ([] : List UInt8) then (point_Sane.j0 k (a0_3.toList == ([] : List UInt8)) a0_0 a0_1 a0_2 a0_3) else (point_Sane.j0 k false a0_0 a0_1 a0_2 a0_3)) else (some false))) = some r := h; clear h; obtain ⟨t146, A2, H⟩ := bi_ H
 by_cases c3 : t146 = true
 ·subst c3
  replace H := iP_ H; have HC4 := A_ H; clear H; go_enter Tryz.func64, Tryz.ntmps64; go_upto_region 3 with (first | (refine gx_ w 1 (n4_ a0_0 a0_1 a0_2 a0_3) 24 ?_; clear HB; intro gb145 w5 BK145 GE145 HB; have GW145 := GE145; have Z6 := bz4_ BK145) | (refine gC 75 ?_; refine gL 6 Tryz.func75 #[.string a0_1] ?_; (with_reducible refine (mask_Sane.calls a0_1 true _ A2.out).mono ?_); rintro e w7 ⟨rfl, hb⟩; refine ⟨_, rfl, ?_⟩; replace BK145 := bb_ BK145 hb; replace HB := bs_ hb; (try clear hb))); (try simp only [Act.put, List.setIfInBounds_toArray, List.set_cons_zero, List.set_cons_succ]); go_cut [3] (fun v3 wc => ∃ (kq : Nat) (x3_3 : Bool), v3 = .bool x3_3 ∧ Aside0 (point_Sane.j0 kq x3_3 a0_0 a0_1 a0_2 a0_3 = some r) ∧ Aside0 (kq ≤ k) ∧ Aside0 (wc.heap[gb145]? = some (.cells (n4_ a0_0 a0_1 a0_2 a0_3) 24 (0, 0))) ∧ Aside0 (Below w.heap.size w wc))
  case first =>
   have H := HC4.out; clear HC4
   by_cases c8 : a0_2.toList = ([] : List UInt8)
   ·rw [if_pos c8] at H
    have c8b0 : (a0_2.toList == ([] : List UInt8)) = true := beq_iff_eq.mpr c8; have c8b1 : (a0_2.toList != ([] : List UInt8)) = false := bne_eq_false_iff_eq.mpr c8; clear c8; (first | rw [c8b0] | (simp only [i64_w, i32_w]; rw [c8b0]) | skip); have H' := A_ H; clear H; have Z9 := bz4_ BK145; go_wp2; go_meet
    case rel => exact ⟨_, ((a0_3.toList == ([] : List UInt8))), rf_, H', ⟨by first | omega | exact Nat.le_refl _⟩, ⟨bl_ BK145.out⟩, ⟨hs_⟩⟩
   ·rw [if_neg c8] at H
    have c8b0 : (a0_2.toList == ([] : List UInt8)) = false := beq_eq_false_iff_ne.mpr c8; have c8b1 : (a0_2.toList != ([] : List UInt8)) = true := bne_iff_ne.mpr c8; (first | rw [c8b0] | (simp only [i64_w, i32_w]; rw [c8b0]) | skip); have H' := A_ H; clear H; have Z10 := bz4_ BK145; go_wp2; go_meet
    case rel => exact ⟨_, (false), rf_, H', ⟨by first | omega | exact Nat.le_refl _⟩, ⟨bl_ BK145.out⟩, ⟨hs_⟩⟩
  case rest =>
   clear HC4; (try clear c2); (try clear p2); (try clear c3); (try clear c5); (try clear c8); (try clear c8b0); (try clear c8b1); (try clear Z10); (try clear Z6); (try clear Z9); obtain ⟨kq, x3_3, rfl, HA, HJ3, BK145, HB⟩ := hcut
   cases kq with
   | zero => exact absurd HA.out (by simp [point_Sane.j0])
   | succ kj3 =>
    have H := HA.out; clear HA; simp only [point_Sane.j0] at H
    by_cases c11 : a0_0 = 0
    ·rw [if_pos c11] at H
     have c11b0 : (a0_0 == 0) = true := beq_iff_eq.mpr c11; have c11b1 : (a0_0 != 0) = false := bne_eq_false_iff_eq.mpr c11; clear c11
     by_cases c12 : (a0_1.size : Int) = 4
     ·rw [if_pos c12] at H
      have c12b0 : ((a0_1.size : Int) == 4) = true := beq_iff_eq.mpr c12; have c12b1 : ((a0_1.size : Int) != 4) = false := bne_eq_false_iff_eq.mpr c12; clear c12; obtain ⟨t147, A13, H⟩ := bi_ H
      by_cases c14 : t147 = true
      ·subst c14
       replace H := iP_ H; obtain ⟨t148, A15, H⟩ := bi_ H; obtain rfl := Option.some.inj H; have Z16 := bz4_ BK145; go_wp2_with (first | (go_at_call 76; (with_reducible refine (point_some.calls kj3 a0_2 2 12 true _ A13.out).mono ?_); rintro e w17 ⟨rfl, hb⟩; replace BK145 := bb_ BK145 hb; replace HB := bs_ hb; (try clear hb); have Z18 := bz4_ BK145) | (go_at_call 76; (with_reducible refine (point_some.calls kj3 a0_3 2 31 t148 _ A15.out).mono ?_); rintro e w19 ⟨rfl, hb⟩; replace BK145 := bb_ BK145 hb; replace HB := bs_ hb; (try clear hb))); go_ret; exact ⟨re_, hs_⟩
      ·replace c14 := Bool.eq_false_iff.mpr c14
       subst c14; replace H := iN_ H; obtain rfl := Option.some.inj H; have Z20 := bz4_ BK145; go_wp2_with (first | (go_at_call 76; (with_reducible refine (point_some.calls kj3 a0_2 2 12 false _ A13.out).mono ?_); rintro e w21 ⟨rfl, hb⟩; replace BK145 := bb_ BK145 hb; replace HB := bs_ hb; (try clear hb))); go_ret; exact ⟨re_, hs_⟩
     ·rw [if_neg c12] at H
      have c12b0 : ((a0_1.size : Int) == 4) = false := beq_eq_false_iff_ne.mpr c12; have c12b1 : ((a0_1.size : Int) != 4) = true := bne_iff_ne.mpr c12; obtain rfl := Option.some.inj H; have Z22 := bz4_ BK145; go_wp2; go_ret; exact ⟨re_, hs_⟩
    ·rw [if_neg c11] at H
     have c11b0 : (a0_0 == 0) = false := beq_eq_false_iff_ne.mpr c11; have c11b1 : (a0_0 != 0) = true := bne_iff_ne.mpr c11
     by_cases c23 : a0_0 = 1
     ·rw [if_pos c23] at H
      have c23b0 : (a0_0 == 1) = true := beq_iff_eq.mpr c23; have c23b1 : (a0_0 != 1) = false := bne_eq_false_iff_eq.mpr c23; clear c23
      by_cases c24 : (a0_1.size : Int) = 4
      ·rw [if_pos c24] at H
       have c24b0 : ((a0_1.size : Int) == 4) = true := beq_iff_eq.mpr c24; have c24b1 : ((a0_1.size : Int) != 4) = false := bne_eq_false_iff_eq.mpr c24; clear c24; obtain ⟨t149, A25, H⟩ := bi_ H
       by_cases c26 : t149 = true
       ·subst c26
        replace H := iP_ H; obtain rfl := Option.some.inj H; have Z27 := bz4_ BK145; go_wp2_with (first | (go_at_call 76; (with_reducible refine (point_some.calls kj3 a0_2 2 12 true _ A25.out).mono ?_); rintro e w28 ⟨rfl, hb⟩; replace BK145 := bb_ BK145 hb; replace HB := bs_ hb; (try clear hb); have Z29 := bz4_ BK145)); go_ret; exact ⟨re_, hs_⟩
       ·replace c26 := Bool.eq_false_iff.mpr c26
        subst c26; replace H := iN_ H; obtain rfl := Option.some.inj H; have Z30 := bz4_ BK145; go_wp2_with (first | (go_at_call 76; (with_reducible refine (point_some.calls kj3 a0_2 2 12 false _ A25.out).mono ?_); rintro e w31 ⟨rfl, hb⟩; replace BK145 := bb_ BK145 hb; replace HB := bs_ hb; (try clear hb))); go_ret; exact ⟨re_, hs_⟩
      ·rw [if_neg c24] at H
       have c24b0 : ((a0_1.size : Int) == 4) = false := beq_eq_false_iff_ne.mpr c24; have c24b1 : ((a0_1.size : Int) != 4) = true := bne_iff_ne.mpr c24; obtain rfl := Option.some.inj H; have Z32 := bz4_ BK145; go_wp2; go_ret; exact ⟨re_, hs_⟩
     ·rw [if_neg c23] at H
      have c23b0 : (a0_0 == 1) = false := beq_eq_false_iff_ne.mpr c23; have c23b1 : (a0_0 != 1) = true := bne_iff_ne.mpr c23
      by_cases c33 : a0_0 = 2
      ·rw [if_pos c33] at H
       have c33b0 : (a0_0 == 2) = true := beq_iff_eq.mpr c33; have c33b1 : (a0_0 != 2) = false := bne_eq_false_iff_eq.mpr c33; clear c33
       by_cases c34 : (a0_1.size : Int) = 4
       ·rw [if_pos c34] at H
        have c34b0 : ((a0_1.size : Int) == 4) = true := beq_iff_eq.mpr c34; have c34b1 : ((a0_1.size : Int) != 4) = false := bne_eq_false_iff_eq.mpr c34; clear c34; obtain ⟨t150, A35, H⟩ := bi_ H
        by_cases c36 : t150 = true
        ·subst c36
         replace H := iP_ H; obtain rfl := Option.some.inj H; have Z37 := bz4_ BK145; go_wp2_with (first | (go_at_call 76; (with_reducible refine (point_some.calls kj3 a0_2 1 4 true _ A35.out).mono ?_); rintro e w38 ⟨rfl, hb⟩; replace BK145 := bb_ BK145 hb; replace HB := bs_ hb; (try clear hb); have Z39 := bz4_ BK145)); go_ret; exact ⟨re_, hs_⟩
        ·replace c36 := Bool.eq_false_iff.mpr c36
         subst c36; replace H := iN_ H; obtain rfl := Option.some.inj H; have Z40 := bz4_ BK145; go_wp2_with (first | (go_at_call 76; (with_reducible refine (point_some.calls kj3 a0_2 1 4 false _ A35.out).mono ?_); rintro e w41 ⟨rfl, hb⟩; replace BK145 := bb_ BK145 hb; replace HB := bs_ hb; (try clear hb))); go_ret; exact ⟨re_, hs_⟩
       ·rw [if_neg c34] at H
        have c34b0 : ((a0_1.size : Int) == 4) = false := beq_eq_false_iff_ne.mpr c34; have c34b1 : ((a0_1.size : Int) != 4) = true := bne_iff_ne.mpr c34; obtain rfl := Option.some.inj H; have Z42 := bz4_ BK145; go_wp2; go_ret; exact ⟨re_, hs_⟩
      ·rw [if_neg c33] at H
       have c33b0 : (a0_0 == 2) = false := beq_eq_false_iff_ne.mpr c33; have c33b1 : (a0_0 != 2) = true := bne_iff_ne.mpr c33
       by_cases c43 : a0_0 = 3
       ·rw [if_pos c43] at H
        have c43b0 : (a0_0 == 3) = true := beq_iff_eq.mpr c43; have c43b1 : (a0_0 != 3) = false := bne_eq_false_iff_eq.mpr c43; clear c43
        by_cases c44 : (a0_1.size : Int) = 4
        ·rw [if_pos c44] at H
         have c44b0 : ((a0_1.size : Int) == 4) = true := beq_iff_eq.mpr c44; have c44b1 : ((a0_1.size : Int) != 4) = false := bne_eq_false_iff_eq.mpr c44; clear c44; obtain rfl := Option.some.inj H; have Z45 := bz4_ BK145; go_wp2; go_ret; exact ⟨re_, hs_⟩
        ·rw [if_neg c44] at H
         have c44b0 : ((a0_1.size : Int) == 4) = false := beq_eq_false_iff_ne.mpr c44; have c44b1 : ((a0_1.size : Int) != 4) = true := bne_iff_ne.mpr c44; obtain rfl := Option.some.inj H; have Z46 := bz4_ BK145; go_wp2; go_ret; exact ⟨re_, hs_⟩
       ·rw [if_neg c43] at H
        have c43b0 : (a0_0 == 3) = false := beq_eq_false_iff_ne.mpr c43; have c43b1 : (a0_0 != 3) = true := bne_iff_ne.mpr c43
        by_cases c47 : a0_0 = 4
        ·rw [if_pos c47] at H
         have c47b0 : (a0_0 == 4) = true := beq_iff_eq.mpr c47; have c47b1 : (a0_0 != 4) = false := bne_eq_false_iff_eq.mpr c47; clear c47
         by_cases c48 : (a0_1.size : Int) = 3
         ·rw [if_pos c48] at H
          have c48b0 : ((a0_1.size : Int) == 3) = true := beq_iff_eq.mpr c48; have c48b1 : ((a0_1.size : Int) != 3) = false := bne_eq_false_iff_eq.mpr c48; clear c48; obtain rfl := Option.some.inj H; have Z49 := bz4_ BK145; go_wp2; go_ret; exact ⟨re_, hs_⟩
         ·rw [if_neg c48] at H
          have c48b0 : ((a0_1.size : Int) == 3) = false := beq_eq_false_iff_ne.mpr c48; have c48b1 : ((a0_1.size : Int) != 3) = true := bne_iff_ne.mpr c48; obtain rfl := Option.some.inj H; have Z50 := bz4_ BK145; go_wp2; go_ret; exact ⟨re_, hs_⟩
        ·rw [if_neg c47] at H
         have c47b0 : (a0_0 == 4) = false := beq_eq_false_iff_ne.mpr c47; have c47b1 : (a0_0 != 4) = true := bne_iff_ne.mpr c47
         by_cases c51 : a0_0 = 5
         ·rw [if_pos c51] at H
          have c51b0 : (a0_0 == 5) = true := beq_iff_eq.mpr c51; have c51b1 : (a0_0 != 5) = false := bne_eq_false_iff_eq.mpr c51; clear c51
          by_cases c52 : (a0_1.size : Int) = 2
          ·rw [if_pos c52] at H
           have c52b0 : ((a0_1.size : Int) == 2) = true := beq_iff_eq.mpr c52; have c52b1 : ((a0_1.size : Int) != 2) = false := bne_eq_false_iff_eq.mpr c52; clear c52; obtain rfl := Option.some.inj H; have Z53 := bz4_ BK145; go_wp2; go_ret; exact ⟨re_, hs_⟩
          ·rw [if_neg c52] at H
           have c52b0 : ((a0_1.size : Int) == 2) = false := beq_eq_false_iff_ne.mpr c52; have c52b1 : ((a0_1.size : Int) != 2) = true := bne_iff_ne.mpr c52; obtain rfl := Option.some.inj H; have Z54 := bz4_ BK145; go_wp2; go_ret; exact ⟨re_, hs_⟩
         ·rw [if_neg c51] at H
          have c51b0 : (a0_0 == 5) = false := beq_eq_false_iff_ne.mpr c51; have c51b1 : (a0_0 != 5) = true := bne_iff_ne.mpr c51; obtain rfl := Option.some.inj H; have Z55 := bz4_ BK145; go_wp2; go_ret; exact ⟨re_, hs_⟩
 ·replace c3 := Bool.eq_false_iff.mpr c3
  subst c3; replace H := iN_ H; obtain rfl := Option.some.inj H; go_enter Tryz.func64, Tryz.ntmps64; go_wp2_with (first | (refine gx_ w 1 (n4_ a0_0 a0_1 a0_2 a0_3) 24 ?_; clear HB; intro gb145 w56 BK145 GE145 HB; have GW145 := GE145; have Z57 := bz4_ BK145) | (refine gC 75 ?_; refine gL 6 Tryz.func75 #[.string a0_1] ?_; (with_reducible refine (mask_Sane.calls a0_1 false _ A2.out).mono ?_); rintro e w58 ⟨rfl, hb⟩; refine ⟨_, rfl, ?_⟩; replace BK145 := bb_ BK145 hb; replace HB := bs_ hb; (try clear hb))); go_ret; exact ⟨re_, hs_⟩
set_option maxHeartbeats 8000000 in
set_option maxRecDepth 100000 in
theorem point_Read.calls (k : Nat) (a0 : ByteArray) (r1 : Int) (r2 r3 r4 : ByteArray) (r5 : Bool) (w : World) (h : point_Read.f k a0 = some (r1, r2, r3, r4, r5)) :
  Calls Tryz.prog 80 #[.string a0] w fun e w' => e = .returned (.tuple #[.agg #[.int .i64 r1, .string r2, .string r3, .string r4], .bool r5]) ∧ Below w.heap.size w w' := by
 have hu24 := Tryz.underlying24; have HB := A_ (Below.refl w.heap.size w); have H : ((point_guess.f a0).bind fun bt123 => ((point_Sane.f k bt123.1 bt123.2.1 bt123.2.2.1 bt123.2.2.2).bind fun t128 => (if t128 = true then (some (bt123.1, bt123.2.1, bt123.2.2.1, bt123.2.2.2, true)) else (some (0, (⟨#[]⟩ : ByteArray), (⟨#[]⟩ : ByteArray), (⟨#[]⟩ : ByteArray), false))))) = some (r1, r2, r3, r4, r5) := h; clear h; obtain ⟨⟨t123, t124, t125, t126⟩, A2, H⟩ := bi_ H; obtain ⟨t128, A3, H⟩ := bi_ H
 by_cases c4 : t128 = true
 ·subst c4
  (have H1 : (some (t123, t124, t125, t126, true)) = some (r1, r2, r3, r4, r5) := by rw [if_pos rfl] at H; exact H); clear H; have H := H1; clear H1; simp only [Option.some.injEq, Prod.mk.injEq] at H; obtain ⟨rfl, rfl, rfl, rfl, rfl⟩ := H; go_enter Tryz.func80, Tryz.ntmps80; go_wp2_with (first | ((with_reducible refine gD 2 ?_); refine gx_ w 2 z4_ 24 ?_; clear HB; intro gb122 w5 BK122 GE122 HB; have GW122 := GE122) | ((with_reducible refine gC 88 ?_); refine goesL_ (some 6) rfl rfl Tryz.func88 (by kernel_rfl) rfl #[.string a0] rfl ml_ ?_; (with_reducible refine (point_guess.calls a0 t123 t124 t125 t126 _ A2.out).mono ?_); rintro e w6 ⟨rfl, hb⟩; refine ⟨_, rfl, ?_⟩; replace BK122 := bb_ BK122 hb; replace HB := bs_ hb; (try clear hb)) | ((with_reducible refine gD 4 ?_); refine bxe_ 4 z4_ 24 ?_; intro gb127 hg w7 hbox hb; have BK127 := A_ (hbox); have GW127 := gs_ w hg; have GE127 := gs_ w hg; replace HB := bs_ hb; have NB122_127 := nl_ BK122 hg; have NB127_122 := ng_ BK122 hg; replace BK122 := bb_ BK122 hb; clear hb hbox hg; have hnb8 := NB127_122.out; have hnc8 := NB122_127.out; have Z9 := bz4_ BK127) | ((with_reducible refine gC 64 ?_); refine goesL_ (some 8) rfl rfl Tryz.func64 (by kernel_rfl) rfl #[.agg #[.int .i64 t123, .string t124, .string t125, .string t126]] rfl ml_ ?_; (with_reducible refine (point_Sane.calls k t123 t124 t125 t126 true _ A3.out).mono ?_); rintro e w10 ⟨rfl, hb⟩; refine ⟨_, rfl, ?_⟩; replace BK122 := A_ (blk_below (g := gb122) (o := .cells z4_ 24 (0, 0)) (pf_ NB122_127 BK122) hb); replace BK127 := bp_ BK127 (.cells (n4_ t123 t124 t125 t126) 24 (0, 0)) hb; replace HB := bs_ hb; (try clear hb); have Z11 := bz4_ BK127; have Z12 := bz4_ BK122))
  refine bodyPost_ret (results_ct rfl _ _ gb122 24 #[.int .i64 t123, .string t124, .string t125, .string t126] (0, 0) _ rfl (pb_ BK122.out) Tryz.underlying24 rfl (by kernel_rfl)) rfl ?_; exact ⟨re_, hs_⟩
 ·replace c4 := Bool.eq_false_iff.mpr c4
  subst c4; (have H1 : (some (0, (⟨#[]⟩ : ByteArray), (⟨#[]⟩ : ByteArray), (⟨#[]⟩ : ByteArray), false)) = some (r1, r2, r3, r4, r5) := by rw [if_neg (show ¬ (false = true) by decide)] at H; exact H); clear H; have H := H1; clear H1; simp only [Option.some.injEq, Prod.mk.injEq] at H; obtain ⟨rfl, rfl, rfl, rfl, rfl⟩ := H; go_enter Tryz.func80, Tryz.ntmps80; go_wp2_with (first | ((with_reducible refine gD 2 ?_); refine gx_ w 2 z4_ 24 ?_; clear HB; intro gb122 w13 BK122 GE122 HB; have GW122 := GE122) | ((with_reducible refine gC 88 ?_); refine goesL_ (some 6) rfl rfl Tryz.func88 (by kernel_rfl) rfl #[.string a0] rfl ml_ ?_; (with_reducible refine (point_guess.calls a0 t123 t124 t125 t126 _ A2.out).mono ?_); rintro e w14 ⟨rfl, hb⟩; refine ⟨_, rfl, ?_⟩; replace BK122 := bb_ BK122 hb; replace HB := bs_ hb; (try clear hb)) | ((with_reducible refine gD 4 ?_); refine bxe_ 4 z4_ 24 ?_; intro gb127 hg w15 hbox hb; have BK127 := A_ (hbox); have GW127 := gs_ w hg; have GE127 := gs_ w hg; replace HB := bs_ hb; have NB122_127 := nl_ BK122 hg; have NB127_122 := ng_ BK122 hg; replace BK122 := bb_ BK122 hb; clear hb hbox hg; have hnb16 := NB127_122.out; have hnc16 := NB122_127.out; have Z17 := bz4_ BK127) | ((with_reducible refine gC 64 ?_); refine goesL_ (some 8) rfl rfl Tryz.func64 (by kernel_rfl) rfl #[.agg #[.int .i64 t123, .string t124, .string t125, .string t126]] rfl ml_ ?_; (with_reducible refine (point_Sane.calls k t123 t124 t125 t126 false _ A3.out).mono ?_); rintro e w18 ⟨rfl, hb⟩; refine ⟨_, rfl, ?_⟩; replace BK122 := A_ (blk_below (g := gb122) (o := .cells z4_ 24 (0, 0)) (pf_ NB122_127 BK122) hb); replace BK127 := bp_ BK127 (.cells (n4_ t123 t124 t125 t126) 24 (0, 0)) hb; replace HB := bs_ hb; (try clear hb); have Z19 := bz4_ BK122))
  refine bodyPost_ret (results_ct rfl _ _ gb122 24 #[.int .i64 0, .string ⟨#[]⟩, .string ⟨#[]⟩, .string ⟨#[]⟩] (0, 0) _ rfl (pb_ BK122.out) Tryz.underlying24 rfl (by kernel_rfl)) rfl ?_; exact ⟨re_, hs_⟩
def tree_Between.f (a0_0 : Int) (a0_1 : Int) (a0_2 : ByteArray) (a0_3 : ByteArray) (a0_4 : ByteArray) (a0_5 : Bool) (a0_6 : Bool) (l0_7 : List (S27)) (a1_0 : Int) (a1_1 : Int) (a1_2 : ByteArray) (a1_3 : ByteArray) (a1_4 : ByteArray) (a1_5 : Bool) (a1_6 : Bool) (l1_7 : List (S27)) : Option (Int × Int × ByteArray × ByteArray × ByteArray × Bool × Bool × (List (S27))) := some (1, 0, (⟨#[]⟩ : ByteArray), (⟨#[]⟩ : ByteArray), (⟨#[]⟩ : ByteArray), false, false, (([(⟨a0_0, (⟨a0_1, a0_2, a0_3, a0_4⟩ : S24), a0_5, a0_6, l0_7⟩ : S27), (⟨a1_0, (⟨a1_1, a1_2, a1_3, a1_4⟩ : S24), a1_5, a1_6, l1_7⟩ : S27)] : List (S27))))
set_option maxHeartbeats 8000000 in
set_option maxRecDepth 100000 in
theorem tree_Between.calls (a0_0 a0_1 : Int) (a0_2 a0_3 a0_4 : ByteArray) (a0_5 a0_6 : Bool) (P0_7_ : Nat → Prop) (A0_7 : Option Addr) (c0_7 : Nat) (l0_7 : List (S27)) (a1_0 a1_1 : Int) (a1_2 a1_3 a1_4 : ByteArray) (a1_5 a1_6 : Bool) (P1_7_ : Nat → Prop) (A1_7 : Option Addr) (c1_7 : Nat) (l1_7 : List (S27)) (r1 r2 : Int) (r3 r4 r5 : ByteArray) (r6 r7 : Bool) (r8 : List (S27)) (w : World) (hs0_7 : Kd.V k27 27 w w.heap.size (fun k_ => P0_7_ k_) (.slice A0_7 l0_7.length c0_7) l0_7) (hs1_7 : Kd.V k27 27 w w.heap.size (fun k_ => P1_7_ k_) (.slice A1_7 l1_7.length c1_7) l1_7) (h : tree_Between.f a0_0 a0_1 a0_2 a0_3 a0_4 a0_5 a0_6 l0_7 a1_0 a1_1 a1_2 a1_3 a1_4 a1_5 a1_6 l1_7 = some (r1, r2, r3, r4, r5, r6, r7, r8)) :
  Calls Tryz.prog 59 #[.agg #[.int .i64 a0_0, .int .i64 a0_1, .string a0_2, .string a0_3, .string a0_4, .bool a0_5, .bool a0_6, .slice A0_7 l0_7.length c0_7], .agg #[.int .i64 a1_0, .int .i64 a1_1, .string a1_2, .string a1_3, .string a1_4, .bool a1_5, .bool a1_6, .slice A1_7 l1_7.length c1_7]] w fun e w' => ∃ v7_ : Value, e = .returned (.agg #[.int .i64 r1, .int .i64 r2, .string r3, .string r4, .string r5, .bool r6, .bool r7, v7_]) ∧ Kd.N k27 27 w' w.heap.size (fun k_ => ((P0_7_ k_ ∨ P1_7_ k_) ∨ w.heap.size ≤ k_)) v7_ r8 ∧ Below w.heap.size w w' := by
 have hu27 := Tryz.underlying27; have HO0_7 := A_ (show Kd.V k27 27 w w.heap.size (fun k_ => ((P0_7_ k_ ∨ P1_7_ k_) ∨ w.heap.size ≤ k_)) (.slice A0_7 l0_7.length c0_7) l0_7 from Kd.V_mono hs0_7 (fun k_ hk => .inl (.inl hk))); have HO1_7 := A_ (show Kd.V k27 27 w w.heap.size (fun k_ => ((P0_7_ k_ ∨ P1_7_ k_) ∨ w.heap.size ≤ k_)) (.slice A1_7 l1_7.length c1_7) l1_7 from Kd.V_mono hs1_7 (fun k_ hk => .inl (.inr hk))); have HB := A_ (Below.refl w.heap.size w); have H : (some (1, 0, (⟨#[]⟩ : ByteArray), (⟨#[]⟩ : ByteArray), (⟨#[]⟩ : ByteArray), false, false, (([(⟨a0_0, (⟨a0_1, a0_2, a0_3, a0_4⟩ : S24), a0_5, a0_6, l0_7⟩ : S27), (⟨a1_0, (⟨a1_1, a1_2, a1_3, a1_4⟩ : S24), a1_5, a1_6, l1_7⟩ : S27)] : List (S27))))) = some (r1, r2, r3, r4, r5, r6, r7, r8) := h; clear h; obtain ⟨y175, hy175⟩ : ∃ y_ : List (S27), y_ = (([(⟨a0_0, (⟨a0_1, a0_2, a0_3, a0_4⟩ : S24), a0_5, a0_6, l0_7⟩ : S27), (⟨a1_0, (⟨a1_1, a1_2, a1_3, a1_4⟩ : S24), a1_5, a1_6, l1_7⟩ : S27)] : List (S27))) := ⟨_, rfl⟩; (replace H : (some (1, 0, (⟨#[]⟩ : ByteArray), (⟨#[]⟩ : ByteArray), (⟨#[]⟩ : ByteArray), false, false, y175)) = some (r1, r2, r3, r4, r5, r6, r7, r8) := hy_ hy175 H); have Ny175 := A_ hy175; clear hy175; simp only [Option.some.injEq, Prod.mk.injEq] at H; obtain ⟨rfl, rfl, rfl, rfl, rfl, rfl, rfl, rfl⟩ := H; go_enter Tryz.func59, Tryz.ntmps59; go_wp2_with (first | ((with_reducible refine gD 2 ?_); refine bxe_ 2 (n8_ a0_0 a0_1 a0_2 a0_3 a0_4 a0_5 a0_6 (.slice A0_7 l0_7.length c0_7)) 27 ?_; intro gb172 hg w3 hbox hb; replace HO0_7 := eV_ HO0_7 hg hb; replace HO1_7 := eV_ HO1_7 hg hb; have BK172 := A_ (hbox); have GW172 := gs_ w hg; have GE172 := gs_ w hg; replace HB := bs_ hb; clear hb hbox hg) | ((with_reducible refine gD 3 ?_); refine bxe_ 3 (n8_ a1_0 a1_1 a1_2 a1_3 a1_4 a1_5 a1_6 (.slice A1_7 l1_7.length c1_7)) 27 ?_; intro gb173 hg w4 hbox hb; replace HO0_7 := eV_ HO0_7 hg hb; replace HO1_7 := eV_ HO1_7 hg hb; have BK173 := A_ (hbox); have GW173 := gs_ w hg; have GE173 := gs_ w hg; replace HB := bs_ hb; have NB172_173 := nl_ BK172 hg; have NB173_172 := ng_ BK172 hg; replace BK172 := bb_ BK172 hb; clear hb hbox hg) | ((with_reducible refine gD 4 ?_); refine bxe_ 4 z8_ 27 ?_; intro gb174 hg w5 hbox hb; replace HO0_7 := eV_ HO0_7 hg hb; replace HO1_7 := eV_ HO1_7 hg hb; have BK174 := A_ (hbox); have GW174 := gs_ w hg; have GE174 := gs_ w hg; replace HB := bs_ hb; have NB172_174 := nl_ BK172 hg; have NB174_172 := ng_ BK172 hg; replace BK172 := bb_ BK172 hb; have NB173_174 := nl_ BK173 hg; have NB174_173 := ng_ BK173 hg; replace BK173 := bb_ BK173 hb; clear hb hbox hg; have hnb6 := NB172_173.out; have hnc6 := NB173_172.out; have hnb7 := NB172_174.out; have hnc7 := NB174_172.out; have Z8 := bz8_ BK172; have hnb9 := NB173_174.out; have hnc9 := NB174_173.out; have Z10 := bz8_ BK173) | ((with_reducible refine gD 7 ?_); refine Kd.N_lit k27 _ 27 ?hg (N' := 7) ?hd (xs := ([(⟨a0_0, (⟨a0_1, a0_2, a0_3, a0_4⟩ : S24), a0_5, a0_6, l0_7⟩ : S27), (⟨a1_0, (⟨a1_1, a1_2, a1_3, a1_4⟩ : S24), a1_5, a1_6, l1_7⟩ : S27)] : List (S27))) (inner := [.int .i64 a0_0, .int .i64 a0_1, .string a0_2, .string a0_3, .string a0_4, .bool a0_5, .bool a0_6, .slice A0_7 l0_7.length c0_7, .int .i64 a1_0, .int .i64 a1_1, .string a1_2, .string a1_3, .string a1_4, .bool a1_5, .bool a1_6, .slice A1_7 l1_7.length c1_7]) (ok := (fun k_ => ((P0_7_ k_ ∨ P1_7_ k_) ∨ w.heap.size ≤ k_) ∧ k_ ≠ gb172 ∧ k_ ≠ gb173 ∧ k_ ≠ gb174)) (okp := (fun k_ => ((P0_7_ k_ ∨ P1_7_ k_) ∨ w.heap.size ≤ k_) ∧ k_ ≠ gb172 ∧ k_ ≠ gb173 ∧ k_ ≠ gb174)) ?hr ?hp (fun _ hk => hk) ((show ∀ k_, w5.heap.size ≤ k_ → (fun k_ => ((P0_7_ k_ ∨ P1_7_ k_) ∨ w.heap.size ≤ k_) ∧ k_ ≠ gb172 ∧ k_ ≠ gb173 ∧ k_ ≠ gb174) k_ from fun k_ hk => ⟨(.inr (Nat.le_trans (below_size hs_) hk)), fb_ BK172 k_ hk, fb_ BK173 k_ hk, fb_ BK174 k_ hk⟩) _ (Nat.le_refl _)) (Below.refl _ _) (Nat.le_refl _) (by simp) ?_; (case hd => rfl); (case hg => rfl); (case hr => first | (go_simp; done) | (go_simp; rfl)); (case hp => exact (Reps.c8 (show Kd.FK k27 _ _ (⟨a0_0, (⟨a0_1, a0_2, a0_3, a0_4⟩ : S24), a0_5, a0_6, l0_7⟩ : S27) [.int .i64 a0_0, .int .i64 a0_1, .string a0_2, .string a0_3, .string a0_4, .bool a0_5, .bool a0_6, .slice A0_7 l0_7.length c0_7] from (k27_mkF _ _ (⟨a0_0, (⟨a0_1, a0_2, a0_3, a0_4⟩ : S24), a0_5, a0_6, l0_7⟩ : S27) (Kd.V_reads' (Kd.V_mono (ok' := (fun k_ => ((P0_7_ k_ ∨ P1_7_ k_) ∨ w.heap.size ≤ k_) ∧ k_ ≠ gb172 ∧ k_ ≠ gb173 ∧ k_ ≠ gb174)) (HO0_7.out) (fun k_ hk => ⟨hk.1.1.1, ⟨hk.1.1.2, ⟨hk.1.2, hk.2⟩⟩⟩))).2.1 (Kd.V_F (Kd.V_mono (ok' := (fun k_ => ((P0_7_ k_ ∨ P1_7_ k_) ∨ w.heap.size ≤ k_) ∧ k_ ≠ gb172 ∧ k_ ≠ gb173 ∧ k_ ≠ gb174)) (HO0_7.out) (fun k_ hk => ⟨hk.1.1.1, ⟨hk.1.1.2, ⟨hk.1.2, hk.2⟩⟩⟩))))) (Reps.c8 (show Kd.FK k27 _ _ (⟨a1_0, (⟨a1_1, a1_2, a1_3, a1_4⟩ : S24), a1_5, a1_6, l1_7⟩ : S27) [.int .i64 a1_0, .int .i64 a1_1, .string a1_2, .string a1_3, .string a1_4, .bool a1_5, .bool a1_6, .slice A1_7 l1_7.length c1_7] from (k27_mkF _ _ (⟨a1_0, (⟨a1_1, a1_2, a1_3, a1_4⟩ : S24), a1_5, a1_6, l1_7⟩ : S27) (Kd.V_reads' (Kd.V_mono (ok' := (fun k_ => ((P0_7_ k_ ∨ P1_7_ k_) ∨ w.heap.size ≤ k_) ∧ k_ ≠ gb172 ∧ k_ ≠ gb173 ∧ k_ ≠ gb174)) (HO1_7.out) (fun k_ hk => ⟨hk.1.1.1, ⟨hk.1.1.2, ⟨hk.1.2, hk.2⟩⟩⟩))).2.1 (Kd.V_F (Kd.V_mono (ok' := (fun k_ => ((P0_7_ k_ ∨ P1_7_ k_) ∨ w.heap.size ≤ k_) ∧ k_ ≠ gb172 ∧ k_ ≠ gb173 ∧ k_ ≠ gb174)) (HO1_7.out) (fun k_ hk => ⟨hk.1.1.1, ⟨hk.1.1.2, ⟨hk.1.2, hk.2⟩⟩⟩))))) (Reps.none _ _)))); intro v176 w11 ho12 hb hg_ hnew_; clear hg_ hnew_; (first | rw [← Ny175.out] at ho12 | (simp only [Int.reduceToNat] at ho12; rw [← Ny175.out] at ho12)); replace HO0_7 := A_ (Kd.V_elder' (hrV_ HO0_7.out) (Kd.N_base ho12) hb); replace HO1_7 := A_ (Kd.V_elder' (hrV_ HO1_7.out) (Kd.N_base ho12) hb); have HO177 := A_ (Kd.N_lower ho12 (below_size hs_)); replace BK172 := bb_ BK172 hb; replace BK173 := bb_ BK173 hb; replace BK174 := bb_ BK174 hb; replace HB := bs_ hb; clear hb ho12; obtain ⟨Ao13, co13, eo13⟩ := Kd.N_slice HO177.out; subst eo13; have Z14 := bz8_ BK174))
 refine bodyPost_ret (results_cell_row rfl _ _ gb174 27 #[.int .i64 1, .int .i64 0, .string ⟨#[]⟩, .string ⟨#[]⟩, .string ⟨#[]⟩, .bool false, .bool false, .slice Ao13 y175.length co13] (0, 0) _ rfl (pb_ BK174.out) Tryz.underlying27 rfl (by kernel_rfl)) rfl ?_; exact ⟨_, by first | rfl | (simp [errW_none, errW_some] <;> rfl) | (simp [*, errW_none, errW_some] <;> rfl), by (with_reducible repeat (first | apply Kd.N_alloc | apply Kd.N_drewN | apply Kd.N_drew)); exact Kd.N_mono (Kd.N_far (p := ⟨gb174, 7, none⟩) (Kd.N_far (p := ⟨gb174, 6, none⟩) (Kd.N_far (p := ⟨gb174, 5, none⟩) (Kd.N_far (p := ⟨gb174, 4, none⟩) (Kd.N_far (p := ⟨gb174, 3, none⟩) (Kd.N_far (p := ⟨gb174, 2, none⟩) (Kd.N_far (p := ⟨gb174, 1, none⟩) (Kd.N_far (p := ⟨gb174, 0, none⟩) (Kd.N_mono HO177.out (fun k_ hk => (⟨hk, hk.2.2.2⟩ : _ ∧ k_ ≠ gb174))) (fun _ hk => hk.2) (.int .i64 1)) (fun _ hk => hk.2) (.int .i64 0)) (fun _ hk => hk.2) (.string ⟨#[]⟩)) (fun _ hk => hk.2) (.string ⟨#[]⟩)) (fun _ hk => hk.2) (.string ⟨#[]⟩)) (fun _ hk => hk.2) (.bool false)) (fun _ hk => hk.2) (.bool false)) (fun _ hk => hk.2) (.slice Ao13 y175.length co13)) (fun _ hk => hk.1.1), hs_⟩
theorem eql_nil24 (w : World) (a : Option Addr) (n c : Nat) : (binOp .eql 25 (.slice a n c) (.slice none 0 0)).run Tryz.prog w = .ok (.bool a.isNone) w := Lib.run_eql_slice_nil w 25 27 a n c 0 0 Tryz.underlying25
attribute [local go_sem] eql_nil24
set_option maxHeartbeats 8000000 in
set_option maxRecDepth 100000 in
theorem slices_Clone.calls (P0_ : Nat → Prop) (A0 : Option Addr) (c0 : Nat) (l0 r : List (S27)) (w : World) (hs0 : Kd.V k27 27 w w.heap.size (fun k_ => P0_ k_) (.slice A0 l0.length c0) l0) (h : slices_Clone.f l0 = some r) :
    Calls Tryz.prog 31 #[.slice A0 l0.length c0] w fun e w' => ∃ v0_ : Value, e = .returned (v0_) ∧ Kd.N k27 27 w' w.heap.size (fun k_ => (P0_ k_ ∨ w.heap.size ≤ k_)) v0_ r ∧ Below w.heap.size w w' := by
  have HO0 := A_ (show Kd.V k27 27 w w.heap.size (fun k_ => (P0_ k_ ∨ w.heap.size ≤ k_)) (.slice A0 l0.length c0) l0 from Kd.V_mono hs0 (fun k_ hk => .inl hk))
  have HB := A_ (Below.refl w.heap.size w)
  unfold slices_Clone.f at h
  by_cases c3 : l0.length < 1466015503701
  · rw [if_pos c3] at h
    have hr := Option.some.inj h
    clear h
    cases A0 with
    | none =>
      subst hr
      obtain ⟨A_, c_, e_, hl_, hf_⟩ := hs0
      have h0 : l0 = [] := by
        cases l0 with
        | nil => rfl
        | cons x t => obtain ⟨ad, _, e, _⟩ := Kd.C_get (Kd.F_now hf_) z27 0 (by omega) (by simp); injection e_ with e1; rw [← e1] at e; exact absurd e (by simp)
      subst h0
      clear e_ hl_ hf_ HO0
      go_enter Tryz.func31, Tryz.ntmps31
      go_wp2
      go_ret
      exact ⟨_, rfl, by exact Kd.N_nil _ _ _ _ _, HB.out⟩
    | some ad0 =>
    obtain ⟨y101, hy101⟩ : ∃ y_ : List (S27), y_ = (([] : List (S27))) := ⟨_, rfl⟩
    have Ny101 := A_ hy101
    replace c3 : y101.length + l0.length < 1466015503701 := by rw [hy101]; simpa using c3
    clear hy101
    have LMc3 := A_ c3
    clear c3
    obtain ⟨y104, hy104⟩ : ∃ y_ : List (S27), y_ = (y101 ++ l0) := ⟨_, rfl⟩
    have hy104_ := hy104
    have Ny104 := A_ hy104
    clear hy104
    have H2 : r = y104 := by rw [← hr, hy104_, Ny101.out]; rfl
    subst H2
    clear hy104_ hr
    go_enter Tryz.func31, Tryz.ntmps31
    go_wp2_with (first | (refine gD 5 ?_; refine Kd.N_lit k27 _ 27 ?hg (N' := 5) ?hd (xs := ([] : List (S27))) (inner := []) (ok := (fun k_ => (P0_ k_ ∨ w.heap.size ≤ k_))) (okp := (fun k_ => (P0_ k_ ∨ w.heap.size ≤ k_))) ?hr ?hp (fun _ hk => hk) ((show ∀ k_, w.heap.size ≤ k_ → (fun k_ => (P0_ k_ ∨ w.heap.size ≤ k_)) k_ from fun k_ hk => (.inr (Nat.le_trans (below_size hs_) hk))) _ (Nat.le_refl _)) (Below.refl _ _) (Nat.le_refl _) (by simp) ?_; (case hd => rfl); (case hg => rfl); (case hr => first | (go_simp; done) | (go_simp; rfl)); (case hp => exact (Reps.none _ _)); intro v163 w4 ho5 hb hg_ hnew_; clear hg_ hnew_; (first | rw [← Ny101.out] at ho5 | (simp only [Int.reduceToNat] at ho5; rw [← Ny101.out] at ho5)); replace HO0 := A_ (Kd.V_elder' (fxV_ HO0.out) (Kd.N_base ho5) hb); have HO164 := A_ (Kd.N_lower ho5 (below_size hs_)); replace HB := bs_ hb; clear hb ho5) | ((with_reducible refine gate_builtin (b := .append) (xs := #[.tmp 5, .tmp 6]) rfl ?_); at_builtin; refine Kd.N_append_rows k27 (w0 := w) w.heap.size rfl (.tmp 5) (.tmp 6) 25 27 (.agg #[(.int .i64 0), (.int .i64 0), (.string ⟨#[]⟩), (.string ⟨#[]⟩), (.string ⟨#[]⟩), (.bool false), (.bool false), (.slice none 0 0)]) 96 rfl Tryz.underlying25 info27 rfl (by decide) (by omega) v163 y101 l0 _ _ _ (fun k_ => (P0_ k_ ∨ w.heap.size ≤ k_)) (fun k_ => ((fun k_ => (P0_ k_ ∨ w.heap.size ≤ k_))) k_ ∧ nv_ k_ v163) rfl rfl ?aO ?aR (fun _ hk => hk) ?aF ?aB ?aS ?aL ?_; (case aR => exact (by skip; exact Kd.V_F (Kd.V_mono (ok' := (fun k_ => ((fun k_ => (P0_ k_ ∨ w.heap.size ≤ k_))) k_ ∧ nv_ k_ v163)) (HO0.out) (fun k_ hk => ⟨hk.1, hk.2⟩)))); (case aB => exact hs_); (case aF => exact (fun k_ hk => (.inr (Nat.le_trans (below_size hs_) hk)))); (case aO => exact (fxN_ HO164.out)); (case aS => exact (below_size hs_)); (case aL => have := LMc3.out; omega); intro v166 w6 ho hb hg hat; rw [← Ny104.out] at ho; replace HO0 := A_ (Kd.V_afterv (ok := (fun k_ => (P0_ k_ ∨ w.heap.size ≤ k_))) (fxV_ HO0.out) hg hat); replace HB := A_ (hb); have HO167 := A_ (ho); clear HO164; clear ho hb hg hat))
    go_ret
    exact ⟨_, by first | rfl | (simp [errW_none, errW_some] <;> rfl) | (simp [*, errW_none, errW_some] <;> rfl), fxN_ HO167.out, hs_⟩
  · rw [if_neg c3] at h
    exact absurd h (by simp)
set_option maxHeartbeats 8000000 in
set_option maxRecDepth 100000 in
theorem tree_OneOf.calls (P0_ : Nat → Prop) (A0 : Option Addr) (c0 : Nat) (l0 : List (S27)) (r1 r2 : Int) (r3 r4 r5 : ByteArray) (r6 r7 : Bool) (r8 : List (S27)) (w : World) (hs0 : Kd.V k27 27 w w.heap.size (fun k_ => P0_ k_) (.slice A0 l0.length c0) l0) (h : tree_OneOf.f l0 = some (r1, r2, r3, r4, r5, r6, r7, r8)) :
  Calls Tryz.prog 34 #[.slice A0 l0.length c0] w fun e w' => ∃ v7_ : Value, e = .returned (.agg #[.int .i64 r1, .int .i64 r2, .string r3, .string r4, .string r5, .bool r6, .bool r7, v7_]) ∧ Kd.N k27 27 w' w.heap.size (fun k_ => (P0_ k_ ∨ w.heap.size ≤ k_)) v7_ r8 ∧ Below w.heap.size w w' := by
 have hu27 := Tryz.underlying27; have HO0 := A_ (show Kd.V k27 27 w w.heap.size (fun k_ => (P0_ k_ ∨ w.heap.size ≤ k_)) (.slice A0 l0.length c0) l0 from Kd.V_mono hs0 (fun k_ hk => .inl hk)); have HB := A_ (Below.refl w.heap.size w); have H : ((slices_Clone.f l0).bind fun t169 => (some (2, 0, (⟨#[]⟩ : ByteArray), (⟨#[]⟩ : ByteArray), (⟨#[]⟩ : ByteArray), false, false, t169))) = some (r1, r2, r3, r4, r5, r6, r7, r8) := h; clear h; obtain ⟨t169, A2, H⟩ := bi_ H; simp only [Option.some.injEq, Prod.mk.injEq] at H; obtain ⟨rfl, rfl, rfl, rfl, rfl, rfl, rfl, rfl⟩ := H; go_enter Tryz.func34, Tryz.ntmps34; go_wp2_with (first | (refine gD 2 ?_; refine bxe_ 2 z8_ 27 ?_; intro gb168 hg w3 hbox hb; replace HO0 := eV_ HO0 hg hb; have BK168 := A_ (hbox); have GW168 := gs_ w hg; have GE168 := gs_ w hg; replace HB := bs_ hb; clear hb hbox hg) | (refine gC 31 ?_; refine gL 4 Tryz.func31 #[.slice A0 l0.length c0] ?_; (with_reducible refine (slices_Clone.calls (fun k_ => ((P0_ k_ ∨ w.heap.size ≤ k_) ∧ k_ ≠ gb168)) _ _ l0 t169 _ ?side1 A2.out).mono ?_); (case side1 => exact HO0.out); rintro e w4 ⟨v170, rfl, ho0, hb⟩; refine ⟨_, rfl, ?_⟩; replace HO0 := dV_ HO0 ho0 hb; have HO171 := A_ (Kd.N_lower (Kd.N_mono (ok' := fun k_ => (P0_ k_ ∨ w.heap.size ≤ k_) ∧ k_ ≠ gb168) ho0 (fun k_ hk_ => ⟨hk_.elim (·.1) (fun hn_ => (.inr (Nat.le_trans (below_size hs_) hn_))), hk_.elim (·.2) (fb_ BK168 k_)⟩)) (below_size hs_)); replace BK168 := bb_ BK168 hb; replace HB := bs_ hb; (try clear hb); (try clear ho0); obtain ⟨Ao5, co5, eo5⟩ := Kd.N_slice HO171.out; subst eo5; have Z6 := bz8_ BK168))
 refine bodyPost_ret (results_cell_row rfl _ _ gb168 27 #[.int .i64 2, .int .i64 0, .string ⟨#[]⟩, .string ⟨#[]⟩, .string ⟨#[]⟩, .bool false, .bool false, .slice Ao5 t169.length co5] (0, 0) _ rfl (pb_ BK168.out) Tryz.underlying27 rfl (by kernel_rfl)) rfl ?_; exact ⟨_, by first | rfl | (simp [errW_none, errW_some] <;> rfl) | (simp [*, errW_none, errW_some] <;> rfl), fpN_ HO171.out, hs_⟩
theorem fld46_0 (a b : Int) (c : ByteArray) (w : World) : (Instr.field 46 (.agg #[.int .i64 a, .int .i64 b, .string c]) 0).run Tryz.prog w = .ok (.int .i64 a) w := by kernel_rfl
theorem fld46_1 (a b : Int) (c : ByteArray) (w : World) : (Instr.field 46 (.agg #[.int .i64 a, .int .i64 b, .string c]) 1).run Tryz.prog w = .ok (.int .i64 b) w := by kernel_rfl
theorem fld46_2 (a b : Int) (c : ByteArray) (w : World) : (Instr.field 46 (.agg #[.int .i64 a, .int .i64 b, .string c]) 2).run Tryz.prog w = .ok (.string c) w := by kernel_rfl
attribute [local go_sem] fld46_0 fld46_1 fld46_2
def IsP (w0 W : World) (g : Nat) (t : List S46) (m d : Int) : Prop := ∃ A c, W.heap[g]? = some (.cells #[.slice A t.length c, .int .i64 m, .int .i64 d] 41 (0, 0)) ∧ w0.heap.size ≤ g ∧ t.length ≤ c ∧ Kd.C k46 w0 A t.length t
section
variable {w0 W W1 : World} {g : Nat} {t : List S46} {m d : Int}
theorem IsP.below (h : IsP w0 W g t m d) (hb : Below W.heap.size W W1) : IsP w0 W1 g t m d := by
  obtain ⟨A, c, h1, h2⟩ := h
  exact ⟨A, c, blk_below h1 hb, h2⟩
theorem IsP.alloc (h : IsP w0 W g t m d) (o : Obj) : IsP w0 (W.alloc o) g t m d := h.below (below_alloc (Below.refl _ _) o)
theorem IsP.drewN (h : IsP w0 W g t m d) (n : Nat) : IsP w0 (W.drewN n) g t m d := h
theorem IsP.drew (h : IsP w0 W g t m d) : IsP w0 W.drew g t m d := h
theorem IsP.far (h : IsP w0 W g t m d) {p : Addr} (hne : g ≠ p.block) (u : Value) : IsP w0 (W.setCell p u) g t m d := by
  obtain ⟨A, c, h1, h2⟩ := h
  exact ⟨A, c, blk_far h1 hne u, h2⟩
theorem IsP.lt (h : IsP w0 W g t m d) : g < W.heap.size := by
  obtain ⟨A, c, h1, _⟩ := h
  exact blk_lt h1
theorem IsP.ge (h : IsP w0 W g t m d) : w0.heap.size ≤ g := by
  obtain ⟨A, c, _, h2, _⟩ := h
  exact h2
theorem IsP.setM (h : IsP w0 W g t m d) (x : Int) : IsP w0 (W.setCell ⟨g, 1, none⟩ (.int .i64 x)) g t x d := by
  obtain ⟨A, c, h1, h2⟩ := h
  exact ⟨A, c, by simpa using blk_set h1 1 (.int .i64 x), h2⟩
theorem IsP.setD (h : IsP w0 W g t m d) (x : Int) : IsP w0 (W.setCell ⟨g, 2, none⟩ (.int .i64 x)) g t m x := by
  obtain ⟨A, c, h1, h2⟩ := h
  exact ⟨A, c, by simpa using blk_set h1 2 (.int .i64 x), h2⟩
end
structure PK (w0 w w' : World) (g : Nat) (t : List S46) (m d : Int) : Prop where
  hI : IsP w0 w' g t m d
  hB : Below w0.heap.size w0 w'
  hK : KeepBut w w' g none
def IsX (b : Nat) (w : World) (v : Value) (x : Wr) : Prop := match x with
  | none => v = .pointer none
  | some y => ∃ q, v = .pointer (some ⟨q, 0, none⟩) ∧ b ≤ q ∧ w.heap[q]? = some (.cells #[.int .i64 y.1, .int .i64 y.2] 50 (0, 0))
set_option maxHeartbeats 8000000 in
set_option maxRecDepth 100000 in
theorem parser_next.calls (g : Nat) (x : S46) (t : List S46) (m d : Int) (w0 w : World) (hI : IsP w0 w g (x :: t) m d) (hB0 : Below w0.heap.size w0 w) :
    Calls Tryz.prog 18 #[.pointer (some ⟨g, 0, none⟩)] w fun e w' => e = .returned (.agg #[.int .i64 x.f0, .int .i64 x.f1, .string x.f2]) ∧ Below w.heap.size w w' := by
  have hu46 := Tryz.underlying46
  obtain ⟨A, c, hG, hg, hc, hC⟩ := hI
  obtain ⟨ad, e, hx0, hx1, hx2⟩ := at_T46 hC 0 (by omega) (by simp)
  cases e
  have hr : rd_T46 (x :: t) 0 = x := rfl
  rw [hr] at hx0 hx1 hx2
  clear hr
  replace hx0 := pw_cell_below hB0 hx0
  replace hx1 := pw_cell_below hB0 hx1
  replace hx2 := pw_cell_below hB0 hx2
  replace hx0 := ai_ hx0
  replace hx1 := ai_ hx1
  replace hx2 := ai_ hx2
  have HX0 := A_ hx0
  have HX1 := A_ hx1
  have HX2 := A_ hx2
  have HG := A_ hG
  have HB := A_ (Below.refl w.heap.size w)
  clear hx0 hx1 hx2 hG hC hg hc hB0
  go_enter Tryz.func18, Tryz.ntmps18
  go_wp2_with (first | ((with_reducible refine gD 2 ?_); refine bxe_ 2 #[.int .i64 0, .int .i64 0, .string ⟨#[]⟩] 46 ?_; intro gb hgb w3 hbox hb; have BK := A_ hbox; have hp := (blk_cell (blk_below HG.out hb) 0).trans rfl; have hx0 := pw_cell_below hb HX0.out; have hx1 := pw_cell_below hb HX1.out; have hx2 := pw_cell_below hb HX2.out; have q : (0 < (x :: t).length) = True := eq_true (by simp); have Z := bz3_ BK; have GE := gs_ w hgb; replace HB := bs_ hb; clear hb hbox hgb))
  refine bodyPost_ret (results_cell_row rfl _ _ gb 46 #[.int .i64 x.f0, .int .i64 x.f1, .string x.f2] (0, 0) _ rfl (pb_ BK.out) Tryz.underlying46 rfl (by kernel_rfl)) rfl ?_
  exact ⟨rfl, hs_⟩
set_option maxHeartbeats 8000000 in
set_option maxRecDepth 100000 in
theorem parser_take.calls (g : Nat) (x : S46) (t : List S46) (m d : Int) (w0 w : World) (hI : IsP w0 w g (x :: t) m d) (hB0 : Below w0.heap.size w0 w) :
    Calls Tryz.prog 58 #[.pointer (some ⟨g, 0, none⟩)] w fun e w' => (∃ v, e = .returned v) ∧ PK w0 w w' g t m d := by
  have hu46 := Tryz.underlying46
  obtain ⟨A, c, hG, hg, hc, hC⟩ := hI
  obtain ⟨i0, hi0, hz0⟩ := info_parts info46
  obtain ⟨A', hA'⟩ : ∃ A', A' = (if c = (1 : Int).toNat then A else A.map (·.add ((1 : Int).toNat * 3))) := ⟨_, rfl⟩
  have hcut := cut_from (P := Tryz.prog) 36 46 .i64 Tryz.underlying36 hi0 3 hz0.2.1 A (t.length + 1) c 1 (by omega) (by omega)
  rw [← hA'] at hcut
  have e1 : t.length + 1 - (1 : Int).toNat = t.length := by simp
  have e2 : c - (1 : Int).toNat = c - 1 := by simp
  rw [e1, e2] at hcut
  have hC2 : Kd.C k46 w0 A' t.length t := by
    have := Kd.C_drop (m := 1) hC (by simp) hc
    rw [hA']
    exact this
  have HC2 := A_ hC2
  have HG := A_ hG
  have HL := A_ (show t.length ≤ c - 1 by simp at hc; omega)
  have HGE := A_ hg
  have HB := A_ hB0
  have hp := (blk_cell hG 0).trans rfl
  have hf := blk_frozen hG 0
  clear hG hC hg hc hB0 hC2 hA' e1 e2 hi0 hz0
  go_enter Tryz.func58, Tryz.ntmps58
  go_wp2
  refine bodyPost_end (results_none rfl _ _ _) rfl ⟨⟨_, rfl⟩, ⟨A', c - 1, by simpa using blk_set HG.out 0 (.slice A' t.length (c - 1)), HGE.out, HL.out, HC2.out⟩, below_set HB.out HGE.out, (KeepBut.refl _ _ _).set_ 0 _⟩
theorem IsX.put {b q : Nat} {w : World} {x y : Int} (h : w.heap[q]? = some (.cells #[.int .i64 x, .int .i64 y] 50 (0, 0))) (hq : b ≤ q) : IsX b w (.pointer (some ⟨q, 0, none⟩)) (some (x, y)) := ⟨q, rfl, hq, h⟩
set_option maxHeartbeats 8000000 in
set_option maxRecDepth 100000 in
theorem parser_not.calls (g : Nat) (x : S46) (t : List S46) (m d e : Int) (w0 w : World) (hI : IsP w0 w g (x :: t) m d) (hB0 : Below w0.heap.size w0 w) :
    Calls Tryz.prog 19 #[.pointer (some ⟨g, 0, none⟩), .int .i64 e] w fun e' w' => ∃ u, e' = .returned u ∧ IsX w.heap.size w' u (some (x.f1, eNot x e)) ∧ Below w.heap.size w w' := by
  have hu46 := Tryz.underlying46
  have HI := A_ hI
  have HB0 := A_ hB0
  have HB := A_ (Below.refl w.heap.size w)
  clear hI hB0
  by_cases c : x.f0 = 9
  · have hE : eNot x e = 4 := if_pos c
    rw [hE]
    have c0 : (x.f0 == 9) = true := beq_iff_eq.mpr c
    clear c hE
    go_enter Tryz.func19, Tryz.ntmps19
    go_wp2_with (first | ((with_reducible refine gD 6 ?_); refine gL 6 Tryz.func18 #[.pointer (some ⟨g, 0, none⟩)] ?_; (with_reducible refine (parser_next.calls g x t m d w0 _ HI.out HB0.out).mono ?_); rintro e1 w1 ⟨rfl, hb⟩; refine ⟨_, rfl, ?_⟩; replace HI := A_ (HI.out.below hb); replace HB0 := A_ (below_step HB0.out hb); replace HB := A_ (below_step HB.out hb); clear hb) | ((with_reducible refine gD 10 ?_); refine gL 10 Tryz.func18 #[.pointer (some ⟨g, 0, none⟩)] ?_; (with_reducible refine (parser_next.calls g x t m d w0 _ HI.out HB0.out).mono ?_); rintro e1 w1 ⟨rfl, hb⟩; refine ⟨_, rfl, ?_⟩; replace HI := A_ (HI.out.below hb); replace HB0 := A_ (below_step HB0.out hb); replace HB := A_ (below_step HB.out hb); clear hb) | ((with_reducible refine gD 14 ?_); refine bxe_ 14 #[.int .i64 x.f1, .int .i64 4] 50 ?_; intro gb hgb w3 hbox hb; have BK := A_ hbox; have GE := gs_ w hgb; replace HB := bs_ hb; clear hb hbox hgb))
    go_ret
    exact ⟨_, rfl, IsX.put BK.out GE.out, HB.out⟩
  · have hE : eNot x e = e := if_neg c
    rw [hE]
    have c0 : (x.f0 == 9) = false := beq_eq_false_iff_ne.mpr c
    clear c hE
    go_enter Tryz.func19, Tryz.ntmps19
    go_wp2_with (first | ((with_reducible refine gD 6 ?_); refine gL 6 Tryz.func18 #[.pointer (some ⟨g, 0, none⟩)] ?_; (with_reducible refine (parser_next.calls g x t m d w0 _ HI.out HB0.out).mono ?_); rintro e1 w1 ⟨rfl, hb⟩; refine ⟨_, rfl, ?_⟩; replace HI := A_ (HI.out.below hb); replace HB0 := A_ (below_step HB0.out hb); replace HB := A_ (below_step HB.out hb); clear hb) | ((with_reducible refine gD 10 ?_); refine gL 10 Tryz.func18 #[.pointer (some ⟨g, 0, none⟩)] ?_; (with_reducible refine (parser_next.calls g x t m d w0 _ HI.out HB0.out).mono ?_); rintro e1 w1 ⟨rfl, hb⟩; refine ⟨_, rfl, ?_⟩; replace HI := A_ (HI.out.below hb); replace HB0 := A_ (below_step HB0.out hb); replace HB := A_ (below_step HB.out hb); clear hb) | ((with_reducible refine gD 14 ?_); refine bxe_ 14 #[.int .i64 x.f1, .int .i64 e] 50 ?_; intro gb hgb w3 hbox hb; have BK := A_ hbox; have GE := gs_ w hgb; replace HB := bs_ hb; clear hb hbox hgb))
    go_ret
    exact ⟨_, rfl, IsX.put BK.out GE.out, HB.out⟩
set_option maxHeartbeats 8000000 in
set_option maxRecDepth 100000 in
theorem parser_begin.many (g : Nat) (x : S46) (t : List S46) (m d : Int) (w0 w : World) (hm : m = 64) (hI : IsP w0 w g (x :: t) m d) (hB0 : Below w0.heap.size w0 w) :
    Calls Tryz.prog 57 #[.pointer (some ⟨g, 0, none⟩)] w fun e' w' => ∃ u, e' = .returned u ∧ IsX w.heap.size w' u (some (x.f1, eNot x 6)) ∧ PK w0 w w' g (x :: t) m d := by
  have HI := A_ hI
  have HB0 := A_ hB0
  obtain ⟨A, c, hG, hg, hc, hC⟩ := hI
  have HG := A_ hG
  have c0 : (m == 64) = true := beq_iff_eq.mpr hm
  clear hB0 hG hg hc hC hm
  have hp0 := (blk_cell HG.out 0).trans rfl; have hp1 := (blk_cell HG.out 1).trans rfl; have hp2 := (blk_cell HG.out 2).trans rfl; have hf0 := blk_frozen HG.out 0; have hf1 := blk_frozen HG.out 1; have hf2 := blk_frozen HG.out 2
  go_enter Tryz.func57, Tryz.ntmps57
  go_wp2_with (first | ((with_reducible refine gC 19 ?_); refine gL 9 Tryz.func19 #[.pointer (some ⟨g, 0, none⟩), .int .i64 6] ?_; (with_reducible refine (parser_not.calls g x t m d 6 w0 _ HI.out HB0.out).mono ?_); rintro e1 w1 ⟨u1, rfl, hx, hb⟩; refine ⟨_, rfl, ?_⟩; have HX := A_ hx; have HBn := A_ hb; clear hx hb))
  go_ret
  exact ⟨_, rfl, HX.out, HI.out.below HBn.out, below_step HB0.out HBn.out, KeepBut.of_below HBn.out _ _⟩
set_option maxHeartbeats 8000000 in
set_option maxRecDepth 100000 in
theorem parser_begin.one (g : Nat) (t : List S46) (m d : Int) (w0 w : World) (hm : ¬ m = 64) (hI : IsP w0 w g t m d) (hB0 : Below w0.heap.size w0 w) :
    Calls Tryz.prog 57 #[.pointer (some ⟨g, 0, none⟩)] w fun e' w' => e' = .returned (.pointer none) ∧ PK w0 w w' g t (wrap64 (m + 1)) d := by
  have HI := A_ hI
  have HB0 := A_ hB0
  obtain ⟨A, c, hG, hg, hc, hC⟩ := hI
  have HG := A_ hG
  have c0 : (m == 64) = false := beq_eq_false_iff_ne.mpr hm
  clear hB0 hG hg hc hC hm
  have hp0 := (blk_cell HG.out 0).trans rfl; have hp1 := (blk_cell HG.out 1).trans rfl; have hp2 := (blk_cell HG.out 2).trans rfl; have hf0 := blk_frozen HG.out 0; have hf1 := blk_frozen HG.out 1; have hf2 := blk_frozen HG.out 2
  go_enter Tryz.func57, Tryz.ntmps57
  go_wp2
  go_ret
  exact ⟨rfl, HI.out.setM _, below_set HB0.out HI.out.ge, (KeepBut.refl _ _ _).set_ 1 _⟩
theorem IsP.far8 {w0 W : World} {g gb : Nat} {t : List S46} {m d : Int} (h : IsP w0 W g t m d) (hne : g ≠ gb) (a b c d' e f j k : Value) : IsP w0 ((((((((W.setCell ⟨gb, 0, none⟩ a).setCell ⟨gb, 1, none⟩ b).setCell ⟨gb, 2, none⟩ c).setCell ⟨gb, 3, none⟩ d').setCell ⟨gb, 4, none⟩ e).setCell ⟨gb, 5, none⟩ f).setCell ⟨gb, 6, none⟩ j).setCell ⟨gb, 7, none⟩ k) g t m d :=
  (((((((h.far (p := ⟨gb, 0, none⟩) hne a).far (p := ⟨gb, 1, none⟩) hne b).far (p := ⟨gb, 2, none⟩) hne c).far (p := ⟨gb, 3, none⟩) hne d').far (p := ⟨gb, 4, none⟩) hne e).far (p := ⟨gb, 5, none⟩) hne f).far (p := ⟨gb, 6, none⟩) hne j).far (p := ⟨gb, 7, none⟩) hne k
theorem PK.far8 {w0 w W : World} {g gb : Nat} {t : List S46} {m d : Int} (hI : IsP w0 W g t m d) (hB : Below w0.heap.size w0 W) (hK : KeepBut w W g none) (hne : g ≠ gb) (h0 : w0.heap.size ≤ gb) (h1 : w.heap.size ≤ gb) (a b c d' e f j k : Value) : PK w0 w ((((((((W.setCell ⟨gb, 0, none⟩ a).setCell ⟨gb, 1, none⟩ b).setCell ⟨gb, 2, none⟩ c).setCell ⟨gb, 3, none⟩ d').setCell ⟨gb, 4, none⟩ e).setCell ⟨gb, 5, none⟩ f).setCell ⟨gb, 6, none⟩ j).setCell ⟨gb, 7, none⟩ k) g t m d :=
  ⟨hI.far8 hne .., below_set (below_set (below_set (below_set (below_set (below_set (below_set (below_set hB h0) h0) h0) h0) h0) h0) h0) h0, keep_far (p := ⟨gb, 7, none⟩) (keep_far (p := ⟨gb, 6, none⟩) (keep_far (p := ⟨gb, 5, none⟩) (keep_far (p := ⟨gb, 4, none⟩) (keep_far (p := ⟨gb, 3, none⟩) (keep_far (p := ⟨gb, 2, none⟩) (keep_far (p := ⟨gb, 1, none⟩) (keep_far (p := ⟨gb, 0, none⟩) hK h1 a) h1 b) h1 c) h1 d') h1 e) h1 f) h1 j) h1 k⟩
set_option maxHeartbeats 8000000 in
set_option maxRecDepth 100000 in
theorem parser_dots.calls (g : Nat) (x : S46) (t : List S46) (m d : Int) (w0 w : World) (hI : IsP w0 w g (x :: t) m d) (hB0 : Below w0.heap.size w0 w) :
    Calls Tryz.prog 71 #[.pointer (some ⟨g, 0, none⟩)] w fun e' w' => e' = .returned (.tuple #[.agg #[.int .i64 3, .int .i64 0, .string ⟨#[]⟩, .string ⟨#[]⟩, .string ⟨#[]⟩, .bool false, .bool false, .slice none 0 0], .pointer none]) ∧ PK w0 w w' g t m d := by
  have HI := A_ hI
  have HB0 := A_ hB0
  have G0 := A_ (show w0.heap.size ≤ w.heap.size from hB0.size)
  clear hI hB0
  go_enter Tryz.func71, Tryz.ntmps71
  go_wp2_with (first | ((with_reducible refine gD 2 ?_); refine bxe_ 2 z8_ 27 ?_; intro gb hgb w2 hbox hb; have BK := A_ hbox; have NE := A_ (show g ≠ gb from by rw [hgb]; exact Nat.ne_of_lt HI.out.lt); have NE2 := A_ (Ne.symm NE.out); have ne1 := NE.out; have ne2 := NE2.out; have GE := A_ (show w.heap.size ≤ gb from by rw [hgb]; exact Nat.le_refl _); have HI2 := A_ (HI.out.below hb); have HB2 := A_ (below_step HB0.out hb); have HK2 := A_ (KeepBut.of_below hb g none); have GL := A_ (blk_lt BK.out); clear HI HB0 hb hbox hgb) | ((with_reducible refine gC 58 ?_); refine gL 5 Tryz.func58 #[.pointer (some ⟨g, 0, none⟩)] ?_; (with_reducible refine (parser_take.calls g x t m d w0 _ HI2.out HB2.out).mono ?_); rintro e3 w3 ⟨⟨v3, rfl⟩, hP⟩; refine ⟨_, rfl, ?_⟩; replace BK := A_ (hP.hK.blk BK.out NE2.out (by simp)); have Z := bz8_ BK; have HI3 := A_ hP.hI; have HB3 := A_ hP.hB; have HK3 := A_ (HK2.out.trans hP.hK (.inl rfl)); clear hP))
  refine bodyPost_ret (results_ct rfl _ _ gb 27 #[.int .i64 3, .int .i64 0, .string ⟨#[]⟩, .string ⟨#[]⟩, .string ⟨#[]⟩, .bool false, .bool false, .slice none 0 0] (0, 0) _ rfl (pb_ BK.out) Tryz.underlying27 rfl (by kernel_rfl)) rfl ?_
  exact ⟨rfl, PK.far8 HI3.out HB3.out HK3.out NE.out (Nat.le_trans G0.out GE.out) GE.out ..⟩
set_option maxHeartbeats 8000000 in
set_option maxRecDepth 100000 in
theorem parser_star.calls (g : Nat) (x : S46) (t : List S46) (m d : Int) (w0 w : World) (hI : IsP w0 w g (x :: t) m d) (hB0 : Below w0.heap.size w0 w) :
    Calls Tryz.prog 72 #[.pointer (some ⟨g, 0, none⟩)] w fun e' w' => e' = .returned (.tuple #[.agg #[.int .i64 4, .int .i64 0, .string ⟨#[]⟩, .string ⟨#[]⟩, .string ⟨#[]⟩, .bool false, .bool false, .slice none 0 0], .pointer none]) ∧ PK w0 w w' g t m d := by
  have HI := A_ hI
  have HB0 := A_ hB0
  have G0 := A_ (show w0.heap.size ≤ w.heap.size from hB0.size)
  clear hI hB0
  go_enter Tryz.func72, Tryz.ntmps72
  go_wp2_with (first | ((with_reducible refine gD 2 ?_); refine bxe_ 2 z8_ 27 ?_; intro gb hgb w2 hbox hb; have BK := A_ hbox; have NE := A_ (show g ≠ gb from by rw [hgb]; exact Nat.ne_of_lt HI.out.lt); have NE2 := A_ (Ne.symm NE.out); have ne1 := NE.out; have ne2 := NE2.out; have GE := A_ (show w.heap.size ≤ gb from by rw [hgb]; exact Nat.le_refl _); have HI2 := A_ (HI.out.below hb); have HB2 := A_ (below_step HB0.out hb); have HK2 := A_ (KeepBut.of_below hb g none); have GL := A_ (blk_lt BK.out); clear HI HB0 hb hbox hgb) | ((with_reducible refine gC 58 ?_); refine gL 5 Tryz.func58 #[.pointer (some ⟨g, 0, none⟩)] ?_; (with_reducible refine (parser_take.calls g x t m d w0 _ HI2.out HB2.out).mono ?_); rintro e3 w3 ⟨⟨v3, rfl⟩, hP⟩; refine ⟨_, rfl, ?_⟩; replace BK := A_ (hP.hK.blk BK.out NE2.out (by simp)); have Z := bz8_ BK; have HI3 := A_ hP.hI; have HB3 := A_ hP.hB; have HK3 := A_ (HK2.out.trans hP.hK (.inl rfl)); clear hP))
  refine bodyPost_ret (results_ct rfl _ _ gb 27 #[.int .i64 4, .int .i64 0, .string ⟨#[]⟩, .string ⟨#[]⟩, .string ⟨#[]⟩, .bool false, .bool false, .slice none 0 0] (0, 0) _ rfl (pb_ BK.out) Tryz.underlying27 rfl (by kernel_rfl)) rfl ?_
  exact ⟨rfl, PK.far8 HI3.out HB3.out HK3.out NE.out (Nat.le_trans G0.out GE.out) GE.out ..⟩
theorem pMarked_form : ∀ (t : List S46) (p : S24) (a b : Bool) (n : S27) (u : List S46), pMarked t p a b = some (n, u) → n = ⟨0, p, n.f2, n.f3, []⟩
  | [], p, a, b, n, u, h => by simp [pMarked] at h
  | x :: t, p, a, b, n, u, h => by
    rw [pMarked] at h
    repeat' split at h
    all_goals first | exact pMarked_form t _ _ _ _ _ h | (simp only [Option.some.injEq, Prod.mk.injEq] at h; obtain ⟨rfl, _⟩ := h; rfl)
set_option maxHeartbeats 8000000 in
set_option maxRecDepth 100000 in
theorem parser_marked.calls (g : Nat) (t t' : List S46) (p : S24) (a b : Bool) (n : S27) (m d : Int) (w0 w : World) (hI : IsP w0 w g t m d) (hB0 : Below w0.heap.size w0 w) (h : pMarked t p a b = some (n, t')) :
    Calls Tryz.prog 81 #[.pointer (some ⟨g, 0, none⟩), .agg #[.int .i64 0, .int .i64 p.f0, .string p.f1, .string p.f2, .string p.f3, .bool a, .bool b, .slice none 0 0]] w fun e' w' => e' = .returned (.agg #[.int .i64 0, .int .i64 p.f0, .string p.f1, .string p.f2, .string p.f3, .bool n.f2, .bool n.f3, .slice none 0 0]) ∧ PK w0 w w' g t' m d := by
  have HI := A_ hI
  have HB0 := A_ hB0
  have G0 := A_ (show w0.heap.size ≤ w.heap.size from hB0.size)
  have H' := A_ h
  clear hI hB0 h
  go_enter Tryz.func81, Tryz.ntmps81
  go_wp2_with (first | ((with_reducible refine gD 3 ?_); refine bxe_ 3 #[.int .i64 0, .int .i64 p.f0, .string p.f1, .string p.f2, .string p.f3, .bool a, .bool b, .slice none 0 0] 27 ?_; intro ga hga w2 hbox hb; have BA := A_ hbox; have NA := A_ (show g ≠ ga from by rw [hga]; exact Nat.ne_of_lt HI.out.lt); have GA := A_ (show w.heap.size ≤ ga from by rw [hga]; exact Nat.le_refl _); have HI2 := A_ (HI.out.below hb); have HB2 := A_ (below_step HB0.out hb); have HK2 := A_ (KeepBut.of_below hb g none); clear HI HB0 hb hbox hga) | ((with_reducible refine gD 4 ?_); refine bxe_ 4 z8_ 27 ?_; intro gb hgb w3 hbox hb; have BK := A_ hbox; have NE := A_ (show g ≠ gb from by rw [hgb]; exact Nat.ne_of_lt HI2.out.lt); have NAB := A_ (show ga ≠ gb from by rw [hgb]; exact Nat.ne_of_lt (blk_lt BA.out)); have GE := A_ (show w.heap.size ≤ gb from by rw [hgb]; exact HK2.out.1); have HI3 := A_ (HI2.out.below hb); have HB3 := A_ (below_step HB2.out hb); have HK3 := A_ (HK2.out.trans (KeepBut.of_below hb g none) (.inl rfl)); replace BA := A_ (blk_below BA.out hb); clear HI2 HB2 HK2 hb hbox hgb))
  (try simp only [Act.put, List.setIfInBounds_toArray, List.set_cons_zero, List.set_cons_succ])
  go_loopg [5] t.length (fun kq v5 w' => ∃ (t1 : List S46) (a1 b1 : Bool), Aside0 (t1.length = kq) ∧ Aside0 (pMarked t1 p a1 b1 = some (n, t')) ∧ Aside0 (w'.heap[ga]? = some (.cells #[.int .i64 0, .int .i64 p.f0, .string p.f1, .string p.f2, .string p.f3, .bool a1, .bool b1, .slice none 0 0] 27 (0, 0))) ∧ Aside0 (w'.heap[gb]? = some (.cells z8_ 27 (0, 0))) ∧ Aside0 (IsP w0 w' g t1 m d) ∧ Aside0 (Below w0.heap.size w0 w') ∧ Aside0 (KeepBut w w' g none))
  case atStart => exact ⟨t, a, b, ⟨rfl⟩, H', BA, BK, HI3, HB3, HK3⟩
  case round =>
    clear H' BA BK HI3 HB3 HK3
    obtain ⟨t1, a1, b1, HL, HA, BA, BK, HI, HB, HK⟩ := hrel
    have GA0 := A_ (Nat.le_trans G0.out GA.out)
    have GE0 := A_ (Nat.le_trans G0.out GE.out)
    have nab := NAB.out
    have nba := Ne.symm nab
    cases t1 with
    | nil => exact absurd HA.out (by simp [pMarked])
    | cons x u =>
      have H := HA.out
      clear HA
      rw [pMarked] at H
      by_cases c : x.f0 = 7
      · rw [if_pos c] at H
        have c7 : (x.f0 == 7) = true := beq_iff_eq.mpr c
        have c8 : (x.f0 == 8) = false := by rw [beq_eq_false_iff_ne, c]; decide
        clear c
        cases a1 with | false =>
          rw [if_pos rfl] at H
          have H' := A_ H
          clear H
          go_wp2_with (first | ((with_reducible refine gC 18 ?_); refine gL 7 Tryz.func18 #[.pointer (some ⟨g, 0, none⟩)] ?_; (with_reducible refine (parser_next.calls g x u m d w0 _ HI.out HB.out).mono ?_); rintro e1 w1 ⟨rfl, hb⟩; refine ⟨_, rfl, ?_⟩; replace HI := A_ (HI.out.below hb); replace HB := A_ (below_step HB.out hb); replace HK := A_ (HK.out.trans (KeepBut.of_below hb g none) (.inl rfl)); replace BA := A_ (blk_below BA.out hb); replace BK := A_ (blk_below BK.out hb); have ZA := bz8_ BA; have ZB := bz8_ BK; clear hb) | ((with_reducible refine gC 58 ?_); refine gL 29 Tryz.func58 #[.pointer (some ⟨g, 0, none⟩)] ?_; (with_reducible refine (parser_take.calls g x u m d w0 _ (HI.out.far (p := ⟨ga, 5, none⟩) NA.out _) (below_set HB.out GA0.out)).mono ?_); rintro e3 w3 ⟨⟨v3, rfl⟩, hP⟩; refine ⟨_, rfl, ?_⟩; replace BA := A_ (hP.hK.blk (blk_put BA.out 5 _ rfl) (Ne.symm NA.out) (by simp)); replace BK := A_ (hP.hK.blk (blk_far BK.out nba _) (Ne.symm NE.out) (by simp)); clear ZA ZB; replace HI := A_ hP.hI; replace HB := A_ hP.hB; replace HK := A_ ((keep_far (p := ⟨ga, 5, none⟩) HK.out GA.out _).trans hP.hK (.inl rfl)); clear hP))
          go_roundg u.length
          case measure => have := HL.out; simp at this; omega
          case rel => exact ⟨u, true, b1, ⟨rfl⟩, H', BA, BK, HI, HB, HK⟩ | true =>
          rw [if_neg (by simp)] at H
          obtain ⟨rfl, rfl⟩ := by simpa using H
          clear H
          go_wp2_with (first | ((with_reducible refine gC 18 ?_); refine gL 7 Tryz.func18 #[.pointer (some ⟨g, 0, none⟩)] ?_; (with_reducible refine (parser_next.calls g x u m d w0 _ HI.out HB.out).mono ?_); rintro e1 w1 ⟨rfl, hb⟩; refine ⟨_, rfl, ?_⟩; replace HI := A_ (HI.out.below hb); replace HB := A_ (below_step HB.out hb); replace HK := A_ (HK.out.trans (KeepBut.of_below hb g none) (.inl rfl)); replace BA := A_ (blk_below BA.out hb); replace BK := A_ (blk_below BK.out hb); have ZA := bz8_ BA; have ZB := bz8_ BK; clear hb))
          refine bodyPost_ret (results_cell_row rfl _ _ gb 27 #[.int .i64 0, .int .i64 p.f0, .string p.f1, .string p.f2, .string p.f3, .bool _, .bool _, .slice none 0 0] (0, 0) _ rfl (pb_ BK.out) Tryz.underlying27 rfl (by kernel_rfl)) rfl ?_; exact ⟨rfl, PK.far8 HI.out HB.out HK.out NE.out GE0.out GE.out ..⟩
      · rw [if_neg c] at H
        have c7 : (x.f0 == 7) = false := beq_eq_false_iff_ne.mpr c
        clear c
        by_cases c : x.f0 = 8
        · rw [if_pos c] at H
          have c8 : (x.f0 == 8) = true := beq_iff_eq.mpr c
          clear c
          cases b1 with | false =>
            rw [if_pos rfl] at H
            have H' := A_ H
            clear H
            go_wp2_with (first | ((with_reducible refine gC 18 ?_); refine gL 7 Tryz.func18 #[.pointer (some ⟨g, 0, none⟩)] ?_; (with_reducible refine (parser_next.calls g x u m d w0 _ HI.out HB.out).mono ?_); rintro e1 w1 ⟨rfl, hb⟩; refine ⟨_, rfl, ?_⟩; replace HI := A_ (HI.out.below hb); replace HB := A_ (below_step HB.out hb); replace HK := A_ (HK.out.trans (KeepBut.of_below hb g none) (.inl rfl)); replace BA := A_ (blk_below BA.out hb); replace BK := A_ (blk_below BK.out hb); have ZA := bz8_ BA; have ZB := bz8_ BK; clear hb) | ((with_reducible refine gC 58 ?_); refine gL 29 Tryz.func58 #[.pointer (some ⟨g, 0, none⟩)] ?_; (with_reducible refine (parser_take.calls g x u m d w0 _ (HI.out.far (p := ⟨ga, 6, none⟩) NA.out _) (below_set HB.out GA0.out)).mono ?_); rintro e3 w3 ⟨⟨v3, rfl⟩, hP⟩; refine ⟨_, rfl, ?_⟩; replace BA := A_ (hP.hK.blk (blk_put BA.out 6 _ rfl) (Ne.symm NA.out) (by simp)); replace BK := A_ (hP.hK.blk (blk_far BK.out nba _) (Ne.symm NE.out) (by simp)); clear ZA ZB; replace HI := A_ hP.hI; replace HB := A_ hP.hB; replace HK := A_ ((keep_far (p := ⟨ga, 6, none⟩) HK.out GA.out _).trans hP.hK (.inl rfl)); clear hP))
            go_roundg u.length
            case measure => have := HL.out; simp at this; omega
            case rel => exact ⟨u, a1, true, ⟨rfl⟩, H', BA, BK, HI, HB, HK⟩ | true =>
            rw [if_neg (by simp)] at H
            obtain ⟨rfl, rfl⟩ := by simpa using H
            clear H
            go_wp2_with (first | ((with_reducible refine gC 18 ?_); refine gL 7 Tryz.func18 #[.pointer (some ⟨g, 0, none⟩)] ?_; (with_reducible refine (parser_next.calls g x u m d w0 _ HI.out HB.out).mono ?_); rintro e1 w1 ⟨rfl, hb⟩; refine ⟨_, rfl, ?_⟩; replace HI := A_ (HI.out.below hb); replace HB := A_ (below_step HB.out hb); replace HK := A_ (HK.out.trans (KeepBut.of_below hb g none) (.inl rfl)); replace BA := A_ (blk_below BA.out hb); replace BK := A_ (blk_below BK.out hb); have ZA := bz8_ BA; have ZB := bz8_ BK; clear hb))
            refine bodyPost_ret (results_cell_row rfl _ _ gb 27 #[.int .i64 0, .int .i64 p.f0, .string p.f1, .string p.f2, .string p.f3, .bool _, .bool _, .slice none 0 0] (0, 0) _ rfl (pb_ BK.out) Tryz.underlying27 rfl (by kernel_rfl)) rfl ?_; exact ⟨rfl, PK.far8 HI.out HB.out HK.out NE.out GE0.out GE.out ..⟩
        · rw [if_neg c] at H
          have c8 : (x.f0 == 8) = false := beq_eq_false_iff_ne.mpr c
          clear c
          obtain ⟨rfl, rfl⟩ := by simpa using H
          clear H
          go_wp2_with (first | ((with_reducible refine gC 18 ?_); refine gL 7 Tryz.func18 #[.pointer (some ⟨g, 0, none⟩)] ?_; (with_reducible refine (parser_next.calls g x u m d w0 _ HI.out HB.out).mono ?_); rintro e1 w1 ⟨rfl, hb⟩; refine ⟨_, rfl, ?_⟩; replace HI := A_ (HI.out.below hb); replace HB := A_ (below_step HB.out hb); replace HK := A_ (HK.out.trans (KeepBut.of_below hb g none) (.inl rfl)); replace BA := A_ (blk_below BA.out hb); replace BK := A_ (blk_below BK.out hb); have ZA := bz8_ BA; have ZB := bz8_ BK; clear hb))
          refine bodyPost_ret (results_cell_row rfl _ _ gb 27 #[.int .i64 0, .int .i64 p.f0, .string p.f1, .string p.f2, .string p.f3, .bool _, .bool _, .slice none 0 0] (0, 0) _ rfl (pb_ BK.out) Tryz.underlying27 rfl (by kernel_rfl)) rfl ?_; exact ⟨rfl, PK.far8 HI.out HB.out HK.out NE.out GE0.out GE.out ..⟩
def NQ (w0 w : World) (g q : Nat) : Prop := g ≠ q ∧ w.heap.size ≤ q ∧ w0.heap.size ≤ q
section
variable {w0 w W W1 : World} {g q : Nat} {t t' : List S46} {m d m' d' : Int}
theorem PK.start (hI : IsP w0 w g t m d) (hB0 : Below w0.heap.size w0 w) : PK w0 w w g t m d := ⟨hI, hB0, KeepBut.refl _ _ _⟩
theorem PK.below (h : PK w0 w W g t m d) (hb : Below W.heap.size W W1) : PK w0 w W1 g t m d := ⟨h.hI.below hb, below_step h.hB hb, h.hK.trans (KeepBut.of_below hb g none) (.inl rfl)⟩
theorem PK.trans (h : PK w0 w W g t m d) (k : PK w0 W W1 g t' m' d') : PK w0 w W1 g t' m' d' := ⟨k.hI, k.hB, h.hK.trans k.hK (.inl rfl)⟩
theorem PK.new (h : PK w0 w W g t m d) (hq : q = W.heap.size) : NQ w0 w g q := ⟨by rw [hq]; exact Nat.ne_of_lt h.hI.lt, by rw [hq]; exact h.hK.1, by rw [hq]; exact h.hB.size⟩
theorem PK.far (h : PK w0 w W g t m d) (n : NQ w0 w g q) (j : Nat) (u : Value) : PK w0 w (W.setCell ⟨q, j, none⟩ u) g t m d := ⟨h.hI.far (p := ⟨q, j, none⟩) n.1 u, below_set h.hB n.2.2, keep_far (p := ⟨q, j, none⟩) h.hK n.2.1 u⟩
theorem PK.blk {o : Obj} (k : PK w0 w W g t m d) (hb : w.heap[q]? = some o) (n : NQ w0 W1 g q) : W.heap[q]? = some o := k.hK.blk hb (Ne.symm n.1) (by simp)
theorem PK.far4 (h : PK w0 w W g t m d) (n : NQ w0 w g q) (a b c e : Value) : PK w0 w ((((W.setCell ⟨q, 0, none⟩ a).setCell ⟨q, 1, none⟩ b).setCell ⟨q, 2, none⟩ c).setCell ⟨q, 3, none⟩ e) g t m d := (((h.far n 0 a).far n 1 b).far n 2 c).far n 3 e
theorem PK.all8 (h : PK w0 w W g t m d) (n : NQ w0 w g q) (a b c e f i j k : Value) : PK w0 w ((((((((W.setCell ⟨q, 0, none⟩ a).setCell ⟨q, 1, none⟩ b).setCell ⟨q, 2, none⟩ c).setCell ⟨q, 3, none⟩ e).setCell ⟨q, 4, none⟩ f).setCell ⟨q, 5, none⟩ i).setCell ⟨q, 6, none⟩ j).setCell ⟨q, 7, none⟩ k) g t m d :=
  (((((((h.far n 0 a).far n 1 b).far n 2 c).far n 3 e).far n 4 f).far n 5 i).far n 6 j).far n 7 k
end
theorem far4_ {W : World} {g q : Nat} {cs : Array Value} {T : TypeId} (h : W.heap[g]? = some (.cells cs T (0, 0))) (hne : g ≠ q) (a b c e : Value) : ((((W.setCell ⟨q, 0, none⟩ a).setCell ⟨q, 1, none⟩ b).setCell ⟨q, 2, none⟩ c).setCell ⟨q, 3, none⟩ e).heap[g]? = some (.cells cs T (0, 0)) :=
  blk_far (p := ⟨q, 3, none⟩) (blk_far (p := ⟨q, 2, none⟩) (blk_far (p := ⟨q, 1, none⟩) (blk_far (p := ⟨q, 0, none⟩) h hne a) hne b) hne c) hne e
theorem far8_ {W : World} {g q : Nat} {cs : Array Value} {T : TypeId} (h : W.heap[g]? = some (.cells cs T (0, 0))) (hne : g ≠ q) (a b c e f i j k : Value) : ((((((((W.setCell ⟨q, 0, none⟩ a).setCell ⟨q, 1, none⟩ b).setCell ⟨q, 2, none⟩ c).setCell ⟨q, 3, none⟩ e).setCell ⟨q, 4, none⟩ f).setCell ⟨q, 5, none⟩ i).setCell ⟨q, 6, none⟩ j).setCell ⟨q, 7, none⟩ k).heap[g]? = some (.cells cs T (0, 0)) :=
  blk_far (p := ⟨q, 7, none⟩) (blk_far (p := ⟨q, 6, none⟩) (blk_far (p := ⟨q, 5, none⟩) (blk_far (p := ⟨q, 4, none⟩) (far4_ h hne a b c e) hne f) hne i) hne j) hne k
theorem put4_ {W : World} {q : Nat} {x0 x1 x2 x3 : Value} {T : TypeId} (h : W.heap[q]? = some (.cells #[x0, x1, x2, x3] T (0, 0))) (a b c e : Value) : ((((W.setCell ⟨q, 0, none⟩ a).setCell ⟨q, 1, none⟩ b).setCell ⟨q, 2, none⟩ c).setCell ⟨q, 3, none⟩ e).heap[q]? = some (.cells #[a, b, c, e] T (0, 0)) :=
  blk_put (blk_put (blk_put (blk_put h 0 a rfl) 1 b rfl) 2 c rfl) 3 e rfl
theorem put8_ {W : World} {q : Nat} {x0 x1 x2 x3 x4 x5 x6 x7 : Value} {T : TypeId} (h : W.heap[q]? = some (.cells #[x0, x1, x2, x3, x4, x5, x6, x7] T (0, 0))) (a b c e f i j k : Value) : ((((((((W.setCell ⟨q, 0, none⟩ a).setCell ⟨q, 1, none⟩ b).setCell ⟨q, 2, none⟩ c).setCell ⟨q, 3, none⟩ e).setCell ⟨q, 4, none⟩ f).setCell ⟨q, 5, none⟩ i).setCell ⟨q, 6, none⟩ j).setCell ⟨q, 7, none⟩ k).heap[q]? = some (.cells #[a, b, c, e, f, i, j, k] T (0, 0)) :=
blk_put (cs := #[a, b, c, e, f, i, j, x7]) (blk_put (cs := #[a, b, c, e, f, i, x6, x7]) (blk_put (cs := #[a, b, c, e, f, x5, x6, x7]) (blk_put (cs := #[a, b, c, e, x4, x5, x6, x7]) (blk_put (cs := #[a, b, c, x3, x4, x5, x6, x7]) (blk_put (cs := #[a, b, x2, x3, x4, x5, x6, x7]) (blk_put (cs := #[a, x1, x2, x3, x4, x5, x6, x7]) (blk_put h 0 a rfl) 1 b rfl) 2 c rfl) 3 e rfl) 4 f rfl) 5 i rfl) 6 j rfl) 7 k rfl
theorem IsX.far {b q : Nat} {W : World} {v : Value} {x : Wr} (h : IsX b W v x) (hq : q < b) (j : Nat) (u : Value) : IsX b (W.setCell ⟨q, j, none⟩ u) v x := by
  cases x with
  | none => exact h
  | some y =>
    obtain ⟨i, e, hb, hi⟩ := h
    exact ⟨i, e, hb, blk_far (p := ⟨q, j, none⟩) hi (show i ≠ q by omega) u⟩
theorem IsX.lower {b b' : Nat} {W : World} {v : Value} {x : Wr} (h : IsX b W v x) (hb : b' ≤ b) : IsX b' W v x := by
  cases x with
  | none => exact h
  | some y =>
    obtain ⟨i, e, hb', hi⟩ := h
    exact ⟨i, e, Nat.le_trans hb hb', hi⟩
theorem IsX.all8 {b b' q : Nat} {W : World} {v : Value} {x : Wr} (h : IsX b W v x) (hq : q < b) (hb : b' ≤ b) (a a1 c e f i j k : Value) : IsX b' ((((((((W.setCell ⟨q, 0, none⟩ a).setCell ⟨q, 1, none⟩ a1).setCell ⟨q, 2, none⟩ c).setCell ⟨q, 3, none⟩ e).setCell ⟨q, 4, none⟩ f).setCell ⟨q, 5, none⟩ i).setCell ⟨q, 6, none⟩ j).setCell ⟨q, 7, none⟩ k) v x :=
  ((((((((h.far hq 0 a).far hq 1 a1).far hq 2 c).far hq 3 e).far hq 4 f).far hq 5 i).far hq 6 j).far hq 7 k).lower hb
set_option maxHeartbeats 8000000 in
set_option maxRecDepth 100000 in
theorem tree_Of.exact (p : S24) (w : World) :
  Calls Tryz.prog 82 #[.agg #[.int .i64 p.f0, .string p.f1, .string p.f2, .string p.f3], .bool false, .bool false] w fun e w' => e = .returned (.agg #[.int .i64 0, .int .i64 p.f0, .string p.f1, .string p.f2, .string p.f3, .bool false, .bool false, .slice none 0 0]) ∧ Below w.heap.size w w' := by
 have hu24 := Tryz.underlying24; have hu27 := Tryz.underlying27; have HB := A_ (Below.refl w.heap.size w); go_enter Tryz.func82, Tryz.ntmps82; go_wp2_with (first | (refine gx_ w 3 (n4_ p.f0 p.f1 p.f2 p.f3) 24 ?_; clear HB; intro gb160 w4 BK160 GE160 HB; have GW160 := GE160) | (refine gD 6 ?_; refine bxe_ 6 z8_ 27 ?_; intro gb161 hg w5 hbox hb; have BK161 := A_ (hbox); have GW161 := gs_ w hg; have GE161 := gs_ w hg; replace HB := bs_ hb; have NB160_161 := nl_ BK160 hg; have NB161_160 := ng_ BK160 hg; replace BK160 := bb_ BK160 hb; clear hb hbox hg; have hnb6 := NB160_161.out; have hnc6 := NB161_160.out; have Z7 := bz4_ BK160; have Z8 := bz8_ BK161))
 refine bodyPost_ret (results_cell_row rfl _ _ gb161 27 #[.int .i64 0, .int .i64 p.f0, .string p.f1, .string p.f2, .string p.f3, .bool false, .bool false, .slice none 0 0] (0, 0) _ rfl (pb_ BK161.out) Tryz.underlying27 rfl (by kernel_rfl)) rfl ?_; exact ⟨rfl, hs_⟩
set_option maxHeartbeats 8000000 in
set_option maxRecDepth 100000 in
theorem parser_word.calls (k : Nat) (g : Nat) (x : S46) (t : List S46) (m d : Int) (r : PR) (w0 w : World) (hI : IsP w0 w g (x :: t) m d) (hB0 : Below w0.heap.size w0 w) (h : pWord k x t m d = some r) :
    Calls Tryz.prog 70 #[.pointer (some ⟨g, 0, none⟩)] w fun e' w' => ∃ u, e' = .returned (.tuple #[.agg #[.int .i64 r.n.f0, .int .i64 r.n.f1.f0, .string r.n.f1.f1, .string r.n.f1.f2, .string r.n.f1.f3, .bool r.n.f2, .bool r.n.f3, .slice none 0 0], u]) ∧ IsX w.heap.size w' u r.x ∧ PK w0 w w' g r.t r.m r.d := by
  have HP := A_ (PK.start hI hB0)
  clear hI hB0
  obtain ⟨⟨p0, p1, p2, p3, ok⟩, hR, h2⟩ := Option.bind_eq_some_iff.mp h
  have HR := A_ hR
  clear hR h
  have h := h2
  clear h2
  cases ok with
  | false =>
    obtain rfl := Option.some.inj ((if_neg (by simp)).symm.trans h)
    clear h
    go_enter Tryz.func70, Tryz.ntmps70
    go_wp2_with (first | ((with_reducible refine gD 2 ?_); refine bxe_ 2 z8_ 27 ?_; intro gb hgb w2 hbox hb; have BK := A_ hbox; have NB := A_ (HP.out.new hgb); replace HP := A_ (HP.out.below hb); clear hb hbox hgb) | ((with_reducible refine gD 8 ?_); refine gL 8 Tryz.func18 #[.pointer (some ⟨g, 0, none⟩)] ?_; (with_reducible refine (parser_next.calls g x t m d w0 _ HP.out.hI HP.out.hB).mono ?_); rintro e1 w1 ⟨rfl, hb⟩; refine ⟨_, rfl, ?_⟩; replace HP := A_ (HP.out.below hb); replace BK := A_ (blk_below BK.out hb); clear hb) | ((with_reducible refine gD 10 ?_); refine gL 10 Tryz.func80 #[.string x.f2] ?_; (with_reducible refine (point_Read.calls k x.f2 p0 p1 p2 p3 false _ HR.out).mono ?_); rintro e1 w1 ⟨rfl, hb⟩; refine ⟨_, rfl, ?_⟩; replace HP := A_ (HP.out.below hb); replace BK := A_ (blk_below BK.out hb); clear hb) | ((with_reducible refine gD 4 ?_); refine bxe_ 4 z4_ 24 ?_; intro gp hgp w4 hbox hb; have BP := A_ hbox; have NP := A_ (HP.out.new hgp); have NBP := A_ (show gb ≠ gp from by rw [hgp]; exact Nat.ne_of_lt (blk_lt BK.out)); replace HP := A_ (HP.out.below hb); replace BK := A_ (blk_below BK.out hb); have Z := bz4_ BP; clear hb hbox hgp) | ((with_reducible refine gD 17 ?_); refine gL 17 Tryz.func19 #[.pointer (some ⟨g, 0, none⟩), .int .i64 2] ?_; clear Z; replace HP := A_ (HP.out.far4 NP.out (.int .i64 p0) (.string p1) (.string p2) (.string p3)); replace BK := A_ (far4_ BK.out NBP.out (.int .i64 p0) (.string p1) (.string p2) (.string p3)); (with_reducible refine (parser_not.calls g x t m d 2 w0 _ HP.out.hI HP.out.hB).mono ?_); rintro e1 w1 ⟨u1, rfl, hx, hb⟩; refine ⟨_, rfl, ?_⟩; have HX := A_ hx; have GB := A_ (blk_lt BK.out); have GW := A_ HP.out.hK.1; replace HP := A_ (HP.out.below hb); replace BK := A_ (blk_below BK.out hb); have Z := bz8_ BK; clear hx hb))
    refine bodyPost_ret (results_ct rfl _ _ gb 27 z8_ (0, 0) _ rfl (pb_ BK.out) Tryz.underlying27 rfl (by kernel_rfl)) rfl ?_
    exact ⟨_, rfl, HX.out.all8 GB.out GW.out .., HP.out.all8 NB.out ..⟩
  | true =>
    have h2 := (if_pos rfl).symm.trans h
    clear h
    obtain ⟨⟨n, t'⟩, hM, h3⟩ := Option.bind_eq_some_iff.mp h2
    clear h2
    obtain ⟨a', b', rfl⟩ : ∃ a' b', n = ⟨0, ⟨p0, p1, p2, p3⟩, a', b', []⟩ := ⟨_, _, pMarked_form _ _ _ _ _ _ hM⟩
    have HM := A_ hM
    clear hM
    obtain rfl := Option.some.inj h3
    clear h3
    go_enter Tryz.func70, Tryz.ntmps70
    go_wp2_with (first | ((with_reducible refine gD 2 ?_); refine bxe_ 2 z8_ 27 ?_; intro gb hgb w2 hbox hb; have BK := A_ hbox; have NB := A_ (HP.out.new hgb); replace HP := A_ (HP.out.below hb); clear hb hbox hgb) | ((with_reducible refine gD 8 ?_); refine gL 8 Tryz.func18 #[.pointer (some ⟨g, 0, none⟩)] ?_; (with_reducible refine (parser_next.calls g x t m d w0 _ HP.out.hI HP.out.hB).mono ?_); rintro e1 w1 ⟨rfl, hb⟩; refine ⟨_, rfl, ?_⟩; replace HP := A_ (HP.out.below hb); replace BK := A_ (blk_below BK.out hb); clear hb) | ((with_reducible refine gD 10 ?_); refine gL 10 Tryz.func80 #[.string x.f2] ?_; (with_reducible refine (point_Read.calls k x.f2 p0 p1 p2 p3 true _ HR.out).mono ?_); rintro e1 w1 ⟨rfl, hb⟩; refine ⟨_, rfl, ?_⟩; replace HP := A_ (HP.out.below hb); replace BK := A_ (blk_below BK.out hb); clear hb) | ((with_reducible refine gD 4 ?_); refine bxe_ 4 z4_ 24 ?_; intro gp hgp w4 hbox hb; have BP := A_ hbox; have NP := A_ (HP.out.new hgp); have NBP := A_ (show gb ≠ gp from by rw [hgp]; exact Nat.ne_of_lt (blk_lt BK.out)); replace HP := A_ (HP.out.below hb); replace BK := A_ (blk_below BK.out hb); have Z := bz4_ BP; clear hb hbox hgp) | ((with_reducible refine gC 58 ?_); refine gL 19 Tryz.func58 #[.pointer (some ⟨g, 0, none⟩)] ?_; clear Z; replace HP := A_ (HP.out.far4 NP.out (.int .i64 p0) (.string p1) (.string p2) (.string p3)); replace BK := A_ (far4_ BK.out NBP.out (.int .i64 p0) (.string p1) (.string p2) (.string p3)); replace BP := A_ (put4_ BP.out (.int .i64 p0) (.string p1) (.string p2) (.string p3)); (with_reducible refine (parser_take.calls g x t m d w0 _ HP.out.hI HP.out.hB).mono ?_); rintro e3 w3 ⟨⟨v3, rfl⟩, hP⟩; refine ⟨_, rfl, ?_⟩; replace BK := A_ (hP.blk BK.out NB.out); replace BP := A_ (hP.blk BP.out NP.out); replace HP := A_ (HP.out.trans hP); have Z := bz4_ BP; clear hP) | ((with_reducible refine gC 82 ?_); refine gL 22 Tryz.func82 #[.agg #[.int .i64 p0, .string p1, .string p2, .string p3], .bool false, .bool false] ?_; (with_reducible refine (tree_Of.exact ⟨p0, p1, p2, p3⟩ _).mono ?_); rintro e1 w1 ⟨rfl, hb⟩; refine ⟨_, rfl, ?_⟩; replace HP := A_ (HP.out.below hb); replace BK := A_ (blk_below BK.out hb); clear hb) | ((with_reducible refine gC 81 ?_); refine gL 23 Tryz.func81 #[.pointer (some ⟨g, 0, none⟩), .agg #[.int .i64 0, .int .i64 p0, .string p1, .string p2, .string p3, .bool false, .bool false, .slice none 0 0]] ?_; (with_reducible refine (parser_marked.calls g t t' ⟨p0, p1, p2, p3⟩ false false _ m d w0 _ HP.out.hI HP.out.hB HM.out).mono ?_); rintro e1 w1 ⟨rfl, hP⟩; refine ⟨_, rfl, ?_⟩; replace BK := A_ (hP.blk BK.out NB.out); replace HP := A_ (HP.out.trans hP); clear Z; have Z := bz8_ BK; clear hP))
    refine bodyPost_ret (results_ct rfl _ _ gb 27 #[.int .i64 0, .int .i64 p0, .string p1, .string p2, .string p3, .bool a', .bool b', .slice none 0 0] (0, 0) _ rfl (pb_ BK.out) Tryz.underlying27 rfl (by kernel_rfl)) rfl ?_
    exact ⟨_, rfl, rfl, HP.out.all8 NB.out ..⟩
section
variable {P : Program} {ops : Array Oper} {Q : Exit → Act → World → Prop}
theorem gV {rest : List Oper} {o : Oper} {a : Act} {W : World} (N : Tmp) {f : FuncId} {fn : Func} {aa_ : Array Operand} {ts : Array TypeId} {t : Tmp} (pre : Array Value) (hf : P.funcs[f]? = some fn) (args : Array Value)
    (h : Calls P f args W fun e w' => ∃ v, e = .returned v ∧ wpList P ops Q rest (a.put (some N) v) w')
    (hd : o.dst = some N := by rfl) (hg : o.guard = none := by rfl) (hname : (fn.name == "runtime.NumGoroutine") = false := by kernel_rfl) (hb : fn.body.isSome = true := by rfl)
    (hop : o.op = .call { callee := .value (.tmp t), args := aa_, argTypes := ts } := by rfl) (hv : a.eval (.tmp t) = .func (.func f) pre #[] := by rfl) (hargs : pre ++ aa_.map a.eval = args := by (simp only [List.map_toArray, List.map_cons, List.map_nil, List.append_toArray, List.cons_append, List.nil_append, List.append_nil]); try rfl) : wpList P ops Q (o :: rest) a W := by
  refine wpList_plain hg fun K hK => ?_
  have he := enters_ hf hname hb args W
  have hrun : (execOp a.eval o).run P W = .ok (.enter f args) W := by
    unfold execOp
    simp [hop, resolve, Deferred.ofValue, invoke, hv, hargs, he]
  unfold Oper.wp
  rw [hrun, Oper.upon_enter]
  refine h.mono fun e w'' hh => ?_
  obtain ⟨v, rfl, hk⟩ := hh
  show K (a.put o.dst v) w''
  rw [hd]
  exact hK _ _ hk
end
set_option maxHeartbeats 8000000 in
set_option maxRecDepth 100000 in
theorem parser_end.calls (k : Nat) (g : Nat) (t : List S46) (m d : Int) (r : PR) (w0 w : World) (hI : IsP w0 w g t m d) (hB0 : Below w0.heap.size w0 w) (h : pEnd k m d t = some r) :
    Calls Tryz.prog 56 #[.pointer (some ⟨g, 0, none⟩)] w fun e' w' => ∃ u, e' = .returned (.tuple #[.agg #[.int .i64 r.n.f0, .int .i64 r.n.f1.f0, .string r.n.f1.f1, .string r.n.f1.f2, .string r.n.f1.f3, .bool r.n.f2, .bool r.n.f3, .slice none 0 0], u]) ∧ IsX w.heap.size w' u r.x ∧ PK w0 w w' g r.t r.m r.d := by
  have HP := A_ (PK.start hI hB0)
  clear hI hB0
  cases t with
  | nil => cases h
  | cons x t =>
    rw [pEnd] at h
    by_cases c0 : x.f0 = 0
    · rw [if_pos c0] at h
      have k0 : (x.f0 == 0) = true := beq_iff_eq.mpr c0
      clear c0
      by_cases cm : m = 64
      · rw [if_pos cm] at h
        have HM := A_ cm
        clear cm
        obtain rfl := Option.some.inj h
        clear h
        go_enter Tryz.func56, Tryz.ntmps56; go_wp2_with (first | ((with_reducible refine gD 2 ?_); refine bxe_ 2 z8_ 27 ?_; intro gb hgb w2 hbox hb; have BK := A_ hbox; have NB := A_ (HP.out.new hgb); replace HP := A_ (HP.out.below hb); clear hb hbox hgb) | ((with_reducible refine gD 7 ?_); refine gL 7 Tryz.func18 #[.pointer (some ⟨g, 0, none⟩)] ?_; (with_reducible refine (parser_next.calls g x t m d w0 _ HP.out.hI HP.out.hB).mono ?_); rintro e1 w1 ⟨rfl, hb⟩; refine ⟨_, rfl, ?_⟩; replace HP := A_ (HP.out.below hb); replace BK := A_ (blk_below BK.out hb); clear hb) | ((with_reducible refine gD 25 ?_); refine gL 25 Tryz.func57 #[.pointer (some ⟨g, 0, none⟩)] ?_; (with_reducible refine (parser_begin.many g x t m d w0 _ HM.out HP.out.hI HP.out.hB).mono ?_); rintro e1 w1 ⟨u1, rfl, hx, hP⟩; refine ⟨_, rfl, ?_⟩; have HX := A_ hx; have GB := A_ (blk_lt BK.out); have GW := A_ HP.out.hK.1; replace BK := A_ (hP.blk BK.out NB.out); replace HP := A_ (HP.out.trans hP); have Z := bz8_ BK; obtain ⟨q1, rfl, hq1⟩ := HX.out; clear hx hP hq1)); refine bodyPost_ret (results_ct rfl _ _ gb 27 z8_ (0, 0) _ rfl (pb_ BK.out) Tryz.underlying27 rfl (by kernel_rfl)) rfl ?_; exact ⟨_, rfl, HX.out.all8 GB.out GW.out .., HP.out.all8 NB.out ..⟩
      · rw [if_neg cm] at h
        have HM := A_ cm
        have HW := A_ h
        clear cm h
        go_enter Tryz.func56, Tryz.ntmps56
        go_wp2_with (first | ((with_reducible refine gD 2 ?_); refine bxe_ 2 z8_ 27 ?_; intro gb hgb w2 hbox hb; have BK := A_ hbox; have NB := A_ (HP.out.new hgb); replace HP := A_ (HP.out.below hb); clear hb hbox hgb) | ((with_reducible refine gD 7 ?_); refine gL 7 Tryz.func18 #[.pointer (some ⟨g, 0, none⟩)] ?_; (with_reducible refine (parser_next.calls g x t m d w0 _ HP.out.hI HP.out.hB).mono ?_); rintro e1 w1 ⟨rfl, hb⟩; refine ⟨_, rfl, ?_⟩; replace HP := A_ (HP.out.below hb); replace BK := A_ (blk_below BK.out hb); clear hb) | ((with_reducible refine gD 25 ?_); refine gL 25 Tryz.func57 #[.pointer (some ⟨g, 0, none⟩)] ?_; (with_reducible refine (parser_begin.one g (x :: t) m d w0 _ HM.out HP.out.hI HP.out.hB).mono ?_); rintro e1 w1 ⟨rfl, hP⟩; refine ⟨_, rfl, ?_⟩; replace BK := A_ (hP.blk BK.out NB.out); replace HP := A_ (HP.out.trans hP); have Z := bz8_ BK; clear hP) | ((with_reducible refine gD 31 ?_); refine gV 31 #[.pointer (some ⟨g, 0, none⟩)] Tryz.func70 #[.pointer (some ⟨g, 0, none⟩)] ?_; (with_reducible refine (parser_word.calls k g x t (wrap64 (m + 1)) d r w0 _ HP.out.hI HP.out.hB HW.out).mono ?_); rintro e1 w1 ⟨u1, rfl, hx, hP⟩; refine ⟨_, rfl, ?_⟩; have HX := A_ hx; have GB := A_ (blk_lt BK.out); have GW := A_ HP.out.hK.1; replace BK := A_ (hP.blk BK.out NB.out); replace HP := A_ (HP.out.trans hP); clear Z; have Z := bz8_ BK; clear hx hP))
        refine bodyPost_ret (results_ct rfl _ _ gb 27 #[.int .i64 r.n.f0, .int .i64 r.n.f1.f0, .string r.n.f1.f1, .string r.n.f1.f2, .string r.n.f1.f3, .bool r.n.f2, .bool r.n.f3, .slice none 0 0] (0, 0) _ rfl (pb_ BK.out) Tryz.underlying27 rfl (by kernel_rfl)) rfl ?_; exact ⟨_, rfl, HX.out.all8 GB.out GW.out .., HP.out.all8 NB.out ..⟩
    rw [if_neg c0] at h
    have k0 : (x.f0 == 0) = false := beq_eq_false_iff_ne.mpr c0
    clear c0
    by_cases c0 : x.f0 = 2
    · rw [if_pos c0] at h
      have k2 : (x.f0 == 2) = true := beq_iff_eq.mpr c0
      clear c0
      by_cases cm : m = 64
      · rw [if_pos cm] at h
        have HM := A_ cm
        clear cm
        obtain rfl := Option.some.inj h
        clear h
        go_enter Tryz.func56, Tryz.ntmps56; go_wp2_with (first | ((with_reducible refine gD 2 ?_); refine bxe_ 2 z8_ 27 ?_; intro gb hgb w2 hbox hb; have BK := A_ hbox; have NB := A_ (HP.out.new hgb); replace HP := A_ (HP.out.below hb); clear hb hbox hgb) | ((with_reducible refine gD 7 ?_); refine gL 7 Tryz.func18 #[.pointer (some ⟨g, 0, none⟩)] ?_; (with_reducible refine (parser_next.calls g x t m d w0 _ HP.out.hI HP.out.hB).mono ?_); rintro e1 w1 ⟨rfl, hb⟩; refine ⟨_, rfl, ?_⟩; replace HP := A_ (HP.out.below hb); replace BK := A_ (blk_below BK.out hb); clear hb) | ((with_reducible refine gD 25 ?_); refine gL 25 Tryz.func57 #[.pointer (some ⟨g, 0, none⟩)] ?_; (with_reducible refine (parser_begin.many g x t m d w0 _ HM.out HP.out.hI HP.out.hB).mono ?_); rintro e1 w1 ⟨u1, rfl, hx, hP⟩; refine ⟨_, rfl, ?_⟩; have HX := A_ hx; have GB := A_ (blk_lt BK.out); have GW := A_ HP.out.hK.1; replace BK := A_ (hP.blk BK.out NB.out); replace HP := A_ (HP.out.trans hP); have Z := bz8_ BK; obtain ⟨q1, rfl, hq1⟩ := HX.out; clear hx hP hq1)); refine bodyPost_ret (results_ct rfl _ _ gb 27 z8_ (0, 0) _ rfl (pb_ BK.out) Tryz.underlying27 rfl (by kernel_rfl)) rfl ?_; exact ⟨_, rfl, HX.out.all8 GB.out GW.out .., HP.out.all8 NB.out ..⟩
      · rw [if_neg cm] at h
        have HM := A_ cm
        clear cm
        obtain rfl := Option.some.inj h
        clear h
        go_enter Tryz.func56, Tryz.ntmps56
        go_wp2_with (first | ((with_reducible refine gD 2 ?_); refine bxe_ 2 z8_ 27 ?_; intro gb hgb w2 hbox hb; have BK := A_ hbox; have NB := A_ (HP.out.new hgb); replace HP := A_ (HP.out.below hb); clear hb hbox hgb) | ((with_reducible refine gD 7 ?_); refine gL 7 Tryz.func18 #[.pointer (some ⟨g, 0, none⟩)] ?_; (with_reducible refine (parser_next.calls g x t m d w0 _ HP.out.hI HP.out.hB).mono ?_); rintro e1 w1 ⟨rfl, hb⟩; refine ⟨_, rfl, ?_⟩; replace HP := A_ (HP.out.below hb); replace BK := A_ (blk_below BK.out hb); clear hb) | ((with_reducible refine gD 25 ?_); refine gL 25 Tryz.func57 #[.pointer (some ⟨g, 0, none⟩)] ?_; (with_reducible refine (parser_begin.one g (x :: t) m d w0 _ HM.out HP.out.hI HP.out.hB).mono ?_); rintro e1 w1 ⟨rfl, hP⟩; refine ⟨_, rfl, ?_⟩; replace BK := A_ (hP.blk BK.out NB.out); replace HP := A_ (HP.out.trans hP); have Z := bz8_ BK; clear hP) | ((with_reducible refine gD 31 ?_); refine gV 31 #[.pointer (some ⟨g, 0, none⟩)] Tryz.func71 #[.pointer (some ⟨g, 0, none⟩)] ?_; (with_reducible refine (parser_dots.calls g x t (wrap64 (m + 1)) d w0 _ HP.out.hI HP.out.hB).mono ?_); rintro e1 w1 ⟨rfl, hP⟩; refine ⟨_, rfl, ?_⟩; replace BK := A_ (hP.blk BK.out NB.out); replace HP := A_ (HP.out.trans hP); clear Z; have Z := bz8_ BK; clear hP))
        refine bodyPost_ret (results_ct rfl _ _ gb 27 #[.int .i64 3, .int .i64 0, .string ⟨#[]⟩, .string ⟨#[]⟩, .string ⟨#[]⟩, .bool false, .bool false, .slice none 0 0] (0, 0) _ rfl (pb_ BK.out) Tryz.underlying27 rfl (by kernel_rfl)) rfl ?_; exact ⟨_, rfl, rfl, HP.out.all8 NB.out ..⟩
    rw [if_neg c0] at h
    have k2 : (x.f0 == 2) = false := beq_eq_false_iff_ne.mpr c0
    clear c0
    by_cases c0 : x.f0 = 3
    · rw [if_pos c0] at h
      have k3 : (x.f0 == 3) = true := beq_iff_eq.mpr c0
      clear c0
      by_cases cm : m = 64
      · rw [if_pos cm] at h
        have HM := A_ cm
        clear cm
        obtain rfl := Option.some.inj h
        clear h
        go_enter Tryz.func56, Tryz.ntmps56; go_wp2_with (first | ((with_reducible refine gD 2 ?_); refine bxe_ 2 z8_ 27 ?_; intro gb hgb w2 hbox hb; have BK := A_ hbox; have NB := A_ (HP.out.new hgb); replace HP := A_ (HP.out.below hb); clear hb hbox hgb) | ((with_reducible refine gD 7 ?_); refine gL 7 Tryz.func18 #[.pointer (some ⟨g, 0, none⟩)] ?_; (with_reducible refine (parser_next.calls g x t m d w0 _ HP.out.hI HP.out.hB).mono ?_); rintro e1 w1 ⟨rfl, hb⟩; refine ⟨_, rfl, ?_⟩; replace HP := A_ (HP.out.below hb); replace BK := A_ (blk_below BK.out hb); clear hb) | ((with_reducible refine gD 25 ?_); refine gL 25 Tryz.func57 #[.pointer (some ⟨g, 0, none⟩)] ?_; (with_reducible refine (parser_begin.many g x t m d w0 _ HM.out HP.out.hI HP.out.hB).mono ?_); rintro e1 w1 ⟨u1, rfl, hx, hP⟩; refine ⟨_, rfl, ?_⟩; have HX := A_ hx; have GB := A_ (blk_lt BK.out); have GW := A_ HP.out.hK.1; replace BK := A_ (hP.blk BK.out NB.out); replace HP := A_ (HP.out.trans hP); have Z := bz8_ BK; obtain ⟨q1, rfl, hq1⟩ := HX.out; clear hx hP hq1)); refine bodyPost_ret (results_ct rfl _ _ gb 27 z8_ (0, 0) _ rfl (pb_ BK.out) Tryz.underlying27 rfl (by kernel_rfl)) rfl ?_; exact ⟨_, rfl, HX.out.all8 GB.out GW.out .., HP.out.all8 NB.out ..⟩
      · rw [if_neg cm] at h
        have HM := A_ cm
        clear cm
        obtain rfl := Option.some.inj h
        clear h
        go_enter Tryz.func56, Tryz.ntmps56
        go_wp2_with (first | ((with_reducible refine gD 2 ?_); refine bxe_ 2 z8_ 27 ?_; intro gb hgb w2 hbox hb; have BK := A_ hbox; have NB := A_ (HP.out.new hgb); replace HP := A_ (HP.out.below hb); clear hb hbox hgb) | ((with_reducible refine gD 7 ?_); refine gL 7 Tryz.func18 #[.pointer (some ⟨g, 0, none⟩)] ?_; (with_reducible refine (parser_next.calls g x t m d w0 _ HP.out.hI HP.out.hB).mono ?_); rintro e1 w1 ⟨rfl, hb⟩; refine ⟨_, rfl, ?_⟩; replace HP := A_ (HP.out.below hb); replace BK := A_ (blk_below BK.out hb); clear hb) | ((with_reducible refine gD 25 ?_); refine gL 25 Tryz.func57 #[.pointer (some ⟨g, 0, none⟩)] ?_; (with_reducible refine (parser_begin.one g (x :: t) m d w0 _ HM.out HP.out.hI HP.out.hB).mono ?_); rintro e1 w1 ⟨rfl, hP⟩; refine ⟨_, rfl, ?_⟩; replace BK := A_ (hP.blk BK.out NB.out); replace HP := A_ (HP.out.trans hP); have Z := bz8_ BK; clear hP) | ((with_reducible refine gD 31 ?_); refine gV 31 #[.pointer (some ⟨g, 0, none⟩)] Tryz.func72 #[.pointer (some ⟨g, 0, none⟩)] ?_; (with_reducible refine (parser_star.calls g x t (wrap64 (m + 1)) d w0 _ HP.out.hI HP.out.hB).mono ?_); rintro e1 w1 ⟨rfl, hP⟩; refine ⟨_, rfl, ?_⟩; replace BK := A_ (hP.blk BK.out NB.out); replace HP := A_ (HP.out.trans hP); clear Z; have Z := bz8_ BK; clear hP))
        refine bodyPost_ret (results_ct rfl _ _ gb 27 #[.int .i64 4, .int .i64 0, .string ⟨#[]⟩, .string ⟨#[]⟩, .string ⟨#[]⟩, .bool false, .bool false, .slice none 0 0] (0, 0) _ rfl (pb_ BK.out) Tryz.underlying27 rfl (by kernel_rfl)) rfl ?_; exact ⟨_, rfl, rfl, HP.out.all8 NB.out ..⟩
    rw [if_neg c0] at h
    have k3 : (x.f0 == 3) = false := beq_eq_false_iff_ne.mpr c0
    clear c0
    obtain rfl := Option.some.inj h
    clear h
    go_enter Tryz.func56, Tryz.ntmps56
    go_wp2_with (first | ((with_reducible refine gD 2 ?_); refine bxe_ 2 z8_ 27 ?_; intro gb hgb w2 hbox hb; have BK := A_ hbox; have NB := A_ (HP.out.new hgb); replace HP := A_ (HP.out.below hb); clear hb hbox hgb) | ((with_reducible refine gD 7 ?_); refine gL 7 Tryz.func18 #[.pointer (some ⟨g, 0, none⟩)] ?_; (with_reducible refine (parser_next.calls g x t m d w0 _ HP.out.hI HP.out.hB).mono ?_); rintro e1 w1 ⟨rfl, hb⟩; refine ⟨_, rfl, ?_⟩; replace HP := A_ (HP.out.below hb); replace BK := A_ (blk_below BK.out hb); clear hb) | ((with_reducible refine gD 11 ?_); refine gL 11 Tryz.func19 #[.pointer (some ⟨g, 0, none⟩), .int .i64 3] ?_; (with_reducible refine (parser_not.calls g x t m d 3 w0 _ HP.out.hI HP.out.hB).mono ?_); rintro e1 w1 ⟨u1, rfl, hx, hb⟩; refine ⟨_, rfl, ?_⟩; have HX := A_ hx; have GB := A_ (blk_lt BK.out); have GW := A_ HP.out.hK.1; replace HP := A_ (HP.out.below hb); replace BK := A_ (blk_below BK.out hb); have Z := bz8_ BK; clear hx hb))
    refine bodyPost_ret (results_ct rfl _ _ gb 27 z8_ (0, 0) _ rfl (pb_ BK.out) Tryz.underlying27 rfl (by kernel_rfl)) rfl ?_; exact ⟨_, rfl, HX.out.all8 GB.out GW.out .., HP.out.all8 NB.out ..⟩
end Go.Proofs.YtjgjhekpiijniaaGreat.A
namespace Go.Proofs.YtjgjhekpiijniaaGreat.A
open Go.RowKit Go.Proofs.YtjgjhekpiijniaaGreatW.PrintWords Go.Proofs.YtjgjhekpiijniaaGreatW.PrintLast Go.Proofs.YtjgjhekpiijniaaGreatW.PrintMore
attribute [local go_sem] isSome_setCell fld46_0 fld46_1 fld46_2
theorem pWord_nil {k : Nat} {x : S46} {t : List S46} {m d : Int} {r : PR} (h : pWord k x t m d = some r) : r.n.f4 = [] := by
  obtain ⟨p, _, h2⟩ := Option.bind_eq_some_iff.mp h
  split at h2
  · obtain ⟨q, hq, h3⟩ := Option.bind_eq_some_iff.mp h2
    obtain rfl := Option.some.inj h3
    show q.1.f4 = []
    rw [pMarked_form _ _ _ _ q.1 q.2 hq]
  · obtain rfl := Option.some.inj h2
    rfl
theorem pEnd_nil {k : Nat} {t : List S46} {m d : Int} {r : PR} (h : pEnd k m d t = some r) : r.n.f4 = [] := by
  cases t with
  | nil => cases h
  | cons x t =>
    rw [pEnd] at h
    repeat' split at h
    all_goals first | exact pWord_nil h | (obtain rfl := Option.some.inj h; rfl)
theorem node_eta (n : S27) (h : n.f4 = []) : (⟨n.f0, ⟨n.f1.f0, n.f1.f1, n.f1.f2, n.f1.f3⟩, n.f2, n.f3, []⟩ : S27) = n := by
  cases n with
  | mk a b c e l =>
    obtain rfl : l = [] := h
    rfl
theorem tree_Between.nil (x y : S27) (hx : x.f4 = []) (hy : y.f4 = []) (w : World) :
    Calls Tryz.prog 59 #[.agg #[.int .i64 x.f0, .int .i64 x.f1.f0, .string x.f1.f1, .string x.f1.f2, .string x.f1.f3, .bool x.f2, .bool x.f3, .slice none 0 0], .agg #[.int .i64 y.f0, .int .i64 y.f1.f0, .string y.f1.f1, .string y.f1.f2, .string y.f1.f3, .bool y.f2, .bool y.f3, .slice none 0 0]] w fun e w' => ∃ v, e = .returned (.agg #[.int .i64 1, .int .i64 0, .string ⟨#[]⟩, .string ⟨#[]⟩, .string ⟨#[]⟩, .bool false, .bool false, v]) ∧ Kd.V k27 27 w' w.heap.size (fun q => w.heap.size ≤ q) v [x, y] ∧ Below w.heap.size w w' := by
  have h := tree_Between.calls x.f0 x.f1.f0 x.f1.f1 x.f1.f2 x.f1.f3 x.f2 x.f3 (fun _ => False) none 0 [] y.f0 y.f1.f0 y.f1.f1 y.f1.f2 y.f1.f3 y.f2 y.f3 (fun _ => False) none 0 [] _ _ _ _ _ _ _ _ w (Kd.V_nil _ _ _ _ _) (Kd.V_nil _ _ _ _ _) rfl
  refine Calls.mono h ?_
  rintro e w' ⟨v, rfl, hN, hb⟩
  refine ⟨v, rfl, ?_, hb⟩
  rw [node_eta x hx, node_eta y hy] at hN
  exact Kd.N_V (Kd.N_mono hN (fun q hq => hq.elim (fun h => h.elim (fun h => h.elim) (fun h => h.elim)) id))
theorem IsX.below {b : Nat} {W W1 : World} {v : Value} {x : Wr} (h : IsX b W v x) (hb : Below W.heap.size W W1) : IsX b W1 v x := by
  cases x with
  | none => exact h
  | some y =>
    obtain ⟨i, e, hi, hh⟩ := h
    exact ⟨i, e, hi, blk_below hh hb⟩
theorem IsX.new8 {b gc : Nat} {W W4 : World} {v : Value} {x : Wr} (h : IsX b W v x) (hg : gc = W.heap.size) (hb : Below W.heap.size W W4) (a a1 c e f i j k : Value) : IsX b ((((((((W4.setCell ⟨gc, 0, none⟩ a).setCell ⟨gc, 1, none⟩ a1).setCell ⟨gc, 2, none⟩ c).setCell ⟨gc, 3, none⟩ e).setCell ⟨gc, 4, none⟩ f).setCell ⟨gc, 5, none⟩ i).setCell ⟨gc, 6, none⟩ j).setCell ⟨gc, 7, none⟩ k) v x := by
  cases x with
  | none =>
    have h' : v = .pointer none := h
    show v = .pointer none
    exact h'
  | some y =>
    obtain ⟨q, ev, hq, hh⟩ := h
    have hne : q ≠ gc := by rw [hg]; exact Nat.ne_of_lt (blk_lt hh)
    have h8 := far8_ (blk_below hh hb) hne a a1 c e f i j k
    exact ⟨q, ev, hq, h8⟩
theorem V_all8 {W : World} {b q : Nat} {ok : Nat → Prop} {v : Value} {l : List S27} (h : Kd.V k27 27 W b ok v l) (hok : ∀ k, ok k → k ≠ q) (a a1 c e f i j k : Value) : Kd.V k27 27 ((((((((W.setCell ⟨q, 0, none⟩ a).setCell ⟨q, 1, none⟩ a1).setCell ⟨q, 2, none⟩ c).setCell ⟨q, 3, none⟩ e).setCell ⟨q, 4, none⟩ f).setCell ⟨q, 5, none⟩ i).setCell ⟨q, 6, none⟩ j).setCell ⟨q, 7, none⟩ k) b ok v l :=
  Kd.V_far (p := ⟨q, 7, none⟩) (Kd.V_far (p := ⟨q, 6, none⟩) (Kd.V_far (p := ⟨q, 5, none⟩) (Kd.V_far (p := ⟨q, 4, none⟩) (Kd.V_far (p := ⟨q, 3, none⟩) (Kd.V_far (p := ⟨q, 2, none⟩) (Kd.V_far (p := ⟨q, 1, none⟩) (Kd.V_far (p := ⟨q, 0, none⟩) h hok a) hok a1) hok c) hok e) hok f) hok i) hok j) hok k
theorem C8_ {w : World} {g : Nat} {t : TypeId} {v0 v1 v2 v3 v4 v5 v6 v7 : Value} (h : w.heap[g]? = some (.cells #[v0, v1, v2, v3, v4, v5, v6, v7] t (0, 0))) : w.cell? ⟨g, 0, none⟩ = some v0 ∧ w.cell? ⟨g, 1, none⟩ = some v1 ∧ w.cell? ⟨g, 2, none⟩ = some v2 ∧ w.cell? ⟨g, 3, none⟩ = some v3 ∧ w.cell? ⟨g, 4, none⟩ = some v4 ∧ w.cell? ⟨g, 5, none⟩ = some v5 ∧ w.cell? ⟨g, 6, none⟩ = some v6 ∧ w.cell? ⟨g, 7, none⟩ = some v7 :=
  ⟨(blk_cell h 0).trans rfl, (blk_cell h 1).trans rfl, (blk_cell h 2).trans rfl, (blk_cell h 3).trans rfl, (blk_cell h 4).trans rfl, (blk_cell h 5).trans rfl, (blk_cell h 6).trans rfl, (blk_cell h 7).trans rfl⟩
theorem PK.drew {w0 w W : World} {g : Nat} {t : List S46} {m d : Int} (h : PK w0 w W g t m d) : PK w0 w W.drew g t m d := ⟨h.hI.drew, below_drew h.hB, keep_drew h.hK⟩
set_option maxHeartbeats 8000000 in
set_option maxRecDepth 100000 in
theorem parser_span.calls (k : Nat) (g : Nat) (t : List S46) (m d : Int) (r : PR) (w0 w : World) (hI : IsP w0 w g t m d) (hB0 : Below w0.heap.size w0 w) (h : pSpan k m d t = some r) :
    Calls Tryz.prog 38 #[.pointer (some ⟨g, 0, none⟩)] w fun e' w' => ∃ v u, e' = .returned (.tuple #[.agg #[.int .i64 r.n.f0, .int .i64 r.n.f1.f0, .string r.n.f1.f1, .string r.n.f1.f2, .string r.n.f1.f3, .bool r.n.f2, .bool r.n.f3, v], u]) ∧ Kd.V k27 27 w' w.heap.size (fun q => w.heap.size ≤ q) v r.n.f4 ∧ IsX w.heap.size w' u r.x ∧ PK w0 w w' g r.t r.m r.d := by
  have HP := A_ (PK.start hI hB0)
  clear hI hB0
  obtain ⟨⟨n1, x1, t1, m1, d1⟩, h1, h2⟩ := Option.bind_eq_some_iff.mp h
  clear h
  have HN1 := A_ (pEnd_nil h1)
  have H1 := A_ h1
  clear h1
  cases x1 with
  | some y =>
    obtain rfl := Option.some.inj h2
    clear h2
    go_enter Tryz.func38, Tryz.ntmps38
    go_wp2_with (first | ((with_reducible refine gD 2 ?_); refine bxe_ 2 z8_ 27 ?_; intro gb hgb w2 hbox hb; have BK := A_ hbox; have NB := A_ (HP.out.new hgb); replace HP := A_ (HP.out.below hb); clear hb hbox hgb) | ((with_reducible refine gD 10 ?_); refine gL 10 Tryz.func56 #[.pointer (some ⟨g, 0, none⟩)] ?_; (with_reducible refine (parser_end.calls k g t m d _ w0 _ HP.out.hI HP.out.hB H1.out).mono ?_); rintro e1 w1 ⟨u1, rfl, hx, hP⟩; obtain ⟨qx, rfl, hqx, hX⟩ := hx; refine ⟨_, rfl, ?_⟩; have GQ := A_ (Nat.le_trans HP.out.hK.1 hqx); have NQB := A_ (show qx ≠ gb from Ne.symm (Nat.ne_of_lt (Nat.lt_of_lt_of_le (blk_lt BK.out) hqx))); have BX := A_ hX; replace BK := A_ (hP.blk BK.out NB.out); replace HP := A_ (HP.out.trans hP); clear hP hX hqx) | ((with_reducible refine gD 4 ?_); refine bxe_ 4 z8_ 27 ?_; intro ga hga w4 hbox hb; have BA := A_ hbox; have NA := A_ (HP.out.new hga); have NBA := A_ (show gb ≠ ga from by rw [hga]; exact Nat.ne_of_lt (blk_lt BK.out)); have nba := NBA.out; have nab := Ne.symm nba; have NQA := A_ (show qx ≠ ga from by rw [hga]; exact Nat.ne_of_lt (blk_lt BX.out)); replace BX := A_ (blk_below BX.out hb); replace HP := A_ (HP.out.below hb); replace BK := A_ (blk_below BK.out hb); have Z := bz8_ BA; have ZK := bz8_ BK; clear hb hbox hga))
    refine bodyPost_ret (results_ct rfl _ _ gb 27 #[.int .i64 n1.f0, .int .i64 n1.f1.f0, .string n1.f1.f1, .string n1.f1.f2, .string n1.f1.f3, .bool n1.f2, .bool n1.f3, .slice none 0 0] (0, 0) _ rfl (put8_ (far8_ BK.out NBA.out ..) ..) Tryz.underlying27 rfl (by kernel_rfl)) rfl ?_
    refine ⟨_, _, rfl, ?_, IsX.put (far8_ (far8_ BX.out NQA.out ..) NQB.out ..) GQ.out, (HP.out.all8 NA.out ..).all8 NB.out ..⟩
    rw [HN1.out]
    exact Kd.V_nil _ _ _ _ _
  | none =>
    cases t1 with
    | nil => cases h2
    | cons y u =>
      by_cases cy : y.f0 = 1
      · have k1 : (y.f0 != 1) = false := bne_eq_false_iff_eq.mpr cy
        replace h2 := (if_pos cy).symm.trans h2
        clear cy
        by_cases cm : m1 = 64
        · replace h2 := (if_pos cm).symm.trans h2
          have HM := A_ cm
          clear cm
          obtain rfl := Option.some.inj h2
          clear h2
          go_enter Tryz.func38, Tryz.ntmps38
          go_wp2_with (first | ((with_reducible refine gD 2 ?_); refine bxe_ 2 z8_ 27 ?_; intro gb hgb w2 hbox hb; have BK := A_ hbox; have NB := A_ (HP.out.new hgb); replace HP := A_ (HP.out.below hb); clear hb hbox hgb) | ((with_reducible refine gD 10 ?_); refine gL 10 Tryz.func56 #[.pointer (some ⟨g, 0, none⟩)] ?_; (with_reducible refine (parser_end.calls k g t m d _ w0 _ HP.out.hI HP.out.hB H1.out).mono ?_); rintro e1 w1 ⟨u1, rfl, hx, hP⟩; obtain rfl : u1 = .pointer none := hx; refine ⟨_, rfl, ?_⟩; replace BK := A_ (hP.blk BK.out NB.out); replace HP := A_ (HP.out.trans hP); clear hP) | ((with_reducible refine gD 4 ?_); refine bxe_ 4 z8_ 27 ?_; intro ga hga w4 hbox hb; have BA := A_ hbox; have NA := A_ (HP.out.new hga); have NBA := A_ (show gb ≠ ga from by rw [hga]; exact Nat.ne_of_lt (blk_lt BK.out)); have nba := NBA.out; have nab := Ne.symm nba; replace HP := A_ (HP.out.below hb); replace BK := A_ (blk_below BK.out hb); have Z := bz8_ BA; have ZK := bz8_ BK; clear hb hbox hga) | ((with_reducible refine gD 18 ?_); refine gL 18 Tryz.func18 #[.pointer (some ⟨g, 0, none⟩)] ?_; clear Z ZK; replace HP := A_ (HP.out.all8 NA.out (.int .i64 n1.f0) (.int .i64 n1.f1.f0) (.string n1.f1.f1) (.string n1.f1.f2) (.string n1.f1.f3) (.bool n1.f2) (.bool n1.f3) (.slice none 0 0)); replace BK := A_ (far8_ BK.out NBA.out (.int .i64 n1.f0) (.int .i64 n1.f1.f0) (.string n1.f1.f1) (.string n1.f1.f2) (.string n1.f1.f3) (.bool n1.f2) (.bool n1.f3) (.slice none 0 0)); replace BA := A_ (put8_ BA.out (.int .i64 n1.f0) (.int .i64 n1.f1.f0) (.string n1.f1.f1) (.string n1.f1.f2) (.string n1.f1.f3) (.bool n1.f2) (.bool n1.f3) (.slice none 0 0)); (with_reducible refine (parser_next.calls g y u m1 d1 w0 _ HP.out.hI HP.out.hB).mono ?_); rintro e1 w1 ⟨rfl, hb⟩; refine ⟨_, rfl, ?_⟩; replace HP := A_ (HP.out.below hb); replace BK := A_ (blk_below BK.out hb); replace BA := A_ (blk_below BA.out hb); have Z := bz8_ BA; have ZK := bz8_ BK; clear hb) | ((with_reducible refine gD 29 ?_); refine gL 29 Tryz.func57 #[.pointer (some ⟨g, 0, none⟩)] ?_; (with_reducible refine (parser_begin.many g y u m1 d1 w0 _ HM.out HP.out.hI HP.out.hB).mono ?_); rintro e1 w1 ⟨uu, rfl, hx, hP⟩; refine ⟨_, rfl, ?_⟩; have HX := A_ hx; have GB := A_ (blk_lt BK.out); have GW := A_ HP.out.hK.1; replace BK := A_ (hP.blk BK.out NB.out); replace BA := A_ (hP.blk BA.out NA.out); replace HP := A_ (HP.out.trans hP); clear Z ZK; have Z := bz8_ BA; have ZK := bz8_ BK; obtain ⟨q1, rfl, hq1⟩ := HX.out; clear hx hP hq1))
          refine bodyPost_ret (results_ct rfl _ _ gb 27 #[.int .i64 n1.f0, .int .i64 n1.f1.f0, .string n1.f1.f1, .string n1.f1.f2, .string n1.f1.f3, .bool n1.f2, .bool n1.f3, .slice none 0 0] (0, 0) _ rfl (put8_ BK.out ..) Tryz.underlying27 rfl (by kernel_rfl)) rfl ?_
          refine ⟨_, _, rfl, ?_, HX.out.all8 GB.out GW.out .., HP.out.all8 NB.out ..⟩
          rw [HN1.out]
          exact Kd.V_nil _ _ _ _ _
        · replace h2 := (if_neg cm).symm.trans h2
          have HM := A_ cm
          clear cm
          obtain ⟨⟨n2, x2, t2, m2, d2⟩, h3, h4⟩ := Option.bind_eq_some_iff.mp h2
          clear h2
          have HN2 := A_ (pEnd_nil h3)
          have H3 := A_ h3
          clear h3
          obtain rfl := Option.some.inj h4
          clear h4
          go_enter Tryz.func38, Tryz.ntmps38
          go_wp2_with (first | ((with_reducible refine gD 2 ?_); refine bxe_ 2 z8_ 27 ?_; intro gb hgb w2 hbox hb; have BK := A_ hbox; have NB := A_ (HP.out.new hgb); replace HP := A_ (HP.out.below hb); clear hb hbox hgb) | ((with_reducible refine gD 10 ?_); refine gL 10 Tryz.func56 #[.pointer (some ⟨g, 0, none⟩)] ?_; (with_reducible refine (parser_end.calls k g t m d _ w0 _ HP.out.hI HP.out.hB H1.out).mono ?_); rintro e1 w1 ⟨u1, rfl, hx, hP⟩; obtain rfl : u1 = .pointer none := hx; refine ⟨_, rfl, ?_⟩; replace BK := A_ (hP.blk BK.out NB.out); replace HP := A_ (HP.out.trans hP); clear hP) | ((with_reducible refine gD 4 ?_); refine bxe_ 4 z8_ 27 ?_; intro ga hga w4 hbox hb; have BA := A_ hbox; have NA := A_ (HP.out.new hga); have NBA := A_ (show gb ≠ ga from by rw [hga]; exact Nat.ne_of_lt (blk_lt BK.out)); have nba := NBA.out; have nab := Ne.symm nba; replace HP := A_ (HP.out.below hb); replace BK := A_ (blk_below BK.out hb); have Z := bz8_ BA; have ZK := bz8_ BK; clear hb hbox hga) | ((with_reducible refine gD 18 ?_); refine gL 18 Tryz.func18 #[.pointer (some ⟨g, 0, none⟩)] ?_; clear Z ZK; replace HP := A_ (HP.out.all8 NA.out (.int .i64 n1.f0) (.int .i64 n1.f1.f0) (.string n1.f1.f1) (.string n1.f1.f2) (.string n1.f1.f3) (.bool n1.f2) (.bool n1.f3) (.slice none 0 0)); replace BK := A_ (far8_ BK.out NBA.out (.int .i64 n1.f0) (.int .i64 n1.f1.f0) (.string n1.f1.f1) (.string n1.f1.f2) (.string n1.f1.f3) (.bool n1.f2) (.bool n1.f3) (.slice none 0 0)); replace BA := A_ (put8_ BA.out (.int .i64 n1.f0) (.int .i64 n1.f1.f0) (.string n1.f1.f1) (.string n1.f1.f2) (.string n1.f1.f3) (.bool n1.f2) (.bool n1.f3) (.slice none 0 0)); (with_reducible refine (parser_next.calls g y u m1 d1 w0 _ HP.out.hI HP.out.hB).mono ?_); rintro e1 w1 ⟨rfl, hb⟩; refine ⟨_, rfl, ?_⟩; replace HP := A_ (HP.out.below hb); replace BK := A_ (blk_below BK.out hb); replace BA := A_ (blk_below BA.out hb); have Z := bz8_ BA; have ZK := bz8_ BK; clear hb) | ((with_reducible refine gD 29 ?_); refine gL 29 Tryz.func57 #[.pointer (some ⟨g, 0, none⟩)] ?_; (with_reducible refine (parser_begin.one g (y :: u) m1 d1 w0 _ HM.out HP.out.hI HP.out.hB).mono ?_); rintro e1 w1 ⟨rfl, hP⟩; refine ⟨_, rfl, ?_⟩; replace BK := A_ (hP.blk BK.out NB.out); replace BA := A_ (hP.blk BA.out NA.out); replace HP := A_ (HP.out.trans hP); clear Z ZK hP) | ((with_reducible refine gC 58 ?_); refine gL 35 Tryz.func58 #[.pointer (some ⟨g, 0, none⟩)] ?_; (with_reducible refine (parser_take.calls g y u (wrap64 (m1 + 1)) d1 w0 _ HP.out.hI HP.out.hB).mono ?_); rintro e3 w3 ⟨⟨v3, rfl⟩, hP⟩; refine ⟨_, rfl, ?_⟩; replace BK := A_ (hP.blk BK.out NB.out); replace BA := A_ (hP.blk BA.out NA.out); replace HP := A_ (HP.out.trans hP); clear hP) | ((with_reducible refine gD 38 ?_); refine gL 38 Tryz.func56 #[.pointer (some ⟨g, 0, none⟩)] ?_; (with_reducible refine (parser_end.calls k g u (wrap64 (m1 + 1)) d1 _ w0 _ HP.out.hI HP.out.hB H3.out).mono ?_); rintro e1 w1 ⟨u2, rfl, hx, hP⟩; refine ⟨_, rfl, ?_⟩; have HX := A_ hx; have GB := A_ (blk_lt BK.out); have GW := A_ HP.out.hK.1; replace BK := A_ (hP.blk BK.out NB.out); replace BA := A_ (hP.blk BA.out NA.out); replace HP := A_ (HP.out.trans hP); clear hx hP) | ((with_reducible refine gD 7 ?_); refine bxe_ 7 z8_ 27 ?_; intro gc hgc w4 hbox hb; have BC := A_ hbox; have NC := A_ (HP.out.new hgc); have NBC := A_ (show gb ≠ gc from by rw [hgc]; exact Nat.ne_of_lt (blk_lt BK.out)); have NAC := A_ (show ga ≠ gc from by rw [hgc]; exact Nat.ne_of_lt (blk_lt BA.out)); have nac := NAC.out; replace HX := A_ (HX.out.new8 hgc hb (.int .i64 n2.f0) (.int .i64 n2.f1.f0) (.string n2.f1.f1) (.string n2.f1.f2) (.string n2.f1.f3) (.bool n2.f2) (.bool n2.f3) (.slice none 0 0)); replace HP := A_ (HP.out.below hb); replace BK := A_ (blk_below BK.out hb); replace BA := A_ (blk_below BA.out hb); have Z := bz8_ BA; have ZK := bz8_ BC; clear hb hbox hgc) | ((with_reducible refine gC 59 ?_); refine gL 43 Tryz.func59 #[.agg #[.int .i64 n1.f0, .int .i64 n1.f1.f0, .string n1.f1.f1, .string n1.f1.f2, .string n1.f1.f3, .bool n1.f2, .bool n1.f3, .slice none 0 0], .agg #[.int .i64 n2.f0, .int .i64 n2.f1.f0, .string n2.f1.f1, .string n2.f1.f2, .string n2.f1.f3, .bool n2.f2, .bool n2.f3, .slice none 0 0]] ?_; clear Z ZK; replace HP := A_ (HP.out.all8 NC.out (.int .i64 n2.f0) (.int .i64 n2.f1.f0) (.string n2.f1.f1) (.string n2.f1.f2) (.string n2.f1.f3) (.bool n2.f2) (.bool n2.f3) (.slice none 0 0)); replace BK := A_ (far8_ BK.out NBC.out (.int .i64 n2.f0) (.int .i64 n2.f1.f0) (.string n2.f1.f1) (.string n2.f1.f2) (.string n2.f1.f3) (.bool n2.f2) (.bool n2.f3) (.slice none 0 0)); (with_reducible refine (tree_Between.nil n1 n2 HN1.out HN2.out _).mono ?_); rintro e1 w1 ⟨v5, rfl, hV, hb⟩; refine ⟨_, rfl, ?_⟩; obtain ⟨A5, c5, rfl⟩ : ∃ A5 c5, v5 = .slice A5 2 c5 := Kd.V_slice hV; have HV := A_ hV; have GBV := A_ (blk_lt BK.out); have GWV := A_ HP.out.hK.1; replace HX := A_ (HX.out.below hb); replace HP := A_ (HP.out.below hb); replace BK := A_ (blk_below BK.out hb); have Z := bz8_ BK; clear hV hb))
          refine bodyPost_ret (results_ct rfl _ _ gb 27 #[.int .i64 1, .int .i64 0, .string ⟨#[]⟩, .string ⟨#[]⟩, .string ⟨#[]⟩, .bool false, .bool false, .slice A5 2 c5] (0, 0) _ rfl (put8_ BK.out ..) Tryz.underlying27 rfl (by kernel_rfl)) rfl ?_
          have r1 := V_all8 HV.out (fun q hq => Ne.symm (Nat.ne_of_lt (Nat.lt_of_lt_of_le GBV.out hq))) (.int .i64 1) (.int .i64 0) (.string ⟨#[]⟩) (.string ⟨#[]⟩) (.string ⟨#[]⟩) (.bool false) (.bool false) (.slice A5 2 c5)
          have r2 := HX.out.all8 GB.out GW.out (.int .i64 1) (.int .i64 0) (.string ⟨#[]⟩) (.string ⟨#[]⟩) (.string ⟨#[]⟩) (.bool false) (.bool false) (.slice A5 2 c5)
          have r3 := HP.out.all8 NB.out (.int .i64 1) (.int .i64 0) (.string ⟨#[]⟩) (.string ⟨#[]⟩) (.string ⟨#[]⟩) (.bool false) (.bool false) (.slice A5 2 c5)
          exact ⟨_, _, rfl, Kd.V_lower (Kd.V_mono r1 (fun q hq => Nat.le_trans GWV.out hq)) GWV.out, r2, r3⟩
      · have k1 : (y.f0 != 1) = true := bne_iff_ne.mpr cy
        replace h2 := (if_neg cy).symm.trans h2
        clear cy
        by_cases cn : n1.f0 = 0
        · replace h2 := (if_pos cn).symm.trans h2
          have k2 : (n1.f0 != 0) = false := bne_eq_false_iff_eq.mpr cn
          clear cn
          obtain rfl := Option.some.inj h2
          clear h2
          go_enter Tryz.func38, Tryz.ntmps38
          go_wp2_with (first | ((with_reducible refine gD 2 ?_); refine bxe_ 2 z8_ 27 ?_; intro gb hgb w2 hbox hb; have BK := A_ hbox; have NB := A_ (HP.out.new hgb); replace HP := A_ (HP.out.below hb); clear hb hbox hgb) | ((with_reducible refine gD 10 ?_); refine gL 10 Tryz.func56 #[.pointer (some ⟨g, 0, none⟩)] ?_; (with_reducible refine (parser_end.calls k g t m d _ w0 _ HP.out.hI HP.out.hB H1.out).mono ?_); rintro e1 w1 ⟨u1, rfl, hx, hP⟩; obtain rfl : u1 = .pointer none := hx; refine ⟨_, rfl, ?_⟩; replace BK := A_ (hP.blk BK.out NB.out); replace HP := A_ (HP.out.trans hP); clear hP) | ((with_reducible refine gD 4 ?_); refine bxe_ 4 z8_ 27 ?_; intro ga hga w4 hbox hb; have BA := A_ hbox; have NA := A_ (HP.out.new hga); have NBA := A_ (show gb ≠ ga from by rw [hga]; exact Nat.ne_of_lt (blk_lt BK.out)); have nba := NBA.out; have nab := Ne.symm nba; replace HP := A_ (HP.out.below hb); replace BK := A_ (blk_below BK.out hb); have Z := bz8_ BA; have ZK := bz8_ BK; clear hb hbox hga) | ((with_reducible refine gD 18 ?_); refine gL 18 Tryz.func18 #[.pointer (some ⟨g, 0, none⟩)] ?_; clear Z ZK; replace HP := A_ (HP.out.all8 NA.out (.int .i64 n1.f0) (.int .i64 n1.f1.f0) (.string n1.f1.f1) (.string n1.f1.f2) (.string n1.f1.f3) (.bool n1.f2) (.bool n1.f3) (.slice none 0 0)); replace BK := A_ (far8_ BK.out NBA.out (.int .i64 n1.f0) (.int .i64 n1.f1.f0) (.string n1.f1.f1) (.string n1.f1.f2) (.string n1.f1.f3) (.bool n1.f2) (.bool n1.f3) (.slice none 0 0)); replace BA := A_ (put8_ BA.out (.int .i64 n1.f0) (.int .i64 n1.f1.f0) (.string n1.f1.f1) (.string n1.f1.f2) (.string n1.f1.f3) (.bool n1.f2) (.bool n1.f3) (.slice none 0 0)); (with_reducible refine (parser_next.calls g y u m1 d1 w0 _ HP.out.hI HP.out.hB).mono ?_); rintro e1 w1 ⟨rfl, hb⟩; refine ⟨_, rfl, ?_⟩; replace HP := A_ (HP.out.below hb); replace BK := A_ (blk_below BK.out hb); replace BA := A_ (blk_below BA.out hb); have Z := bz8_ BA; have ZK := bz8_ BK; clear hb))
          refine bodyPost_ret (results_ct rfl _ _ gb 27 #[.int .i64 n1.f0, .int .i64 n1.f1.f0, .string n1.f1.f1, .string n1.f1.f2, .string n1.f1.f3, .bool n1.f2, .bool n1.f3, .slice none 0 0] (0, 0) _ rfl (put8_ BK.out ..) Tryz.underlying27 rfl (by kernel_rfl)) rfl ?_
          refine ⟨_, _, rfl, ?_, rfl, HP.out.all8 NB.out ..⟩
          rw [HN1.out]
          exact Kd.V_nil _ _ _ _ _
        · replace h2 := (if_neg cn).symm.trans h2
          have k2 : (n1.f0 != 0) = true := bne_iff_ne.mpr cn
          clear cn
          obtain rfl := Option.some.inj h2
          clear h2
          go_enter Tryz.func38, Tryz.ntmps38
          go_wp2_with (first | ((with_reducible refine gD 2 ?_); refine bxe_ 2 z8_ 27 ?_; intro gb hgb w2 hbox hb; have BK := A_ hbox; have NB := A_ (HP.out.new hgb); replace HP := A_ (HP.out.below hb); clear hb hbox hgb) | ((with_reducible refine gD 10 ?_); refine gL 10 Tryz.func56 #[.pointer (some ⟨g, 0, none⟩)] ?_; (with_reducible refine (parser_end.calls k g t m d _ w0 _ HP.out.hI HP.out.hB H1.out).mono ?_); rintro e1 w1 ⟨u1, rfl, hx, hP⟩; obtain rfl : u1 = .pointer none := hx; refine ⟨_, rfl, ?_⟩; replace BK := A_ (hP.blk BK.out NB.out); replace HP := A_ (HP.out.trans hP); clear hP) | ((with_reducible refine gD 4 ?_); refine bxe_ 4 z8_ 27 ?_; intro ga hga w4 hbox hb; have BA := A_ hbox; have NA := A_ (HP.out.new hga); have NBA := A_ (show gb ≠ ga from by rw [hga]; exact Nat.ne_of_lt (blk_lt BK.out)); have nba := NBA.out; have nab := Ne.symm nba; replace HP := A_ (HP.out.below hb); replace BK := A_ (blk_below BK.out hb); have Z := bz8_ BA; have ZK := bz8_ BK; clear hb hbox hga) | ((with_reducible refine gD 18 ?_); refine gL 18 Tryz.func18 #[.pointer (some ⟨g, 0, none⟩)] ?_; clear Z ZK; replace HP := A_ (HP.out.all8 NA.out (.int .i64 n1.f0) (.int .i64 n1.f1.f0) (.string n1.f1.f1) (.string n1.f1.f2) (.string n1.f1.f3) (.bool n1.f2) (.bool n1.f3) (.slice none 0 0)); replace BK := A_ (far8_ BK.out NBA.out (.int .i64 n1.f0) (.int .i64 n1.f1.f0) (.string n1.f1.f1) (.string n1.f1.f2) (.string n1.f1.f3) (.bool n1.f2) (.bool n1.f3) (.slice none 0 0)); replace BA := A_ (put8_ BA.out (.int .i64 n1.f0) (.int .i64 n1.f1.f0) (.string n1.f1.f1) (.string n1.f1.f2) (.string n1.f1.f3) (.bool n1.f2) (.bool n1.f3) (.slice none 0 0)); (with_reducible refine (parser_next.calls g y u m1 d1 w0 _ HP.out.hI HP.out.hB).mono ?_); rintro e1 w1 ⟨rfl, hb⟩; refine ⟨_, rfl, ?_⟩; replace HP := A_ (HP.out.below hb); replace BK := A_ (blk_below BK.out hb); replace BA := A_ (blk_below BA.out hb); have Z := bz8_ BA; have ZK := bz8_ BK; clear hb))
          go_region_held3 (fun w' => w'.cell? ⟨ga, 0, none⟩ = some (.int .i64 n1.f0) ∧ w'.cell? ⟨ga, 1, none⟩ = some (.int .i64 n1.f1.f0) ∧ w'.cell? ⟨ga, 2, none⟩ = some (.string n1.f1.f1) ∧ w'.cell? ⟨ga, 3, none⟩ = some (.string n1.f1.f2) ∧ w'.cell? ⟨ga, 4, none⟩ = some (.string n1.f1.f3) ∧ w'.cell? ⟨ga, 5, none⟩ = some (.bool n1.f2) ∧ w'.cell? ⟨ga, 6, none⟩ = some (.bool n1.f3) ∧ w'.cell? ⟨ga, 7, none⟩ = some (.slice none 0 0)) (first | (with_reducible exact C8_ BA.out) | (with_reducible exact C8_ (blk_drew BA.out)) | exact C8_ (far8_ BA.out nab (.int .i64 n1.f0) (.int .i64 n1.f1.f0) (.string n1.f1.f1) (.string n1.f1.f2) (.string n1.f1.f3) (.bool n1.f2) (.bool n1.f3) (.slice none 0 0))) (first | (go_at_call 19; replace HP := A_ HP.out.drew; replace BK := A_ (blk_drew BK.out); replace BA := A_ (blk_drew BA.out); (with_reducible refine (parser_not.calls g y u m1 d1 3 w0 _ HP.out.hI HP.out.hB).mono ?_); rintro e1 w1 ⟨u1, rfl, hx, hb⟩; have HX := A_ hx; have GB := A_ (blk_lt BK.out); have GW := A_ HP.out.hK.1; replace HP := A_ (HP.out.below hb); replace BK := A_ (blk_below BK.out hb); replace BA := A_ (blk_below BA.out hb); clear Z ZK; have Z := bz8_ BA; have ZK := bz8_ BK; clear hx hb))
          go_wp2
          refine bodyPost_ret (results_ct rfl _ _ gb 27 #[.int .i64 n1.f0, .int .i64 n1.f1.f0, .string n1.f1.f1, .string n1.f1.f2, .string n1.f1.f3, .bool n1.f2, .bool n1.f3, .slice none 0 0] (0, 0) _ rfl (put8_ BK.out ..) Tryz.underlying27 rfl (by kernel_rfl)) rfl ?_
          have r2 := HX.out.all8 GB.out GW.out (.int .i64 n1.f0) (.int .i64 n1.f1.f0) (.string n1.f1.f1) (.string n1.f1.f2) (.string n1.f1.f3) (.bool n1.f2) (.bool n1.f3) (.slice none 0 0)
          have r3 := HP.out.all8 NB.out (.int .i64 n1.f0) (.int .i64 n1.f1.f0) (.string n1.f1.f1) (.string n1.f1.f2) (.string n1.f1.f3) (.bool n1.f2) (.bool n1.f3) (.slice none 0 0)
          refine ⟨_, _, rfl, ?_, r2, r3⟩
          rw [HN1.out]
          exact Kd.V_nil _ _ _ _ _
theorem N_all8 {W : World} {b q : Nat} {ok : Nat → Prop} {v : Value} {l : List S27} (h : Kd.N k27 27 W b ok v l) (hok : ∀ k, ok k → k ≠ q) (a a1 c e f i j k : Value) : Kd.N k27 27 ((((((((W.setCell ⟨q, 0, none⟩ a).setCell ⟨q, 1, none⟩ a1).setCell ⟨q, 2, none⟩ c).setCell ⟨q, 3, none⟩ e).setCell ⟨q, 4, none⟩ f).setCell ⟨q, 5, none⟩ i).setCell ⟨q, 6, none⟩ j).setCell ⟨q, 7, none⟩ k) b ok v l :=
  Kd.N_far (p := ⟨q, 7, none⟩) (Kd.N_far (p := ⟨q, 6, none⟩) (Kd.N_far (p := ⟨q, 5, none⟩) (Kd.N_far (p := ⟨q, 4, none⟩) (Kd.N_far (p := ⟨q, 3, none⟩) (Kd.N_far (p := ⟨q, 2, none⟩) (Kd.N_far (p := ⟨q, 1, none⟩) (Kd.N_far (p := ⟨q, 0, none⟩) h hok a) hok a1) hok c) hok e) hok f) hok i) hok j) hok k
theorem PK.grown {w0 w W W1 : World} {g : Nat} {t : List S46} {m d : Int} {row : Option Nat} (h : PK w0 w W g t m d) (hg : W.grownBy W1 row) (hr : ∀ k, row = some k → w.heap.size ≤ k) (h0 : w0.heap.size ≤ w.heap.size) (hlt : g < w.heap.size) : PK w0 w W1 g t m d := by
  obtain ⟨⟨A, c, hG, hI⟩, hB, hK⟩ := h
  refine ⟨⟨A, c, blk_grown hG hg (fun e => ?_), hI⟩, hB.grown hg hB.size (fun k e => Nat.le_trans h0 (hr k e)), hK.trans (KeepBut.of_grown hg g) ?_⟩
  · have := hr g e.symm
    omega
  · cases row with
    | none => exact .inl rfl
    | some k => exact .inr ⟨k, rfl, hr k rfl⟩
def Told (r : PR) (g : Nat) (w0 w : World) (e' : Ending) (w' : World) : Prop := ∃ v u, e' = .returned (.tuple #[.agg #[.int .i64 r.n.f0, .int .i64 r.n.f1.f0, .string r.n.f1.f1, .string r.n.f1.f2, .string r.n.f1.f3, .bool r.n.f2, .bool r.n.f3, v], u]) ∧ Kd.V k27 27 w' w.heap.size (fun q => w.heap.size ≤ q) v r.n.f4 ∧ IsX w.heap.size w' u r.x ∧ PK w0 w w' g r.t r.m r.d
abbrev ExprAt (k : Nat) : Prop := ∀ (g : Nat) (t : List S46) (m d : Int) (r : PR) (w0 w : World), IsP w0 w g t m d → Below w0.heap.size w0 w → pExpr k m d t = some r → Calls Tryz.prog 17 #[.pointer (some ⟨g, 0, none⟩)] w (Told r g w0 w)
theorem V_base {W : World} {b b' : Nat} {ok : Nat → Prop} {v : Value} {l : List S27} (h : Kd.V k27 27 W b ok v l) : Kd.V k27 27 W b' ok v l := by
  obtain ⟨A, c, h1, h2, h3⟩ := h
  exact ⟨A, c, h1, h2, h3⟩
theorem sl8_ (W : World) (q : Nat) (a a1 c e f i j k : Value) : Value.slice (some ⟨W.heap.size, 0, none⟩) 1 1 = .slice (some ⟨((((((((W.setCell ⟨q, 0, none⟩ a).setCell ⟨q, 1, none⟩ a1).setCell ⟨q, 2, none⟩ c).setCell ⟨q, 3, none⟩ e).setCell ⟨q, 4, none⟩ f).setCell ⟨q, 5, none⟩ i).setCell ⟨q, 6, none⟩ j).setCell ⟨q, 7, none⟩ k).heap.size, 0, none⟩) 1 1 := by simp only [World.size_setCell]
theorem PK.setD {w0 w W : World} {g : Nat} {t : List S46} {m d : Int} (h : PK w0 w W g t m d) (x : Int) : PK w0 w (W.setCell ⟨g, 2, none⟩ (.int .i64 x)) g t m x := ⟨h.hI.setD x, below_set h.hB h.hI.ge, h.hK.set_ 2 _⟩
set_option maxHeartbeats 8000000 in
set_option maxRecDepth 100000 in
theorem parser_list.calls (k : Nat) (ih : ∀ j, j < k → ExprAt j) (g : Nat) (x : S46) (t : List S46) (m d : Int) (r : PR) (w0 w : World) (hI : IsP w0 w g (x :: t) m d) (hB0 : Below w0.heap.size w0 w) (h : pList k m d x t = some r) :
    Calls Tryz.prog 39 #[.pointer (some ⟨g, 0, none⟩)] w (Told r g w0 w) := by
  have G0 := A_ hB0.size
  have GL := A_ hI.lt
  have HP := A_ (PK.start hI hB0)
  have IH := A_ ih
  clear hI hB0 ih
  cases k with
  | zero => cases h
  | succ k =>
    rw [pList] at h
    by_cases c0 : d = 8
    · rw [if_pos c0] at h
      have k0 : (d == 8) = true := beq_iff_eq.mpr c0
      clear c0
      obtain rfl := Option.some.inj h
      clear h
      go_enter Tryz.func39, Tryz.ntmps39
      go_wp2_with (first | ((with_reducible refine gD 2 ?_); refine bxe_ 2 z8_ 27 ?_; intro gb hgb w2 hbox hb; have BK := A_ hbox; have NB := A_ (HP.out.new hgb); replace HP := A_ (HP.out.below hb); obtain ⟨A, c, hG, hg, hc, hC⟩ := HP.out.hI; have HG := A_ hG; have hp1 := (blk_cell HG.out 1).trans rfl; have hp2 := (blk_cell HG.out 2).trans rfl; have hf1 := blk_frozen HG.out 1; have hf2 := blk_frozen HG.out 2; clear hG hg hc hC; clear hb hbox hgb) | ((with_reducible refine gD 15 ?_); refine gL 15 Tryz.func19 #[.pointer (some ⟨g, 0, none⟩), .int .i64 5] ?_; (with_reducible refine (parser_not.calls g x t m d 5 w0 _ HP.out.hI HP.out.hB).mono ?_); rintro e1 w1 ⟨u1, rfl, hx, hb⟩; refine ⟨_, rfl, ?_⟩; have HX := A_ hx; have GB := A_ (blk_lt BK.out); have GW := A_ HP.out.hK.1; replace HP := A_ (HP.out.below hb); replace BK := A_ (blk_below BK.out hb); have Z := bz8_ BK; clear hx hb))
      refine bodyPost_ret (results_ct rfl _ _ gb 27 z8_ (0, 0) _ rfl (put8_ BK.out ..) Tryz.underlying27 rfl (by kernel_rfl)) rfl ?_; exact ⟨_, _, rfl, Kd.V_nil _ _ _ _ _, HX.out.all8 GB.out GW.out .., HP.out.all8 NB.out ..⟩
    rw [if_neg c0] at h
    have k0 : (d == 8) = false := beq_eq_false_iff_ne.mpr c0
    clear c0
    by_cases cm : m = 64
    · rw [if_pos cm] at h
      have HM := A_ cm
      clear cm
      obtain rfl := Option.some.inj h
      clear h
      go_enter Tryz.func39, Tryz.ntmps39
      go_wp2_with (first | ((with_reducible refine gD 2 ?_); refine bxe_ 2 z8_ 27 ?_; intro gb hgb w2 hbox hb; have BK := A_ hbox; have NB := A_ (HP.out.new hgb); replace HP := A_ (HP.out.below hb); obtain ⟨A, c, hG, hg, hc, hC⟩ := HP.out.hI; have HG := A_ hG; have hp1 := (blk_cell HG.out 1).trans rfl; have hp2 := (blk_cell HG.out 2).trans rfl; have hf1 := blk_frozen HG.out 1; have hf2 := blk_frozen HG.out 2; clear hG hg hc hC; clear hb hbox hgb) | ((with_reducible refine gD 17 ?_); refine gL 17 Tryz.func57 #[.pointer (some ⟨g, 0, none⟩)] ?_; (with_reducible refine (parser_begin.many g x t m d w0 _ HM.out HP.out.hI HP.out.hB).mono ?_); rintro e1 w1 ⟨uu, rfl, hx, hP⟩; refine ⟨_, rfl, ?_⟩; have HX := A_ hx; have GB := A_ (blk_lt BK.out); have GW := A_ HP.out.hK.1; replace BK := A_ (hP.blk BK.out NB.out); replace HP := A_ (HP.out.trans hP); have Z := bz8_ BK; obtain ⟨q1, rfl, hq1⟩ := HX.out; clear hx hP hq1))
      refine bodyPost_ret (results_ct rfl _ _ gb 27 z8_ (0, 0) _ rfl (put8_ BK.out ..) Tryz.underlying27 rfl (by kernel_rfl)) rfl ?_; exact ⟨_, _, rfl, Kd.V_nil _ _ _ _ _, HX.out.all8 GB.out GW.out .., HP.out.all8 NB.out ..⟩
    rw [if_neg cm] at h
    have HM := A_ cm
    have H' := A_ h
    clear cm h
    go_enter Tryz.func39, Tryz.ntmps39
    go_wp2_with (first | ((with_reducible refine gD 2 ?_); refine bxe_ 2 z8_ 27 ?_; intro gb hgb w2 hbox hb; have BK := A_ hbox; have NB := A_ (HP.out.new hgb); replace HP := A_ (HP.out.below hb); obtain ⟨A, c, hG, hg, hc, hC⟩ := HP.out.hI; have HG := A_ hG; have hp1 := (blk_cell HG.out 1).trans rfl; have hp2 := (blk_cell HG.out 2).trans rfl; have hf1 := blk_frozen HG.out 1; have hf2 := blk_frozen HG.out 2; clear hG hg hc hC; clear hb hbox hgb) | ((with_reducible refine gD 17 ?_); refine gL 17 Tryz.func57 #[.pointer (some ⟨g, 0, none⟩)] ?_; (with_reducible refine (parser_begin.one g (x :: t) m d w0 _ HM.out HP.out.hI HP.out.hB).mono ?_); rintro e1 w1 ⟨rfl, hP⟩; refine ⟨_, rfl, ?_⟩; replace BK := A_ (hP.blk BK.out NB.out); replace HP := A_ (HP.out.trans hP); clear hp1 hp2 hf1 hf2 HG; obtain ⟨A, c, hG, hg, hc, hC⟩ := HP.out.hI; have HG := A_ hG; have hp1 := (blk_cell HG.out 1).trans rfl; have hp2 := (blk_cell HG.out 2).trans rfl; have hf1 := blk_frozen HG.out 1; have hf2 := blk_frozen HG.out 2; clear hG hg hc hC; clear hP))
    (try simp only [Act.put, List.setIfInBounds_toArray, List.set_cons_zero, List.set_cons_succ])
    go_loopg [5] k (fun kq v5 w' => ∃ (t1 : List S46) (m1 d1 : Int) (l1 : List S27), Aside0 (pItems kq m1 d1 t1 l1 = some r) ∧ Aside0 (kq ≤ k) ∧ Aside0 (Kd.N k27 27 w' w.heap.size (fun q => w.heap.size ≤ q ∧ q ≠ gb) v5 l1) ∧ Aside0 (w'.heap[gb]? = some (.cells z8_ 27 (0, 0))) ∧ Aside0 (PK w0 w w' g t1 m1 d1))
    case atStart => exact ⟨x :: t, wrap64 (m + 1), wrap64 (d + 1), [], H', ⟨Nat.le_refl _⟩, ⟨Kd.N_nil _ _ _ _ _⟩, ⟨blk_far (p := ⟨g, 2, none⟩) BK.out (Ne.symm NB.out.1) _⟩, ⟨HP.out.setD _⟩⟩
    case round =>
      clear H' BK HP HG hp1 hp2 hf1 hf2
      obtain ⟨t1, m1, d1, l1, HA, HK1, HN, BK, HP⟩ := hrel
      cases gk with
      | zero => exact absurd HA.out (by simp [pItems])
      | succ k1 =>
      cases t1 with
      | nil => exact absurd HA.out (by simp [pItems])
      | cons y0 t1 =>
      have H := HA.out
      clear HA
      rw [pItems] at H
      obtain ⟨⟨n1, x1, t2, m2, d2⟩, h1, h2⟩ := Option.bind_eq_some_iff.mp H
      clear H
      have H1 := A_ h1
      clear h1
      cases x1 with
      | some y =>
        obtain rfl := Option.some.inj h2
        clear h2
        go_wp2_with (first | ((with_reducible refine gC 58 ?_); refine gL 30 Tryz.func58 #[.pointer (some ⟨g, 0, none⟩)] ?_; (with_reducible refine (parser_take.calls g y0 t1 m1 d1 w0 _ HP.out.hI HP.out.hB).mono ?_); rintro e3 w3 ⟨⟨v3, rfl⟩, hP⟩; refine ⟨_, rfl, ?_⟩; replace BK := A_ (hP.blk BK.out NB.out); replace HN := A_ (Kd.N_keep HN.out hP.hK (fun q hq => Ne.symm (Nat.ne_of_lt (Nat.lt_of_lt_of_le GL.out hq.1)))); replace HP := A_ (HP.out.trans hP); clear hP) | ((with_reducible refine gC 17 ?_); refine gL 33 Tryz.func17 #[.pointer (some ⟨g, 0, none⟩)] ?_; (with_reducible refine (IH.out k1 (by have := HK1.out; omega) g t1 m1 d1 _ w0 _ HP.out.hI HP.out.hB H1.out).mono ?_); rintro e1 w1 ⟨v1, u1, rfl, hV, hx, hP⟩; obtain ⟨qx, rfl, hqx, hX⟩ := hx; have GQ := A_ (Nat.le_trans HP.out.hK.1 hqx); have NQB := A_ (show qx ≠ gb from Ne.symm (Nat.ne_of_lt (Nat.lt_of_lt_of_le (blk_lt BK.out) hqx))); have BX := A_ hX; clear hX hqx; refine ⟨_, rfl, ?_⟩; obtain ⟨A1, c1, rfl⟩ : ∃ A1 c1, v1 = .slice A1 n1.f4.length c1 := Kd.V_slice hV; have HV := A_ (Kd.V_mono (ok' := fun q => w.heap.size ≤ q ∧ q ≠ gb ∧ some q ≠ u5.ownBlock) hV (fun q hq => ⟨Nat.le_trans HP.out.hK.1 hq, Ne.symm (Nat.ne_of_lt (Nat.lt_of_lt_of_le (blk_lt BK.out) hq)), fun e => Nat.lt_irrefl _ (Nat.lt_of_lt_of_le (Kd.N_lt HN.out q e.symm) hq)⟩)); replace HN := A_ (Kd.N_keep HN.out hP.hK (fun q hq => Ne.symm (Nat.ne_of_lt (Nat.lt_of_lt_of_le GL.out hq.1)))); replace BK := A_ (hP.blk BK.out NB.out); replace HP := A_ (HP.out.trans hP); clear hV hP) | ((with_reducible refine gD 6 ?_); refine bxe_ 6 z8_ 27 ?_; intro ga hga w4 hbox hb; have BA := A_ hbox; have NA := A_ (HP.out.new hga); have NBA := A_ (show gb ≠ ga from by rw [hga]; exact Nat.ne_of_lt (blk_lt BK.out)); have nba := NBA.out; have nab := Ne.symm nba; have NOA := A_ (show some ga ≠ u5.ownBlock from fun e => by have := Kd.N_lt HN.out ga e.symm; omega); replace HN := A_ (Kd.N_below (Kd.N_elderB HN.out ga (Nat.le_of_eq hga.symm)) hb); replace HV := A_ (Kd.V_below (Kd.V_elderB HV.out ga (Nat.le_of_eq hga.symm)) hb); have NQA := A_ (show qx ≠ ga from by rw [hga]; exact Nat.ne_of_lt (blk_lt BX.out)); replace BX := A_ (blk_below BX.out hb); replace HP := A_ (HP.out.below hb); replace BK := A_ (blk_below BK.out hb); have Z := bz8_ BA; have ZK := bz8_ BK; clear hb hbox hga))
        refine bodyPost_ret (results_ct rfl _ _ gb 27 #[.int .i64 n1.f0, .int .i64 n1.f1.f0, .string n1.f1.f1, .string n1.f1.f2, .string n1.f1.f3, .bool n1.f2, .bool n1.f3, .slice A1 n1.f4.length c1] (0, 0) _ rfl (put8_ (far8_ BK.out NBA.out ..) ..) Tryz.underlying27 rfl (by kernel_rfl)) rfl ?_
        have p1 := V_all8 (V_all8 HV.out (fun q hq => hq.2) (.int .i64 n1.f0) (.int .i64 n1.f1.f0) (.string n1.f1.f1) (.string n1.f1.f2) (.string n1.f1.f3) (.bool n1.f2) (.bool n1.f3) (.slice A1 n1.f4.length c1)) (fun q hq => hq.1.2.1) (.int .i64 n1.f0) (.int .i64 n1.f1.f0) (.string n1.f1.f1) (.string n1.f1.f2) (.string n1.f1.f3) (.bool n1.f2) (.bool n1.f3) (.slice A1 n1.f4.length c1)
        have p2 := (HP.out.all8 NA.out (.int .i64 n1.f0) (.int .i64 n1.f1.f0) (.string n1.f1.f1) (.string n1.f1.f2) (.string n1.f1.f3) (.bool n1.f2) (.bool n1.f3) (.slice A1 n1.f4.length c1)).all8 NB.out (.int .i64 n1.f0) (.int .i64 n1.f1.f0) (.string n1.f1.f1) (.string n1.f1.f2) (.string n1.f1.f3) (.bool n1.f2) (.bool n1.f3) (.slice A1 n1.f4.length c1)
        have p3 := far8_ (far8_ BX.out NQA.out (.int .i64 n1.f0) (.int .i64 n1.f1.f0) (.string n1.f1.f1) (.string n1.f1.f2) (.string n1.f1.f3) (.bool n1.f2) (.bool n1.f3) (.slice A1 n1.f4.length c1)) NQB.out (.int .i64 n1.f0) (.int .i64 n1.f1.f0) (.string n1.f1.f1) (.string n1.f1.f2) (.string n1.f1.f3) (.bool n1.f2) (.bool n1.f3) (.slice A1 n1.f4.length c1)
        exact ⟨_, _, rfl, V_base (Kd.V_mono p1 (fun q hq => hq.1.1)), IsX.put p3 GQ.out, p2⟩
      | none =>
        by_cases cl : l1.length < 1466015503701
        · replace h2 := (if_pos cl).symm.trans h2
          have HLN := A_ cl
          clear cl
          cases t2 with
          | nil => cases h2
          | cons y u =>
          by_cases cy : y.f0 = 6
          · replace h2 := (if_pos cy).symm.trans h2
            have k6 : (y.f0 == 6) = true := beq_iff_eq.mpr cy
            clear cy
            have H' := A_ h2
            clear h2
            go_wp2_with (first | ((with_reducible refine gC 58 ?_); refine gL 30 Tryz.func58 #[.pointer (some ⟨g, 0, none⟩)] ?_; (with_reducible refine (parser_take.calls g y0 t1 m1 d1 w0 _ HP.out.hI HP.out.hB).mono ?_); rintro e3 w3 ⟨⟨v3, rfl⟩, hP⟩; refine ⟨_, rfl, ?_⟩; replace BK := A_ (hP.blk BK.out NB.out); replace HN := A_ (Kd.N_keep HN.out hP.hK (fun q hq => Ne.symm (Nat.ne_of_lt (Nat.lt_of_lt_of_le GL.out hq.1)))); replace HP := A_ (HP.out.trans hP); clear hP) | ((with_reducible refine gC 17 ?_); refine gL 33 Tryz.func17 #[.pointer (some ⟨g, 0, none⟩)] ?_; (with_reducible refine (IH.out k1 (by have := HK1.out; omega) g t1 m1 d1 _ w0 _ HP.out.hI HP.out.hB H1.out).mono ?_); rintro e1 w1 ⟨v1, u1, rfl, hV, hx, hP⟩; obtain rfl : u1 = .pointer none := hx; refine ⟨_, rfl, ?_⟩; obtain ⟨A1, c1, rfl⟩ : ∃ A1 c1, v1 = .slice A1 n1.f4.length c1 := Kd.V_slice hV; have HV := A_ (Kd.V_mono (ok' := fun q => w.heap.size ≤ q ∧ q ≠ gb ∧ some q ≠ u5.ownBlock) hV (fun q hq => ⟨Nat.le_trans HP.out.hK.1 hq, Ne.symm (Nat.ne_of_lt (Nat.lt_of_lt_of_le (blk_lt BK.out) hq)), fun e => Nat.lt_irrefl _ (Nat.lt_of_lt_of_le (Kd.N_lt HN.out q e.symm) hq)⟩)); replace HN := A_ (Kd.N_keep HN.out hP.hK (fun q hq => Ne.symm (Nat.ne_of_lt (Nat.lt_of_lt_of_le GL.out hq.1)))); replace BK := A_ (hP.blk BK.out NB.out); replace HP := A_ (HP.out.trans hP); clear hV hP) | ((with_reducible refine gD 6 ?_); refine bxe_ 6 z8_ 27 ?_; intro ga hga w4 hbox hb; have BA := A_ hbox; have NA := A_ (HP.out.new hga); have NBA := A_ (show gb ≠ ga from by rw [hga]; exact Nat.ne_of_lt (blk_lt BK.out)); have nba := NBA.out; have nab := Ne.symm nba; have NOA := A_ (show some ga ≠ u5.ownBlock from fun e => by have := Kd.N_lt HN.out ga e.symm; omega); replace HN := A_ (Kd.N_below (Kd.N_elderB HN.out ga (Nat.le_of_eq hga.symm)) hb); replace HV := A_ (Kd.V_below (Kd.V_elderB HV.out ga (Nat.le_of_eq hga.symm)) hb); replace HP := A_ (HP.out.below hb); replace BK := A_ (blk_below BK.out hb); have Z := bz8_ BA; have ZK := bz8_ BK; clear hb hbox hga) | ((with_reducible refine gate_builtin (b := .append) (xs := #[.tmp 40, .tmp 42]) rfl ?_); at_builtin; refine Kd.N_append k27 w.heap.size rfl (.tmp 40) (.tmp 42) 25 27 (.agg #[(.int .i64 0), (.int .i64 0), (.string ⟨#[]⟩), (.string ⟨#[]⟩), (.string ⟨#[]⟩), (.bool false), (.bool false), (.slice none 0 0)]) 96 rfl Tryz.underlying25 info27 rfl (by decide) (by omega) u5 l1 n1 [.int .i64 n1.f0, .int .i64 n1.f1.f0, .string n1.f1.f1, .string n1.f1.f2, .string n1.f1.f3, .bool n1.f2, .bool n1.f3, .slice A1 n1.f4.length c1] (fun q => w.heap.size ≤ q ∧ q ≠ gb) (fun q => (w.heap.size ≤ q ∧ q ≠ gb ∧ some q ≠ u5.ownBlock) ∧ q ≠ ga) rfl ?aX ?aP ?aK ?aF ?aO (Below.refl _ _) ?aS ?aL ?_; (case aX => exact sl8_ ..); (case aP => exact k27_mkF _ _ n1 (Kd.V_at HV.out).2.1 (Kd.V_F (V_all8 HV.out (fun q hq => hq.2) (.int .i64 n1.f0) (.int .i64 n1.f1.f0) (.string n1.f1.f1) (.string n1.f1.f2) (.string n1.f1.f3) (.bool n1.f2) (.bool n1.f3) (.slice A1 n1.f4.length c1)))); (case aK => exact fun q hq => ⟨⟨hq.1.1, hq.1.2.1⟩, hq.1.2.2⟩); (case aF => exact fun q hq => ⟨Nat.le_trans (HP.out.all8 NA.out (.int .i64 n1.f0) (.int .i64 n1.f1.f0) (.string n1.f1.f1) (.string n1.f1.f2) (.string n1.f1.f3) (.bool n1.f2) (.bool n1.f3) (.slice A1 n1.f4.length c1)).hK.1 hq, Ne.symm (Nat.ne_of_lt (Nat.lt_of_lt_of_le (blk_lt (far8_ BK.out NBA.out (.int .i64 n1.f0) (.int .i64 n1.f1.f0) (.string n1.f1.f1) (.string n1.f1.f2) (.string n1.f1.f3) (.bool n1.f2) (.bool n1.f3) (.slice A1 n1.f4.length c1))) hq))⟩); (case aO => exact Kd.N_mono (N_all8 HN.out (fun q hq => hq.2) (.int .i64 n1.f0) (.int .i64 n1.f1.f0) (.string n1.f1.f1) (.string n1.f1.f2) (.string n1.f1.f3) (.bool n1.f2) (.bool n1.f3) (.slice A1 n1.f4.length c1)) (fun q hq => hq.1)); (case aS => exact (HP.out.all8 NA.out (.int .i64 n1.f0) (.int .i64 n1.f1.f0) (.string n1.f1.f1) (.string n1.f1.f2) (.string n1.f1.f3) (.bool n1.f2) (.bool n1.f3) (.slice A1 n1.f4.length c1)).hK.1); (case aL => have := HLN.out; omega); intro v6 w6 ho hb hg hat; clear Z ZK; have HV2 := A_ (Kd.V_grown (V_all8 HV.out (fun q hq => hq.2) (.int .i64 n1.f0) (.int .i64 n1.f1.f0) (.string n1.f1.f1) (.string n1.f1.f2) (.string n1.f1.f3) (.bool n1.f2) (.bool n1.f3) (.slice A1 n1.f4.length c1)) hg (fun q hq => hq.1.2.2)); have BK2 := A_ (blk_grown (far8_ BK.out NBA.out (.int .i64 n1.f0) (.int .i64 n1.f1.f0) (.string n1.f1.f1) (.string n1.f1.f2) (.string n1.f1.f3) (.bool n1.f2) (.bool n1.f3) (.slice A1 n1.f4.length c1)) hg (Kd.N_away HN.out (fun _ hk => hk.1.2))); have BA2 := A_ (blk_grown (put8_ BA.out (.int .i64 n1.f0) (.int .i64 n1.f1.f0) (.string n1.f1.f1) (.string n1.f1.f2) (.string n1.f1.f3) (.bool n1.f2) (.bool n1.f3) (.slice A1 n1.f4.length c1)) hg NOA.out); have HP2 := A_ (PK.grown (HP.out.all8 NA.out (.int .i64 n1.f0) (.int .i64 n1.f1.f0) (.string n1.f1.f1) (.string n1.f1.f2) (.string n1.f1.f3) (.bool n1.f2) (.bool n1.f3) (.slice A1 n1.f4.length c1)) hg (fun q e => (HN.out.1 q e).1.1) G0.out GL.out); obtain ⟨A6, c6, rfl⟩ : ∃ A6 c6, v6 = .slice A6 (l1.length + 1) c6 := (by obtain ⟨Aq, cq, e⟩ := Kd.N_slice ho; exact ⟨Aq, cq, by rw [e, List.length_append]; rfl⟩); clear HN HV BK BA HP; have HN := A_ ho; have HV := HV2; have BK := BK2; have BA := BA2; have HP := HP2; clear ho hb hg hat HV2 BK2 BA2 HP2) | ((with_reducible refine gD 45 ?_); refine gL 45 Tryz.func18 #[.pointer (some ⟨g, 0, none⟩)] ?_; (with_reducible refine (parser_next.calls g y u m2 d2 w0 _ HP.out.hI HP.out.hB).mono ?_); rintro e1 w1 ⟨rfl, hb⟩; refine ⟨_, rfl, ?_⟩; replace HP := A_ (HP.out.below hb); replace BK := A_ (blk_below BK.out hb); replace BA := A_ (blk_below BA.out hb); replace HV := A_ (Kd.V_below HV.out hb); replace HN := A_ (Kd.N_below HN.out hb); have Z := bz8_ BA; have ZK := bz8_ BK; clear hb))
            go_roundg k1
            case measure => have := HK1.out; omega
            case rel => exact ⟨y :: u, m2, d2, l1 ++ [n1], H', ⟨by have := HK1.out; omega⟩, HN, BK, HP⟩
          replace h2 := (if_neg cy).symm.trans h2
          have k6 : (y.f0 == 6) = false := beq_eq_false_iff_ne.mpr cy
          clear cy
          by_cases cy : y.f0 = 5
          · replace h2 := (if_pos cy).symm.trans h2
            have k5 : (y.f0 == 5) = true := beq_iff_eq.mpr cy
            clear cy
            obtain ⟨⟨o1, o2, o3, o4, o5, o6, o7, o8⟩, hO, h3⟩ := Option.bind_eq_some_iff.mp h2
            clear h2
            obtain rfl := Option.some.inj h3
            clear h3
            obtain ⟨l2, hl2⟩ : ∃ l2, l2 = l1 ++ [n1] := ⟨_, rfl⟩
            rw [← hl2] at hO
            have HL2 := A_ hl2
            have HO := A_ hO
            clear hO hl2
            go_wp2_with (first | ((with_reducible refine gC 58 ?_); refine gL 30 Tryz.func58 #[.pointer (some ⟨g, 0, none⟩)] ?_; (with_reducible refine (parser_take.calls g y0 t1 m1 d1 w0 _ HP.out.hI HP.out.hB).mono ?_); rintro e3 w3 ⟨⟨v3, rfl⟩, hP⟩; refine ⟨_, rfl, ?_⟩; replace BK := A_ (hP.blk BK.out NB.out); replace HN := A_ (Kd.N_keep HN.out hP.hK (fun q hq => Ne.symm (Nat.ne_of_lt (Nat.lt_of_lt_of_le GL.out hq.1)))); replace HP := A_ (HP.out.trans hP); clear hP) | ((with_reducible refine gC 17 ?_); refine gL 33 Tryz.func17 #[.pointer (some ⟨g, 0, none⟩)] ?_; (with_reducible refine (IH.out k1 (by have := HK1.out; omega) g t1 m1 d1 _ w0 _ HP.out.hI HP.out.hB H1.out).mono ?_); rintro e1 w1 ⟨v1, u1, rfl, hV, hx, hP⟩; obtain rfl : u1 = .pointer none := hx; refine ⟨_, rfl, ?_⟩; obtain ⟨A1, c1, rfl⟩ : ∃ A1 c1, v1 = .slice A1 n1.f4.length c1 := Kd.V_slice hV; have HV := A_ (Kd.V_mono (ok' := fun q => w.heap.size ≤ q ∧ q ≠ gb ∧ some q ≠ u5.ownBlock) hV (fun q hq => ⟨Nat.le_trans HP.out.hK.1 hq, Ne.symm (Nat.ne_of_lt (Nat.lt_of_lt_of_le (blk_lt BK.out) hq)), fun e => Nat.lt_irrefl _ (Nat.lt_of_lt_of_le (Kd.N_lt HN.out q e.symm) hq)⟩)); replace HN := A_ (Kd.N_keep HN.out hP.hK (fun q hq => Ne.symm (Nat.ne_of_lt (Nat.lt_of_lt_of_le GL.out hq.1)))); replace BK := A_ (hP.blk BK.out NB.out); replace HP := A_ (HP.out.trans hP); clear hV hP) | ((with_reducible refine gD 6 ?_); refine bxe_ 6 z8_ 27 ?_; intro ga hga w4 hbox hb; have BA := A_ hbox; have NA := A_ (HP.out.new hga); have NBA := A_ (show gb ≠ ga from by rw [hga]; exact Nat.ne_of_lt (blk_lt BK.out)); have nba := NBA.out; have nab := Ne.symm nba; have NOA := A_ (show some ga ≠ u5.ownBlock from fun e => by have := Kd.N_lt HN.out ga e.symm; omega); replace HN := A_ (Kd.N_below (Kd.N_elderB HN.out ga (Nat.le_of_eq hga.symm)) hb); replace HV := A_ (Kd.V_below (Kd.V_elderB HV.out ga (Nat.le_of_eq hga.symm)) hb); replace HP := A_ (HP.out.below hb); replace BK := A_ (blk_below BK.out hb); have Z := bz8_ BA; have ZK := bz8_ BK; clear hb hbox hga) | ((with_reducible refine gate_builtin (b := .append) (xs := #[.tmp 40, .tmp 42]) rfl ?_); at_builtin; refine Kd.N_append k27 w.heap.size rfl (.tmp 40) (.tmp 42) 25 27 (.agg #[(.int .i64 0), (.int .i64 0), (.string ⟨#[]⟩), (.string ⟨#[]⟩), (.string ⟨#[]⟩), (.bool false), (.bool false), (.slice none 0 0)]) 96 rfl Tryz.underlying25 info27 rfl (by decide) (by omega) u5 l1 n1 [.int .i64 n1.f0, .int .i64 n1.f1.f0, .string n1.f1.f1, .string n1.f1.f2, .string n1.f1.f3, .bool n1.f2, .bool n1.f3, .slice A1 n1.f4.length c1] (fun q => w.heap.size ≤ q ∧ q ≠ gb) (fun q => (w.heap.size ≤ q ∧ q ≠ gb ∧ some q ≠ u5.ownBlock) ∧ q ≠ ga) rfl ?aX ?aP ?aK ?aF ?aO (Below.refl _ _) ?aS ?aL ?_; (case aX => exact sl8_ ..); (case aP => exact k27_mkF _ _ n1 (Kd.V_at HV.out).2.1 (Kd.V_F (V_all8 HV.out (fun q hq => hq.2) (.int .i64 n1.f0) (.int .i64 n1.f1.f0) (.string n1.f1.f1) (.string n1.f1.f2) (.string n1.f1.f3) (.bool n1.f2) (.bool n1.f3) (.slice A1 n1.f4.length c1)))); (case aK => exact fun q hq => ⟨⟨hq.1.1, hq.1.2.1⟩, hq.1.2.2⟩); (case aF => exact fun q hq => ⟨Nat.le_trans (HP.out.all8 NA.out (.int .i64 n1.f0) (.int .i64 n1.f1.f0) (.string n1.f1.f1) (.string n1.f1.f2) (.string n1.f1.f3) (.bool n1.f2) (.bool n1.f3) (.slice A1 n1.f4.length c1)).hK.1 hq, Ne.symm (Nat.ne_of_lt (Nat.lt_of_lt_of_le (blk_lt (far8_ BK.out NBA.out (.int .i64 n1.f0) (.int .i64 n1.f1.f0) (.string n1.f1.f1) (.string n1.f1.f2) (.string n1.f1.f3) (.bool n1.f2) (.bool n1.f3) (.slice A1 n1.f4.length c1))) hq))⟩); (case aO => exact Kd.N_mono (N_all8 HN.out (fun q hq => hq.2) (.int .i64 n1.f0) (.int .i64 n1.f1.f0) (.string n1.f1.f1) (.string n1.f1.f2) (.string n1.f1.f3) (.bool n1.f2) (.bool n1.f3) (.slice A1 n1.f4.length c1)) (fun q hq => hq.1)); (case aS => exact (HP.out.all8 NA.out (.int .i64 n1.f0) (.int .i64 n1.f1.f0) (.string n1.f1.f1) (.string n1.f1.f2) (.string n1.f1.f3) (.bool n1.f2) (.bool n1.f3) (.slice A1 n1.f4.length c1)).hK.1); (case aL => have := HLN.out; omega); intro v6 w6 ho hb hg hat; rw [← HL2.out] at ho; clear Z ZK; have HV2 := A_ (Kd.V_grown (V_all8 HV.out (fun q hq => hq.2) (.int .i64 n1.f0) (.int .i64 n1.f1.f0) (.string n1.f1.f1) (.string n1.f1.f2) (.string n1.f1.f3) (.bool n1.f2) (.bool n1.f3) (.slice A1 n1.f4.length c1)) hg (fun q hq => hq.1.2.2)); have BK2 := A_ (blk_grown (far8_ BK.out NBA.out (.int .i64 n1.f0) (.int .i64 n1.f1.f0) (.string n1.f1.f1) (.string n1.f1.f2) (.string n1.f1.f3) (.bool n1.f2) (.bool n1.f3) (.slice A1 n1.f4.length c1)) hg (Kd.N_away HN.out (fun _ hk => hk.1.2))); have BA2 := A_ (blk_grown (put8_ BA.out (.int .i64 n1.f0) (.int .i64 n1.f1.f0) (.string n1.f1.f1) (.string n1.f1.f2) (.string n1.f1.f3) (.bool n1.f2) (.bool n1.f3) (.slice A1 n1.f4.length c1)) hg NOA.out); have HP2 := A_ (PK.grown (HP.out.all8 NA.out (.int .i64 n1.f0) (.int .i64 n1.f1.f0) (.string n1.f1.f1) (.string n1.f1.f2) (.string n1.f1.f3) (.bool n1.f2) (.bool n1.f3) (.slice A1 n1.f4.length c1)) hg (fun q e => (HN.out.1 q e).1.1) G0.out GL.out); obtain ⟨A6, c6, rfl⟩ := Kd.N_slice ho; clear HN HV BK BA HP; have HN := A_ ho; have HV := HV2; have BK := BK2; have BA := BA2; have HP := HP2; clear ho hb hg hat HV2 BK2 BA2 HP2) | ((with_reducible refine gD 45 ?_); refine gL 45 Tryz.func18 #[.pointer (some ⟨g, 0, none⟩)] ?_; (with_reducible refine (parser_next.calls g y u m2 d2 w0 _ HP.out.hI HP.out.hB).mono ?_); rintro e1 w1 ⟨rfl, hb⟩; refine ⟨_, rfl, ?_⟩; replace HP := A_ (HP.out.below hb); replace BK := A_ (blk_below BK.out hb); replace BA := A_ (blk_below BA.out hb); replace HV := A_ (Kd.V_below HV.out hb); replace HN := A_ (Kd.N_below HN.out hb); have Z := bz8_ BA; have ZK := bz8_ BK; clear hb) | ((with_reducible refine gC 58 ?_); refine gL 55 Tryz.func58 #[.pointer (some ⟨g, 0, none⟩)] ?_; (with_reducible refine (parser_take.calls g y u m2 d2 w0 _ HP.out.hI HP.out.hB).mono ?_); rintro e3 w3 ⟨⟨v3, rfl⟩, hP⟩; refine ⟨_, rfl, ?_⟩; replace BK := A_ (hP.blk BK.out NB.out); replace HN := A_ (Kd.N_keep HN.out hP.hK (fun q hq => Ne.symm (Nat.ne_of_lt (Nat.lt_of_lt_of_le GL.out hq.1)))); replace HP := A_ (HP.out.trans hP); clear hP Z ZK; obtain ⟨A, c, hG, hg, hc, hC⟩ := HP.out.hI; have HG := A_ hG; have hp1 := (blk_cell HG.out 1).trans rfl; have hp2 := (blk_cell HG.out 2).trans rfl; have hf1 := blk_frozen HG.out 1; have hf2 := blk_frozen HG.out 2; clear hG hg hc hC) | ((with_reducible refine gC 34 ?_); refine gL 64 Tryz.func34 #[.slice A6 l2.length c6] ?_; replace HP := A_ (HP.out.setD (wrap64 (d2 - 1))); replace BK := A_ (blk_far (p := ⟨g, 2, none⟩) BK.out (Ne.symm NB.out.1) (.int .i64 (wrap64 (d2 - 1)))); replace HN := A_ (Kd.N_far (p := ⟨g, 2, none⟩) HN.out (fun q hq => Ne.symm (Nat.ne_of_lt (Nat.lt_of_lt_of_le GL.out hq.1))) (.int .i64 (wrap64 (d2 - 1)))); (with_reducible refine (tree_OneOf.calls (fun q => w.heap.size ≤ q ∧ q ≠ gb) A6 c6 l2 o1 o2 o3 o4 o5 o6 o7 o8 _ (Kd.N_V HN.out) HO.out).mono ?_); rintro e1 w1 ⟨v7, rfl, hN, hb⟩; refine ⟨_, rfl, ?_⟩; obtain ⟨A7, c7, rfl⟩ := Kd.N_slice hN; have HV7 := A_ (Kd.V_mono (ok' := fun q => w.heap.size ≤ q ∧ q ≠ gb) (Kd.N_V (base' := w.heap.size) hN) (fun q hq => hq.elim id (fun hq => ⟨Nat.le_trans HP.out.hK.1 hq, Ne.symm (Nat.ne_of_lt (Nat.lt_of_lt_of_le (blk_lt BK.out) hq))⟩))); replace HP := A_ (HP.out.below hb); replace BK := A_ (blk_below BK.out hb); have Z := bz8_ BK; clear hN hb hp1 hp2 hf1 hf2 HG HN))
            refine bodyPost_ret (results_ct rfl _ _ gb 27 #[.int .i64 o1, .int .i64 o2, .string o3, .string o4, .string o5, .bool o6, .bool o7, .slice A7 o8.length c7] (0, 0) _ rfl (put8_ BK.out ..) Tryz.underlying27 rfl (by kernel_rfl)) rfl ?_
            have p1 := V_all8 HV7.out (fun q hq => hq.2) (.int .i64 o1) (.int .i64 o2) (.string o3) (.string o4) (.string o5) (.bool o6) (.bool o7) (.slice A7 o8.length c7)
            have p2 := HP.out.all8 NB.out (.int .i64 o1) (.int .i64 o2) (.string o3) (.string o4) (.string o5) (.bool o6) (.bool o7) (.slice A7 o8.length c7)
            exact ⟨_, _, rfl, V_base (Kd.V_mono p1 (fun q hq => hq.1)), rfl, p2⟩
          replace h2 := (if_neg cy).symm.trans h2
          have k5 : (y.f0 == 5) = false := beq_eq_false_iff_ne.mpr cy
          clear cy
          obtain rfl := Option.some.inj h2
          clear h2
          go_wp2_with (first | ((with_reducible refine gC 58 ?_); refine gL 30 Tryz.func58 #[.pointer (some ⟨g, 0, none⟩)] ?_; (with_reducible refine (parser_take.calls g y0 t1 m1 d1 w0 _ HP.out.hI HP.out.hB).mono ?_); rintro e3 w3 ⟨⟨v3, rfl⟩, hP⟩; refine ⟨_, rfl, ?_⟩; replace BK := A_ (hP.blk BK.out NB.out); replace HN := A_ (Kd.N_keep HN.out hP.hK (fun q hq => Ne.symm (Nat.ne_of_lt (Nat.lt_of_lt_of_le GL.out hq.1)))); replace HP := A_ (HP.out.trans hP); clear hP) | ((with_reducible refine gC 17 ?_); refine gL 33 Tryz.func17 #[.pointer (some ⟨g, 0, none⟩)] ?_; (with_reducible refine (IH.out k1 (by have := HK1.out; omega) g t1 m1 d1 _ w0 _ HP.out.hI HP.out.hB H1.out).mono ?_); rintro e1 w1 ⟨v1, u1, rfl, hV, hx, hP⟩; obtain rfl : u1 = .pointer none := hx; refine ⟨_, rfl, ?_⟩; obtain ⟨A1, c1, rfl⟩ : ∃ A1 c1, v1 = .slice A1 n1.f4.length c1 := Kd.V_slice hV; have HV := A_ (Kd.V_mono (ok' := fun q => w.heap.size ≤ q ∧ q ≠ gb ∧ some q ≠ u5.ownBlock) hV (fun q hq => ⟨Nat.le_trans HP.out.hK.1 hq, Ne.symm (Nat.ne_of_lt (Nat.lt_of_lt_of_le (blk_lt BK.out) hq)), fun e => Nat.lt_irrefl _ (Nat.lt_of_lt_of_le (Kd.N_lt HN.out q e.symm) hq)⟩)); replace HN := A_ (Kd.N_keep HN.out hP.hK (fun q hq => Ne.symm (Nat.ne_of_lt (Nat.lt_of_lt_of_le GL.out hq.1)))); replace BK := A_ (hP.blk BK.out NB.out); replace HP := A_ (HP.out.trans hP); clear hV hP) | ((with_reducible refine gD 6 ?_); refine bxe_ 6 z8_ 27 ?_; intro ga hga w4 hbox hb; have BA := A_ hbox; have NA := A_ (HP.out.new hga); have NBA := A_ (show gb ≠ ga from by rw [hga]; exact Nat.ne_of_lt (blk_lt BK.out)); have nba := NBA.out; have nab := Ne.symm nba; have NOA := A_ (show some ga ≠ u5.ownBlock from fun e => by have := Kd.N_lt HN.out ga e.symm; omega); replace HN := A_ (Kd.N_below (Kd.N_elderB HN.out ga (Nat.le_of_eq hga.symm)) hb); replace HV := A_ (Kd.V_below (Kd.V_elderB HV.out ga (Nat.le_of_eq hga.symm)) hb); replace HP := A_ (HP.out.below hb); replace BK := A_ (blk_below BK.out hb); have Z := bz8_ BA; have ZK := bz8_ BK; clear hb hbox hga) | ((with_reducible refine gate_builtin (b := .append) (xs := #[.tmp 40, .tmp 42]) rfl ?_); at_builtin; refine Kd.N_append k27 w.heap.size rfl (.tmp 40) (.tmp 42) 25 27 (.agg #[(.int .i64 0), (.int .i64 0), (.string ⟨#[]⟩), (.string ⟨#[]⟩), (.string ⟨#[]⟩), (.bool false), (.bool false), (.slice none 0 0)]) 96 rfl Tryz.underlying25 info27 rfl (by decide) (by omega) u5 l1 n1 [.int .i64 n1.f0, .int .i64 n1.f1.f0, .string n1.f1.f1, .string n1.f1.f2, .string n1.f1.f3, .bool n1.f2, .bool n1.f3, .slice A1 n1.f4.length c1] (fun q => w.heap.size ≤ q ∧ q ≠ gb) (fun q => (w.heap.size ≤ q ∧ q ≠ gb ∧ some q ≠ u5.ownBlock) ∧ q ≠ ga) rfl ?aX ?aP ?aK ?aF ?aO (Below.refl _ _) ?aS ?aL ?_; (case aX => exact sl8_ ..); (case aP => exact k27_mkF _ _ n1 (Kd.V_at HV.out).2.1 (Kd.V_F (V_all8 HV.out (fun q hq => hq.2) (.int .i64 n1.f0) (.int .i64 n1.f1.f0) (.string n1.f1.f1) (.string n1.f1.f2) (.string n1.f1.f3) (.bool n1.f2) (.bool n1.f3) (.slice A1 n1.f4.length c1)))); (case aK => exact fun q hq => ⟨⟨hq.1.1, hq.1.2.1⟩, hq.1.2.2⟩); (case aF => exact fun q hq => ⟨Nat.le_trans (HP.out.all8 NA.out (.int .i64 n1.f0) (.int .i64 n1.f1.f0) (.string n1.f1.f1) (.string n1.f1.f2) (.string n1.f1.f3) (.bool n1.f2) (.bool n1.f3) (.slice A1 n1.f4.length c1)).hK.1 hq, Ne.symm (Nat.ne_of_lt (Nat.lt_of_lt_of_le (blk_lt (far8_ BK.out NBA.out (.int .i64 n1.f0) (.int .i64 n1.f1.f0) (.string n1.f1.f1) (.string n1.f1.f2) (.string n1.f1.f3) (.bool n1.f2) (.bool n1.f3) (.slice A1 n1.f4.length c1))) hq))⟩); (case aO => exact Kd.N_mono (N_all8 HN.out (fun q hq => hq.2) (.int .i64 n1.f0) (.int .i64 n1.f1.f0) (.string n1.f1.f1) (.string n1.f1.f2) (.string n1.f1.f3) (.bool n1.f2) (.bool n1.f3) (.slice A1 n1.f4.length c1)) (fun q hq => hq.1)); (case aS => exact (HP.out.all8 NA.out (.int .i64 n1.f0) (.int .i64 n1.f1.f0) (.string n1.f1.f1) (.string n1.f1.f2) (.string n1.f1.f3) (.bool n1.f2) (.bool n1.f3) (.slice A1 n1.f4.length c1)).hK.1); (case aL => have := HLN.out; omega); intro v6 w6 ho hb hg hat; clear Z ZK; have HV2 := A_ (Kd.V_grown (V_all8 HV.out (fun q hq => hq.2) (.int .i64 n1.f0) (.int .i64 n1.f1.f0) (.string n1.f1.f1) (.string n1.f1.f2) (.string n1.f1.f3) (.bool n1.f2) (.bool n1.f3) (.slice A1 n1.f4.length c1)) hg (fun q hq => hq.1.2.2)); have BK2 := A_ (blk_grown (far8_ BK.out NBA.out (.int .i64 n1.f0) (.int .i64 n1.f1.f0) (.string n1.f1.f1) (.string n1.f1.f2) (.string n1.f1.f3) (.bool n1.f2) (.bool n1.f3) (.slice A1 n1.f4.length c1)) hg (Kd.N_away HN.out (fun _ hk => hk.1.2))); have BA2 := A_ (blk_grown (put8_ BA.out (.int .i64 n1.f0) (.int .i64 n1.f1.f0) (.string n1.f1.f1) (.string n1.f1.f2) (.string n1.f1.f3) (.bool n1.f2) (.bool n1.f3) (.slice A1 n1.f4.length c1)) hg NOA.out); have HP2 := A_ (PK.grown (HP.out.all8 NA.out (.int .i64 n1.f0) (.int .i64 n1.f1.f0) (.string n1.f1.f1) (.string n1.f1.f2) (.string n1.f1.f3) (.bool n1.f2) (.bool n1.f3) (.slice A1 n1.f4.length c1)) hg (fun q e => (HN.out.1 q e).1.1) G0.out GL.out); obtain ⟨A6, c6, rfl⟩ : ∃ A6 c6, v6 = .slice A6 (l1.length + 1) c6 := (by obtain ⟨Aq, cq, e⟩ := Kd.N_slice ho; exact ⟨Aq, cq, by rw [e, List.length_append]; rfl⟩); clear HN HV BK BA HP; have HN := A_ ho; have HV := HV2; have BK := BK2; have BA := BA2; have HP := HP2; clear ho hb hg hat HV2 BK2 BA2 HP2) | ((with_reducible refine gD 45 ?_); refine gL 45 Tryz.func18 #[.pointer (some ⟨g, 0, none⟩)] ?_; (with_reducible refine (parser_next.calls g y u m2 d2 w0 _ HP.out.hI HP.out.hB).mono ?_); rintro e1 w1 ⟨rfl, hb⟩; refine ⟨_, rfl, ?_⟩; replace HP := A_ (HP.out.below hb); replace BK := A_ (blk_below BK.out hb); replace BA := A_ (blk_below BA.out hb); replace HV := A_ (Kd.V_below HV.out hb); replace HN := A_ (Kd.N_below HN.out hb); have Z := bz8_ BA; have ZK := bz8_ BK; clear hb))
          go_region_held3 (fun w' => w'.cell? ⟨ga, 0, none⟩ = some (.int .i64 n1.f0) ∧ w'.cell? ⟨ga, 1, none⟩ = some (.int .i64 n1.f1.f0) ∧ w'.cell? ⟨ga, 2, none⟩ = some (.string n1.f1.f1) ∧ w'.cell? ⟨ga, 3, none⟩ = some (.string n1.f1.f2) ∧ w'.cell? ⟨ga, 4, none⟩ = some (.string n1.f1.f3) ∧ w'.cell? ⟨ga, 5, none⟩ = some (.bool n1.f2) ∧ w'.cell? ⟨ga, 6, none⟩ = some (.bool n1.f3) ∧ w'.cell? ⟨ga, 7, none⟩ = some (.slice A1 n1.f4.length c1)) (first | (with_reducible exact C8_ BA.out) | (with_reducible exact C8_ (blk_drew BA.out)) | exact C8_ (far8_ BA.out nab (.int .i64 n1.f0) (.int .i64 n1.f1.f0) (.string n1.f1.f1) (.string n1.f1.f2) (.string n1.f1.f3) (.bool n1.f2) (.bool n1.f3) (.slice A1 n1.f4.length c1))) (first | (go_at_call 19; replace HP := A_ HP.out.drew; replace BK := A_ (blk_drew BK.out); replace BA := A_ (blk_drew BA.out); replace HV := A_ (Kd.V_drew HV.out); (with_reducible refine (parser_not.calls g y u m2 d2 3 w0 _ HP.out.hI HP.out.hB).mono ?_); rintro e1 w1 ⟨u2, rfl, hx, hb⟩; have HX := A_ hx; have GB := A_ (blk_lt BK.out); have GW := A_ HP.out.hK.1; replace HP := A_ (HP.out.below hb); replace BK := A_ (blk_below BK.out hb); replace BA := A_ (blk_below BA.out hb); replace HV := A_ (Kd.V_below HV.out hb); clear Z ZK HN; have Z := bz8_ BA; have ZK := bz8_ BK; clear hx hb))
          go_wp2
          refine bodyPost_ret (results_ct rfl _ _ gb 27 #[.int .i64 n1.f0, .int .i64 n1.f1.f0, .string n1.f1.f1, .string n1.f1.f2, .string n1.f1.f3, .bool n1.f2, .bool n1.f3, .slice A1 n1.f4.length c1] (0, 0) _ rfl (put8_ BK.out ..) Tryz.underlying27 rfl (by kernel_rfl)) rfl ?_
          have p1 := V_all8 HV.out (fun q hq => hq.1.2.1) (.int .i64 n1.f0) (.int .i64 n1.f1.f0) (.string n1.f1.f1) (.string n1.f1.f2) (.string n1.f1.f3) (.bool n1.f2) (.bool n1.f3) (.slice A1 n1.f4.length c1)
          have p2 := HX.out.all8 GB.out GW.out (.int .i64 n1.f0) (.int .i64 n1.f1.f0) (.string n1.f1.f1) (.string n1.f1.f2) (.string n1.f1.f3) (.bool n1.f2) (.bool n1.f3) (.slice A1 n1.f4.length c1)
          have p3 := HP.out.all8 NB.out (.int .i64 n1.f0) (.int .i64 n1.f1.f0) (.string n1.f1.f1) (.string n1.f1.f2) (.string n1.f1.f3) (.bool n1.f2) (.bool n1.f3) (.slice A1 n1.f4.length c1)
          exact ⟨_, _, rfl, V_base (Kd.V_mono p1 (fun q hq => hq.1.1)), p2, p3⟩
        · replace h2 := (if_neg cl).symm.trans h2
          cases h2
set_option maxHeartbeats 8000000 in
set_option maxRecDepth 100000 in
theorem parser_expr.calls (k : Nat) : ExprAt k := by
  induction k using Nat.strongRecOn with
  | _ k ih =>
  intro g t m d r w0 w hI hB0 h
  have HP := A_ (PK.start hI hB0)
  have IH := A_ ih
  clear hI hB0 ih
  cases k with
  | zero => cases h
  | succ k =>
  cases t with
  | nil => cases h
  | cons x t =>
  rw [pExpr] at h
  by_cases c : x.f0 = 4
  · rw [if_pos c] at h
    have k4 : (x.f0 == 4) = true := beq_iff_eq.mpr c
    have HL := A_ h
    clear c h
    go_enter Tryz.func17, Tryz.ntmps17
    go_wp2_with (first | ((with_reducible refine gD 2 ?_); refine bxe_ 2 z8_ 27 ?_; intro gb hgb w2 hbox hb; have BK := A_ hbox; have NB := A_ (HP.out.new hgb); replace HP := A_ (HP.out.below hb); clear hb hbox hgb) | ((with_reducible refine gD 8 ?_); refine gL 8 Tryz.func18 #[.pointer (some ⟨g, 0, none⟩)] ?_; (with_reducible refine (parser_next.calls g x t m d w0 _ HP.out.hI HP.out.hB).mono ?_); rintro e1 w1 ⟨rfl, hb⟩; refine ⟨_, rfl, ?_⟩; replace HP := A_ (HP.out.below hb); replace BK := A_ (blk_below BK.out hb); clear hb) | ((with_reducible refine gD 14 ?_); refine gV 14 #[.pointer (some ⟨g, 0, none⟩)] Tryz.func39 #[.pointer (some ⟨g, 0, none⟩)] ?_; (with_reducible refine (parser_list.calls k (fun j hj => IH.out j (Nat.lt_succ_of_lt hj)) g x t m d r w0 _ HP.out.hI HP.out.hB HL.out).mono ?_); rintro e1 w1 ⟨v1, u1, rfl, hV, hx, hP⟩; refine ⟨_, rfl, ?_⟩; obtain ⟨A1, c1, rfl⟩ : ∃ A1 c1, v1 = .slice A1 r.n.f4.length c1 := Kd.V_slice hV; have HX := A_ hx; have GB := A_ (blk_lt BK.out); have GW := A_ HP.out.hK.1; have HV := A_ (Kd.V_mono (ok' := fun q => w.heap.size ≤ q ∧ q ≠ gb) hV (fun q hq => ⟨Nat.le_trans HP.out.hK.1 hq, Ne.symm (Nat.ne_of_lt (Nat.lt_of_lt_of_le (blk_lt BK.out) hq))⟩)); replace BK := A_ (hP.blk BK.out NB.out); replace HP := A_ (HP.out.trans hP); have Z := bz8_ BK; clear hx hV hP))
    refine bodyPost_ret (results_ct rfl _ _ gb 27 #[.int .i64 r.n.f0, .int .i64 r.n.f1.f0, .string r.n.f1.f1, .string r.n.f1.f2, .string r.n.f1.f3, .bool r.n.f2, .bool r.n.f3, .slice A1 r.n.f4.length c1] (0, 0) _ rfl (put8_ BK.out ..) Tryz.underlying27 rfl (by kernel_rfl)) rfl ?_; have p1 := V_all8 HV.out (fun q hq => hq.2) (.int .i64 r.n.f0) (.int .i64 r.n.f1.f0) (.string r.n.f1.f1) (.string r.n.f1.f2) (.string r.n.f1.f3) (.bool r.n.f2) (.bool r.n.f3) (.slice A1 r.n.f4.length c1); have p2 := HX.out.all8 GB.out GW.out (.int .i64 r.n.f0) (.int .i64 r.n.f1.f0) (.string r.n.f1.f1) (.string r.n.f1.f2) (.string r.n.f1.f3) (.bool r.n.f2) (.bool r.n.f3) (.slice A1 r.n.f4.length c1); have p3 := HP.out.all8 NB.out (.int .i64 r.n.f0) (.int .i64 r.n.f1.f0) (.string r.n.f1.f1) (.string r.n.f1.f2) (.string r.n.f1.f3) (.bool r.n.f2) (.bool r.n.f3) (.slice A1 r.n.f4.length c1); exact ⟨_, _, rfl, V_base (Kd.V_mono p1 (fun q hq => hq.1)), p2, p3⟩
  · rw [if_neg c] at h
    have k4 : (x.f0 == 4) = false := beq_eq_false_iff_ne.mpr c
    have HL := A_ h
    clear c h
    go_enter Tryz.func17, Tryz.ntmps17
    go_wp2_with (first | ((with_reducible refine gD 2 ?_); refine bxe_ 2 z8_ 27 ?_; intro gb hgb w2 hbox hb; have BK := A_ hbox; have NB := A_ (HP.out.new hgb); replace HP := A_ (HP.out.below hb); clear hb hbox hgb) | ((with_reducible refine gD 8 ?_); refine gL 8 Tryz.func18 #[.pointer (some ⟨g, 0, none⟩)] ?_; (with_reducible refine (parser_next.calls g x t m d w0 _ HP.out.hI HP.out.hB).mono ?_); rintro e1 w1 ⟨rfl, hb⟩; refine ⟨_, rfl, ?_⟩; replace HP := A_ (HP.out.below hb); replace BK := A_ (blk_below BK.out hb); clear hb) | ((with_reducible refine gD 14 ?_); refine gV 14 #[.pointer (some ⟨g, 0, none⟩)] Tryz.func38 #[.pointer (some ⟨g, 0, none⟩)] ?_; (with_reducible refine (parser_span.calls k g (x :: t) m d r w0 _ HP.out.hI HP.out.hB HL.out).mono ?_); rintro e1 w1 ⟨v1, u1, rfl, hV, hx, hP⟩; refine ⟨_, rfl, ?_⟩; obtain ⟨A1, c1, rfl⟩ : ∃ A1 c1, v1 = .slice A1 r.n.f4.length c1 := Kd.V_slice hV; have HX := A_ hx; have GB := A_ (blk_lt BK.out); have GW := A_ HP.out.hK.1; have HV := A_ (Kd.V_mono (ok' := fun q => w.heap.size ≤ q ∧ q ≠ gb) hV (fun q hq => ⟨Nat.le_trans HP.out.hK.1 hq, Ne.symm (Nat.ne_of_lt (Nat.lt_of_lt_of_le (blk_lt BK.out) hq))⟩)); replace BK := A_ (hP.blk BK.out NB.out); replace HP := A_ (HP.out.trans hP); have Z := bz8_ BK; clear hx hV hP))
    refine bodyPost_ret (results_ct rfl _ _ gb 27 #[.int .i64 r.n.f0, .int .i64 r.n.f1.f0, .string r.n.f1.f1, .string r.n.f1.f2, .string r.n.f1.f3, .bool r.n.f2, .bool r.n.f3, .slice A1 r.n.f4.length c1] (0, 0) _ rfl (put8_ BK.out ..) Tryz.underlying27 rfl (by kernel_rfl)) rfl ?_; have p1 := V_all8 HV.out (fun q hq => hq.2) (.int .i64 r.n.f0) (.int .i64 r.n.f1.f0) (.string r.n.f1.f1) (.string r.n.f1.f2) (.string r.n.f1.f3) (.bool r.n.f2) (.bool r.n.f3) (.slice A1 r.n.f4.length c1); have p2 := HX.out.all8 GB.out GW.out (.int .i64 r.n.f0) (.int .i64 r.n.f1.f0) (.string r.n.f1.f1) (.string r.n.f1.f2) (.string r.n.f1.f3) (.bool r.n.f2) (.bool r.n.f3) (.slice A1 r.n.f4.length c1); have p3 := HP.out.all8 NB.out (.int .i64 r.n.f0) (.int .i64 r.n.f1.f0) (.string r.n.f1.f1) (.string r.n.f1.f2) (.string r.n.f1.f3) (.bool r.n.f2) (.bool r.n.f3) (.slice A1 r.n.f4.length c1); exact ⟨_, _, rfl, V_base (Kd.V_mono p1 (fun q hq => hq.1)), p2, p3⟩
theorem strings_IndexByte.calls (a0 : ByteArray) (a1 r : Int) (w : World) (h : strings_IndexByte.f a0 a1 = some r) :
    Calls Tryz.prog 54 #[.string a0, .int .u8 a1] w fun e w' => e = .returned (.int .i64 r) ∧ ∃ nd, w' = w.drewN nd := by
  refine (Tryz.strings_IndexByte a0 a1 w).mono fun e w' ⟨he, hw⟩ => ⟨?_, 0, hw⟩
  rw [he, ← Option.some.inj h]
end Go.Proofs.YtjgjhekpiijniaaGreat.A
namespace Go.Proofs.YtjgjhekpiijniaaGreat.A
open Go.RowKit Go.Proofs.YtjgjhekpiijniaaGreatW.PrintWords Go.Proofs.YtjgjhekpiijniaaGreatW.PrintLast Go.Proofs.YtjgjhekpiijniaaGreatW.PrintMore
attribute [local go_sem] max2_int min2_int max_two min_two max_three min_three max_four min_four
set_option maxHeartbeats 8000000 in
set_option maxRecDepth 100000 in
theorem lex_word.calls (k : Nat) (a0 : ByteArray) (r : Int) (w : World) (h : lex_word.f k a0 = some r) :
  Calls Tryz.prog 36 #[.string a0] w fun e w' => e = .returned (.int .i64 r) ∧ Drawn0 w w' := by
 have H : (lex_word.l0 k a0 0) = some r := h; clear h; have H' := A_ H; clear H; go_enter Tryz.func36, Tryz.ntmps36; go_wp2; go_loopg [3] k (fun kq v3 w' => ∃ (x3_1 : Int), v3 = .int .i64 x3_1 ∧ Aside0 (lex_word.l0 kq a0 x3_1 = some r) ∧ Aside0 (kq ≤ k) ∧ Drawn0 w w')
 case atStart => exact ⟨(0), rf_, H', ⟨Nat.le_refl _⟩, by repeat (first | exact Drawn0.refl _ | apply Drawn0.step)⟩
 case round =>
  clear H'; obtain ⟨x3_1, rfl, HA, HK1, ⟨m1, rfl⟩⟩ := hrel
  cases gk with
  | zero => exact absurd HA.out (by simp [lex_word.l0])
  | succ k1 =>
   have H := HA.out; clear HA; simp only [lex_word.l0] at H
   by_cases c2 : x3_1 < (a0.size : Int)
   ·rw [if_pos c2] at H
    have c2b0 := decide_eq_true c2; clear c2
    by_cases c3 : 0 ≤ x3_1
    ·rw [if_pos c3] at H
     have c3b0 := decide_eq_true c3; clear c3; obtain ⟨t267, A5, H⟩ := bi_ H
     by_cases c6 : t267 ≥ 0
     ·rw [if_pos c6] at H
      have c6b0 := decide_eq_true c6; clear c6; have H' := A_ H; clear H; have p4 : 0 ≤ (x3_1 : Int) := od_; have q4 : x3_1 < (a0.size : Int) := od_; have hx4 := bt_at a0 x3_1; replace p4 := eq_true p4; replace q4 := eq_true q4; go_wp2_with (first | (go_at_call 54; (with_reducible refine (strings_IndexByte.calls (⟨#[48, 49, 50, 51, 52, 53, 54, 55, 56, 57, 88, 45, 115, 100, 99]⟩ : ByteArray) (bt a0 x3_1) t267 _ A5.out).mono ?_); rintro e w' ⟨rfl, ⟨nd, rfl⟩⟩)); go_roundg k1
      case measure => have := HK1.out; omega
      case rel => exact ⟨(wrap64 (x3_1 + 1)), rf_, H', ⟨by have := HK1.out; omega⟩, by repeat (first | exact Drawn0.refl _ | apply Drawn0.step)⟩
     ·rw [if_neg c6] at H
      have c6b0 := decide_eq_false c6; clear c6; obtain rfl := Option.some.inj H; have p4 : 0 ≤ (x3_1 : Int) := od_; have q4 : x3_1 < (a0.size : Int) := od_; have hx4 := bt_at a0 x3_1; replace p4 := eq_true p4; replace q4 := eq_true q4; go_wp2_with (first | (go_at_call 54; (with_reducible refine (strings_IndexByte.calls (⟨#[48, 49, 50, 51, 52, 53, 54, 55, 56, 57, 88, 45, 115, 100, 99]⟩ : ByteArray) (bt a0 x3_1) t267 _ A5.out).mono ?_); rintro e w' ⟨rfl, ⟨nd, rfl⟩⟩)); go_ret; exact ⟨by first | rfl | (simp; done) | (simp [*]; done), by repeat (first | exact Drawn0.refl _ | apply Drawn0.step)⟩
    ·rw [if_neg c3] at H
     exact absurd H (by simp)
   ·rw [if_neg c2] at H
    have c2b0 := decide_eq_false c2; clear c2; obtain rfl := Option.some.inj H; go_wp2; go_ret; exact ⟨by first | rfl | (simp; done) | (simp [*]; done), by repeat (first | exact Drawn0.refl _ | apply Drawn0.step)⟩
set_option maxHeartbeats 8000000 in
set_option maxRecDepth 100000 in
theorem stringslite_HasPrefix.calls (a0 a1 : ByteArray) (r : Bool) (w : World) (h : stringslite_HasPrefix.f a0 a1 = some r) :
  Calls Tryz.prog 55 #[.string a0, .string a1] w fun e w' => e = .returned (.bool r) ∧ Drawn0 w w' := by
 have H : (if (a0.size : Int) ≥ (a1.size : Int) then (if 0 ≤ (a1.size : Int) then (if (a1.size : Int) ≤ (a0.size : Int) then (some ((a0.extract 0 ((a1.size : Int) : Int).toNat).toList == a1.toList)) else (none)) else (none)) else (some false)) = some r := h; clear h
 by_cases c3 : (a0.size : Int) ≥ (a1.size : Int)
 ·rw [if_pos c3] at H
  have c3b0 := decide_eq_true c3; have c3b1 : decide (a1.size ≤ a0.size) = true := decide_eq_true (Int.ofNat_le.mp c3); clear c3
  by_cases c4 : 0 ≤ (a1.size : Int)
  ·rw [if_pos c4] at H
   have c4b0 := eq_true c4; have c4b1 := decide_eq_true c4; clear c4
   by_cases c5 : (a1.size : Int) ≤ (a0.size : Int)
   ·rw [if_pos c5] at H
    have c5b0 := eq_true c5; have c5b1 := decide_eq_true c5; clear c5; obtain rfl := Option.some.inj H; go_enter Tryz.func55, Tryz.ntmps55; go_wp2; go_ret; exact ⟨by first | rfl | (simp; done) | (simp [*]; done), by repeat (first | exact Drawn0.refl _ | apply Drawn0.step)⟩
   ·rw [if_neg c5] at H
    exact absurd H (by simp)
  ·rw [if_neg c4] at H
   exact absurd H (by simp)
 ·rw [if_neg c3] at H
  have c3b0 := decide_eq_false c3; have c3b1 : decide (a1.size ≤ a0.size) = false := decide_eq_false (fun h => c3 (Int.ofNat_le.mpr h)); clear c3; obtain rfl := Option.some.inj H; go_enter Tryz.func55, Tryz.ntmps55; go_wp2; go_ret; exact ⟨by first | rfl | (simp; done) | (simp [*]; done), by repeat (first | exact Drawn0.refl _ | apply Drawn0.step)⟩
set_option maxHeartbeats 8000000 in
set_option maxRecDepth 100000 in
theorem strings_HasPrefix.calls (a0 a1 : ByteArray) (r : Bool) (w : World) (h : strings_HasPrefix.f a0 a1 = some r) :
  Calls Tryz.prog 37 #[.string a0, .string a1] w fun e w' => e = .returned (.bool r) ∧ Drawn0 w w' := by
 have H : ((stringslite_HasPrefix.f a0 a1).bind fun t268 => (some t268)) = some r := h; clear h; obtain ⟨t268, A3, H⟩ := bi_ H; obtain rfl := Option.some.inj H; go_enter Tryz.func37, Tryz.ntmps37; go_wp2_with (first | (refine gC 55 ?_; refine gL 7 Tryz.func55 #[.string a0, .string a1] ?_; (with_reducible refine (stringslite_HasPrefix.calls a0 a1 t268 _ A3.out).mono ?_); rintro e w' ⟨rfl, ⟨nd, rfl⟩⟩; refine ⟨_, rfl, ?_⟩)); go_ret; exact ⟨by first | rfl | (simp; done) | (simp [*]; done), by repeat (first | exact Drawn0.refl _ | apply Drawn0.step)⟩
end Go.Proofs.YtjgjhekpiijniaaGreat.A
namespace Go.Proofs.YtjgjhekpiijniaaGreat.A
open Go.RowKit Go.Maps Go.WideShapes Go.Proofs.YtjgjhekpiijniaaGreatW.PrintWords Go.Proofs.YtjgjhekpiijniaaGreatW.PrintLast Go.Proofs.YtjgjhekpiijniaaGreatW.PrintMore
theorem wpList_insert_own {H : Type} {P : Program} (w : World) {ops : Array Oper} {rest : List Oper} {o : Oper} {a : Act} {Q : Exit → Act → World → Prop}
    (hg : o.guard = none) (m x v : Operand) (t : TypeId) (hop : o.op = Op.insert t m x v)
    (k e : TypeId) (K : Keyed P k) (ht : P.underlying t = some (.map k e)) (R : Value → Option (DataW H × List MemPlace)) (b n : Nat) (D : DataW H)
    (hm : a.eval m = .map (some b)) (hown : w.ownsMap P k R b n D) (hn : n < maxLen) (key val : Value) (kl : Lit) (hx : a.eval x = key) (hv : a.eval v = val) (hkey : keyOf P k key = some kl)
    (d : DataW H) (ps : List MemPlace) (hval : R val = some (d, ps))
    (hK : ∀ w', w'.ownsMap P k R b (n + 1) (D.put kl d) → w.grownBy w' (some b) → wpList P ops Q rest (a.put o.dst undef) w') :
    wpList P ops Q (o :: rest) a w := by
  refine wpList_plain hg fun K' hK' => ?_
  obtain ⟨w', hrun, r1, r2⟩ := hown.update K ht hn hkey hval
  unfold Oper.wp
  simp [execOp, hop, hm, hx, hv, hrun, Result.andThen]
  exact hK' _ _ (hK w' r1 r2)
def ent (k v : Int) : Lit × DataW Unit := (.int .u8 k, .lit (.int .i64 v))
def D7 : DataW Unit := (((((((DataW.map []).put (.int .u8 47) (.lit (.int .i64 1))).put (.int .u8 42) (.lit (.int .i64 3))).put (.int .u8 91) (.lit (.int .i64 4))).put (.int .u8 93) (.lit (.int .i64 5))).put (.int .u8 44) (.lit (.int .i64 6))).put (.int .u8 63) (.lit (.int .i64 7))).put (.int .u8 126) (.lit (.int .i64 8))
theorem D7_eq : D7 = .map [ent 42 3, ent 44 6, ent 47 1, ent 63 7, ent 91 4, ent 93 5, ent 126 8] := by kernel_rfl
def IsSigns (w : World) (g : Nat) : Prop := w.ownsMap Tryz.prog 5 (plainElem Tryz.prog 3) g 7 D7
set_option maxRecDepth 100000 in
theorem lex_signs.made (w : World) : Calls Tryz.prog 35 #[] w fun e w' => ∃ g, e = .returned (.map (some g)) ∧ IsSigns w' g ∧ Below w.heap.size w w' := by
  have HM := A_ (World.ownsMap_made (H := Unit) w Tryz.prog 5 (plainElem Tryz.prog 3))
  have HB := A_ ((Below.refl w.heap.size w).alloc (Nat.le_refl _) (.map #[] 0))
  have hmm := @run_makeMap Tryz.prog
  go_enter Tryz.func35, Tryz.ntmps35
  go_wp2_with (first | (refine wpList_insert_own _ rfl _ _ _ 64 rfl 5 3 (int_keyed Tryz.underlying5) Tryz.underlying64 (plainElem Tryz.prog 3) _ _ _ rfl HM.out (by unfold maxLen; omega) _ _ _ rfl rfl (keyOf_int_mk Tryz.underlying5 (by decide)) _ [] (plainElem_int Tryz.underlying3 (by decide)) ?_; intro w1 ho hg; have n0_ := A_ ho; have n1_ := A_ (HB.out.grown hg (HB.out.size) (fun k hk => by injection hk with hk; omega)); clear HM HB ho hg; have HM := n0_; have HB := n1_; clear n0_ n1_))
  go_ret
  exact ⟨_, rfl, HM.out, HB.out⟩
theorem sig_below {w w1 : World} {g : Nat} (h : IsSigns w g) (hb : Below w.heap.size w w1) : IsSigns w1 g := by
  obtain ⟨es, clock, h1, h2⟩ := h
  have hlt : g < w.heap.size := by
    rcases Nat.lt_or_ge g w.heap.size with h | h
    · exact h
    · rw [Array.getElem?_eq_none h] at h1; cases h1
  exact ⟨es, clock, (hb.block g hlt).trans h1, h2⟩
theorem sign_at (c : Int) : D7.atKey (.int .u8 c) (.lit (.int .i64 0)) = .lit (.int .i64 (signK c)) ∧ has D7 (.int .u8 c) = signB c := by
  have hk : ∀ n : Int, (Lit.int .u8 n).sameKey (.int .u8 c) = decide (n = c) := fun n => by simp [Lit.sameKey]
  rw [D7_eq]
  unfold signK signB
  by_cases h1 : c = 47
  · subst h1; constructor <;> rfl
  by_cases h2 : c = 42
  · subst h2; constructor <;> rfl
  by_cases h3 : c = 91
  · subst h3; constructor <;> rfl
  by_cases h4 : c = 93
  · subst h4; constructor <;> rfl
  by_cases h5 : c = 44
  · subst h5; constructor <;> rfl
  by_cases h6 : c = 63
  · subst h6; constructor <;> rfl
  by_cases h7 : c = 126
  · subst h7; constructor <;> rfl
  have e : ∀ n : Int, n ≠ c → decide (n = c) = false := fun n h => decide_eq_false h
  constructor
  · simp [DataW.atKey, ent, hk, Ne.symm h1, Ne.symm h2, Ne.symm h3, Ne.symm h4, Ne.symm h5, Ne.symm h6, Ne.symm h7, h1, h2, h3, h4, h5, h6, h7]
  · simp [has, ent, hk, Ne.symm h1, Ne.symm h2, Ne.symm h3, Ne.symm h4, Ne.symm h5, Ne.symm h6, Ne.symm h7, h1, h2, h3, h4, h5, h6, h7]
theorem wf_u8 {c : Int} (h : 0 ≤ c ∧ c ≤ 255) : (Lit.int .u8 c).wf = true := by
  have e1 : IntKind.min .u8 = 0 := by kernel_rfl
  have e2 : IntKind.max .u8 = 255 := by kernel_rfl
  simp only [Lit.wf, e1, e2, Bool.and_eq_true, decide_eq_true_eq]
  omega
theorem look_sign (w : World) {ops : Array Oper} {rest : List Oper} {o : Oper} {a : Act} {Q : Exit → Act → World → Prop} (hg : o.guard = none) (m x : Operand) (hop : o.op = Op.lookup 64 m x true) (g : Nat) (hm : a.eval m = .map (some g)) (hs : IsSigns w g) (c k : Int) (b : Bool) (hx : a.eval x = .int .u8 c) (h0 : 0 ≤ c ∧ c ≤ 255) (hf : lex_signs.f c = some (k, b))
    (hK : wpList Tryz.prog ops Q rest (a.put o.dst (.tuple #[.int .i64 k, .bool b])) w) : wpList Tryz.prog ops Q (o :: rest) a w := by
  refine wpList_lookup_own_ok_int w hg m x 64 hop 5 3 .i64 (int_keyed Tryz.underlying5) Tryz.underlying64 Tryz.underlying3 (Tryz.zeroValue3 w) g 7 D7 hm hs (.int .u8 c) (.int .u8 c) hx (keyOf_int_mk Tryz.underlying5 (wf_u8 h0)) ?_
  intro c' hat _
  obtain ⟨h1, h2⟩ := sign_at c
  rw [h1] at hat
  rw [h2]
  injection hat with hat
  injection hat with _ hat
  injection hf with hf
  injection hf with hf1 hf2
  rw [← hat, hf1, hf2]
  exact hK
end Go.Proofs.YtjgjhekpiijniaaGreat.A
namespace Go.Proofs.YtjgjhekpiijniaaGreat.A
open Go.RowKit Go.Proofs.YtjgjhekpiijniaaGreatW.PrintWords Go.Proofs.YtjgjhekpiijniaaGreatW.PrintLast Go.Proofs.YtjgjhekpiijniaaGreatW.PrintMore
attribute [local go_sem] max2_int min2_int max_two min_two max_three min_three max_four min_four
set_option maxHeartbeats 8000000 in
set_option maxRecDepth 100000 in
theorem lex_All.callsK (k : Nat) (a0 : ByteArray) (r1 : List (S46)) (r2 r3 : Int) (w0_ : World) (K : Ending → World → Prop) (hK : ∀ w1 : World, Below w0_.heap.size w0_ w1 → ∀ e w', (∃ v0_ : Value, e = .returned (.tuple #[v0_, .int .i64 r2, .int .i64 r3]) ∧ Kd.R k46 46 w' w1.heap.size (fun _ => True) v0_ r1 ∧ Below w1.heap.size w1 w') → K e w') (h : lex_All.f k a0 = some (r1, r2, r3)) :
  Calls Tryz.prog 16 #[.string a0] w0_ K := by
 have hu46 := Tryz.underlying46; have HKK := A_ hK; clear hK; have HB := A_ (Below.refl w0_.heap.size w0_); have H : (if (a0.size : Int) > 2000 then (some (([] : List (S46)), 2000, 7)) else (lex_All.l0 k a0 ([] : List (S46)) 0)) = some (r1, r2, r3) := h; clear h
 by_cases c2 : (a0.size : Int) > 2000
 ·rw [if_pos c2] at H
  have c2b0 := decide_eq_true c2; have c2b1 : decide (2000 < a0.size) = true := decide_eq_true (by omega); clear c2; simp only [Option.some.injEq, Prod.mk.injEq] at H; obtain ⟨rfl, rfl, rfl⟩ := H; go_enter Tryz.func16, Tryz.ntmps16; go_wp2; go_ret3; exact HKK.out w0_ (Below.refl _ _) _ _ ⟨_, by first | rfl | (simp [errW_none, errW_some] <;> rfl) | (simp [*, errW_none, errW_some] <;> rfl), by first | exact Kd.R_nil _ _ _ _ _ | exact Kd.N_nil _ _ _ _ _ | exact Kd.V_nil _ _ _ _ _ | exact Kd.Q_nil _ _ _ _ _ | exact Kd.S_nil _ _ _ _ _, hs_⟩
 ·rw [if_neg c2] at H
  have c2b0 := decide_eq_false c2; have c2b1 : decide (2000 < a0.size) = false := decide_eq_false (by omega); clear c2; have H' := A_ H; clear H; go_enter Tryz.func16, Tryz.ntmps16; go_wp2_with (first | (go_at_call 35; refine (lex_signs.made _).mono ?_; rintro e w ⟨gm, rfl, hm_, hb⟩; have HMS := A_ hm_; have HB3 := A_ hb; clear hm_ hb HB; have HB := A_ (Below.refl w.heap.size w))); go_loopg [6, 7] k (fun kq v6 v7 w' => ∃ (x6_1 : List (S46)) (x7_1 : Int), v7 = .int .i64 x7_1 ∧ Aside0 (lex_All.l0 kq a0 x6_1 x7_1 = some (r1, r2, r3)) ∧ Aside0 (kq ≤ k) ∧ Aside0 (Kd.R k46 46 w' w.heap.size (fun _ => True) v6 x6_1) ∧ Aside0 (Below w.heap.size w w'))
  case atStart => exact ⟨(([] : List (S46))), (0), rf_, H', ⟨Nat.le_refl _⟩, ⟨by first | exact Kd.R_nil _ _ _ _ _ | exact Kd.N_nil _ _ _ _ _ | exact Kd.V_nil _ _ _ _ _ | exact Kd.Q_nil _ _ _ _ _ | exact Kd.S_nil _ _ _ _ _⟩, ⟨hs_⟩⟩
  case round =>
   clear H'; (try clear c2); (try clear c2b0); (try clear c2b1); (try clear p2); obtain ⟨x6_1, x7_1, rfl, HA, HK1, HO_6, HB⟩ := hrel
   cases gk with
   | zero => exact absurd HA.out (by simp [lex_All.l0])
   | succ k1 =>
    have H := HA.out; clear HA; simp only [lex_All.l0] at H
    by_cases c3 : x7_1 < (a0.size : Int)
    ·rw [if_pos c3] at H
     have c3b0 := decide_eq_true c3; clear c3
     by_cases c4 : 0 ≤ x7_1
     ·rw [if_pos c4] at H
      have c4b0 := decide_eq_true c4; clear c4; obtain ⟨⟨t272, t273⟩, A6, H⟩ := bi_ H; have c7b0 := eq_true (od_ : 0 ≤ x7_1)
      by_cases c8 : x7_1 ≤ (a0.size : Int)
      ·rw [if_pos c8] at H
       have c8b0 := eq_true c8; have c8b1 := decide_eq_true c8; clear c8; obtain ⟨t274, A9, H⟩ := bi_ H
       by_cases c10 : t274 > 0
       ·rw [if_pos c10] at H
        have c10b0 := decide_eq_true c10; clear c10; have c11b0 := eq_true (od_ : 0 ≤ x7_1)
        by_cases c12 : x7_1 ≤ (wrap64 (x7_1 + t274))
        ·rw [if_pos c12] at H
         have c12b0 := eq_true c12; have c12b1 := decide_eq_true c12
         by_cases c13 : (wrap64 (x7_1 + t274)) ≤ (a0.size : Int)
         ·rw [if_pos c13] at H
          have c13b0 := eq_true c13; have c13b1 := decide_eq_true c13
          by_cases c14 : x6_1.length < 4398046511104
          ·rw [if_pos c14] at H
           have LMc14 := A_ c14; clear c14; obtain ⟨y275, hy275⟩ : ∃ y_ : List (S46), y_ = (x6_1 ++ [(⟨0, x7_1, a0.extract (x7_1 : Int).toNat ((wrap64 (x7_1 + t274)) : Int).toNat⟩ : S46)]) := ⟨_, rfl⟩; (replace H : (lex_All.l0 k1 a0 y275 (wrap64 (x7_1 + t274))) = some (r1, r2, r3) := by first | (rw [hy275]; with_reducible exact H) | (have H2_ := (Option.bind_some _ _).symm.trans H; rw [hy275]; with_reducible exact H2_) | (have H2_ := (Option.bind_some _ _).symm.trans H; with_reducible exact H2_) | with_reducible exact H | (rw [hy275]; exact H) | exact H); have Ny275 := A_ hy275; clear hy275; have H' := A_ H; clear H; have p5 : 0 ≤ (x7_1 : Int) := od_; have q5 : x7_1 < (a0.size : Int) := od_; have hx5 := bt_at a0 x7_1; replace p5 := eq_true p5; replace q5 := eq_true q5; go_wp2_with (first | (refine look_sign _ rfl _ _ rfl gm rfl (sig_below HMS.out hs_) (bt a0 x7_1) t272 t273 rfl (bt_range _ _) A6.out ?_) | (refine gC 36 ?_; refine gL 30 Tryz.func36 #[.string (a0.extract (x7_1 : Int).toNat a0.size)] ?_; (with_reducible refine (lex_word.calls k1 (a0.extract (x7_1 : Int).toNat a0.size) t274 _ A9.out).mono ?_); rintro e w' ⟨rfl, ⟨nd, rfl⟩⟩; refine ⟨_, rfl, ?_⟩) | ((with_reducible refine gate_builtin (b := .append) (xs := #[.tmp 35, .tmp 44]) rfl ?_); at_builtin; refine Kd.R_append k46 (w0 := w) w.heap.size rfl (.tmp 35) (.tmp 44) 36 46 (.agg #[(.int .i64 0), (.int .i64 0), (.string ⟨#[]⟩)]) 32 rfl Tryz.underlying36 info46 rfl (by decide) (by omega) u6 x6_1 (⟨0, x7_1, a0.extract (x7_1 : Int).toNat ((wrap64 (x7_1 + t274)) : Int).toNat⟩ : S46) [.int .i64 0, .int .i64 x7_1, .string (a0.extract (x7_1 : Int).toNat ((wrap64 (x7_1 + t274)) : Int).toNat)] (fun _ => True) (fun _ => False) rfl rfl ?aP (fun _ hk => hk.elim) ?aF ?aO ?aB ?aS ?aL ?_; (case aP => exact k46_mkM _ _ _ (⟨0, x7_1, a0.extract (x7_1 : Int).toNat ((wrap64 (x7_1 + t274)) : Int).toNat⟩ : S46)); (case aB => exact hs_); (case aF => exact (fun _ _ => trivial)); (case aO => exact (fxR_ HO_6.out)); (case aS => exact (below_size hs_)); (case aL => have := LMc14.out; omega); intro v276 w15 ho hb hg hat; rw [← Ny275.out] at ho; replace HB := A_ (hb); have HO277 := A_ (ho); clear HO_6; clear ho hb hg hat)); go_roundg k1
           case measure => have := HK1.out; omega
           case rel => exact ⟨(y275), (wrap64 (x7_1 + t274)), rf_, H', ⟨by have := HK1.out; omega⟩, ⟨fxR_ HO277.out⟩, ⟨hs_⟩⟩
          ·rw [if_neg c14] at H
           exact absurd H (by simp)
         ·rw [if_neg c13] at H
          exact absurd H (by simp)
        ·rw [if_neg c12] at H
         exact absurd H (by simp)
       ·rw [if_neg c10] at H
        have c10b0 := decide_eq_false c10; clear c10
        by_cases c16 : t273 = true
        ·subst c16
         (have H1 : (if x6_1.length < 4398046511104 then (lex_All.l0 k1 a0 (x6_1 ++ [(⟨t272, x7_1, (⟨#[]⟩ : ByteArray)⟩ : S46)]) (wrap64 (x7_1 + 1))) else (none)) = some (r1, r2, r3) := by rw [if_pos rfl] at H; exact H); clear H; have H := H1; clear H1
         by_cases c17 : x6_1.length < 4398046511104
         ·rw [if_pos c17] at H
          have LMc17 := A_ c17; clear c17; obtain ⟨y278, hy278⟩ : ∃ y_ : List (S46), y_ = (x6_1 ++ [(⟨t272, x7_1, (⟨#[]⟩ : ByteArray)⟩ : S46)]) := ⟨_, rfl⟩; (replace H : (lex_All.l0 k1 a0 y278 (wrap64 (x7_1 + 1))) = some (r1, r2, r3) := by first | (rw [hy278]; with_reducible exact H) | (have H2_ := (Option.bind_some _ _).symm.trans H; rw [hy278]; with_reducible exact H2_) | (have H2_ := (Option.bind_some _ _).symm.trans H; with_reducible exact H2_) | with_reducible exact H | (rw [hy278]; exact H) | exact H); have Ny278 := A_ hy278; clear hy278; have H' := A_ H; clear H; have p5 : 0 ≤ (x7_1 : Int) := od_; have q5 : x7_1 < (a0.size : Int) := od_; have hx5 := bt_at a0 x7_1; replace p5 := eq_true p5; replace q5 := eq_true q5; go_wp2_with (first | (refine look_sign _ rfl _ _ rfl gm rfl (sig_below HMS.out hs_) (bt a0 x7_1) t272 true rfl (bt_range _ _) A6.out ?_) | (refine gC 36 ?_; refine gL 30 Tryz.func36 #[.string (a0.extract (x7_1 : Int).toNat a0.size)] ?_; (with_reducible refine (lex_word.calls k1 (a0.extract (x7_1 : Int).toNat a0.size) t274 _ A9.out).mono ?_); rintro e w' ⟨rfl, ⟨nd, rfl⟩⟩; refine ⟨_, rfl, ?_⟩) | ((with_reducible refine gate_builtin (b := .append) (xs := #[.tmp 48, .tmp 52]) rfl ?_); at_builtin; refine Kd.R_append k46 (w0 := w) w.heap.size rfl (.tmp 48) (.tmp 52) 36 46 (.agg #[(.int .i64 0), (.int .i64 0), (.string ⟨#[]⟩)]) 32 rfl Tryz.underlying36 info46 rfl (by decide) (by omega) u6 x6_1 (⟨t272, x7_1, (⟨#[]⟩ : ByteArray)⟩ : S46) [.int .i64 t272, .int .i64 x7_1, .string ⟨#[]⟩] (fun _ => True) (fun _ => False) rfl rfl ?aP (fun _ hk => hk.elim) ?aF ?aO ?aB ?aS ?aL ?_; (case aP => exact k46_mkM _ _ _ (⟨t272, x7_1, (⟨#[]⟩ : ByteArray)⟩ : S46)); (case aB => exact hs_); (case aF => exact (fun _ _ => trivial)); (case aO => exact (fxR_ HO_6.out)); (case aS => exact (below_size hs_)); (case aL => have := LMc17.out; omega); intro v279 w18 ho hb hg hat; rw [← Ny278.out] at ho; replace HB := A_ (hb); have HO280 := A_ (ho); clear HO_6; clear ho hb hg hat)); go_roundg k1
          case measure => have := HK1.out; omega
          case rel => exact ⟨(y278), (wrap64 (x7_1 + 1)), rf_, H', ⟨by have := HK1.out; omega⟩, ⟨fxR_ HO280.out⟩, ⟨hs_⟩⟩
         ·rw [if_neg c17] at H
          exact absurd H (by simp)
        ·replace c16 := Bool.eq_false_iff.mpr c16
         subst c16; (have H1 : ((strings_HasPrefix.f (a0.extract (x7_1 : Int).toNat a0.size) (⟨#[46, 46]⟩ : ByteArray)).bind fun t281 => (if t281 = true then (if x6_1.length < 4398046511104 then (lex_All.l0 k1 a0 (x6_1 ++ [(⟨2, x7_1, (⟨#[]⟩ : ByteArray)⟩ : S46)]) (wrap64 (x7_1 + 2))) else (none)) else (if (bt a0 x7_1) = 32 then (lex_All.l0 k1 a0 x6_1 (wrap64 (x7_1 + 1))) else (some (([] : List (S46)), x7_1, 1))))) = some (r1, r2, r3) := by rw [if_neg (show ¬ (false = true) by decide)] at H; exact H); clear H; have H := H1; clear H1; have c19b0 := eq_true (od_ : 0 ≤ x7_1); have c20b0 := eq_true (od_ : x7_1 ≤ (a0.size : Int)); obtain ⟨t281, A21, H⟩ := bi_ H
         by_cases c22 : t281 = true
         ·subst c22
          (have H1 : (if x6_1.length < 4398046511104 then (lex_All.l0 k1 a0 (x6_1 ++ [(⟨2, x7_1, (⟨#[]⟩ : ByteArray)⟩ : S46)]) (wrap64 (x7_1 + 2))) else (none)) = some (r1, r2, r3) := by rw [if_pos rfl] at H; exact H); clear H; have H := H1; clear H1
          by_cases c23 : x6_1.length < 4398046511104
          ·rw [if_pos c23] at H
           have LMc23 := A_ c23; clear c23; obtain ⟨y282, hy282⟩ : ∃ y_ : List (S46), y_ = (x6_1 ++ [(⟨2, x7_1, (⟨#[]⟩ : ByteArray)⟩ : S46)]) := ⟨_, rfl⟩; (replace H : (lex_All.l0 k1 a0 y282 (wrap64 (x7_1 + 2))) = some (r1, r2, r3) := by first | (rw [hy282]; with_reducible exact H) | (have H2_ := (Option.bind_some _ _).symm.trans H; rw [hy282]; with_reducible exact H2_) | (have H2_ := (Option.bind_some _ _).symm.trans H; with_reducible exact H2_) | with_reducible exact H | (rw [hy282]; exact H) | exact H); have Ny282 := A_ hy282; clear hy282; have H' := A_ H; clear H; have p5 : 0 ≤ (x7_1 : Int) := od_; have q5 : x7_1 < (a0.size : Int) := od_; have hx5 := bt_at a0 x7_1; replace p5 := eq_true p5; replace q5 := eq_true q5; go_wp2_with (first | (refine look_sign _ rfl _ _ rfl gm rfl (sig_below HMS.out hs_) (bt a0 x7_1) t272 false rfl (bt_range _ _) A6.out ?_) | (refine gC 36 ?_; refine gL 30 Tryz.func36 #[.string (a0.extract (x7_1 : Int).toNat a0.size)] ?_; (with_reducible refine (lex_word.calls k1 (a0.extract (x7_1 : Int).toNat a0.size) t274 _ A9.out).mono ?_); rintro e w' ⟨rfl, ⟨nd, rfl⟩⟩; refine ⟨_, rfl, ?_⟩) | (refine gC 37 ?_; refine gL 58 Tryz.func37 #[.string (a0.extract (x7_1 : Int).toNat a0.size), .string ⟨#[46, 46]⟩] ?_; (with_reducible refine (strings_HasPrefix.calls (a0.extract (x7_1 : Int).toNat a0.size) (⟨#[46, 46]⟩ : ByteArray) true _ A21.out).mono ?_); rintro e w' ⟨rfl, ⟨nd, rfl⟩⟩; refine ⟨_, rfl, ?_⟩) | ((with_reducible refine gate_builtin (b := .append) (xs := #[.tmp 59, .tmp 62]) rfl ?_); at_builtin; refine Kd.R_append k46 (w0 := w) w.heap.size rfl (.tmp 59) (.tmp 62) 36 46 (.agg #[(.int .i64 0), (.int .i64 0), (.string ⟨#[]⟩)]) 32 rfl Tryz.underlying36 info46 rfl (by decide) (by omega) u6 x6_1 (⟨2, x7_1, (⟨#[]⟩ : ByteArray)⟩ : S46) [.int .i64 2, .int .i64 x7_1, .string ⟨#[]⟩] (fun _ => True) (fun _ => False) rfl rfl ?aP (fun _ hk => hk.elim) ?aF ?aO ?aB ?aS ?aL ?_; (case aP => exact k46_mkM _ _ _ (⟨2, x7_1, (⟨#[]⟩ : ByteArray)⟩ : S46)); (case aB => exact hs_); (case aF => exact (fun _ _ => trivial)); (case aO => exact (fxR_ HO_6.out)); (case aS => exact (below_size hs_)); (case aL => have := LMc23.out; omega); intro v283 w24 ho hb hg hat; rw [← Ny282.out] at ho; replace HB := A_ (hb); have HO284 := A_ (ho); clear HO_6; clear ho hb hg hat)); go_roundg k1
           case measure => have := HK1.out; omega
           case rel => exact ⟨(y282), (wrap64 (x7_1 + 2)), rf_, H', ⟨by have := HK1.out; omega⟩, ⟨fxR_ HO284.out⟩, ⟨hs_⟩⟩
          ·rw [if_neg c23] at H
           exact absurd H (by simp)
         ·replace c22 := Bool.eq_false_iff.mpr c22
          subst c22; (have H1 : (if (bt a0 x7_1) = 32 then (lex_All.l0 k1 a0 x6_1 (wrap64 (x7_1 + 1))) else (some (([] : List (S46)), x7_1, 1))) = some (r1, r2, r3) := by rw [if_neg (show ¬ (false = true) by decide)] at H; exact H); clear H; have H := H1; clear H1
          by_cases c26 : (bt a0 x7_1) = 32
          ·rw [if_pos c26] at H
           have c26b0 : ((bt a0 x7_1) == 32) = true := beq_iff_eq.mpr c26; have c26b1 : ((bt a0 x7_1) != 32) = false := bne_eq_false_iff_eq.mpr c26; clear c26; have H' := A_ H; clear H; have p5 : 0 ≤ (x7_1 : Int) := od_; have q5 : x7_1 < (a0.size : Int) := od_; have hx5 := bt_at a0 x7_1; replace p5 := eq_true p5; replace q5 := eq_true q5; go_wp2_with (first | (refine look_sign _ rfl _ _ rfl gm rfl (sig_below HMS.out hs_) (bt a0 x7_1) t272 false rfl (bt_range _ _) A6.out ?_) | (refine gC 36 ?_; refine gL 30 Tryz.func36 #[.string (a0.extract (x7_1 : Int).toNat a0.size)] ?_; (with_reducible refine (lex_word.calls k1 (a0.extract (x7_1 : Int).toNat a0.size) t274 _ A9.out).mono ?_); rintro e w' ⟨rfl, ⟨nd, rfl⟩⟩; refine ⟨_, rfl, ?_⟩) | (refine gC 37 ?_; refine gL 58 Tryz.func37 #[.string (a0.extract (x7_1 : Int).toNat a0.size), .string ⟨#[46, 46]⟩] ?_; (with_reducible refine (strings_HasPrefix.calls (a0.extract (x7_1 : Int).toNat a0.size) (⟨#[46, 46]⟩ : ByteArray) false _ A21.out).mono ?_); rintro e w' ⟨rfl, ⟨nd, rfl⟩⟩; refine ⟨_, rfl, ?_⟩; have p25 : 0 ≤ (x7_1 : Int) := od_; have q25 : x7_1 < (a0.size : Int) := od_; have hx25 := bt_at a0 x7_1; replace p25 := eq_true p25; replace q25 := eq_true q25)); go_roundg k1
           case measure => have := HK1.out; omega
           case rel => exact ⟨(x6_1), (wrap64 (x7_1 + 1)), rf_, H', ⟨by have := HK1.out; omega⟩, ⟨fxR_ HO_6.out⟩, ⟨hs_⟩⟩
          ·rw [if_neg c26] at H
           have c26b0 : ((bt a0 x7_1) == 32) = false := beq_eq_false_iff_ne.mpr c26; have c26b1 : ((bt a0 x7_1) != 32) = true := bne_iff_ne.mpr c26; simp only [Option.some.injEq, Prod.mk.injEq] at H; obtain ⟨rfl, rfl, rfl⟩ := H; have p5 : 0 ≤ (x7_1 : Int) := od_; have q5 : x7_1 < (a0.size : Int) := od_; have hx5 := bt_at a0 x7_1; replace p5 := eq_true p5; replace q5 := eq_true q5; go_wp2_with (first | (refine look_sign _ rfl _ _ rfl gm rfl (sig_below HMS.out hs_) (bt a0 x7_1) t272 false rfl (bt_range _ _) A6.out ?_) | (refine gC 36 ?_; refine gL 30 Tryz.func36 #[.string (a0.extract (x7_1 : Int).toNat a0.size)] ?_; (with_reducible refine (lex_word.calls k1 (a0.extract (x7_1 : Int).toNat a0.size) t274 _ A9.out).mono ?_); rintro e w' ⟨rfl, ⟨nd, rfl⟩⟩; refine ⟨_, rfl, ?_⟩) | (refine gC 37 ?_; refine gL 58 Tryz.func37 #[.string (a0.extract (x7_1 : Int).toNat a0.size), .string ⟨#[46, 46]⟩] ?_; (with_reducible refine (strings_HasPrefix.calls (a0.extract (x7_1 : Int).toNat a0.size) (⟨#[46, 46]⟩ : ByteArray) false _ A21.out).mono ?_); rintro e w' ⟨rfl, ⟨nd, rfl⟩⟩; refine ⟨_, rfl, ?_⟩; have p25 : 0 ≤ (x7_1 : Int) := od_; have q25 : x7_1 < (a0.size : Int) := od_; have hx25 := bt_at a0 x7_1; replace p25 := eq_true p25; replace q25 := eq_true q25)); go_ret3; exact HKK.out w HB3.out _ _ ⟨_, by first | rfl | (simp [errW_none, errW_some] <;> rfl) | (simp [*, errW_none, errW_some] <;> rfl), by first | exact Kd.R_nil _ _ _ _ _ | exact Kd.N_nil _ _ _ _ _ | exact Kd.V_nil _ _ _ _ _ | exact Kd.Q_nil _ _ _ _ _ | exact Kd.S_nil _ _ _ _ _, hs_⟩
      ·rw [if_neg c8] at H
       exact absurd H (by simp)
     ·rw [if_neg c4] at H
      exact absurd H (by simp)
    ·rw [if_neg c3] at H
     have c3b0 := decide_eq_false c3; clear c3
     by_cases c27 : x6_1.length < 4398046511104
     ·rw [if_pos c27] at H
      have LMc27 := A_ c27; clear c27; obtain ⟨y269, hy269⟩ : ∃ y_ : List (S46), y_ = (x6_1 ++ [(⟨9, (a0.size : Int), (⟨#[]⟩ : ByteArray)⟩ : S46)]) := ⟨_, rfl⟩; (replace H : (some (y269, (a0.size : Int), 0)) = some (r1, r2, r3) := by first | (rw [hy269]; with_reducible exact H) | (have H2_ := (Option.bind_some _ _).symm.trans H; rw [hy269]; with_reducible exact H2_) | (have H2_ := (Option.bind_some _ _).symm.trans H; with_reducible exact H2_) | with_reducible exact H | (rw [hy269]; exact H) | exact H); have Ny269 := A_ hy269; clear hy269; simp only [Option.some.injEq, Prod.mk.injEq] at H; obtain ⟨rfl, rfl, rfl⟩ := H; go_wp2_with (first | ((with_reducible refine gate_builtin (b := .append) (xs := #[.tmp 72, .tmp 76]) rfl ?_); at_builtin; refine Kd.R_append k46 (w0 := w) w.heap.size rfl (.tmp 72) (.tmp 76) 36 46 (.agg #[(.int .i64 0), (.int .i64 0), (.string ⟨#[]⟩)]) 32 rfl Tryz.underlying36 info46 rfl (by decide) (by omega) u6 x6_1 (⟨9, (a0.size : Int), (⟨#[]⟩ : ByteArray)⟩ : S46) [.int .i64 9, .int .i64 (a0.size : Int), .string ⟨#[]⟩] (fun _ => True) (fun _ => False) rfl rfl ?aP (fun _ hk => hk.elim) ?aF ?aO ?aB ?aS ?aL ?_; (case aP => exact k46_mkM _ _ _ (⟨9, (a0.size : Int), (⟨#[]⟩ : ByteArray)⟩ : S46)); (case aB => exact hs_); (case aF => exact (fun _ _ => trivial)); (case aO => exact (fxR_ HO_6.out)); (case aS => exact (below_size hs_)); (case aL => have := LMc27.out; omega); intro v270 w28 ho hb hg hat; rw [← Ny269.out] at ho; replace HB := A_ (hb); have HO271 := A_ (ho); clear HO_6; clear ho hb hg hat)); go_ret3; exact HKK.out w HB3.out _ _ ⟨_, by first | rfl | (simp [errW_none, errW_some] <;> rfl) | (simp [*, errW_none, errW_some] <;> rfl), fxR_ HO271.out, hs_⟩
     ·rw [if_neg c27] at H
      exact absurd H (by simp)
theorem lex_All.calls (k : Nat) (a0 : ByteArray) (r1 : List (S46)) (r2 r3 : Int) (w : World) (h : lex_All.f k a0 = some (r1, r2, r3)) :
    Calls Tryz.prog 16 #[.string a0] w fun e w' => ∃ v0_ : Value, e = .returned (.tuple #[v0_, .int .i64 r2, .int .i64 r3]) ∧ Kd.R k46 46 w' w.heap.size (fun _ => True) v0_ r1 ∧ Below w.heap.size w w' :=
  lex_All.callsK k a0 r1 r2 r3 w _ (fun w1 hb e w' ⟨v0_, he, hr, hb'⟩ => ⟨v0_, he, Kd.R_lower hr hb.size, hb.trans (hb'.mono hb.size)⟩) h
end Go.Proofs.YtjgjhekpiijniaaGreat.A
namespace Go.Proofs.YtjgjhekpiijniaaGreat.A
open Go.RowKit Go.Proofs.YtjgjhekpiijniaaGreatW.PrintWords Go.Proofs.YtjgjhekpiijniaaGreatW.PrintLast Go.Proofs.YtjgjhekpiijniaaGreatW.PrintMore
attribute [local go_sem] isSome_setCell fld46_0 fld46_1 fld46_2
theorem below8 {w W : World} {q : Nat} (h : Below w.heap.size w W) (hq : w.heap.size ≤ q) (a a1 c e f i j k : Value) : Below w.heap.size w ((((((((W.setCell ⟨q, 0, none⟩ a).setCell ⟨q, 1, none⟩ a1).setCell ⟨q, 2, none⟩ c).setCell ⟨q, 3, none⟩ e).setCell ⟨q, 4, none⟩ f).setCell ⟨q, 5, none⟩ i).setCell ⟨q, 6, none⟩ j).setCell ⟨q, 7, none⟩ k) :=
  below_set (below_set (below_set (below_set (below_set (below_set (below_set (below_set h hq) hq) hq) hq) hq) hq) hq) hq
theorem IsP.make {W W1 : World} {g : Nat} {A : Option Addr} {c : Nat} {t : List S46} {b : Nat} {ok : Nat → Prop} (ho : Kd.R k46 46 W b ok (.slice A t.length c) t) (hg : g = W.heap.size) (hb : W1.heap[g]? = some (.cells #[.slice A t.length c, .int .i64 0, .int .i64 0] 41 (0, 0))) : IsP W W1 g t 0 0 := by
  obtain ⟨_, hc, hC⟩ := Kd.R_reads' ho
  exact ⟨A, c, hb, Nat.le_of_eq hg.symm, hc, hC⟩
set_option maxHeartbeats 8000000 in
set_option maxRecDepth 100000 in
theorem parse_Parse.calls (k : Nat) (a0 : ByteArray) (r1 r2 : Int) (r3 r4 r5 : ByteArray) (r6 r7 : Bool) (r8 : List S27) (r9 r10 : Int) (w : World) (h : parse_Parse.f k a0 = some (r1, r2, r3, r4, r5, r6, r7, r8, r9, r10)) :
    Calls Tryz.prog 8 #[.string a0] w fun e w' => ∃ v7_ : Value, e = .returned (.tuple #[.agg #[.int .i64 r1, .int .i64 r2, .string r3, .string r4, .string r5, .bool r6, .bool r7, v7_], .int .i64 r9, .int .i64 r10]) ∧ Kd.V k27 27 w' w.heap.size (fun k_ => w.heap.size ≤ k_) v7_ r8 ∧ Below w.heap.size w w' := by
  have HB := A_ (Below.refl w.heap.size w)
  obtain ⟨⟨L1, L2, L3⟩, hL, h2⟩ := Option.bind_eq_some_iff.mp h
  clear h
  have HL := A_ hL
  clear hL
  by_cases c : L3 = 0
  · replace h2 := (if_pos c).symm.trans h2
    have k3 : (L3 != 0) = false := bne_eq_false_iff_eq.mpr c
    clear c
    obtain ⟨⟨n1, x1, t1, m1, d1⟩, hE, h3⟩ := Option.bind_eq_some_iff.mp h2
    clear h2
    have HE := A_ hE
    clear hE
    cases x1 with
    | some y =>
      simp only [Option.some.injEq, Prod.mk.injEq] at h3
      obtain ⟨rfl, rfl, rfl, rfl, rfl, rfl, rfl, rfl, rfl, rfl⟩ := h3
      go_enter Tryz.func8, Tryz.ntmps8
      go_wp2_with (first | ((with_reducible refine gD 2 ?_); refine bxe_ 2 z8_ 27 ?_; intro gb hgb w2 hbox hb; have BK := A_ hbox; have GE := A_ (show w.heap.size ≤ gb from by rw [hgb]; exact HB.out.size); replace HB := A_ (below_step HB.out hb); clear hb hbox hgb) | ((with_reducible refine gC 16 ?_); refine gL 13 Tryz.func16 #[.string a0] ?_; (with_reducible refine (lex_All.calls k a0 L1 L2 L3 _ HL.out).mono ?_); rintro e1 w1 ⟨v0, rfl, ho, hb⟩; refine ⟨_, rfl, ?_⟩; obtain ⟨A0, c0, rfl⟩ := Kd.R_slice ho; have HO := A_ ho; replace HB := A_ (below_step HB.out hb); replace BK := A_ (blk_below BK.out hb); have ZK := bz8_ BK; clear ho hb) | ((with_reducible refine gD 24 ?_); refine bxe_ 24 #[.slice A0 L1.length c0, .int .i64 0, .int .i64 0] 41 ?_; intro gp hgp w4 hbox hb; have HI := A_ (IsP.make HO.out hgp hbox); have HB0 := A_ hb; have NBP := A_ (show gb ≠ gp from by rw [hgp]; exact Nat.ne_of_lt (blk_lt BK.out)); have GP := A_ (show w.heap.size ≤ gp from by rw [hgp]; exact HB.out.size); replace BK := A_ (blk_below BK.out hb); have HW := HB; clear hb hbox hgp HO ZK) | ((with_reducible refine gC 17 ?_); refine gL 27 Tryz.func17 #[.pointer (some ⟨gp, 0, none⟩)] ?_; (with_reducible refine (parser_expr.calls k gp L1 0 0 _ _ _ HI.out HB0.out HE.out).mono ?_); rintro e1 w1 ⟨v1, u1, rfl, hV, hx, hP⟩; obtain ⟨qx, rfl, hqx, hX⟩ := hx; have NQB := A_ (show gb ≠ qx from Nat.ne_of_lt (Nat.lt_of_lt_of_le (blk_lt BK.out) hqx)); have BX := A_ hX; clear hX hqx; refine ⟨_, rfl, ?_⟩; obtain ⟨A1, c1, rfl⟩ : ∃ A1 c1, v1 = .slice A1 n1.f4.length c1 := Kd.V_slice hV; have HV := A_ (Kd.V_mono (ok' := fun q => w.heap.size ≤ q ∧ q ≠ gb) hV (fun q hq => ⟨Nat.le_trans (Nat.le_trans HB.out.size HB0.out.size) hq, Ne.symm (Nat.ne_of_lt (Nat.lt_of_lt_of_le (blk_lt BK.out) hq))⟩)); replace BK := A_ (hP.hK.blk BK.out NBP.out (by simp)); replace HB := A_ (below_step HW.out hP.hB); replace HI := A_ hP.hI; replace HB0 := A_ hP.hB; clear hV hP HW) | ((with_reducible refine gD 9 ?_); refine bxe_ 9 z8_ 27 ?_; intro ga hga w5 hbox hb; have BA := A_ hbox; have NBA := A_ (show gb ≠ ga from by rw [hga]; exact Nat.ne_of_lt (blk_lt BK.out)); have nba := NBA.out; have nab := Ne.symm nba; have NPA := A_ (show gp ≠ ga from by rw [hga]; exact Nat.ne_of_lt HI.out.lt); have GA := A_ (show w.heap.size ≤ ga from by rw [hga]; exact HB.out.size); have GA0 := A_ (show _ ≤ ga from by rw [hga]; exact HB0.out.size); replace HV := A_ (Kd.V_below (Kd.V_elderB HV.out ga (Nat.le_of_eq hga.symm)) hb); have NQA := A_ (show qx ≠ ga from by rw [hga]; exact Nat.ne_of_lt (blk_lt BX.out)); replace BX := A_ (blk_below BX.out hb); have hx0 := (blk_cell BX.out 0).trans rfl; have hx1 := (blk_cell BX.out 1).trans rfl; have nqa := NQA.out; replace HI := A_ (HI.out.below hb); replace HB0 := A_ (below_step HB0.out hb); replace HB := A_ (below_step HB.out hb); replace BK := A_ (blk_below BK.out hb); have Z := bz8_ BA; have ZK := bz8_ BK; clear hb hbox hga))
      have nqb := NQB.out
      have nbq := Ne.symm nqb
      go_region_held3 (fun w' => w'.cell? ⟨qx, 0, none⟩ = some (.int .i64 y.1) ∧ w'.cell? ⟨qx, 1, none⟩ = some (.int .i64 y.2)) (first | (with_reducible exact ⟨(blk_cell (far8_ BX.out NQA.out (.int .i64 n1.f0) (.int .i64 n1.f1.f0) (.string n1.f1.f1) (.string n1.f1.f2) (.string n1.f1.f3) (.bool n1.f2) (.bool n1.f3) (.slice A1 n1.f4.length c1)) 0).trans rfl, (blk_cell (far8_ BX.out NQA.out (.int .i64 n1.f0) (.int .i64 n1.f1.f0) (.string n1.f1.f1) (.string n1.f1.f2) (.string n1.f1.f3) (.bool n1.f2) (.bool n1.f3) (.slice A1 n1.f4.length c1)) 1).trans rfl⟩) | (with_reducible exact ⟨(blk_cell (blk_drew (far8_ BX.out NQA.out (.int .i64 n1.f0) (.int .i64 n1.f1.f0) (.string n1.f1.f1) (.string n1.f1.f2) (.string n1.f1.f3) (.bool n1.f2) (.bool n1.f3) (.slice A1 n1.f4.length c1))) 0).trans rfl, (blk_cell (blk_drew (far8_ BX.out NQA.out (.int .i64 n1.f0) (.int .i64 n1.f1.f0) (.string n1.f1.f1) (.string n1.f1.f2) (.string n1.f1.f3) (.bool n1.f2) (.bool n1.f3) (.slice A1 n1.f4.length c1))) 1).trans rfl⟩) | (with_reducible exact ⟨(blk_cell (blk_drew (far8_ (far8_ BX.out NQA.out (.int .i64 n1.f0) (.int .i64 n1.f1.f0) (.string n1.f1.f1) (.string n1.f1.f2) (.string n1.f1.f3) (.bool n1.f2) (.bool n1.f3) (.slice A1 n1.f4.length c1)) (Ne.symm NQB.out) (.int .i64 0) (.int .i64 0) (.string ⟨#[]⟩) (.string ⟨#[]⟩) (.string ⟨#[]⟩) (.bool false) (.bool false) (.slice none 0 0))) 0).trans rfl, (blk_cell (blk_drew (far8_ (far8_ BX.out NQA.out (.int .i64 n1.f0) (.int .i64 n1.f1.f0) (.string n1.f1.f1) (.string n1.f1.f2) (.string n1.f1.f3) (.bool n1.f2) (.bool n1.f3) (.slice A1 n1.f4.length c1)) (Ne.symm NQB.out) (.int .i64 0) (.int .i64 0) (.string ⟨#[]⟩) (.string ⟨#[]⟩) (.string ⟨#[]⟩) (.bool false) (.bool false) (.slice none 0 0))) 1).trans rfl⟩)) (fail)
      go_wp2
      refine bodyPost_ret (results_ctt rfl _ _ gb 27 z8_ (0, 0) _ rfl (blk_drew (put8_ (far8_ BK.out NBA.out (.int .i64 n1.f0) (.int .i64 n1.f1.f0) (.string n1.f1.f1) (.string n1.f1.f2) (.string n1.f1.f3) (.bool n1.f2) (.bool n1.f3) (.slice A1 n1.f4.length c1)) (.int .i64 0) (.int .i64 0) (.string ⟨#[]⟩) (.string ⟨#[]⟩) (.string ⟨#[]⟩) (.bool false) (.bool false) (.slice none 0 0))) Tryz.underlying27 rfl (by kernel_rfl)) rfl ?_
      have p1 := below_drew (below8 (below8 HB.out GA.out (.int .i64 n1.f0) (.int .i64 n1.f1.f0) (.string n1.f1.f1) (.string n1.f1.f2) (.string n1.f1.f3) (.bool n1.f2) (.bool n1.f3) (.slice A1 n1.f4.length c1)) GE.out (.int .i64 0) (.int .i64 0) (.string ⟨#[]⟩) (.string ⟨#[]⟩) (.string ⟨#[]⟩) (.bool false) (.bool false) (.slice none 0 0))
      exact ⟨_, rfl, Kd.V_nil _ _ _ _ _, p1⟩
    | none =>
      cases t1 with
      | nil => cases h3
      | cons y u =>
      by_cases cy : y.f0 = 9
      · replace h3 := (if_pos cy).symm.trans h3
        have k9 : (y.f0 != 9) = false := bne_eq_false_iff_eq.mpr cy
        clear cy
        simp only [Option.some.injEq, Prod.mk.injEq] at h3
        obtain ⟨rfl, rfl, rfl, rfl, rfl, rfl, rfl, rfl, rfl, rfl⟩ := h3
        go_enter Tryz.func8, Tryz.ntmps8
        go_wp2_with (first | ((with_reducible refine gD 2 ?_); refine bxe_ 2 z8_ 27 ?_; intro gb hgb w2 hbox hb; have BK := A_ hbox; have GE := A_ (show w.heap.size ≤ gb from by rw [hgb]; exact HB.out.size); replace HB := A_ (below_step HB.out hb); clear hb hbox hgb) | ((with_reducible refine gC 16 ?_); refine gL 13 Tryz.func16 #[.string a0] ?_; (with_reducible refine (lex_All.calls k a0 L1 L2 L3 _ HL.out).mono ?_); rintro e1 w1 ⟨v0, rfl, ho, hb⟩; refine ⟨_, rfl, ?_⟩; obtain ⟨A0, c0, rfl⟩ := Kd.R_slice ho; have HO := A_ ho; replace HB := A_ (below_step HB.out hb); replace BK := A_ (blk_below BK.out hb); have ZK := bz8_ BK; clear ho hb) | ((with_reducible refine gD 24 ?_); refine bxe_ 24 #[.slice A0 L1.length c0, .int .i64 0, .int .i64 0] 41 ?_; intro gp hgp w4 hbox hb; have HI := A_ (IsP.make HO.out hgp hbox); have HB0 := A_ hb; have NBP := A_ (show gb ≠ gp from by rw [hgp]; exact Nat.ne_of_lt (blk_lt BK.out)); have GP := A_ (show w.heap.size ≤ gp from by rw [hgp]; exact HB.out.size); replace BK := A_ (blk_below BK.out hb); have HW := HB; clear hb hbox hgp HO ZK) | ((with_reducible refine gC 17 ?_); refine gL 27 Tryz.func17 #[.pointer (some ⟨gp, 0, none⟩)] ?_; (with_reducible refine (parser_expr.calls k gp L1 0 0 _ _ _ HI.out HB0.out HE.out).mono ?_); rintro e1 w1 ⟨v1, u1, rfl, hV, hx, hP⟩; obtain rfl : u1 = .pointer none := hx; refine ⟨_, rfl, ?_⟩; obtain ⟨A1, c1, rfl⟩ : ∃ A1 c1, v1 = .slice A1 n1.f4.length c1 := Kd.V_slice hV; have HV := A_ (Kd.V_mono (ok' := fun q => w.heap.size ≤ q ∧ q ≠ gb) hV (fun q hq => ⟨Nat.le_trans (Nat.le_trans HB.out.size HB0.out.size) hq, Ne.symm (Nat.ne_of_lt (Nat.lt_of_lt_of_le (blk_lt BK.out) hq))⟩)); replace BK := A_ (hP.hK.blk BK.out NBP.out (by simp)); replace HB := A_ (below_step HW.out hP.hB); replace HI := A_ hP.hI; replace HB0 := A_ hP.hB; clear hV hP HW) | ((with_reducible refine gD 9 ?_); refine bxe_ 9 z8_ 27 ?_; intro ga hga w5 hbox hb; have BA := A_ hbox; have NBA := A_ (show gb ≠ ga from by rw [hga]; exact Nat.ne_of_lt (blk_lt BK.out)); have nba := NBA.out; have nab := Ne.symm nba; have NPA := A_ (show gp ≠ ga from by rw [hga]; exact Nat.ne_of_lt HI.out.lt); have GA := A_ (show w.heap.size ≤ ga from by rw [hga]; exact HB.out.size); have GA0 := A_ (show _ ≤ ga from by rw [hga]; exact HB0.out.size); replace HV := A_ (Kd.V_below (Kd.V_elderB HV.out ga (Nat.le_of_eq hga.symm)) hb); replace HI := A_ (HI.out.below hb); replace HB0 := A_ (below_step HB0.out hb); replace HB := A_ (below_step HB.out hb); replace BK := A_ (blk_below BK.out hb); have Z := bz8_ BA; have ZK := bz8_ BK; clear hb hbox hga) | (go_at_call 18; clear Z ZK; replace HI := A_ (HI.out.far8 NPA.out (.int .i64 n1.f0) (.int .i64 n1.f1.f0) (.string n1.f1.f1) (.string n1.f1.f2) (.string n1.f1.f3) (.bool n1.f2) (.bool n1.f3) (.slice A1 n1.f4.length c1)); replace HB0 := A_ (below8 HB0.out GA0.out (.int .i64 n1.f0) (.int .i64 n1.f1.f0) (.string n1.f1.f1) (.string n1.f1.f2) (.string n1.f1.f3) (.bool n1.f2) (.bool n1.f3) (.slice A1 n1.f4.length c1)); replace HB := A_ (below8 HB.out GA.out (.int .i64 n1.f0) (.int .i64 n1.f1.f0) (.string n1.f1.f1) (.string n1.f1.f2) (.string n1.f1.f3) (.bool n1.f2) (.bool n1.f3) (.slice A1 n1.f4.length c1)); replace BK := A_ (far8_ BK.out NBA.out (.int .i64 n1.f0) (.int .i64 n1.f1.f0) (.string n1.f1.f1) (.string n1.f1.f2) (.string n1.f1.f3) (.bool n1.f2) (.bool n1.f3) (.slice A1 n1.f4.length c1)); replace BA := A_ (put8_ BA.out (.int .i64 n1.f0) (.int .i64 n1.f1.f0) (.string n1.f1.f1) (.string n1.f1.f2) (.string n1.f1.f3) (.bool n1.f2) (.bool n1.f3) (.slice A1 n1.f4.length c1)); replace HV := A_ (V_all8 HV.out (fun q hq => hq.2) (.int .i64 n1.f0) (.int .i64 n1.f1.f0) (.string n1.f1.f1) (.string n1.f1.f2) (.string n1.f1.f3) (.bool n1.f2) (.bool n1.f3) (.slice A1 n1.f4.length c1)); (with_reducible refine (parser_next.calls gp y u m1 d1 _ _ HI.out HB0.out).mono ?_); rintro e1 w1 ⟨rfl, hb⟩; replace HI := A_ (HI.out.below hb); replace HB0 := A_ (below_step HB0.out hb); replace HB := A_ (below_step HB.out hb); replace BK := A_ (blk_below BK.out hb); replace BA := A_ (blk_below BA.out hb); replace HV := A_ (Kd.V_below HV.out hb); have Z := bz8_ BA; have ZK := bz8_ BK; clear hb))
        refine bodyPost_ret (results_ctt rfl _ _ gb 27 #[.int .i64 n1.f0, .int .i64 n1.f1.f0, .string n1.f1.f1, .string n1.f1.f2, .string n1.f1.f3, .bool n1.f2, .bool n1.f3, .slice A1 n1.f4.length c1] (0, 0) _ rfl (put8_ BK.out ..) Tryz.underlying27 rfl (by kernel_rfl)) rfl ?_
        have p1 := V_all8 HV.out (fun q hq => hq.1.2) (.int .i64 n1.f0) (.int .i64 n1.f1.f0) (.string n1.f1.f1) (.string n1.f1.f2) (.string n1.f1.f3) (.bool n1.f2) (.bool n1.f3) (.slice A1 n1.f4.length c1)
        have p2 := below8 HB.out GE.out (.int .i64 n1.f0) (.int .i64 n1.f1.f0) (.string n1.f1.f1) (.string n1.f1.f2) (.string n1.f1.f3) (.bool n1.f2) (.bool n1.f3) (.slice A1 n1.f4.length c1)
        exact ⟨_, rfl, V_base (Kd.V_mono p1 (fun q hq => hq.1.1)), p2⟩
      · replace h3 := (if_neg cy).symm.trans h3
        have k9 : (y.f0 != 9) = true := bne_iff_ne.mpr cy
        have hE : eNot y 3 = 3 := if_neg cy
        have HE3 := A_ hE
        clear cy hE
        simp only [Option.some.injEq, Prod.mk.injEq] at h3
        obtain ⟨rfl, rfl, rfl, rfl, rfl, rfl, rfl, rfl, rfl, rfl⟩ := h3
        go_enter Tryz.func8, Tryz.ntmps8
        go_wp2_with (first | ((with_reducible refine gD 2 ?_); refine bxe_ 2 z8_ 27 ?_; intro gb hgb w2 hbox hb; have BK := A_ hbox; have GE := A_ (show w.heap.size ≤ gb from by rw [hgb]; exact HB.out.size); replace HB := A_ (below_step HB.out hb); clear hb hbox hgb) | ((with_reducible refine gC 16 ?_); refine gL 13 Tryz.func16 #[.string a0] ?_; (with_reducible refine (lex_All.calls k a0 L1 L2 L3 _ HL.out).mono ?_); rintro e1 w1 ⟨v0, rfl, ho, hb⟩; refine ⟨_, rfl, ?_⟩; obtain ⟨A0, c0, rfl⟩ := Kd.R_slice ho; have HO := A_ ho; replace HB := A_ (below_step HB.out hb); replace BK := A_ (blk_below BK.out hb); have ZK := bz8_ BK; clear ho hb) | ((with_reducible refine gD 24 ?_); refine bxe_ 24 #[.slice A0 L1.length c0, .int .i64 0, .int .i64 0] 41 ?_; intro gp hgp w4 hbox hb; have HI := A_ (IsP.make HO.out hgp hbox); have HB0 := A_ hb; have NBP := A_ (show gb ≠ gp from by rw [hgp]; exact Nat.ne_of_lt (blk_lt BK.out)); have GP := A_ (show w.heap.size ≤ gp from by rw [hgp]; exact HB.out.size); replace BK := A_ (blk_below BK.out hb); have HW := HB; clear hb hbox hgp HO ZK) | ((with_reducible refine gC 17 ?_); refine gL 27 Tryz.func17 #[.pointer (some ⟨gp, 0, none⟩)] ?_; (with_reducible refine (parser_expr.calls k gp L1 0 0 _ _ _ HI.out HB0.out HE.out).mono ?_); rintro e1 w1 ⟨v1, u1, rfl, hV, hx, hP⟩; obtain rfl : u1 = .pointer none := hx; refine ⟨_, rfl, ?_⟩; obtain ⟨A1, c1, rfl⟩ : ∃ A1 c1, v1 = .slice A1 n1.f4.length c1 := Kd.V_slice hV; have HV := A_ (Kd.V_mono (ok' := fun q => w.heap.size ≤ q ∧ q ≠ gb) hV (fun q hq => ⟨Nat.le_trans (Nat.le_trans HB.out.size HB0.out.size) hq, Ne.symm (Nat.ne_of_lt (Nat.lt_of_lt_of_le (blk_lt BK.out) hq))⟩)); replace BK := A_ (hP.hK.blk BK.out NBP.out (by simp)); replace HB := A_ (below_step HW.out hP.hB); replace HI := A_ hP.hI; replace HB0 := A_ hP.hB; clear hV hP HW) | ((with_reducible refine gD 9 ?_); refine bxe_ 9 z8_ 27 ?_; intro ga hga w5 hbox hb; have BA := A_ hbox; have NBA := A_ (show gb ≠ ga from by rw [hga]; exact Nat.ne_of_lt (blk_lt BK.out)); have nba := NBA.out; have nab := Ne.symm nba; have NPA := A_ (show gp ≠ ga from by rw [hga]; exact Nat.ne_of_lt HI.out.lt); have GA := A_ (show w.heap.size ≤ ga from by rw [hga]; exact HB.out.size); have GA0 := A_ (show _ ≤ ga from by rw [hga]; exact HB0.out.size); replace HV := A_ (Kd.V_below (Kd.V_elderB HV.out ga (Nat.le_of_eq hga.symm)) hb); replace HI := A_ (HI.out.below hb); replace HB0 := A_ (below_step HB0.out hb); replace HB := A_ (below_step HB.out hb); replace BK := A_ (blk_below BK.out hb); have Z := bz8_ BA; have ZK := bz8_ BK; clear hb hbox hga) | (go_at_call 18; clear Z ZK; replace HI := A_ (HI.out.far8 NPA.out (.int .i64 n1.f0) (.int .i64 n1.f1.f0) (.string n1.f1.f1) (.string n1.f1.f2) (.string n1.f1.f3) (.bool n1.f2) (.bool n1.f3) (.slice A1 n1.f4.length c1)); replace HB0 := A_ (below8 HB0.out GA0.out (.int .i64 n1.f0) (.int .i64 n1.f1.f0) (.string n1.f1.f1) (.string n1.f1.f2) (.string n1.f1.f3) (.bool n1.f2) (.bool n1.f3) (.slice A1 n1.f4.length c1)); replace HB := A_ (below8 HB.out GA.out (.int .i64 n1.f0) (.int .i64 n1.f1.f0) (.string n1.f1.f1) (.string n1.f1.f2) (.string n1.f1.f3) (.bool n1.f2) (.bool n1.f3) (.slice A1 n1.f4.length c1)); replace BK := A_ (far8_ BK.out NBA.out (.int .i64 n1.f0) (.int .i64 n1.f1.f0) (.string n1.f1.f1) (.string n1.f1.f2) (.string n1.f1.f3) (.bool n1.f2) (.bool n1.f3) (.slice A1 n1.f4.length c1)); replace BA := A_ (put8_ BA.out (.int .i64 n1.f0) (.int .i64 n1.f1.f0) (.string n1.f1.f1) (.string n1.f1.f2) (.string n1.f1.f3) (.bool n1.f2) (.bool n1.f3) (.slice A1 n1.f4.length c1)); replace HV := A_ (V_all8 HV.out (fun q hq => hq.2) (.int .i64 n1.f0) (.int .i64 n1.f1.f0) (.string n1.f1.f1) (.string n1.f1.f2) (.string n1.f1.f3) (.bool n1.f2) (.bool n1.f3) (.slice A1 n1.f4.length c1)); (with_reducible refine (parser_next.calls gp y u m1 d1 _ _ HI.out HB0.out).mono ?_); rintro e1 w1 ⟨rfl, hb⟩; replace HI := A_ (HI.out.below hb); replace HB0 := A_ (below_step HB0.out hb); replace HB := A_ (below_step HB.out hb); replace BK := A_ (blk_below BK.out hb); replace BA := A_ (blk_below BA.out hb); replace HV := A_ (Kd.V_below HV.out hb); have Z := bz8_ BA; have ZK := bz8_ BK; clear hb) | ((with_reducible refine gD 39 ?_); refine gL 39 Tryz.func19 #[.pointer (some ⟨gp, 0, none⟩), .int .i64 3] ?_; (with_reducible refine (parser_not.calls gp y u m1 d1 3 _ _ HI.out HB0.out).mono ?_); rintro e1 w1 ⟨u2, rfl, hx, hb⟩; rw [HE3.out] at hx; obtain ⟨qx, rfl, hqx, hX⟩ := hx; refine ⟨_, rfl, ?_⟩; have NQB := A_ (show gb ≠ qx from Nat.ne_of_lt (Nat.lt_of_lt_of_le (blk_lt BK.out) hqx)); have BX := A_ hX; have hx0 := (blk_cell BX.out 0).trans rfl; have hx1 := (blk_cell BX.out 1).trans rfl; replace HB := A_ (below_step HB.out hb); replace BK := A_ (blk_below BK.out hb); clear Z ZK; have ZK := bz8_ BK; have nqb := NQB.out; have nbq := Ne.symm nqb; clear hqx hX hb))
        go_region_held3 (fun w' => w'.cell? ⟨qx, 0, none⟩ = some (.int .i64 y.f1) ∧ w'.cell? ⟨qx, 1, none⟩ = some (.int .i64 3)) (first | (with_reducible exact ⟨(blk_cell BX.out 0).trans rfl, (blk_cell BX.out 1).trans rfl⟩) | (with_reducible exact ⟨(blk_cell (blk_drew BX.out) 0).trans rfl, (blk_cell (blk_drew BX.out) 1).trans rfl⟩) | (with_reducible exact ⟨(blk_cell (blk_drew (far8_ BX.out (Ne.symm NQB.out) (.int .i64 0) (.int .i64 0) (.string ⟨#[]⟩) (.string ⟨#[]⟩) (.string ⟨#[]⟩) (.bool false) (.bool false) (.slice none 0 0))) 0).trans rfl, (blk_cell (blk_drew (far8_ BX.out (Ne.symm NQB.out) (.int .i64 0) (.int .i64 0) (.string ⟨#[]⟩) (.string ⟨#[]⟩) (.string ⟨#[]⟩) (.bool false) (.bool false) (.slice none 0 0))) 1).trans rfl⟩)) (fail)
        go_wp2
        refine bodyPost_ret (results_ctt rfl _ _ gb 27 z8_ (0, 0) _ rfl (blk_drew (put8_ BK.out (.int .i64 0) (.int .i64 0) (.string ⟨#[]⟩) (.string ⟨#[]⟩) (.string ⟨#[]⟩) (.bool false) (.bool false) (.slice none 0 0))) Tryz.underlying27 rfl (by kernel_rfl)) rfl ?_
        have p1 := below_drew (below8 HB.out GE.out (.int .i64 0) (.int .i64 0) (.string ⟨#[]⟩) (.string ⟨#[]⟩) (.string ⟨#[]⟩) (.bool false) (.bool false) (.slice none 0 0))
        exact ⟨_, rfl, Kd.V_nil _ _ _ _ _, p1⟩
  · replace h2 := (if_neg c).symm.trans h2
    have k3 : (L3 != 0) = true := bne_iff_ne.mpr c
    clear c
    simp only [Option.some.injEq, Prod.mk.injEq] at h2
    obtain ⟨rfl, rfl, rfl, rfl, rfl, rfl, rfl, rfl, rfl, rfl⟩ := h2
    go_enter Tryz.func8, Tryz.ntmps8
    go_wp2_with (first | ((with_reducible refine gD 2 ?_); refine bxe_ 2 z8_ 27 ?_; intro gb hgb w2 hbox hb; have BK := A_ hbox; have GE := A_ (show w.heap.size ≤ gb from by rw [hgb]; exact HB.out.size); replace HB := A_ (below_step HB.out hb); clear hb hbox hgb) | ((with_reducible refine gC 16 ?_); refine gL 13 Tryz.func16 #[.string a0] ?_; (with_reducible refine (lex_All.calls k a0 L1 L2 L3 _ HL.out).mono ?_); rintro e1 w1 ⟨v0, rfl, ho, hb⟩; refine ⟨_, rfl, ?_⟩; obtain ⟨A0, c0, rfl⟩ := Kd.R_slice ho; have HO := A_ ho; replace HB := A_ (below_step HB.out hb); replace BK := A_ (blk_below BK.out hb); have ZK := bz8_ BK; clear ho hb))
    refine bodyPost_ret (results_ctt rfl _ _ gb 27 z8_ (0, 0) _ rfl (put8_ BK.out ..) Tryz.underlying27 rfl (by kernel_rfl)) rfl ?_
    exact ⟨_, rfl, Kd.V_nil _ _ _ _ _, below8 HB.out GE.out ..⟩
end Go.Proofs.YtjgjhekpiijniaaGreat.A
namespace Go.Proofs.YtjgjhekpiijniaaGreat.A
open Go.RowKit Go.Proofs.YtjgjhekpiijniaaGreatW.PrintWords Go.Proofs.YtjgjhekpiijniaaGreatW.PrintLast Go.Proofs.YtjgjhekpiijniaaGreatW.PrintMore
attribute [local go_sem] max2_int min2_int max_two min_two max_three min_three max_four min_four
set_option maxHeartbeats 8000000 in
set_option maxRecDepth 100000 in
theorem lustrumref08_part.calls (a0 : ByteArray) (a1 a2 : Int) (r : ByteArray) (w : World) (h : lustrumref08_part.f a0 a1 a2 = some r) :
  Calls Tryz.prog 83 #[.string a0, .int .i64 a1, .int .i64 a2] w fun e w' => e = .returned (.string r) ∧ Drawn0 w w' := by
 have H : (if a2 > (a0.size : Int) then (some (⟨#[]⟩ : ByteArray)) else (if 0 ≤ a1 then (if a1 ≤ a2 then (if a2 ≤ (a0.size : Int) then (some (a0.extract (a1 : Int).toNat (a2 : Int).toNat)) else (none)) else (none)) else (none))) = some r := h; clear h
 by_cases c4 : a2 > (a0.size : Int)
 ·rw [if_pos c4] at H
  have c4b0 := decide_eq_true c4; clear c4; obtain rfl := Option.some.inj H; go_enter Tryz.func83, Tryz.ntmps83; go_wp2; go_ret; exact ⟨by first | rfl | (simp; done) | (simp [*]; done), by repeat (first | exact Drawn0.refl _ | apply Drawn0.step)⟩
 ·rw [if_neg c4] at H
  have c4b0 := decide_eq_false c4; clear c4
  by_cases c5 : 0 ≤ a1
  ·rw [if_pos c5] at H
   have c5b0 := eq_true c5; have c5b1 := decide_eq_true c5; clear c5
   by_cases c6 : a1 ≤ a2
   ·rw [if_pos c6] at H
    have c6b0 := eq_true c6; have c6b1 := decide_eq_true c6; clear c6
    by_cases c7 : a2 ≤ (a0.size : Int)
    ·rw [if_pos c7] at H
     have c7b0 := eq_true c7; have c7b1 := decide_eq_true c7; clear c7; obtain rfl := Option.some.inj H; go_enter Tryz.func83, Tryz.ntmps83; go_wp2; go_ret; exact ⟨by first | rfl | (simp; done) | (simp [*]; done), by repeat (first | exact Drawn0.refl _ | apply Drawn0.step)⟩
    ·rw [if_neg c7] at H
     exact absurd H (by simp)
   ·rw [if_neg c6] at H
    exact absurd H (by simp)
  ·rw [if_neg c5] at H
   exact absurd H (by simp)
set_option maxHeartbeats 8000000 in
set_option maxRecDepth 100000 in
theorem lustrumref06_Sane.calls (k : Nat) (a0 : ByteArray) (r : Bool) (w : World) (h : lustrumref06_Sane.f k a0 = some r) :
  Calls Tryz.prog 94 #[.string a0] w fun e w' => e = .returned (.bool r) ∧ Drawn0 w w' := by
 have H : (lustrumref06_Sane.l0 k a0 0) = some r := h; clear h; have H' := A_ H; clear H; go_enter Tryz.func94, Tryz.ntmps94; go_wp2; go_loopg [3] k (fun kq v3 w' => ∃ (x3_1 : Int), v3 = .int .i64 x3_1 ∧ Aside0 (lustrumref06_Sane.l0 kq a0 x3_1 = some r) ∧ Aside0 (kq ≤ k) ∧ Drawn0 w w')
 case atStart => exact ⟨(0), rf_, H', ⟨Nat.le_refl _⟩, by repeat (first | exact Drawn0.refl _ | apply Drawn0.step)⟩
 case round =>
  clear H'; obtain ⟨x3_1, rfl, HA, HK1, ⟨m1, rfl⟩⟩ := hrel
  cases gk with
  | zero => exact absurd HA.out (by simp [lustrumref06_Sane.l0])
  | succ k1 =>
   have H := HA.out; clear HA; simp only [lustrumref06_Sane.l0] at H
   by_cases c2 : x3_1 < (a0.size : Int)
   ·rw [if_pos c2] at H
    have c2b0 := decide_eq_true c2; clear c2
    by_cases c3 : 0 ≤ x3_1
    ·rw [if_pos c3] at H
     have c3b0 := decide_eq_true c3; clear c3
     by_cases c5 : (bt a0 x3_1) < 48
     ·rw [if_pos c5] at H
      have c5b0 := decide_eq_true c5; clear c5
      by_cases c7 : (bt a0 x3_1) = 88
      ·rw [if_pos c7] at H
       have c7b0 : ((bt a0 x3_1) == 88) = true := beq_iff_eq.mpr c7; have c7b1 : ((bt a0 x3_1) != 88) = false := bne_eq_false_iff_eq.mpr c7; clear c7; have H' := A_ H; clear H; have p4 : 0 ≤ (x3_1 : Int) := od_; have q4 : x3_1 < (a0.size : Int) := od_; have hx4 := bt_at a0 x3_1; replace p4 := eq_true p4; replace q4 := eq_true q4; have p6 : 0 ≤ (x3_1 : Int) := od_; have q6 : x3_1 < (a0.size : Int) := od_; have hx6 := bt_at a0 x3_1; replace p6 := eq_true p6; replace q6 := eq_true q6; go_wp2; go_roundg k1
       case measure => have := HK1.out; omega
       case rel => exact ⟨(wrap64 (x3_1 + 1)), rf_, H', ⟨by have := HK1.out; omega⟩, by repeat (first | exact Drawn0.refl _ | apply Drawn0.step)⟩
      ·rw [if_neg c7] at H
       have c7b0 : ((bt a0 x3_1) == 88) = false := beq_eq_false_iff_ne.mpr c7; have c7b1 : ((bt a0 x3_1) != 88) = true := bne_iff_ne.mpr c7; obtain rfl := Option.some.inj H; have p4 : 0 ≤ (x3_1 : Int) := od_; have q4 : x3_1 < (a0.size : Int) := od_; have hx4 := bt_at a0 x3_1; replace p4 := eq_true p4; replace q4 := eq_true q4; have p6 : 0 ≤ (x3_1 : Int) := od_; have q6 : x3_1 < (a0.size : Int) := od_; have hx6 := bt_at a0 x3_1; replace p6 := eq_true p6; replace q6 := eq_true q6; go_wp2; go_ret; exact ⟨by first | rfl | (simp; done) | (simp [*]; done), by repeat (first | exact Drawn0.refl _ | apply Drawn0.step)⟩
     ·rw [if_neg c5] at H
      have c5b0 := decide_eq_false c5; clear c5
      by_cases c9 : (bt a0 x3_1) > 57
      ·rw [if_pos c9] at H
       have c9b0 := decide_eq_true c9; clear c9
       by_cases c11 : (bt a0 x3_1) = 88
       ·rw [if_pos c11] at H
        have c11b0 : ((bt a0 x3_1) == 88) = true := beq_iff_eq.mpr c11; have c11b1 : ((bt a0 x3_1) != 88) = false := bne_eq_false_iff_eq.mpr c11; clear c11; have H' := A_ H; clear H; have p4 : 0 ≤ (x3_1 : Int) := od_; have q4 : x3_1 < (a0.size : Int) := od_; have hx4 := bt_at a0 x3_1; replace p4 := eq_true p4; replace q4 := eq_true q4; have p8 : 0 ≤ (x3_1 : Int) := od_; have q8 : x3_1 < (a0.size : Int) := od_; have hx8 := bt_at a0 x3_1; replace p8 := eq_true p8; replace q8 := eq_true q8; have p10 : 0 ≤ (x3_1 : Int) := od_; have q10 : x3_1 < (a0.size : Int) := od_; have hx10 := bt_at a0 x3_1; replace p10 := eq_true p10; replace q10 := eq_true q10; go_wp2; go_roundg k1
        case measure => have := HK1.out; omega
        case rel => exact ⟨(wrap64 (x3_1 + 1)), rf_, H', ⟨by have := HK1.out; omega⟩, by repeat (first | exact Drawn0.refl _ | apply Drawn0.step)⟩
       ·rw [if_neg c11] at H
        have c11b0 : ((bt a0 x3_1) == 88) = false := beq_eq_false_iff_ne.mpr c11; have c11b1 : ((bt a0 x3_1) != 88) = true := bne_iff_ne.mpr c11; obtain rfl := Option.some.inj H; have p4 : 0 ≤ (x3_1 : Int) := od_; have q4 : x3_1 < (a0.size : Int) := od_; have hx4 := bt_at a0 x3_1; replace p4 := eq_true p4; replace q4 := eq_true q4; have p8 : 0 ≤ (x3_1 : Int) := od_; have q8 : x3_1 < (a0.size : Int) := od_; have hx8 := bt_at a0 x3_1; replace p8 := eq_true p8; replace q8 := eq_true q8; have p10 : 0 ≤ (x3_1 : Int) := od_; have q10 : x3_1 < (a0.size : Int) := od_; have hx10 := bt_at a0 x3_1; replace p10 := eq_true p10; replace q10 := eq_true q10; go_wp2; go_ret; exact ⟨by first | rfl | (simp; done) | (simp [*]; done), by repeat (first | exact Drawn0.refl _ | apply Drawn0.step)⟩
      ·rw [if_neg c9] at H
       have c9b0 := decide_eq_false c9; clear c9; have H' := A_ H; clear H; have p4 : 0 ≤ (x3_1 : Int) := od_; have q4 : x3_1 < (a0.size : Int) := od_; have hx4 := bt_at a0 x3_1; replace p4 := eq_true p4; replace q4 := eq_true q4; have p8 : 0 ≤ (x3_1 : Int) := od_; have q8 : x3_1 < (a0.size : Int) := od_; have hx8 := bt_at a0 x3_1; replace p8 := eq_true p8; replace q8 := eq_true q8; go_wp2; go_roundg k1
       case measure => have := HK1.out; omega
       case rel => exact ⟨(wrap64 (x3_1 + 1)), rf_, H', ⟨by have := HK1.out; omega⟩, by repeat (first | exact Drawn0.refl _ | apply Drawn0.step)⟩
    ·rw [if_neg c3] at H
     exact absurd H (by simp)
   ·rw [if_neg c2] at H
    have c2b0 := decide_eq_false c2; clear c2
    by_cases c12 : (a0.size : Int) ≥ 1
    ·rw [if_pos c12] at H
     have c12b0 := decide_eq_true c12; have c12b1 : decide (1 ≤ a0.size) = true := decide_eq_true (by omega); clear c12; obtain rfl := Option.some.inj H; go_wp2; go_ret; exact ⟨by first | rfl | (simp; done) | (simp [*]; done), by repeat (first | exact Drawn0.refl _ | apply Drawn0.step)⟩
    ·rw [if_neg c12] at H
     have c12b0 := decide_eq_false c12; have c12b1 : decide (1 ≤ a0.size) = false := decide_eq_false (by omega); clear c12; obtain rfl := Option.some.inj H; go_wp2; go_ret; exact ⟨by first | rfl | (simp; done) | (simp [*]; done), by repeat (first | exact Drawn0.refl _ | apply Drawn0.step)⟩
set_option maxHeartbeats 8000000 in
set_option maxRecDepth 100000 in
theorem lustrumref06_most.calls (k : Nat) (a0 r : Int) (w : World) (h : lustrumref06_most.f k a0 = some r) :
  Calls Tryz.prog 103 #[.int .i64 a0] w fun e w' => e = .returned (.int .i64 r) ∧ Drawn0 w w' := by
 have H : (lustrumref06_most.l0 k a0 1 0) = some r := h; clear h; have H' := A_ H; clear H; go_enter Tryz.func103, Tryz.ntmps103; go_wp2; go_loopg [3, 4] k (fun kq v3 v4 w' => ∃ (x3_1 : Int) (x4_1 : Int), v3 = .int .i64 x3_1 ∧ v4 = .int .i64 x4_1 ∧ Aside0 (lustrumref06_most.l0 kq a0 x3_1 x4_1 = some r) ∧ Aside0 (kq ≤ k) ∧ Drawn0 w w')
 case atStart => exact ⟨(1), (0), rf_, rf_, H', ⟨Nat.le_refl _⟩, by repeat (first | exact Drawn0.refl _ | apply Drawn0.step)⟩
 case round =>
  clear H'; obtain ⟨x3_1, x4_1, rfl, rfl, HA, HK1, ⟨m1, rfl⟩⟩ := hrel
  cases gk with
  | zero => exact absurd HA.out (by simp [lustrumref06_most.l0])
  | succ k1 =>
   have H := HA.out; clear HA; simp only [lustrumref06_most.l0] at H
   by_cases c2 : x4_1 < a0
   ·rw [if_pos c2] at H
    have c2b0 := decide_eq_true c2; clear c2; have H' := A_ H; clear H; go_wp2; go_roundg k1
    case measure => have := HK1.out; omega
    case rel => exact ⟨(wrap64 (x3_1 * 10)), (wrap64 (x4_1 + 1)), rf_, rf_, H', ⟨by have := HK1.out; omega⟩, by repeat (first | exact Drawn0.refl _ | apply Drawn0.step)⟩
   ·rw [if_neg c2] at H
    have c2b0 := decide_eq_false c2; clear c2; obtain rfl := Option.some.inj H; go_wp2; go_ret; exact ⟨by first | rfl | (simp; done) | (simp [*]; done), by repeat (first | exact Drawn0.refl _ | apply Drawn0.step)⟩
set_option maxHeartbeats 8000000 in
set_option maxRecDepth 100000 in
theorem lustrumref06_Match.calls (k : Nat) (a0 : ByteArray) (a1 : Int) (r : Bool) (w : World) (h : lustrumref06_Match.f k a0 a1 = some r) :
  Calls Tryz.prog 99 #[.string a0, .int .i64 a1] w fun e w' => e = .returned (.bool r) ∧ Drawn0 w w' := by
 have H : ((lustrumref06_Sane.f k a0).bind fun t241 => (if t241 = true then (if a1 < 0 then (lustrumref06_Match.j0 k a0 a1 true) else ((lustrumref06_most.f k (a0.size : Int)).bind fun t242 => (lustrumref06_Match.j0 k a0 a1 (decide (a1 ≥ t242))))) else (lustrumref06_Match.j0 k a0 a1 true))) = some r := h; clear h; have HC3 := A_ H; clear H; go_enter Tryz.func99, Tryz.ntmps99; go_upto_region 1 with (fail); go_cut [19] (fun v19 wc => ∃ (kq : Nat) (x19_2 : Bool), v19 = .bool x19_2 ∧ Aside0 (lustrumref06_Match.j0 kq a0 a1 x19_2 = some r) ∧ Aside0 (kq ≤ k) ∧ Drawn0 w wc)
 case first =>
  have H := HC3.out; clear HC3; obtain ⟨t241, A4, H⟩ := bi_ H
  by_cases c5 : t241 = true
  ·subst c5
   replace H := iP_ H
   by_cases c6 : a1 < 0
   ·rw [if_pos c6] at H
    have c6b0 := decide_eq_true c6; clear c6; (first | rw [c6b0] | (simp only [i64_w, i32_w]; rw [c6b0]) | skip); have H' := A_ H; clear H; go_wp2_with (first | (refine gC 94 ?_; refine gL 7 Tryz.func94 #[.string a0] ?_; (with_reducible refine (lustrumref06_Sane.calls k a0 true _ A4.out).mono ?_); rintro e w' ⟨rfl, ⟨nd, rfl⟩⟩; refine ⟨_, rfl, ?_⟩)); go_meet
    case rel => exact ⟨_, (true), rf_, H', ⟨by first | omega | exact Nat.le_refl _⟩, by repeat (first | exact Drawn0.refl _ | apply Drawn0.step)⟩
   ·rw [if_neg c6] at H
    have c6b0 := decide_eq_false c6; clear c6; (first | rw [c6b0] | (simp only [i64_w, i32_w]; rw [c6b0]) | skip); obtain ⟨t242, A7, H⟩ := bi_ H; have H' := A_ H; clear H; go_wp2_with (first | (refine gC 94 ?_; refine gL 7 Tryz.func94 #[.string a0] ?_; (with_reducible refine (lustrumref06_Sane.calls k a0 true _ A4.out).mono ?_); rintro e w' ⟨rfl, ⟨nd, rfl⟩⟩; refine ⟨_, rfl, ?_⟩) | (go_at_call 103; (with_reducible refine (lustrumref06_most.calls k (a0.size : Int) t242 _ A7.out).mono ?_); rintro e w' ⟨rfl, ⟨nd, rfl⟩⟩)); go_meet
    case rel => exact ⟨_, (decide (a1 ≥ t242)), rf_, H', ⟨by first | omega | exact Nat.le_refl _⟩, by repeat (first | exact Drawn0.refl _ | apply Drawn0.step)⟩
  ·replace c5 := Bool.eq_false_iff.mpr c5
   subst c5; replace H := iN_ H; have H' := A_ H; clear H; go_wp2_with (first | (refine gC 94 ?_; refine gL 7 Tryz.func94 #[.string a0] ?_; (with_reducible refine (lustrumref06_Sane.calls k a0 false _ A4.out).mono ?_); rintro e w' ⟨rfl, ⟨nd, rfl⟩⟩; refine ⟨_, rfl, ?_⟩)); go_meet
   case rel => exact ⟨_, (true), rf_, H', ⟨by first | omega | exact Nat.le_refl _⟩, by repeat (first | exact Drawn0.refl _ | apply Drawn0.step)⟩
 case rest =>
  clear HC3; (try clear p2); (try clear c5); (try clear c6); (try clear c6b0); (try clear c7); obtain ⟨kq, x19_2, rfl, HA, HJ2, ⟨mc2, rfl⟩⟩ := hcut
  cases kq with
  | zero => exact absurd HA.out (by simp [lustrumref06_Match.j0])
  | succ kj2 =>
   have H := HA.out; clear HA; simp only [lustrumref06_Match.j0] at H
   by_cases c8 : x19_2 = true
   ·subst c8
    replace H := iP_ H; obtain rfl := Option.some.inj H; go_wp2; go_ret; exact ⟨by first | rfl | (simp; done) | (simp [*]; done), by repeat (first | exact Drawn0.refl _ | apply Drawn0.step)⟩
   ·replace c8 := Bool.eq_false_iff.mpr c8
    subst c8; replace H := iN_ H; have H' := A_ H; clear H; go_wp2; go_loopg [1, 5] kj2 (fun kq v1 v5 w' => ∃ (x1_2 : Int) (x5_2 : Int), v1 = .int .i64 x1_2 ∧ v5 = .int .i64 x5_2 ∧ Aside0 (lustrumref06_Match.l0 kq a0 x1_2 x5_2 = some r) ∧ Aside0 (kq ≤ kj2) ∧ Drawn0 w w')
    case atStart => exact ⟨(a1), (wrap64 ((a0.size : Int) - 1)), rf_, rf_, H', ⟨Nat.le_refl _⟩, by repeat (first | exact Drawn0.refl _ | apply Drawn0.step)⟩
    case round =>
     clear H'; (try clear c2); (try clear p2); (try clear c5); (try clear c6); (try clear c6b0); (try clear p6); (try clear c7); (try clear c8); (try clear p2); obtain ⟨x1_2, x5_2, rfl, rfl, HA, HK2, ⟨m2, rfl⟩⟩ := hrel
     cases gk with
     | zero => exact absurd HA.out (by simp [lustrumref06_Match.l0])
     | succ k2 =>
      have H := HA.out; clear HA; simp only [lustrumref06_Match.l0] at H
      by_cases c9 : x5_2 ≥ 0
      ·rw [if_pos c9] at H
       have c9b0 := decide_eq_true c9; clear c9
       by_cases c10 : 0 ≤ x5_2
       ·rw [if_pos c10] at H
        have c10b0 := decide_eq_true c10; clear c10
        by_cases c11 : x5_2 < (a0.size : Int)
        ·rw [if_pos c11] at H
         have c11b0 := decide_eq_true c11; clear c11
         by_cases c13 : (bt a0 x5_2) = 88
         ·rw [if_pos c13] at H
          have c13b0 : ((bt a0 x5_2) == 88) = true := beq_iff_eq.mpr c13; have c13b1 : ((bt a0 x5_2) != 88) = false := bne_eq_false_iff_eq.mpr c13; clear c13; have H' := A_ H; clear H; have p12 : 0 ≤ (x5_2 : Int) := od_; have q12 : x5_2 < (a0.size : Int) := od_; have hx12 := bt_at a0 x5_2; replace p12 := eq_true p12; replace q12 := eq_true q12; go_wp2; go_roundg k2
          case measure => have := HJ2.out; have := HK2.out; omega
          case rel => exact ⟨(wrap64 (Int.tdiv x1_2 10)), (wrap64 (x5_2 - 1)), rf_, rf_, H', ⟨by have := HJ2.out; have := HK2.out; omega⟩, by repeat (first | exact Drawn0.refl _ | apply Drawn0.step)⟩
         ·rw [if_neg c13] at H
          have c13b0 : ((bt a0 x5_2) == 88) = false := beq_eq_false_iff_ne.mpr c13; have c13b1 : ((bt a0 x5_2) != 88) = true := bne_iff_ne.mpr c13
          by_cases c15 : (wrap64 ((wrap64 (bt a0 x5_2)) - 48)) = (Int.tmod x1_2 10)
          ·rw [if_pos c15] at H
           have c15b0 : ((wrap64 ((wrap64 (bt a0 x5_2)) - 48)) == (Int.tmod x1_2 10)) = true := beq_iff_eq.mpr c15; have c15b1 : ((wrap64 ((wrap64 (bt a0 x5_2)) - 48)) != (Int.tmod x1_2 10)) = false := bne_eq_false_iff_eq.mpr c15; clear c15; have H' := A_ H; clear H; have p12 : 0 ≤ (x5_2 : Int) := od_; have q12 : x5_2 < (a0.size : Int) := od_; have hx12 := bt_at a0 x5_2; replace p12 := eq_true p12; replace q12 := eq_true q12; have p14 : 0 ≤ (x5_2 : Int) := od_; have q14 : x5_2 < (a0.size : Int) := od_; have hx14 := bt_at a0 x5_2; replace p14 := eq_true p14; replace q14 := eq_true q14; go_wp2; go_roundg k2
           case measure => have := HJ2.out; have := HK2.out; omega
           case rel => exact ⟨(wrap64 (Int.tdiv x1_2 10)), (wrap64 (x5_2 - 1)), rf_, rf_, H', ⟨by have := HJ2.out; have := HK2.out; omega⟩, by repeat (first | exact Drawn0.refl _ | apply Drawn0.step)⟩
          ·rw [if_neg c15] at H
           have c15b0 : ((wrap64 ((wrap64 (bt a0 x5_2)) - 48)) == (Int.tmod x1_2 10)) = false := beq_eq_false_iff_ne.mpr c15; have c15b1 : ((wrap64 ((wrap64 (bt a0 x5_2)) - 48)) != (Int.tmod x1_2 10)) = true := bne_iff_ne.mpr c15; obtain rfl := Option.some.inj H; have p12 : 0 ≤ (x5_2 : Int) := od_; have q12 : x5_2 < (a0.size : Int) := od_; have hx12 := bt_at a0 x5_2; replace p12 := eq_true p12; replace q12 := eq_true q12; have p14 : 0 ≤ (x5_2 : Int) := od_; have q14 : x5_2 < (a0.size : Int) := od_; have hx14 := bt_at a0 x5_2; replace p14 := eq_true p14; replace q14 := eq_true q14; go_wp2; go_ret; exact ⟨by first | rfl | (simp; done) | (simp [*]; done), by repeat (first | exact Drawn0.refl _ | apply Drawn0.step)⟩
        ·rw [if_neg c11] at H
         exact absurd H (by simp)
       ·rw [if_neg c10] at H
        exact absurd H (by simp)
      ·rw [if_neg c9] at H
       have c9b0 := decide_eq_false c9; clear c9; obtain rfl := Option.some.inj H; go_wp2; go_ret; exact ⟨by first | rfl | (simp; done) | (simp [*]; done), by repeat (first | exact Drawn0.refl _ | apply Drawn0.step)⟩
set_option maxHeartbeats 8000000 in
set_option maxRecDepth 100000 in
theorem lustrumref08_some.calls (k : Nat) (a0 : ByteArray) (a1 a2 : Int) (r : Bool) (w : World) (h : lustrumref08_some.f k a0 a1 a2 = some r) :
  Calls Tryz.prog 95 #[.string a0, .int .i64 a1, .int .i64 a2] w fun e w' => e = .returned (.bool r) ∧ Drawn0 w w' := by
 have H : (if (a0.size : Int) = a1 then (lustrumref08_some.l0 k a0 a2 1) else (some false)) = some r := h; clear h
 by_cases c4 : (a0.size : Int) = a1
 ·rw [if_pos c4] at H
  have c4b0 : ((a0.size : Int) == a1) = true := beq_iff_eq.mpr c4; have c4b1 : ((a0.size : Int) != a1) = false := bne_eq_false_iff_eq.mpr c4; clear c4; have H' := A_ H; clear H; go_enter Tryz.func95, Tryz.ntmps95; go_wp2; go_loopg [7] k (fun kq v7 w' => ∃ (x7_1 : Int), v7 = .int .i64 x7_1 ∧ Aside0 (lustrumref08_some.l0 kq a0 a2 x7_1 = some r) ∧ Aside0 (kq ≤ k) ∧ Drawn0 w w')
  case atStart => exact ⟨(1), rf_, H', ⟨Nat.le_refl _⟩, by repeat (first | exact Drawn0.refl _ | apply Drawn0.step)⟩
  case round =>
   clear H'; (try clear p2); (try clear c4); (try clear c4b0); (try clear c4b1); obtain ⟨x7_1, rfl, HA, HK1, ⟨m1, rfl⟩⟩ := hrel
   cases gk with
   | zero => exact absurd HA.out (by simp [lustrumref08_some.l0])
   | succ k1 =>
    have H := HA.out; clear HA; simp only [lustrumref08_some.l0] at H
    by_cases c5 : x7_1 ≤ a2
    ·rw [if_pos c5] at H
     have c5b0 := decide_eq_true c5; clear c5; obtain ⟨t243, A6, H⟩ := bi_ H
     by_cases c7 : t243 = true
     ·subst c7
      replace H := iP_ H; obtain rfl := Option.some.inj H; go_wp2_with (first | (refine gC 99 ?_; refine gL 19 Tryz.func99 #[.string a0, .int .i64 x7_1] ?_; (with_reducible refine (lustrumref06_Match.calls k1 a0 x7_1 true _ A6.out).mono ?_); rintro e w' ⟨rfl, ⟨nd, rfl⟩⟩; refine ⟨_, rfl, ?_⟩)); go_ret; exact ⟨by first | rfl | (simp; done) | (simp [*]; done), by repeat (first | exact Drawn0.refl _ | apply Drawn0.step)⟩
     ·replace c7 := Bool.eq_false_iff.mpr c7
      subst c7; replace H := iN_ H; have H' := A_ H; clear H; go_wp2_with (first | (refine gC 99 ?_; refine gL 19 Tryz.func99 #[.string a0, .int .i64 x7_1] ?_; (with_reducible refine (lustrumref06_Match.calls k1 a0 x7_1 false _ A6.out).mono ?_); rintro e w' ⟨rfl, ⟨nd, rfl⟩⟩; refine ⟨_, rfl, ?_⟩)); go_roundg k1
      case measure => have := HK1.out; omega
      case rel => exact ⟨(wrap64 (x7_1 + 1)), rf_, H', ⟨by have := HK1.out; omega⟩, by repeat (first | exact Drawn0.refl _ | apply Drawn0.step)⟩
    ·rw [if_neg c5] at H
     have c5b0 := decide_eq_false c5; clear c5; obtain rfl := Option.some.inj H; go_wp2; go_ret; exact ⟨by first | rfl | (simp; done) | (simp [*]; done), by repeat (first | exact Drawn0.refl _ | apply Drawn0.step)⟩
 ·rw [if_neg c4] at H
  have c4b0 : ((a0.size : Int) == a1) = false := beq_eq_false_iff_ne.mpr c4; have c4b1 : ((a0.size : Int) != a1) = true := bne_iff_ne.mpr c4; obtain rfl := Option.some.inj H; go_enter Tryz.func95, Tryz.ntmps95; go_wp2; go_ret; exact ⟨by first | rfl | (simp; done) | (simp [*]; done), by repeat (first | exact Drawn0.refl _ | apply Drawn0.step)⟩
end Go.Proofs.YtjgjhekpiijniaaGreat.A
namespace Go.Proofs.YtjgjhekpiijniaaGreat.A
open Go.RowKit Go.Proofs.YtjgjhekpiijniaaGreatW.PrintWords Go.Proofs.YtjgjhekpiijniaaGreatW.PrintLast Go.Proofs.YtjgjhekpiijniaaGreatW.PrintMore
attribute [local go_sem] max2_int min2_int max_two min_two max_three min_three max_four min_four
attribute [local go_sem high] eqA23
attribute [local go_sem] isSome_setCell
set_option maxHeartbeats 8000000 in
set_option maxRecDepth 100000 in
theorem lustrumref08_Sane.calls (k : Nat) (a0_0 : Int) (a0_1 a0_2 a0_3 : ByteArray) (r : Bool) (w : World) (h : lustrumref08_Sane.f k a0_0 a0_1 a0_2 a0_3 = some r) :
  Calls Tryz.prog 89 #[.agg #[.int .i64 a0_0, .string a0_1, .string a0_2, .string a0_3]] w fun e w' => e = .returned (.bool r) ∧ Below w.heap.size w w' := by
 have hu24 := Tryz.underlying24; have HB := A_ (Below.refl w.heap.size w); have H : ((lustrumref06_Sane.f k a0_1).bind fun t245 => (if t245 = true then (if a0_0 = 0 then (if (a0_1.size : Int) = 4 then ((lustrumref08_some.f k a0_2 2 12).bind fun t246 => (if t246 = true then ((lustrumref08_some.f k a0_3 2 31).bind fun t247 => (some t247)) else (some false))) else (some false)) else (if a0_0 = 1 then (if (a0_1.size : Int) = 4 then ((lustrumref08_some.f k a0_2 2 12).bind fun t248 => (if t248 = true then (some (a0_3.toList == ([] : List UInt8))) else (some false))) else (some false)) else (if a0_0 = 2 then (if (a0_1.size : Int) = 4 then ((lustrumref08_some.f k a0_2 1 4).bind fun t249 => (if t249 = true then (some (a0_3.toList == ([] : List UInt8))) else (some false))) else (some false)) else (if a0_0 = 3 then (if (a0_1.size : Int) = 4 then (if a0_2.toList = ([] : List UInt8) then (some (a0_3.toList == ([] : List UInt8))) else (some false)) else (some false)) else (if a0_0 = 4 then (if (a0_1.size : Int) = 3 then (if a0_2.toList = ([] : List UInt8) then (some (a0_3.toList == ([] : List UInt8))) else (some false)) else (some false)) else (if a0_0 = 5 then (if (a0_1.size : Int) = 2 then (if a0_2.toList = ([] : List UInt8) then (some (a0_3.toList == ([] : List UInt8))) else (some false)) else (some false)) else (some false))))))) else (some false))) = some r := h; clear h; obtain ⟨t245, A2, H⟩ := bi_ H
 by_cases c3 : t245 = true
 ·subst c3
  replace H := iP_ H
  by_cases c4 : a0_0 = 0
  ·rw [if_pos c4] at H
   have c4b0 : (a0_0 == 0) = true := beq_iff_eq.mpr c4; have c4b1 : (a0_0 != 0) = false := bne_eq_false_iff_eq.mpr c4; clear c4
   by_cases c5 : (a0_1.size : Int) = 4
   ·rw [if_pos c5] at H
    have c5b0 : ((a0_1.size : Int) == 4) = true := beq_iff_eq.mpr c5; have c5b1 : ((a0_1.size : Int) != 4) = false := bne_eq_false_iff_eq.mpr c5; clear c5; obtain ⟨t246, A6, H⟩ := bi_ H
    by_cases c7 : t246 = true
    ·subst c7
     replace H := iP_ H; obtain ⟨t247, A8, H⟩ := bi_ H; obtain rfl := Option.some.inj H; go_enter Tryz.func89, Tryz.ntmps89; go_wp2_with (first | (refine gx_ w 1 (n4_ a0_0 a0_1 a0_2 a0_3) 24 ?_; clear HB; intro gb244 w9 BK244 GE244 HB; have GW244 := GE244; have Z10 := bz4_ BK244) | (refine gC 94 ?_; refine gL 5 Tryz.func94 #[.string a0_1] ?_; (with_reducible refine (lustrumref06_Sane.calls k a0_1 true _ A2.out).mono ?_); rintro e w' ⟨rfl, ⟨nd, rfl⟩⟩; refine ⟨_, rfl, ?_⟩) | (go_at_call 95; (with_reducible refine (lustrumref08_some.calls k a0_2 2 12 true _ A6.out).mono ?_); rintro e w' ⟨rfl, ⟨nd, rfl⟩⟩) | (go_at_call 95; (with_reducible refine (lustrumref08_some.calls k a0_3 2 31 t247 _ A8.out).mono ?_); rintro e w' ⟨rfl, ⟨nd, rfl⟩⟩)); go_ret; exact ⟨re_, hs_⟩
    ·replace c7 := Bool.eq_false_iff.mpr c7
     subst c7; replace H := iN_ H; obtain rfl := Option.some.inj H; go_enter Tryz.func89, Tryz.ntmps89; go_wp2_with (first | (refine gx_ w 1 (n4_ a0_0 a0_1 a0_2 a0_3) 24 ?_; clear HB; intro gb244 w11 BK244 GE244 HB; have GW244 := GE244; have Z12 := bz4_ BK244) | (refine gC 94 ?_; refine gL 5 Tryz.func94 #[.string a0_1] ?_; (with_reducible refine (lustrumref06_Sane.calls k a0_1 true _ A2.out).mono ?_); rintro e w' ⟨rfl, ⟨nd, rfl⟩⟩; refine ⟨_, rfl, ?_⟩) | (go_at_call 95; (with_reducible refine (lustrumref08_some.calls k a0_2 2 12 false _ A6.out).mono ?_); rintro e w' ⟨rfl, ⟨nd, rfl⟩⟩)); go_ret; exact ⟨re_, hs_⟩
   ·rw [if_neg c5] at H
    have c5b0 : ((a0_1.size : Int) == 4) = false := beq_eq_false_iff_ne.mpr c5; have c5b1 : ((a0_1.size : Int) != 4) = true := bne_iff_ne.mpr c5; obtain rfl := Option.some.inj H; go_enter Tryz.func89, Tryz.ntmps89; go_wp2_with (first | (refine gx_ w 1 (n4_ a0_0 a0_1 a0_2 a0_3) 24 ?_; clear HB; intro gb244 w13 BK244 GE244 HB; have GW244 := GE244; have Z14 := bz4_ BK244) | (refine gC 94 ?_; refine gL 5 Tryz.func94 #[.string a0_1] ?_; (with_reducible refine (lustrumref06_Sane.calls k a0_1 true _ A2.out).mono ?_); rintro e w' ⟨rfl, ⟨nd, rfl⟩⟩; refine ⟨_, rfl, ?_⟩)); go_ret; exact ⟨re_, hs_⟩
  ·rw [if_neg c4] at H
   have c4b0 : (a0_0 == 0) = false := beq_eq_false_iff_ne.mpr c4; have c4b1 : (a0_0 != 0) = true := bne_iff_ne.mpr c4
   by_cases c15 : a0_0 = 1
   ·rw [if_pos c15] at H
    have c15b0 : (a0_0 == 1) = true := beq_iff_eq.mpr c15; have c15b1 : (a0_0 != 1) = false := bne_eq_false_iff_eq.mpr c15; clear c15
    by_cases c16 : (a0_1.size : Int) = 4
    ·rw [if_pos c16] at H
     have c16b0 : ((a0_1.size : Int) == 4) = true := beq_iff_eq.mpr c16; have c16b1 : ((a0_1.size : Int) != 4) = false := bne_eq_false_iff_eq.mpr c16; clear c16; obtain ⟨t248, A17, H⟩ := bi_ H
     by_cases c18 : t248 = true
     ·subst c18
      replace H := iP_ H; obtain rfl := Option.some.inj H; go_enter Tryz.func89, Tryz.ntmps89; go_wp2_with (first | (refine gx_ w 1 (n4_ a0_0 a0_1 a0_2 a0_3) 24 ?_; clear HB; intro gb244 w19 BK244 GE244 HB; have GW244 := GE244; have Z20 := bz4_ BK244) | (refine gC 94 ?_; refine gL 5 Tryz.func94 #[.string a0_1] ?_; (with_reducible refine (lustrumref06_Sane.calls k a0_1 true _ A2.out).mono ?_); rintro e w' ⟨rfl, ⟨nd, rfl⟩⟩; refine ⟨_, rfl, ?_⟩) | (go_at_call 95; (with_reducible refine (lustrumref08_some.calls k a0_2 2 12 true _ A17.out).mono ?_); rintro e w' ⟨rfl, ⟨nd, rfl⟩⟩)); go_ret; exact ⟨re_, hs_⟩
     ·replace c18 := Bool.eq_false_iff.mpr c18
      subst c18; replace H := iN_ H; obtain rfl := Option.some.inj H; go_enter Tryz.func89, Tryz.ntmps89; go_wp2_with (first | (refine gx_ w 1 (n4_ a0_0 a0_1 a0_2 a0_3) 24 ?_; clear HB; intro gb244 w21 BK244 GE244 HB; have GW244 := GE244; have Z22 := bz4_ BK244) | (refine gC 94 ?_; refine gL 5 Tryz.func94 #[.string a0_1] ?_; (with_reducible refine (lustrumref06_Sane.calls k a0_1 true _ A2.out).mono ?_); rintro e w' ⟨rfl, ⟨nd, rfl⟩⟩; refine ⟨_, rfl, ?_⟩) | (go_at_call 95; (with_reducible refine (lustrumref08_some.calls k a0_2 2 12 false _ A17.out).mono ?_); rintro e w' ⟨rfl, ⟨nd, rfl⟩⟩)); go_ret; exact ⟨re_, hs_⟩
    ·rw [if_neg c16] at H
     have c16b0 : ((a0_1.size : Int) == 4) = false := beq_eq_false_iff_ne.mpr c16; have c16b1 : ((a0_1.size : Int) != 4) = true := bne_iff_ne.mpr c16; obtain rfl := Option.some.inj H; go_enter Tryz.func89, Tryz.ntmps89; go_wp2_with (first | (refine gx_ w 1 (n4_ a0_0 a0_1 a0_2 a0_3) 24 ?_; clear HB; intro gb244 w23 BK244 GE244 HB; have GW244 := GE244; have Z24 := bz4_ BK244) | (refine gC 94 ?_; refine gL 5 Tryz.func94 #[.string a0_1] ?_; (with_reducible refine (lustrumref06_Sane.calls k a0_1 true _ A2.out).mono ?_); rintro e w' ⟨rfl, ⟨nd, rfl⟩⟩; refine ⟨_, rfl, ?_⟩)); go_ret; exact ⟨re_, hs_⟩
   ·rw [if_neg c15] at H
    have c15b0 : (a0_0 == 1) = false := beq_eq_false_iff_ne.mpr c15; have c15b1 : (a0_0 != 1) = true := bne_iff_ne.mpr c15
    by_cases c25 : a0_0 = 2
    ·rw [if_pos c25] at H
     have c25b0 : (a0_0 == 2) = true := beq_iff_eq.mpr c25; have c25b1 : (a0_0 != 2) = false := bne_eq_false_iff_eq.mpr c25; clear c25
     by_cases c26 : (a0_1.size : Int) = 4
     ·rw [if_pos c26] at H
      have c26b0 : ((a0_1.size : Int) == 4) = true := beq_iff_eq.mpr c26; have c26b1 : ((a0_1.size : Int) != 4) = false := bne_eq_false_iff_eq.mpr c26; clear c26; obtain ⟨t249, A27, H⟩ := bi_ H
      by_cases c28 : t249 = true
      ·subst c28
       replace H := iP_ H; obtain rfl := Option.some.inj H; go_enter Tryz.func89, Tryz.ntmps89; go_wp2_with (first | (refine gx_ w 1 (n4_ a0_0 a0_1 a0_2 a0_3) 24 ?_; clear HB; intro gb244 w29 BK244 GE244 HB; have GW244 := GE244; have Z30 := bz4_ BK244) | (refine gC 94 ?_; refine gL 5 Tryz.func94 #[.string a0_1] ?_; (with_reducible refine (lustrumref06_Sane.calls k a0_1 true _ A2.out).mono ?_); rintro e w' ⟨rfl, ⟨nd, rfl⟩⟩; refine ⟨_, rfl, ?_⟩) | (go_at_call 95; (with_reducible refine (lustrumref08_some.calls k a0_2 1 4 true _ A27.out).mono ?_); rintro e w' ⟨rfl, ⟨nd, rfl⟩⟩)); go_ret; exact ⟨re_, hs_⟩
      ·replace c28 := Bool.eq_false_iff.mpr c28
       subst c28; replace H := iN_ H; obtain rfl := Option.some.inj H; go_enter Tryz.func89, Tryz.ntmps89; go_wp2_with (first | (refine gx_ w 1 (n4_ a0_0 a0_1 a0_2 a0_3) 24 ?_; clear HB; intro gb244 w31 BK244 GE244 HB; have GW244 := GE244; have Z32 := bz4_ BK244) | (refine gC 94 ?_; refine gL 5 Tryz.func94 #[.string a0_1] ?_; (with_reducible refine (lustrumref06_Sane.calls k a0_1 true _ A2.out).mono ?_); rintro e w' ⟨rfl, ⟨nd, rfl⟩⟩; refine ⟨_, rfl, ?_⟩) | (go_at_call 95; (with_reducible refine (lustrumref08_some.calls k a0_2 1 4 false _ A27.out).mono ?_); rintro e w' ⟨rfl, ⟨nd, rfl⟩⟩)); go_ret; exact ⟨re_, hs_⟩
     ·rw [if_neg c26] at H
      have c26b0 : ((a0_1.size : Int) == 4) = false := beq_eq_false_iff_ne.mpr c26; have c26b1 : ((a0_1.size : Int) != 4) = true := bne_iff_ne.mpr c26; obtain rfl := Option.some.inj H; go_enter Tryz.func89, Tryz.ntmps89; go_wp2_with (first | (refine gx_ w 1 (n4_ a0_0 a0_1 a0_2 a0_3) 24 ?_; clear HB; intro gb244 w33 BK244 GE244 HB; have GW244 := GE244; have Z34 := bz4_ BK244) | (refine gC 94 ?_; refine gL 5 Tryz.func94 #[.string a0_1] ?_; (with_reducible refine (lustrumref06_Sane.calls k a0_1 true _ A2.out).mono ?_); rintro e w' ⟨rfl, ⟨nd, rfl⟩⟩; refine ⟨_, rfl, ?_⟩)); go_ret; exact ⟨re_, hs_⟩
    ·rw [if_neg c25] at H
     have c25b0 : (a0_0 == 2) = false := beq_eq_false_iff_ne.mpr c25; have c25b1 : (a0_0 != 2) = true := bne_iff_ne.mpr c25
     by_cases c35 : a0_0 = 3
     ·rw [if_pos c35] at H
      have c35b0 : (a0_0 == 3) = true := beq_iff_eq.mpr c35; have c35b1 : (a0_0 != 3) = false := bne_eq_false_iff_eq.mpr c35; clear c35
      by_cases c36 : (a0_1.size : Int) = 4
      ·rw [if_pos c36] at H
       have c36b0 : ((a0_1.size : Int) == 4) = true := beq_iff_eq.mpr c36; have c36b1 : ((a0_1.size : Int) != 4) = false := bne_eq_false_iff_eq.mpr c36; clear c36
       by_cases c37 : a0_2.toList = ([] : List UInt8)
       ·rw [if_pos c37] at H
        have c37b0 : (a0_2.toList == ([] : List UInt8)) = true := beq_iff_eq.mpr c37; (try (have c37b9 : (a0_2.toList.isEmpty) = true := by simpa using c37b0)); have c37b1 : (a0_2.toList != ([] : List UInt8)) = false := bne_eq_false_iff_eq.mpr c37; clear c37; obtain rfl := Option.some.inj H; go_enter Tryz.func89, Tryz.ntmps89; go_wp2_with (first | (refine gx_ w 1 (n4_ a0_0 a0_1 a0_2 a0_3) 24 ?_; clear HB; intro gb244 w38 BK244 GE244 HB; have GW244 := GE244; have Z39 := bz4_ BK244) | (refine gC 94 ?_; refine gL 5 Tryz.func94 #[.string a0_1] ?_; (with_reducible refine (lustrumref06_Sane.calls k a0_1 true _ A2.out).mono ?_); rintro e w' ⟨rfl, ⟨nd, rfl⟩⟩; refine ⟨_, rfl, ?_⟩)); go_ret; exact ⟨re_, hs_⟩
       ·rw [if_neg c37] at H
        have c37b0 : (a0_2.toList == ([] : List UInt8)) = false := beq_eq_false_iff_ne.mpr c37; (try (have c37b9 : (a0_2.toList.isEmpty) = false := by simpa using c37b0)); have c37b1 : (a0_2.toList != ([] : List UInt8)) = true := bne_iff_ne.mpr c37; obtain rfl := Option.some.inj H; go_enter Tryz.func89, Tryz.ntmps89; go_wp2_with (first | (refine gx_ w 1 (n4_ a0_0 a0_1 a0_2 a0_3) 24 ?_; clear HB; intro gb244 w40 BK244 GE244 HB; have GW244 := GE244; have Z41 := bz4_ BK244) | (refine gC 94 ?_; refine gL 5 Tryz.func94 #[.string a0_1] ?_; (with_reducible refine (lustrumref06_Sane.calls k a0_1 true _ A2.out).mono ?_); rintro e w' ⟨rfl, ⟨nd, rfl⟩⟩; refine ⟨_, rfl, ?_⟩)); go_ret; exact ⟨re_, hs_⟩
      ·rw [if_neg c36] at H
       have c36b0 : ((a0_1.size : Int) == 4) = false := beq_eq_false_iff_ne.mpr c36; have c36b1 : ((a0_1.size : Int) != 4) = true := bne_iff_ne.mpr c36; obtain rfl := Option.some.inj H; go_enter Tryz.func89, Tryz.ntmps89; go_wp2_with (first | (refine gx_ w 1 (n4_ a0_0 a0_1 a0_2 a0_3) 24 ?_; clear HB; intro gb244 w42 BK244 GE244 HB; have GW244 := GE244; have Z43 := bz4_ BK244) | (refine gC 94 ?_; refine gL 5 Tryz.func94 #[.string a0_1] ?_; (with_reducible refine (lustrumref06_Sane.calls k a0_1 true _ A2.out).mono ?_); rintro e w' ⟨rfl, ⟨nd, rfl⟩⟩; refine ⟨_, rfl, ?_⟩)); go_ret; exact ⟨re_, hs_⟩
     ·rw [if_neg c35] at H
      have c35b0 : (a0_0 == 3) = false := beq_eq_false_iff_ne.mpr c35; have c35b1 : (a0_0 != 3) = true := bne_iff_ne.mpr c35
      by_cases c44 : a0_0 = 4
      ·rw [if_pos c44] at H
       have c44b0 : (a0_0 == 4) = true := beq_iff_eq.mpr c44; have c44b1 : (a0_0 != 4) = false := bne_eq_false_iff_eq.mpr c44; clear c44
       by_cases c45 : (a0_1.size : Int) = 3
       ·rw [if_pos c45] at H
        have c45b0 : ((a0_1.size : Int) == 3) = true := beq_iff_eq.mpr c45; have c45b1 : ((a0_1.size : Int) != 3) = false := bne_eq_false_iff_eq.mpr c45; clear c45
        by_cases c46 : a0_2.toList = ([] : List UInt8)
        ·rw [if_pos c46] at H
         have c46b0 : (a0_2.toList == ([] : List UInt8)) = true := beq_iff_eq.mpr c46; (try (have c46b9 : (a0_2.toList.isEmpty) = true := by simpa using c46b0)); have c46b1 : (a0_2.toList != ([] : List UInt8)) = false := bne_eq_false_iff_eq.mpr c46; clear c46; obtain rfl := Option.some.inj H; go_enter Tryz.func89, Tryz.ntmps89; go_wp2_with (first | (refine gx_ w 1 (n4_ a0_0 a0_1 a0_2 a0_3) 24 ?_; clear HB; intro gb244 w47 BK244 GE244 HB; have GW244 := GE244; have Z48 := bz4_ BK244) | (refine gC 94 ?_; refine gL 5 Tryz.func94 #[.string a0_1] ?_; (with_reducible refine (lustrumref06_Sane.calls k a0_1 true _ A2.out).mono ?_); rintro e w' ⟨rfl, ⟨nd, rfl⟩⟩; refine ⟨_, rfl, ?_⟩)); go_ret; exact ⟨re_, hs_⟩
        ·rw [if_neg c46] at H
         have c46b0 : (a0_2.toList == ([] : List UInt8)) = false := beq_eq_false_iff_ne.mpr c46; (try (have c46b9 : (a0_2.toList.isEmpty) = false := by simpa using c46b0)); have c46b1 : (a0_2.toList != ([] : List UInt8)) = true := bne_iff_ne.mpr c46; obtain rfl := Option.some.inj H; go_enter Tryz.func89, Tryz.ntmps89; go_wp2_with (first | (refine gx_ w 1 (n4_ a0_0 a0_1 a0_2 a0_3) 24 ?_; clear HB; intro gb244 w49 BK244 GE244 HB; have GW244 := GE244; have Z50 := bz4_ BK244) | (refine gC 94 ?_; refine gL 5 Tryz.func94 #[.string a0_1] ?_; (with_reducible refine (lustrumref06_Sane.calls k a0_1 true _ A2.out).mono ?_); rintro e w' ⟨rfl, ⟨nd, rfl⟩⟩; refine ⟨_, rfl, ?_⟩)); go_ret; exact ⟨re_, hs_⟩
       ·rw [if_neg c45] at H
        have c45b0 : ((a0_1.size : Int) == 3) = false := beq_eq_false_iff_ne.mpr c45; have c45b1 : ((a0_1.size : Int) != 3) = true := bne_iff_ne.mpr c45; obtain rfl := Option.some.inj H; go_enter Tryz.func89, Tryz.ntmps89; go_wp2_with (first | (refine gx_ w 1 (n4_ a0_0 a0_1 a0_2 a0_3) 24 ?_; clear HB; intro gb244 w51 BK244 GE244 HB; have GW244 := GE244; have Z52 := bz4_ BK244) | (refine gC 94 ?_; refine gL 5 Tryz.func94 #[.string a0_1] ?_; (with_reducible refine (lustrumref06_Sane.calls k a0_1 true _ A2.out).mono ?_); rintro e w' ⟨rfl, ⟨nd, rfl⟩⟩; refine ⟨_, rfl, ?_⟩)); go_ret; exact ⟨re_, hs_⟩
      ·rw [if_neg c44] at H
       have c44b0 : (a0_0 == 4) = false := beq_eq_false_iff_ne.mpr c44; have c44b1 : (a0_0 != 4) = true := bne_iff_ne.mpr c44
       by_cases c53 : a0_0 = 5
       ·rw [if_pos c53] at H
        have c53b0 : (a0_0 == 5) = true := beq_iff_eq.mpr c53; have c53b1 : (a0_0 != 5) = false := bne_eq_false_iff_eq.mpr c53; clear c53
        by_cases c54 : (a0_1.size : Int) = 2
        ·rw [if_pos c54] at H
         have c54b0 : ((a0_1.size : Int) == 2) = true := beq_iff_eq.mpr c54; have c54b1 : ((a0_1.size : Int) != 2) = false := bne_eq_false_iff_eq.mpr c54; clear c54
         by_cases c55 : a0_2.toList = ([] : List UInt8)
         ·rw [if_pos c55] at H
          have c55b0 : (a0_2.toList == ([] : List UInt8)) = true := beq_iff_eq.mpr c55; (try (have c55b9 : (a0_2.toList.isEmpty) = true := by simpa using c55b0)); have c55b1 : (a0_2.toList != ([] : List UInt8)) = false := bne_eq_false_iff_eq.mpr c55; clear c55; obtain rfl := Option.some.inj H; go_enter Tryz.func89, Tryz.ntmps89; go_wp2_with (first | (refine gx_ w 1 (n4_ a0_0 a0_1 a0_2 a0_3) 24 ?_; clear HB; intro gb244 w56 BK244 GE244 HB; have GW244 := GE244; have Z57 := bz4_ BK244) | (refine gC 94 ?_; refine gL 5 Tryz.func94 #[.string a0_1] ?_; (with_reducible refine (lustrumref06_Sane.calls k a0_1 true _ A2.out).mono ?_); rintro e w' ⟨rfl, ⟨nd, rfl⟩⟩; refine ⟨_, rfl, ?_⟩)); go_ret; exact ⟨re_, hs_⟩
         ·rw [if_neg c55] at H
          have c55b0 : (a0_2.toList == ([] : List UInt8)) = false := beq_eq_false_iff_ne.mpr c55; (try (have c55b9 : (a0_2.toList.isEmpty) = false := by simpa using c55b0)); have c55b1 : (a0_2.toList != ([] : List UInt8)) = true := bne_iff_ne.mpr c55; obtain rfl := Option.some.inj H; go_enter Tryz.func89, Tryz.ntmps89; go_wp2_with (first | (refine gx_ w 1 (n4_ a0_0 a0_1 a0_2 a0_3) 24 ?_; clear HB; intro gb244 w58 BK244 GE244 HB; have GW244 := GE244; have Z59 := bz4_ BK244) | (refine gC 94 ?_; refine gL 5 Tryz.func94 #[.string a0_1] ?_; (with_reducible refine (lustrumref06_Sane.calls k a0_1 true _ A2.out).mono ?_); rintro e w' ⟨rfl, ⟨nd, rfl⟩⟩; refine ⟨_, rfl, ?_⟩)); go_ret; exact ⟨re_, hs_⟩
        ·rw [if_neg c54] at H
         have c54b0 : ((a0_1.size : Int) == 2) = false := beq_eq_false_iff_ne.mpr c54; have c54b1 : ((a0_1.size : Int) != 2) = true := bne_iff_ne.mpr c54; obtain rfl := Option.some.inj H; go_enter Tryz.func89, Tryz.ntmps89; go_wp2_with (first | (refine gx_ w 1 (n4_ a0_0 a0_1 a0_2 a0_3) 24 ?_; clear HB; intro gb244 w60 BK244 GE244 HB; have GW244 := GE244; have Z61 := bz4_ BK244) | (refine gC 94 ?_; refine gL 5 Tryz.func94 #[.string a0_1] ?_; (with_reducible refine (lustrumref06_Sane.calls k a0_1 true _ A2.out).mono ?_); rintro e w' ⟨rfl, ⟨nd, rfl⟩⟩; refine ⟨_, rfl, ?_⟩)); go_ret; exact ⟨re_, hs_⟩
       ·rw [if_neg c53] at H
        have c53b0 : (a0_0 == 5) = false := beq_eq_false_iff_ne.mpr c53; have c53b1 : (a0_0 != 5) = true := bne_iff_ne.mpr c53; obtain rfl := Option.some.inj H; go_enter Tryz.func89, Tryz.ntmps89; go_wp2_with (first | (refine gx_ w 1 (n4_ a0_0 a0_1 a0_2 a0_3) 24 ?_; clear HB; intro gb244 w62 BK244 GE244 HB; have GW244 := GE244; have Z63 := bz4_ BK244) | (refine gC 94 ?_; refine gL 5 Tryz.func94 #[.string a0_1] ?_; (with_reducible refine (lustrumref06_Sane.calls k a0_1 true _ A2.out).mono ?_); rintro e w' ⟨rfl, ⟨nd, rfl⟩⟩; refine ⟨_, rfl, ?_⟩)); go_ret; exact ⟨re_, hs_⟩
 ·replace c3 := Bool.eq_false_iff.mpr c3
  subst c3; replace H := iN_ H; obtain rfl := Option.some.inj H; go_enter Tryz.func89, Tryz.ntmps89; go_wp2_with (first | (refine gx_ w 1 (n4_ a0_0 a0_1 a0_2 a0_3) 24 ?_; clear HB; intro gb244 w64 BK244 GE244 HB; have GW244 := GE244; have Z65 := bz4_ BK244) | (refine gC 94 ?_; refine gL 5 Tryz.func94 #[.string a0_1] ?_; (with_reducible refine (lustrumref06_Sane.calls k a0_1 false _ A2.out).mono ?_); rintro e w' ⟨rfl, ⟨nd, rfl⟩⟩; refine ⟨_, rfl, ?_⟩)); go_ret; exact ⟨re_, hs_⟩
set_option maxHeartbeats 8000000 in
set_option maxRecDepth 100000 in
theorem lustrumref08_Text.calls (k : Nat) (a0_0 : Int) (a0_1 a0_2 a0_3 r : ByteArray) (w : World) (h : lustrumref08_Text.f k a0_0 a0_1 a0_2 a0_3 = some r) :
  Calls Tryz.prog 84 #[.agg #[.int .i64 a0_0, .string a0_1, .string a0_2, .string a0_3]] w fun e w' => e = .returned (.string r) ∧ Below w.heap.size w w' := by
 have hu24 := Tryz.underlying24; have HB := A_ (Below.refl w.heap.size w); have H : ((lustrumref08_Sane.f k a0_0 a0_1 a0_2 a0_3).bind fun t300 => (if t300 = true then (if a0_0 = 0 then (if a0_1.size + 1 ≤ 9223372036854775807 then (if (a0_1 ++ (⟨#[45]⟩ : ByteArray)).size + a0_2.size ≤ 9223372036854775807 then (if ((a0_1 ++ (⟨#[45]⟩ : ByteArray)) ++ a0_2).size + 1 ≤ 9223372036854775807 then (if (((a0_1 ++ (⟨#[45]⟩ : ByteArray)) ++ a0_2) ++ (⟨#[45]⟩ : ByteArray)).size + a0_3.size ≤ 9223372036854775807 then (some ((((a0_1 ++ (⟨#[45]⟩ : ByteArray)) ++ a0_2) ++ (⟨#[45]⟩ : ByteArray)) ++ a0_3)) else (none)) else (none)) else (none)) else (none)) else (if a0_0 = 1 then (if a0_1.size + 1 ≤ 9223372036854775807 then (if (a0_1 ++ (⟨#[45]⟩ : ByteArray)).size + a0_2.size ≤ 9223372036854775807 then (some ((a0_1 ++ (⟨#[45]⟩ : ByteArray)) ++ a0_2)) else (none)) else (none)) else (if a0_0 = 2 then (if a0_1.size + 1 ≤ 9223372036854775807 then (if (a0_1 ++ (⟨#[115]⟩ : ByteArray)).size + a0_2.size ≤ 9223372036854775807 then (some ((a0_1 ++ (⟨#[115]⟩ : ByteArray)) ++ a0_2)) else (none)) else (none)) else (if a0_0 = 4 then (if a0_1.size + 1 ≤ 9223372036854775807 then (some (a0_1 ++ (⟨#[100]⟩ : ByteArray))) else (none)) else (if a0_0 = 5 then (if a0_1.size + 1 ≤ 9223372036854775807 then (some (a0_1 ++ (⟨#[99]⟩ : ByteArray))) else (none)) else (some a0_1)))))) else (some (⟨#[]⟩ : ByteArray)))) = some r := h; clear h; obtain ⟨t300, A2, H⟩ := bi_ H
 by_cases c3 : t300 = true
 ·subst c3
  replace H := iP_ H
  by_cases c4 : a0_0 = 0
  ·rw [if_pos c4] at H
   have c4b0 : (a0_0 == 0) = true := beq_iff_eq.mpr c4; have c4b1 : (a0_0 != 0) = false := bne_eq_false_iff_eq.mpr c4; clear c4
   by_cases c5 : a0_1.size + 1 ≤ 9223372036854775807
   ·rw [if_pos c5] at H
    have c5b0 := eq_true c5; have c5b1 := decide_eq_true c5; (try have c5b2 : (9223372036854775807 < a0_1.size + 1) = False := eq_false (Nat.not_lt.2 c5))
    by_cases c6 : (a0_1 ++ (⟨#[45]⟩ : ByteArray)).size + a0_2.size ≤ 9223372036854775807
    ·rw [if_pos c6] at H
     have c6b0 := eq_true c6; have c6b1 := decide_eq_true c6; (try have c6b2 : (9223372036854775807 < (a0_1 ++ (⟨#[45]⟩ : ByteArray)).size + a0_2.size) = False := eq_false (Nat.not_lt.2 c6)); (try have c6b3 : (9223372036854775807 < a0_1.size + 1 + a0_2.size) = False := eq_false (Nat.not_lt.2 (by have h_ := c6; simp only [ByteArray.size_append] at h_; exact h_)))
     by_cases c7 : ((a0_1 ++ (⟨#[45]⟩ : ByteArray)) ++ a0_2).size + 1 ≤ 9223372036854775807
     ·rw [if_pos c7] at H
      have c7b0 := eq_true c7; have c7b1 := decide_eq_true c7; (try have c7b2 : (9223372036854775807 < ((a0_1 ++ (⟨#[45]⟩ : ByteArray)) ++ a0_2).size + 1) = False := eq_false (Nat.not_lt.2 c7)); (try have c7b3 : (9223372036854775807 < a0_1.size + 1 + a0_2.size + 1) = False := eq_false (Nat.not_lt.2 (by have h_ := c7; simp only [ByteArray.size_append] at h_; exact h_)))
      by_cases c8 : (((a0_1 ++ (⟨#[45]⟩ : ByteArray)) ++ a0_2) ++ (⟨#[45]⟩ : ByteArray)).size + a0_3.size ≤ 9223372036854775807
      ·rw [if_pos c8] at H
       have c8b0 := eq_true c8; have c8b1 : decide ((((a0_1 ++ (⟨#[45]⟩ : ByteArray)) ++ a0_2) ++ (⟨#[45]⟩ : ByteArray)).size + a0_3.size ≤ 9223372036854775807) = true := decide_eq_true c8; (try have c8b2 : (9223372036854775807 < (((a0_1 ++ (⟨#[45]⟩ : ByteArray)) ++ a0_2) ++ (⟨#[45]⟩ : ByteArray)).size + a0_3.size) = False := eq_false (Nat.not_lt.2 c8)); (try have c8b3 : (9223372036854775807 < a0_1.size + 1 + a0_2.size + 1 + a0_3.size) = False := eq_false (Nat.not_lt.2 (by have h_ := c8; simp only [ByteArray.size_append] at h_; exact h_))); obtain rfl := Option.some.inj H; go_enter Tryz.func84, Tryz.ntmps84; go_wp2_with (first | (refine gx_ w 1 (n4_ a0_0 a0_1 a0_2 a0_3) 24 ?_; clear HB; intro gb299 w9 BK299 GE299 HB; have GW299 := GE299; have Z10 := bz4_ BK299) | (refine gC 89 ?_; refine gL 4 Tryz.func89 #[.agg (n4_ a0_0 a0_1 a0_2 a0_3)] ?_; (with_reducible refine (lustrumref08_Sane.calls k a0_0 a0_1 a0_2 a0_3 true _ A2.out).mono ?_); rintro e w11 ⟨rfl, hb⟩; refine ⟨_, rfl, ?_⟩; replace BK299 := bb_ BK299 hb; replace HB := bs_ hb; (try clear hb); have Z12 := bz4_ BK299)); go_ret; exact ⟨re_, hs_⟩
      ·rw [if_neg c8] at H
       exact absurd H (by simp)
     ·rw [if_neg c7] at H
      exact absurd H (by simp)
    ·rw [if_neg c6] at H
     exact absurd H (by simp)
   ·rw [if_neg c5] at H
    exact absurd H (by simp)
  ·rw [if_neg c4] at H
   have c4b0 : (a0_0 == 0) = false := beq_eq_false_iff_ne.mpr c4; have c4b1 : (a0_0 != 0) = true := bne_iff_ne.mpr c4
   by_cases c13 : a0_0 = 1
   ·rw [if_pos c13] at H
    have c13b0 : (a0_0 == 1) = true := beq_iff_eq.mpr c13; have c13b1 : (a0_0 != 1) = false := bne_eq_false_iff_eq.mpr c13; clear c13
    by_cases c14 : a0_1.size + 1 ≤ 9223372036854775807
    ·rw [if_pos c14] at H
     have c14b0 := eq_true c14; have c14b1 := decide_eq_true c14; (try have c14b2 : (9223372036854775807 < a0_1.size + 1) = False := eq_false (Nat.not_lt.2 c14))
     by_cases c15 : (a0_1 ++ (⟨#[45]⟩ : ByteArray)).size + a0_2.size ≤ 9223372036854775807
     ·rw [if_pos c15] at H
      have c15b0 := eq_true c15; have c15b1 := decide_eq_true c15; (try have c15b2 : (9223372036854775807 < (a0_1 ++ (⟨#[45]⟩ : ByteArray)).size + a0_2.size) = False := eq_false (Nat.not_lt.2 c15)); (try have c15b3 : (9223372036854775807 < a0_1.size + 1 + a0_2.size) = False := eq_false (Nat.not_lt.2 (by have h_ := c15; simp only [ByteArray.size_append] at h_; exact h_))); obtain rfl := Option.some.inj H; go_enter Tryz.func84, Tryz.ntmps84; go_wp2_with (first | (refine gx_ w 1 (n4_ a0_0 a0_1 a0_2 a0_3) 24 ?_; clear HB; intro gb299 w16 BK299 GE299 HB; have GW299 := GE299; have Z17 := bz4_ BK299) | (refine gC 89 ?_; refine gL 4 Tryz.func89 #[.agg (n4_ a0_0 a0_1 a0_2 a0_3)] ?_; (with_reducible refine (lustrumref08_Sane.calls k a0_0 a0_1 a0_2 a0_3 true _ A2.out).mono ?_); rintro e w18 ⟨rfl, hb⟩; refine ⟨_, rfl, ?_⟩; replace BK299 := bb_ BK299 hb; replace HB := bs_ hb; (try clear hb); have Z19 := bz4_ BK299)); go_ret; exact ⟨re_, hs_⟩
     ·rw [if_neg c15] at H
      exact absurd H (by simp)
    ·rw [if_neg c14] at H
     exact absurd H (by simp)
   ·rw [if_neg c13] at H
    have c13b0 : (a0_0 == 1) = false := beq_eq_false_iff_ne.mpr c13; have c13b1 : (a0_0 != 1) = true := bne_iff_ne.mpr c13
    by_cases c20 : a0_0 = 2
    ·rw [if_pos c20] at H
     have c20b0 : (a0_0 == 2) = true := beq_iff_eq.mpr c20; have c20b1 : (a0_0 != 2) = false := bne_eq_false_iff_eq.mpr c20; clear c20
     by_cases c21 : a0_1.size + 1 ≤ 9223372036854775807
     ·rw [if_pos c21] at H
      have c21b0 := eq_true c21; have c21b1 := decide_eq_true c21; (try have c21b2 : (9223372036854775807 < a0_1.size + 1) = False := eq_false (Nat.not_lt.2 c21))
      by_cases c22 : (a0_1 ++ (⟨#[115]⟩ : ByteArray)).size + a0_2.size ≤ 9223372036854775807
      ·rw [if_pos c22] at H
       have c22b0 := eq_true c22; have c22b1 := decide_eq_true c22; (try have c22b2 : (9223372036854775807 < (a0_1 ++ (⟨#[115]⟩ : ByteArray)).size + a0_2.size) = False := eq_false (Nat.not_lt.2 c22)); (try have c22b3 : (9223372036854775807 < a0_1.size + 1 + a0_2.size) = False := eq_false (Nat.not_lt.2 (by have h_ := c22; simp only [ByteArray.size_append] at h_; exact h_))); obtain rfl := Option.some.inj H; go_enter Tryz.func84, Tryz.ntmps84; go_wp2_with (first | (refine gx_ w 1 (n4_ a0_0 a0_1 a0_2 a0_3) 24 ?_; clear HB; intro gb299 w23 BK299 GE299 HB; have GW299 := GE299; have Z24 := bz4_ BK299) | (refine gC 89 ?_; refine gL 4 Tryz.func89 #[.agg (n4_ a0_0 a0_1 a0_2 a0_3)] ?_; (with_reducible refine (lustrumref08_Sane.calls k a0_0 a0_1 a0_2 a0_3 true _ A2.out).mono ?_); rintro e w25 ⟨rfl, hb⟩; refine ⟨_, rfl, ?_⟩; replace BK299 := bb_ BK299 hb; replace HB := bs_ hb; (try clear hb); have Z26 := bz4_ BK299)); go_ret; exact ⟨re_, hs_⟩
      ·rw [if_neg c22] at H
       exact absurd H (by simp)
     ·rw [if_neg c21] at H
      exact absurd H (by simp)
    ·rw [if_neg c20] at H
     have c20b0 : (a0_0 == 2) = false := beq_eq_false_iff_ne.mpr c20; have c20b1 : (a0_0 != 2) = true := bne_iff_ne.mpr c20
     by_cases c27 : a0_0 = 4
     ·rw [if_pos c27] at H
      have c27b0 : (a0_0 == 4) = true := beq_iff_eq.mpr c27; have c27b1 : (a0_0 != 4) = false := bne_eq_false_iff_eq.mpr c27; clear c27
      by_cases c28 : a0_1.size + 1 ≤ 9223372036854775807
      ·rw [if_pos c28] at H
       have c28b0 := eq_true c28; have c28b1 := decide_eq_true c28; (try have c28b2 : (9223372036854775807 < a0_1.size + 1) = False := eq_false (Nat.not_lt.2 c28)); obtain rfl := Option.some.inj H; go_enter Tryz.func84, Tryz.ntmps84; go_wp2_with (first | (refine gx_ w 1 (n4_ a0_0 a0_1 a0_2 a0_3) 24 ?_; clear HB; intro gb299 w29 BK299 GE299 HB; have GW299 := GE299; have Z30 := bz4_ BK299) | (refine gC 89 ?_; refine gL 4 Tryz.func89 #[.agg (n4_ a0_0 a0_1 a0_2 a0_3)] ?_; (with_reducible refine (lustrumref08_Sane.calls k a0_0 a0_1 a0_2 a0_3 true _ A2.out).mono ?_); rintro e w31 ⟨rfl, hb⟩; refine ⟨_, rfl, ?_⟩; replace BK299 := bb_ BK299 hb; replace HB := bs_ hb; (try clear hb); have Z32 := bz4_ BK299)); go_ret; exact ⟨re_, hs_⟩
      ·rw [if_neg c28] at H
       exact absurd H (by simp)
     ·rw [if_neg c27] at H
      have c27b0 : (a0_0 == 4) = false := beq_eq_false_iff_ne.mpr c27; have c27b1 : (a0_0 != 4) = true := bne_iff_ne.mpr c27
      by_cases c33 : a0_0 = 5
      ·rw [if_pos c33] at H
       have c33b0 : (a0_0 == 5) = true := beq_iff_eq.mpr c33; have c33b1 : (a0_0 != 5) = false := bne_eq_false_iff_eq.mpr c33; clear c33
       by_cases c34 : a0_1.size + 1 ≤ 9223372036854775807
       ·rw [if_pos c34] at H
        have c34b0 := eq_true c34; have c34b1 := decide_eq_true c34; (try have c34b2 : (9223372036854775807 < a0_1.size + 1) = False := eq_false (Nat.not_lt.2 c34)); obtain rfl := Option.some.inj H; go_enter Tryz.func84, Tryz.ntmps84; go_wp2_with (first | (refine gx_ w 1 (n4_ a0_0 a0_1 a0_2 a0_3) 24 ?_; clear HB; intro gb299 w35 BK299 GE299 HB; have GW299 := GE299; have Z36 := bz4_ BK299) | (refine gC 89 ?_; refine gL 4 Tryz.func89 #[.agg (n4_ a0_0 a0_1 a0_2 a0_3)] ?_; (with_reducible refine (lustrumref08_Sane.calls k a0_0 a0_1 a0_2 a0_3 true _ A2.out).mono ?_); rintro e w37 ⟨rfl, hb⟩; refine ⟨_, rfl, ?_⟩; replace BK299 := bb_ BK299 hb; replace HB := bs_ hb; (try clear hb); have Z38 := bz4_ BK299)); go_ret; exact ⟨re_, hs_⟩
       ·rw [if_neg c34] at H
        exact absurd H (by simp)
      ·rw [if_neg c33] at H
       have c33b0 : (a0_0 == 5) = false := beq_eq_false_iff_ne.mpr c33; have c33b1 : (a0_0 != 5) = true := bne_iff_ne.mpr c33; obtain rfl := Option.some.inj H; go_enter Tryz.func84, Tryz.ntmps84; go_wp2_with (first | (refine gx_ w 1 (n4_ a0_0 a0_1 a0_2 a0_3) 24 ?_; clear HB; intro gb299 w39 BK299 GE299 HB; have GW299 := GE299; have Z40 := bz4_ BK299) | (refine gC 89 ?_; refine gL 4 Tryz.func89 #[.agg (n4_ a0_0 a0_1 a0_2 a0_3)] ?_; (with_reducible refine (lustrumref08_Sane.calls k a0_0 a0_1 a0_2 a0_3 true _ A2.out).mono ?_); rintro e w41 ⟨rfl, hb⟩; refine ⟨_, rfl, ?_⟩; replace BK299 := bb_ BK299 hb; replace HB := bs_ hb; (try clear hb); have Z42 := bz4_ BK299)); go_ret; exact ⟨re_, hs_⟩
 ·replace c3 := Bool.eq_false_iff.mpr c3
  subst c3; replace H := iN_ H; obtain rfl := Option.some.inj H; go_enter Tryz.func84, Tryz.ntmps84; go_wp2_with (first | (refine gx_ w 1 (n4_ a0_0 a0_1 a0_2 a0_3) 24 ?_; clear HB; intro gb299 w43 BK299 GE299 HB; have GW299 := GE299; have Z44 := bz4_ BK299) | (refine gC 89 ?_; refine gL 4 Tryz.func89 #[.agg (n4_ a0_0 a0_1 a0_2 a0_3)] ?_; (with_reducible refine (lustrumref08_Sane.calls k a0_0 a0_1 a0_2 a0_3 false _ A2.out).mono ?_); rintro e w45 ⟨rfl, hb⟩; refine ⟨_, rfl, ?_⟩; replace BK299 := bb_ BK299 hb; replace HB := bs_ hb; (try clear hb))); go_ret; exact ⟨re_, hs_⟩
set_option maxHeartbeats 8000000 in
set_option maxRecDepth 100000 in
theorem lustrumref08_Read.calls (k : Nat) (a0 : ByteArray) (r1 : Int) (r2 r3 r4 : ByteArray) (r5 : Bool) (w : World) (h : lustrumref08_Read.f k a0 = some (r1, r2, r3, r4, r5)) :
  Calls Tryz.prog 73 #[.string a0] w fun e w' => e = .returned (.tuple #[.agg #[.int .i64 r1, .string r2, .string r3, .string r4], .bool r5]) ∧ Below w.heap.size w w' := by
 have hu24 := Tryz.underlying24; have HB := A_ (Below.refl w.heap.size w); have H : ((lustrumref08_part.f a0 0 4).bind fun t116 => ((lustrumref08_part.f a0 5 7).bind fun t117 => ((lustrumref08_part.f a0 8 10).bind fun t118 => ((lustrumref08_part.f a0 0 4).bind fun t119 => ((lustrumref08_part.f a0 5 7).bind fun t120 => ((lustrumref08_part.f a0 0 4).bind fun t121 => ((lustrumref08_part.f a0 5 6).bind fun t122 => ((lustrumref08_part.f a0 0 4).bind fun t123 => ((lustrumref08_part.f a0 0 3).bind fun t124 => ((lustrumref08_part.f a0 0 2).bind fun t125 => (lustrumref08_Read.l0 k a0 (([(⟨0, t116, t117, t118⟩ : S24), (⟨1, t119, t120, (⟨#[]⟩ : ByteArray)⟩ : S24), (⟨2, t121, t122, (⟨#[]⟩ : ByteArray)⟩ : S24), (⟨3, t123, (⟨#[]⟩ : ByteArray), (⟨#[]⟩ : ByteArray)⟩ : S24), (⟨4, t124, (⟨#[]⟩ : ByteArray), (⟨#[]⟩ : ByteArray)⟩ : S24), (⟨5, t125, (⟨#[]⟩ : ByteArray), (⟨#[]⟩ : ByteArray)⟩ : S24)] : List (S24))) 0))))))))))) = some (r1, r2, r3, r4, r5) := h; clear h; obtain ⟨t116, A2, H⟩ := bi_ H; obtain ⟨t117, A3, H⟩ := bi_ H; obtain ⟨t118, A4, H⟩ := bi_ H; obtain ⟨t119, A5, H⟩ := bi_ H; obtain ⟨t120, A6, H⟩ := bi_ H; obtain ⟨t121, A7, H⟩ := bi_ H; obtain ⟨t122, A8, H⟩ := bi_ H; obtain ⟨t123, A9, H⟩ := bi_ H; obtain ⟨t124, A10, H⟩ := bi_ H; obtain ⟨t125, A11, H⟩ := bi_ H; obtain ⟨y126, hy126⟩ : ∃ y_ : List (S24), y_ = (([(⟨0, t116, t117, t118⟩ : S24), (⟨1, t119, t120, (⟨#[]⟩ : ByteArray)⟩ : S24), (⟨2, t121, t122, (⟨#[]⟩ : ByteArray)⟩ : S24), (⟨3, t123, (⟨#[]⟩ : ByteArray), (⟨#[]⟩ : ByteArray)⟩ : S24), (⟨4, t124, (⟨#[]⟩ : ByteArray), (⟨#[]⟩ : ByteArray)⟩ : S24), (⟨5, t125, (⟨#[]⟩ : ByteArray), (⟨#[]⟩ : ByteArray)⟩ : S24)] : List (S24))) := ⟨_, rfl⟩
 (replace H : (lustrumref08_Read.l0 k a0 y126 0) = some (r1, r2, r3, r4, r5) := by first | (rw [hy126]; with_reducible exact H) | (have H2_ := (Option.bind_some _ _).symm.trans H; rw [hy126]; with_reducible exact H2_) | (have H2_ := (Option.bind_some _ _).symm.trans H; with_reducible exact H2_) | with_reducible exact H | (rw [hy126]; exact H) | exact H); have Ny126 := A_ hy126; clear hy126; have H' := A_ H; clear H; go_enter Tryz.func73, Tryz.ntmps73; go_wp2_with (first | ((with_reducible refine gD 2 ?_); refine gx_ w 2 z4_ 24 ?_; clear HB; intro gb115 w12 BK115 GE115 HB; have GW115 := GE115) | ((with_reducible refine gC 83 ?_); refine goesL_ (some 7) rfl rfl Tryz.func83 (by kernel_rfl) rfl #[.string a0, .int .i64 0, .int .i64 4] rfl ml_ ?_; (with_reducible refine (lustrumref08_part.calls a0 0 4 t116 _ A2.out).mono ?_); rintro e w' ⟨rfl, ⟨nd, rfl⟩⟩; refine ⟨_, rfl, ?_⟩) | ((with_reducible refine gC 83 ?_); refine goesL_ (some 9) rfl rfl Tryz.func83 (by kernel_rfl) rfl #[.string a0, .int .i64 5, .int .i64 7] rfl ml_ ?_; (with_reducible refine (lustrumref08_part.calls a0 5 7 t117 _ A3.out).mono ?_); rintro e w' ⟨rfl, ⟨nd, rfl⟩⟩; refine ⟨_, rfl, ?_⟩) | ((with_reducible refine gC 83 ?_); refine goesL_ (some 11) rfl rfl Tryz.func83 (by kernel_rfl) rfl #[.string a0, .int .i64 8, .int .i64 10] rfl ml_ ?_; (with_reducible refine (lustrumref08_part.calls a0 8 10 t118 _ A4.out).mono ?_); rintro e w' ⟨rfl, ⟨nd, rfl⟩⟩; refine ⟨_, rfl, ?_⟩) | ((with_reducible refine gC 83 ?_); refine goesL_ (some 14) rfl rfl Tryz.func83 (by kernel_rfl) rfl #[.string a0, .int .i64 0, .int .i64 4] rfl ml_ ?_; (with_reducible refine (lustrumref08_part.calls a0 0 4 t119 _ A5.out).mono ?_); rintro e w' ⟨rfl, ⟨nd, rfl⟩⟩; refine ⟨_, rfl, ?_⟩) | ((with_reducible refine gC 83 ?_); refine goesL_ (some 16) rfl rfl Tryz.func83 (by kernel_rfl) rfl #[.string a0, .int .i64 5, .int .i64 7] rfl ml_ ?_; (with_reducible refine (lustrumref08_part.calls a0 5 7 t120 _ A6.out).mono ?_); rintro e w' ⟨rfl, ⟨nd, rfl⟩⟩; refine ⟨_, rfl, ?_⟩) | ((with_reducible refine gC 83 ?_); refine goesL_ (some 19) rfl rfl Tryz.func83 (by kernel_rfl) rfl #[.string a0, .int .i64 0, .int .i64 4] rfl ml_ ?_; (with_reducible refine (lustrumref08_part.calls a0 0 4 t121 _ A7.out).mono ?_); rintro e w' ⟨rfl, ⟨nd, rfl⟩⟩; refine ⟨_, rfl, ?_⟩) | ((with_reducible refine gC 83 ?_); refine goesL_ (some 21) rfl rfl Tryz.func83 (by kernel_rfl) rfl #[.string a0, .int .i64 5, .int .i64 6] rfl ml_ ?_; (with_reducible refine (lustrumref08_part.calls a0 5 6 t122 _ A8.out).mono ?_); rintro e w' ⟨rfl, ⟨nd, rfl⟩⟩; refine ⟨_, rfl, ?_⟩) | ((with_reducible refine gC 83 ?_); refine goesL_ (some 24) rfl rfl Tryz.func83 (by kernel_rfl) rfl #[.string a0, .int .i64 0, .int .i64 4] rfl ml_ ?_; (with_reducible refine (lustrumref08_part.calls a0 0 4 t123 _ A9.out).mono ?_); rintro e w' ⟨rfl, ⟨nd, rfl⟩⟩; refine ⟨_, rfl, ?_⟩) | ((with_reducible refine gC 83 ?_); refine goesL_ (some 27) rfl rfl Tryz.func83 (by kernel_rfl) rfl #[.string a0, .int .i64 0, .int .i64 3] rfl ml_ ?_; (with_reducible refine (lustrumref08_part.calls a0 0 3 t124 _ A10.out).mono ?_); rintro e w' ⟨rfl, ⟨nd, rfl⟩⟩; refine ⟨_, rfl, ?_⟩) | ((with_reducible refine gC 83 ?_); refine goesL_ (some 30) rfl rfl Tryz.func83 (by kernel_rfl) rfl #[.string a0, .int .i64 0, .int .i64 2] rfl ml_ ?_; (with_reducible refine (lustrumref08_part.calls a0 0 2 t125 _ A11.out).mono ?_); rintro e w' ⟨rfl, ⟨nd, rfl⟩⟩; refine ⟨_, rfl, ?_⟩) | ((with_reducible refine gD 32 ?_); refine Kd.R_lit k24 _ 24 ?hg (N := 32) ?hd (xs := ([(⟨0, t116, t117, t118⟩ : S24), (⟨1, t119, t120, (⟨#[]⟩ : ByteArray)⟩ : S24), (⟨2, t121, t122, (⟨#[]⟩ : ByteArray)⟩ : S24), (⟨3, t123, (⟨#[]⟩ : ByteArray), (⟨#[]⟩ : ByteArray)⟩ : S24), (⟨4, t124, (⟨#[]⟩ : ByteArray), (⟨#[]⟩ : ByteArray)⟩ : S24), (⟨5, t125, (⟨#[]⟩ : ByteArray), (⟨#[]⟩ : ByteArray)⟩ : S24)] : List (S24))) (inner := [.int .i64 0, .string t116, .string t117, .string t118, .int .i64 1, .string t119, .string t120, .string ⟨#[]⟩, .int .i64 2, .string t121, .string t122, .string ⟨#[]⟩, .int .i64 3, .string t123, .string ⟨#[]⟩, .string ⟨#[]⟩, .int .i64 4, .string t124, .string ⟨#[]⟩, .string ⟨#[]⟩, .int .i64 5, .string t125, .string ⟨#[]⟩, .string ⟨#[]⟩]) (ok := fun _ => True) (okp := fun _ => True) ?hr ?hp (fun _ hk => hk) trivial (Below.refl _ _) (Nat.le_refl _) (by simp) ?_; (case hd => rfl); (case hg => rfl); (case hr => first | (go_simp; done) | (go_simp; rfl)); (case hp => exact (Reps.c4 (show Kd.M k24 _ _ _ (⟨0, t116, t117, t118⟩ : S24) [.int .i64 0, .string t116, .string t117, .string t118] from (k24_mkM _ _ _ (⟨0, t116, t117, t118⟩ : S24) )) (Reps.c4 (show Kd.M k24 _ _ _ (⟨1, t119, t120, (⟨#[]⟩ : ByteArray)⟩ : S24) [.int .i64 1, .string t119, .string t120, .string ⟨#[]⟩] from (k24_mkM _ _ _ (⟨1, t119, t120, (⟨#[]⟩ : ByteArray)⟩ : S24) )) (Reps.c4 (show Kd.M k24 _ _ _ (⟨2, t121, t122, (⟨#[]⟩ : ByteArray)⟩ : S24) [.int .i64 2, .string t121, .string t122, .string ⟨#[]⟩] from (k24_mkM _ _ _ (⟨2, t121, t122, (⟨#[]⟩ : ByteArray)⟩ : S24) )) (Reps.c4 (show Kd.M k24 _ _ _ (⟨3, t123, (⟨#[]⟩ : ByteArray), (⟨#[]⟩ : ByteArray)⟩ : S24) [.int .i64 3, .string t123, .string ⟨#[]⟩, .string ⟨#[]⟩] from (k24_mkM _ _ _ (⟨3, t123, (⟨#[]⟩ : ByteArray), (⟨#[]⟩ : ByteArray)⟩ : S24) )) (Reps.c4 (show Kd.M k24 _ _ _ (⟨4, t124, (⟨#[]⟩ : ByteArray), (⟨#[]⟩ : ByteArray)⟩ : S24) [.int .i64 4, .string t124, .string ⟨#[]⟩, .string ⟨#[]⟩] from (k24_mkM _ _ _ (⟨4, t124, (⟨#[]⟩ : ByteArray), (⟨#[]⟩ : ByteArray)⟩ : S24) )) (Reps.c4 (show Kd.M k24 _ _ _ (⟨5, t125, (⟨#[]⟩ : ByteArray), (⟨#[]⟩ : ByteArray)⟩ : S24) [.int .i64 5, .string t125, .string ⟨#[]⟩, .string ⟨#[]⟩] from (k24_mkM _ _ _ (⟨5, t125, (⟨#[]⟩ : ByteArray), (⟨#[]⟩ : ByteArray)⟩ : S24) )) (Reps.none _ _)))))))); intro v127 w13 ho14 hb hg_ hnew_; clear hg_ hnew_; (first | rw [← Ny126.out] at ho14 | (simp only [Int.reduceToNat] at ho14; rw [← Ny126.out] at ho14)); have HO128 := A_ (Kd.R_lower (Kd.R_newB ho14 (g := gb115) (o := .cells z4_ 24 (0, 0)) (bl_ BK115.out)) (below_size hs_)); replace BK115 := bb_ BK115 hb; replace HB := bs_ hb; clear hb ho14))
 go_loopg [5] k (fun kq v5 w' => ∃ (x5_1 x116000_1 : Int) (x116001_1 x116002_1 : ByteArray) (x116003_1 : ByteArray), v5 = .int .i64 x5_1 ∧ Aside0 (lustrumref08_Read.l0 kq a0 y126 x5_1 = some (r1, r2, r3, r4, r5)) ∧ Aside0 (kq ≤ k) ∧ Aside0 (Kd.R k24 24 w' w.heap.size (fun k_ => k_ ≠ gb115) v127 y126) ∧ Aside0 (w'.heap[gb115]? = some (.cells (n4_ x116000_1 x116001_1 x116002_1 x116003_1) 24 (0, 0))) ∧ Aside0 (Below w.heap.size w w'))
 case atStart => exact ⟨(0), (0), ((⟨#[]⟩ : ByteArray)), ((⟨#[]⟩ : ByteArray)), ((⟨#[]⟩ : ByteArray)), rf_, H', ⟨Nat.le_refl _⟩, ⟨by (with_reducible repeat (first | apply Kd.R_alloc | apply Kd.R_drewN | apply Kd.R_drew)); exact Kd.R_mono HO128.out (fun _ hk => hk.2)⟩, ⟨bl_ BK115.out⟩, ⟨hs_⟩⟩
 case round =>
  clear H'; (try clear p2); (try clear c4); (try clear c7); (try clear c8); obtain ⟨x5_1, x116000_1, x116001_1, x116002_1, x116003_1, rfl, HA, HK1, HO_4, BK115, HB⟩ := hrel
  cases gk with
  | zero => exact absurd HA.out (by simp [lustrumref08_Read.l0])
  | succ k1 =>
   have H := HA.out; clear HA; simp only [lustrumref08_Read.l0] at H
   by_cases c15 : x5_1 < (y126.length : Int)
   ·rw [if_pos c15] at H
    have c15b0 := decide_eq_true c15; clear c15
    by_cases c16 : a0.toList = ([] : List UInt8)
    ·rw [if_pos c16] at H
     have c16b0 : (a0.toList == ([] : List UInt8)) = true := beq_iff_eq.mpr c16; have c16b1 : (a0.toList != ([] : List UInt8)) = false := bne_eq_false_iff_eq.mpr c16; clear c16; have H' := A_ H; clear H; obtain ⟨Ao17, co17, eo17⟩ := Kd.R_slice HO_4.out; subst eo17; go_wp2; go_roundg k1
     case measure => have := HK1.out; omega
     case rel => exact ⟨(wrap64 (x5_1 + 1)), (x116000_1), (x116001_1), (x116002_1), (x116003_1), rf_, H', ⟨by have := HK1.out; omega⟩, ⟨fxR_ HO_4.out⟩, ⟨bl_ BK115.out⟩, ⟨hs_⟩⟩
    ·rw [if_neg c16] at H
     have c16b0 : (a0.toList == ([] : List UInt8)) = false := beq_eq_false_iff_ne.mpr c16; have c16b1 : (a0.toList != ([] : List UInt8)) = true := bne_iff_ne.mpr c16
     by_cases c18 : 0 ≤ x5_1
     ·rw [if_pos c18] at H
      have c18b0 := decide_eq_true c18; clear c18; obtain ⟨t130, A19, H⟩ := bi_ H
      by_cases c20 : t130.toList = a0.toList
      ·rw [if_pos c20] at H
       have c20b0 : (t130.toList == a0.toList) = true := beq_iff_eq.mpr c20; have c20b1 : (t130.toList != a0.toList) = false := bne_eq_false_iff_eq.mpr c20; clear c20; simp only [Option.some.injEq, Prod.mk.injEq] at H; obtain ⟨rfl, rfl, rfl, rfl, rfl⟩ := H; obtain ⟨Ao21, co21, eo21⟩ := Kd.R_slice HO_4.out; subst eo21; have p129 : 0 ≤ (x5_1 : Int) := od_; have q129 : x5_1 < (y126.length : Int) := od_; obtain ⟨ad129, e129, hx129_0, hx129_1, hx129_2, hx129_3⟩ := at_T24 (Kd.R_reads' HO_4.out).2.2 x5_1 p129 q129
       cases e129
       replace p129 := eq_true p129; replace q129 := eq_true q129; go_wp2_with (first | (go_at_call 84; (with_reducible refine (lustrumref08_Text.calls k1 ((rd_T24 y126 x5_1).f0) ((rd_T24 y126 x5_1).f1) ((rd_T24 y126 x5_1).f2) ((rd_T24 y126 x5_1).f3) t130 _ A19.out).mono ?_); rintro e w22 ⟨rfl, hb⟩; replace HO_4 := A_ (Kd.R_below (fxR_ HO_4.out) hb); replace BK115 := bb_ BK115 hb; replace HB := bs_ hb; (try clear hb); have p131 : 0 ≤ (x5_1 : Int) := od_; have q131 : x5_1 < (y126.length : Int) := od_; obtain ⟨ad131, e131, hx131_0, hx131_1, hx131_2, hx131_3⟩ := at_T24 (Kd.R_reads' HO_4.out).2.2 x5_1 p131 q131; obtain rfl : ad129 = ad131 := (by injection e131); replace p131 := eq_true p131; replace q131 := eq_true q131; have Z23 := bz4_ BK115)); refine bodyPost_ret (results_ct rfl _ _ gb115 24 #[.int .i64 ((rd_T24 y126 x5_1).f0), .string ((rd_T24 y126 x5_1).f1), .string ((rd_T24 y126 x5_1).f2), .string ((rd_T24 y126 x5_1).f3)] (0, 0) _ rfl (pb_ BK115.out) Tryz.underlying24 rfl (by kernel_rfl)) rfl ?_; exact ⟨re_, hs_⟩
      ·rw [if_neg c20] at H
       have c20b0 : (t130.toList == a0.toList) = false := beq_eq_false_iff_ne.mpr c20; have c20b1 : (t130.toList != a0.toList) = true := bne_iff_ne.mpr c20; have H' := A_ H; clear H; obtain ⟨Ao24, co24, eo24⟩ := Kd.R_slice HO_4.out; subst eo24; have p129 : 0 ≤ (x5_1 : Int) := od_; have q129 : x5_1 < (y126.length : Int) := od_; obtain ⟨ad129, e129, hx129_0, hx129_1, hx129_2, hx129_3⟩ := at_T24 (Kd.R_reads' HO_4.out).2.2 x5_1 p129 q129
       cases e129
       replace p129 := eq_true p129; replace q129 := eq_true q129; go_wp2_with (first | (go_at_call 84; (with_reducible refine (lustrumref08_Text.calls k1 ((rd_T24 y126 x5_1).f0) ((rd_T24 y126 x5_1).f1) ((rd_T24 y126 x5_1).f2) ((rd_T24 y126 x5_1).f3) t130 _ A19.out).mono ?_); rintro e w25 ⟨rfl, hb⟩; replace HO_4 := A_ (Kd.R_below (fxR_ HO_4.out) hb); replace BK115 := bb_ BK115 hb; replace HB := bs_ hb; (try clear hb))); go_roundg k1
       case measure => have := HK1.out; omega
       case rel => exact ⟨(wrap64 (x5_1 + 1)), (x116000_1), (x116001_1), (x116002_1), (x116003_1), rf_, H', ⟨by have := HK1.out; omega⟩, ⟨fxR_ HO_4.out⟩, ⟨bl_ BK115.out⟩, ⟨hs_⟩⟩
     ·rw [if_neg c18] at H
      exact absurd H (by simp)
   ·rw [if_neg c15] at H
    have c15b0 := decide_eq_false c15; clear c15; simp only [Option.some.injEq, Prod.mk.injEq] at H; obtain ⟨rfl, rfl, rfl, rfl, rfl⟩ := H; obtain ⟨Ao26, co26, eo26⟩ := Kd.R_slice HO_4.out; subst eo26; have Z27 := bz4_ BK115; go_wp2; refine bodyPost_ret (results_ct rfl _ _ gb115 24 #[.int .i64 0, .string ⟨#[]⟩, .string ⟨#[]⟩, .string ⟨#[]⟩] (0, 0) _ rfl (pb_ BK115.out) Tryz.underlying24 rfl (by kernel_rfl)) rfl ?_; exact ⟨re_, hs_⟩
end Go.Proofs.YtjgjhekpiijniaaGreat.A