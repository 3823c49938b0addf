/- Walks of functions, and plain facts about what they compute. No conditions. -/
import Derived.Test.YtkbcmjejfbbcpaaZl0
set_option linter.unusedVariables false
set_option linter.unusedSimpArgs false
namespace Go.Proofs.Ytkbcmjejfbbcpaa.A.U
open Go.RowKit Go.Proofs.YtkbcmjejfbbcpaaW.PrintWords Go.Proofs.YtkbcmjejfbbcpaaW.PrintLast Go.Proofs.YtkbcmjejfbbcpaaW.PrintMore
attribute [local go_sem] max2_int min2_int max_two min_two max_three min_three max_four min_four
set_option linter.unusedVariables false
set_option linter.unusedSimpArgs false
set_option maxHeartbeats 8000000 in
set_option maxRecDepth 100000 in
theorem api_Run_54.calls (k : Nat) (A0 : Option Addr) (c0 : Nat) (l0 : List (List (S25))) (r : List (S25)) (w : World) (hr0 : Kd.C (Kd.slice 25 k25) w A0 l0.length l0) (hc0 : l0.length ≤ c0) (h : api_Run_54.f k l0 = some r) :
  Calls Try.prog 54 #[.slice A0 l0.length c0] w fun e w' => ∃ v0_ : Value, e = .returned (v0_) ∧ Kd.R k25 25 w' w.heap.size (fun _ => True) v0_ r ∧ Below w.heap.size w w' := by
 have HR0 := Aside0.mk hr0; have HC0 := Aside0.mk hc0; clear hr0 hc0; have HB := Aside0.mk (Below.refl w.heap.size w); have H : (api_Run_54.l0 k l0 0 l0 (l0.length : Int) 0) = some r := h; clear h; have H' := Aside0.mk H; clear H; go_enter Try.func54, Try.ntmps54; go_wp2; go_loopg [3, 11] k (fun kq v3 v11 w' => ∃ (x3_1 : Int) (x11_1 : Int), v3 = .int .i64 x3_1 ∧ v11 = .int .i64 x11_1 ∧ Aside0 (api_Run_54.l0 kq l0 x3_1 l0 (l0.length : Int) x11_1 = some r) ∧ Aside0 (kq ≤ k) ∧ Aside0 (Below w.heap.size w w'))
 case atStart => exact ⟨(0), (0), rf_, rf_, H', ⟨Nat.le_refl _⟩, ⟨hb_⟩⟩
 case round =>
  clear H'; obtain ⟨x3_1, x11_1, rfl, rfl, HA, HK1, HB⟩ := hrel
  cases gk with
  | zero => exact absurd HA.out (by simp [api_Run_54.l0])
  | succ k1 =>
   have H := HA.out; clear HA; simp only [api_Run_54.l0] at H
   by_cases c2 : x11_1 < (l0.length : Int)
   ·rw [if_pos c2] at H
    have c2b0 : decide (x11_1 < (l0.length : Int)) = true := decide_eq_true c2; clear c2
    by_cases c3 : 0 ≤ x11_1
    ·rw [if_pos c3] at H
     have c3b0 : decide (0 ≤ x11_1) = true := decide_eq_true c3; clear c3
     by_cases c4 : x11_1 < (l0.length : Int)
     ·rw [if_pos c4] at H
      have c4b0 : decide (x11_1 < (l0.length : Int)) = true := decide_eq_true c4; clear c4
      by_cases c5 : (wrap64 (x3_1 + ((rd_L2 l0 x11_1).length : Int))) < 0
      ·rw [if_pos c5] at H
       exact absurd H (by simp)
      ·rw [if_neg c5] at H
       have c5b0 : decide ((wrap64 (x3_1 + ((rd_L2 l0 x11_1).length : Int))) < 0) = false := decide_eq_false c5; have c5b9 := c5b0; (try simp only [hl101_0] at c5b9); (try simp only [hl105_0] at c5b9); clear c5; have H' := Aside0.mk H; clear H; have p101 : 0 ≤ (x11_1 : Int) := od_; have q101 : x11_1 < (l0.length : Int) := od_; obtain ⟨ad101, A101_0, c101_0, e101, hx101_0, hl101_0, hi101_0⟩ := at_L2 HR0.out x11_1 p101 q101
       cases e101
       replace hx101_0 := (HB.out.cell (World.block_lt_of_cell? w _ hx101_0)).trans hx101_0; have HR101_0 := Aside0.mk hi101_0; have HC101_0 := Aside0.mk hl101_0; clear hi101_0 hl101_0; replace p101 := eq_true p101; replace q101 := eq_true q101; go_wp2; go_roundg k1
       case measure => have := HK1.out; omega
       case rel => exact ⟨(wrap64 (x3_1 + ((rd_L2 l0 x11_1).length : Int))), (wrap64 (x11_1 + 1)), rf_, rf_, H', ⟨by have := HK1.out; omega⟩, ⟨hb_⟩⟩
     ·rw [if_neg c4] at H
      exact absurd H (by simp)
    ·rw [if_neg c3] at H
     exact absurd H (by simp)
   ·rw [if_neg c2] at H
    have c2b0 : decide (x11_1 < (l0.length : Int)) = false := decide_eq_false c2; have c2b9 := c2b0; (try simp only [hl101_0] at c2b9); (try simp only [hl105_0] at c2b9); clear c2; replace H := Option.bind_eq_some_iff.mp H; obtain ⟨t102, A60, H⟩ := H; replace H : (api_Run_54.l1 k1 t102 l0 (l0.length : Int) 0) = some r := H; have A6 := Aside0.mk A60; clear A60; have H' := Aside0.mk H; clear H; go_wp2_with (first | ((with_reducible refine gate_callee (f := 62) rfl ?_); refine goesL_ (some 24) rfl rfl Try.func62 (by kernel_rfl) rfl #[.slice none 0 0, .int .i64 x3_1] rfl ml_ ?_; (with_reducible refine (api_Run_62.calls x3_1 t102 _ A6.out).mono ?_); rintro e w7 ⟨v103, rfl, ho0, hb⟩; refine ⟨_, rfl, ?_⟩; have n0_ := Aside0.mk (Kd.R_lower ho0 (below_size hb_)); have n1_ := Aside0.mk (below_step hb_ hb); clear HB; have HO104 := n0_; have HB := n1_; clear n0_ n1_; (try clear hb); (try clear hb2); (try clear hk); (try clear hi); (try clear ho0))); go_loopg [6, 27] k1 (fun kq v6 v27 w' => ∃ (x6_2 : List (S25)) (x27_2 : Int), v27 = .int .i64 x27_2 ∧ Aside0 (api_Run_54.l1 kq x6_2 l0 (l0.length : Int) x27_2 = some r) ∧ Aside0 (kq ≤ k1) ∧ Aside0 (Kd.R k25 25 w' w.heap.size (fun _ => True) v6 x6_2) ∧ Aside0 (Below w.heap.size w w'))
    case atStart => exact ⟨(t102), (0), rf_, H', ⟨Nat.le_refl _⟩, ⟨by (with_reducible repeat (first | apply Kd.R_alloc | apply Kd.R_drewN | apply Kd.R_drew)); exact HO104.out⟩, ⟨hb_⟩⟩
    case round =>
     clear H'; (try clear c1); (try clear p1); (try clear q1); (try clear hx1); (try clear c2); (try clear c2b0); (try clear p2); (try clear c3); (try clear c3b0); (try clear c4); (try clear c4b0); (try clear c5); (try clear c5b0); (try clear c6); (try clear p6); (try clear hx101_0); (try clear p101); (try clear q101); obtain ⟨x6_2, x27_2, rfl, HA, HK2, HO_6, HB⟩ := hrel
     cases gk with
     | zero => exact absurd HA.out (by simp [api_Run_54.l1])
     | succ k2 =>
      have H := HA.out; clear HA; simp only [api_Run_54.l1] at H
      by_cases c8 : x27_2 < (l0.length : Int)
      ·rw [if_pos c8] at H
       have c8b0 : decide (x27_2 < (l0.length : Int)) = true := decide_eq_true c8; clear c8
       by_cases c9 : 0 ≤ x27_2
       ·rw [if_pos c9] at H
        have c9b0 : decide (0 ≤ x27_2) = true := decide_eq_true c9; clear c9
        by_cases c10 : x27_2 < (l0.length : Int)
        ·rw [if_pos c10] at H
         have c10b0 : decide (x27_2 < (l0.length : Int)) = true := decide_eq_true c10; clear c10
         by_cases c11 : x6_2.length + (rd_L2 l0 x27_2).length < 8796093022208
         ·rw [if_pos c11] at H
          have LMc11 := Aside0.mk c11; clear c11; obtain ⟨y106, hy106⟩ : ∃ y_ : List (S25), y_ = (x6_2 ++ (rd_L2 l0 x27_2)) := ⟨_, rfl⟩; (replace H : (api_Run_54.l1 k2 y106 l0 (l0.length : Int) (wrap64 (x27_2 + 1))) = some r := by first | (rw [hy106]; with_reducible exact H) | (have H2_ := (Option.bind_some _ _).symm.trans H; rw [hy106]; with_reducible exact H2_) | (have H2_ := (Option.bind_some _ _).symm.trans H; with_reducible exact H2_) | with_reducible exact H | (rw [hy106]; exact H) | exact H); have Ny106 := Aside0.mk hy106; clear hy106; have H' := Aside0.mk H; clear H; have p105 : 0 ≤ (x27_2 : Int) := od_; have q105 : x27_2 < (l0.length : Int) := od_; obtain ⟨ad105, A105_0, c105_0, e105, hx105_0, hl105_0, hi105_0⟩ := at_L2 HR0.out x27_2 p105 q105
          cases e105
          replace hx105_0 := (HB.out.cell (World.block_lt_of_cell? w _ hx105_0)).trans hx105_0; have HR105_0 := Aside0.mk hi105_0; have HC105_0 := Aside0.mk hl105_0; clear hi105_0 hl105_0; replace p105 := eq_true p105; replace q105 := eq_true q105; go_wp2_with (first | ((with_reducible refine gate_builtin (b := .append) (xs := #[.tmp 31, .tmp 32]) rfl ?_); at_builtin; refine Kd.R_append_rows k25 (w0 := w) w.heap.size rfl (.tmp 31) (.tmp 32) 23 25 (.agg #[(.int .i64 0), (.int .i64 0)]) 16 rfl Try.underlying23 info25 rfl (by decide) (by omega) u6 x6_2 (rd_L2 l0 x27_2) _ _ _ (fun _ => True) (fun _ => False) rfl rfl ?aO ?aR (fun _ _ h => h) (fun _ h => h.elim) ?aF ?aB ?aS ?aL ?_; (case aR => repeat (first | exact (Kd.C_below HR105_0.out HB.out) | (with_reducible refine Kd.C_alloc ?_ _) | (with_reducible refine Kd.C_drewN ?_ _) | (with_reducible refine Kd.C_drew ?_))); (case aB => exact hb_); (case aF => exact (fun _ _ => trivial)); (case aO => exact (by (with_reducible repeat (first | apply Kd.R_alloc | apply Kd.R_drewN | apply Kd.R_drew)); exact HO_6.out)); (case aS => exact (below_size hb_)); (case aL => have := LMc11.out; omega); intro v107 w12 ho hb hg hat; rw [← Ny106.out] at ho; have n0_ := Aside0.mk (hb); have n1_ := Aside0.mk (ho); clear HB; clear HO_6; have HB := n0_; have HO108 := n1_; clear n0_ n1_; clear ho hb hg hat)); go_roundg k2
          case measure => have := HK1.out; have := HK2.out; omega
          case rel => exact ⟨(y106), (wrap64 (x27_2 + 1)), rf_, H', ⟨by have := HK1.out; have := HK2.out; omega⟩, ⟨by (with_reducible repeat (first | apply Kd.R_alloc | apply Kd.R_drewN | apply Kd.R_drew)); exact HO108.out⟩, ⟨hb_⟩⟩
         ·rw [if_neg c11] at H
          exact absurd H (by simp)
        ·rw [if_neg c10] at H
         exact absurd H (by simp)
       ·rw [if_neg c9] at H
        exact absurd H (by simp)
      ·rw [if_neg c8] at H
       have c8b0 : decide (x27_2 < (l0.length : Int)) = false := decide_eq_false c8; have c8b9 := c8b0; (try simp only [hl101_0] at c8b9); (try simp only [hl105_0] at c8b9); clear c8; obtain rfl := Option.some.inj H; go_wp2; go_ret; exact ⟨_, by first | rfl | (simp [errW_none, errW_some] <;> rfl) | (simp [*, errW_none, errW_some] <;> rfl), by (with_reducible repeat (first | apply Kd.R_alloc | apply Kd.R_drewN | apply Kd.R_drew)); exact HO_6.out, hb_⟩
set_option maxHeartbeats 8000000 in
set_option maxRecDepth 100000 in
theorem sets_Union.calls (k : Nat) (P0_ : Nat → Prop) (A0 : Option Addr) (c0 : Nat) (l0 : List (S25)) (P1_ : Nat → Prop) (A1 : Option Addr) (c1 : Nat) (l1 : List (S25)) (r : List (S25)) (w : World) (hs0 : Kd.V k25 25 w w.heap.size (fun k_ => P0_ k_) (.slice A0 l0.length c0) l0) (hs1 : Kd.V k25 25 w w.heap.size (fun k_ => P1_ k_) (.slice A1 l1.length c1) l1) (h : sets_Union.f k l0 l1 = some r) :
  Calls Try.prog 34 #[.slice A0 l0.length c0, .slice A1 l1.length c1] w fun e w' => ∃ v0_ : Value, e = .returned (v0_) ∧ Kd.R k25 25 w' w.heap.size (fun k_ => (w.heap.size ≤ k_)) v0_ r ∧ Below w.heap.size w w' := by
 have HO0 := Aside0.mk (show Kd.V k25 25 w w.heap.size (fun k_ => ((P0_ k_ ∨ P1_ k_) ∨ w.heap.size ≤ k_)) (.slice A0 l0.length c0) l0 from Kd.V_mono hs0 (fun k_ hk => .inl (.inl hk))); have HO1 := Aside0.mk (show Kd.V k25 25 w w.heap.size (fun k_ => ((P0_ k_ ∨ P1_ k_) ∨ w.heap.size ≤ k_)) (.slice A1 l1.length c1) l1 from Kd.V_mono hs1 (fun k_ hk => .inl (.inr hk))); have HB := Aside0.mk (Below.refl w.heap.size w); have H : ((api_Run_54.f k (([l0, l1] : List (List (S25))))).bind fun t112 => ((runs_Make.f t112).bind fun t115 => (some t115))) = some r := h; clear h; obtain ⟨y109, hy109⟩ : ∃ y_ : List (List (S25)), y_ = (([l0, l1] : List (List (S25)))) := ⟨_, rfl⟩; (replace H : ((api_Run_54.f k y109).bind fun t112 => ((runs_Make.f t112).bind fun t115 => (some t115))) = some r := by first | (rw [hy109]; with_reducible exact H) | (have H2_ := (Option.bind_some _ _).symm.trans H; rw [hy109]; with_reducible exact H2_) | (have H2_ := (Option.bind_some _ _).symm.trans H; with_reducible exact H2_) | with_reducible exact H | (rw [hy109]; exact H) | exact H); have Ny109 := Aside0.mk hy109; clear hy109; replace H := Option.bind_eq_some_iff.mp H; obtain ⟨t112, A30, H⟩ := H; replace H : ((runs_Make.f t112).bind fun t115 => (some t115)) = some r := H; have A3 := Aside0.mk A30; clear A30; replace H := Option.bind_eq_some_iff.mp H; obtain ⟨t115, A40, H⟩ := H; replace H : (some t115) = some r := H; have A4 := Aside0.mk A40; clear A40; obtain rfl := Option.some.inj H; go_enter Try.func34, Try.ntmps34; go_wp2_with (first | ((with_reducible refine gate_dst (N := 7) rfl ?_); refine Kd.N_lit (Kd.slice 25 k25) _ 23 ?hg (N' := 7) ?hd (xs := ([l0, l1] : List (List (S25)))) (inner := [.slice A0 l0.length c0, .slice A1 l1.length c1]) (ok := (fun k_ => ((P0_ k_ ∨ P1_ k_) ∨ w.heap.size ≤ k_))) (okp := (fun k_ => ((P0_ k_ ∨ P1_ k_) ∨ w.heap.size ≤ k_))) ?hr ?hp (fun _ hk => hk) ((show ∀ k_, w.heap.size ≤ k_ → (fun k_ => ((P0_ k_ ∨ P1_ k_) ∨ w.heap.size ≤ k_)) k_ from fun k_ hk => (.inr (Nat.le_trans (below_size hb_) hk))) _ (Nat.le_refl _)) (Below.refl _ _) (Nat.le_refl _) (by simp) ?_; (case hd => rfl); (case hg => rfl); (case hr => first | (go_simp; done) | (go_simp; rfl)); (case hp => exact (Reps.one (show Kd.FK (Kd.slice 25 k25) _ _ l0 [.slice A0 l0.length c0] from (Kd.FK_slice_mk (Kd.V_reads' (Kd.V_mono (ok' := (fun k_ => ((P0_ k_ ∨ P1_ k_) ∨ w.heap.size ≤ k_))) (HO0.out) (fun k_ hk => hk))).2.1 (Kd.V_F (Kd.V_mono (ok' := (fun k_ => ((P0_ k_ ∨ P1_ k_) ∨ w.heap.size ≤ k_))) (HO0.out) (fun k_ hk => hk))))) (Reps.one (show Kd.FK (Kd.slice 25 k25) _ _ l1 [.slice A1 l1.length c1] from (Kd.FK_slice_mk (Kd.V_reads' (Kd.V_mono (ok' := (fun k_ => ((P0_ k_ ∨ P1_ k_) ∨ w.heap.size ≤ k_))) (HO1.out) (fun k_ hk => hk))).2.1 (Kd.V_F (Kd.V_mono (ok' := (fun k_ => ((P0_ k_ ∨ P1_ k_) ∨ w.heap.size ≤ k_))) (HO1.out) (fun k_ hk => hk))))) (Reps.none _ _)))); intro v110 w5 ho6 hb hg_ hnew_; clear hg_ hnew_; (first | rw [← Ny109.out] at ho6 | (simp only [Int.reduceToNat] at ho6; rw [← Ny109.out] at ho6)); have n0_ := Aside0.mk (Kd.V_elder' (by (with_reducible repeat (first | apply Kd.V_alloc | apply Kd.V_drewN | apply Kd.V_drew)); exact HO0.out) (Kd.N_base ho6) hb); have n1_ := Aside0.mk (Kd.V_elder' (by (with_reducible repeat (first | apply Kd.V_alloc | apply Kd.V_drewN | apply Kd.V_drew)); exact HO1.out) (Kd.N_base ho6) hb); have n2_ := Aside0.mk (Kd.N_lower ho6 (below_size hb_)); have n3_ := Aside0.mk (below_step hb_ hb); clear HO0; clear HO1; clear HB; have HO0 := n0_; have HO1 := n1_; have HO111 := n2_; have HB := n3_; clear n0_ n1_ n2_ n3_; clear hb ho6; obtain ⟨Ao7, co7, eo7⟩ := Kd.N_slice HO111.out; subst eo7) | ((with_reducible refine gate_callee (f := 54) rfl ?_); refine goesL_ (some 8) rfl rfl Try.func54 (by kernel_rfl) rfl #[.slice Ao7 y109.length co7] rfl ml_ ?_; (with_reducible refine (api_Run_54.calls k _ _ y109 t112 _ ?side1 ?side2 A3.out).mono ?_); (case side1 => repeat (first | exact (Kd.N_reads' HO111.out).2.2 | (with_reducible refine Kd.C_alloc ?_ _) | (with_reducible refine Kd.C_drewN ?_ _) | (with_reducible refine Kd.C_drew ?_))); (case side2 => exact (Kd.N_reads' HO111.out).2.1); rintro e w8 ⟨v113, rfl, ho0, hb⟩; refine ⟨_, rfl, ?_⟩; have n0_ := Aside0.mk (Kd.V_elder' (by (with_reducible repeat (first | apply Kd.V_alloc | apply Kd.V_drewN | apply Kd.V_drew)); exact HO0.out) (Kd.R_base ho0) hb); have n1_ := Aside0.mk (Kd.V_elder' (by (with_reducible repeat (first | apply Kd.V_alloc | apply Kd.V_drewN | apply Kd.V_drew)); exact HO1.out) (Kd.R_base ho0) hb); have n2_ := Aside0.mk (Kd.N_elder' (by (with_reducible repeat (first | apply Kd.N_alloc | apply Kd.N_drewN | apply Kd.N_drew)); exact HO111.out) (Kd.R_base ho0) hb); have n3_ := Aside0.mk (Kd.R_lower (Kd.R_newM (M := fun k_ => (w.heap.size ≤ k_)) ho0 (below_size hb_) (fun k_ h_ => h_)) (below_size hb_)); have n4_ := Aside0.mk (below_step hb_ hb); clear HO0; clear HO1; clear HO111; clear HB; have HO0 := n0_; have HO1 := n1_; have HO111 := n2_; have HO114 := n3_; have HB := n4_; clear n0_ n1_ n2_ n3_ n4_; (try clear hb); (try clear hb2); (try clear hk); (try clear hi); (try clear ho0); obtain ⟨Ao9, co9, eo9⟩ := Kd.R_slice HO114.out; subst eo9) | ((with_reducible refine gate_callee (f := 19) rfl ?_); refine goesL_ (some 9) rfl rfl Try.func19 (by kernel_rfl) rfl #[.slice Ao9 t112.length co9] rfl ml_ ?_; (with_reducible refine (runs_Make.calls _ _ t112 t115 _ ?side1 ?side2 A4.out).mono ?_); (case side1 => repeat (first | exact (Kd.R_reads' HO114.out).2.2 | (with_reducible refine Kd.C_alloc ?_ _) | (with_reducible refine Kd.C_drewN ?_ _) | (with_reducible refine Kd.C_drew ?_))); (case side2 => exact (Kd.R_reads' HO114.out).2.1); rintro e w10 ⟨v116, rfl, ho0, hb⟩; refine ⟨_, rfl, ?_⟩; have n0_ := Aside0.mk (Kd.V_elder' (by (with_reducible repeat (first | apply Kd.V_alloc | apply Kd.V_drewN | apply Kd.V_drew)); exact HO0.out) (Kd.R_base ho0) hb); have n1_ := Aside0.mk (Kd.V_elder' (by (with_reducible repeat (first | apply Kd.V_alloc | apply Kd.V_drewN | apply Kd.V_drew)); exact HO1.out) (Kd.R_base ho0) hb); have n2_ := Aside0.mk (Kd.N_elder' (by (with_reducible repeat (first | apply Kd.N_alloc | apply Kd.N_drewN | apply Kd.N_drew)); exact HO111.out) (Kd.R_base ho0) hb); have n3_ := Aside0.mk (Kd.R_elder' (by (with_reducible repeat (first | apply Kd.R_alloc | apply Kd.R_drewN | apply Kd.R_drew)); exact HO114.out) (Kd.R_base ho0) hb); have n4_ := Aside0.mk (Kd.R_lower (Kd.R_new' (Kd.R_newM (M := fun k_ => (w.heap.size ≤ k_)) ho0 (below_size hb_) (fun k_ h_ => h_)) (Kd.R_lt (by (with_reducible repeat (first | apply Kd.R_alloc | apply Kd.R_drewN | apply Kd.R_drew)); exact HO114.out))) (below_size hb_)); have n5_ := Aside0.mk (below_step hb_ hb); clear HO0; clear HO1; clear HO111; clear HO114; clear HB; have HO0 := n0_; have HO1 := n1_; have HO111 := n2_; have HO114 := n3_; have HO117 := n4_; have HB := n5_; clear n0_ n1_ n2_ n3_ n4_ n5_; (try clear hb); (try clear hb2); (try clear hk); (try clear hi); (try clear ho0)))
 go_ret; exact ⟨_, by first | rfl | (simp [errW_none, errW_some] <;> rfl) | (simp [*, errW_none, errW_some] <;> rfl), by (with_reducible repeat (first | apply Kd.R_alloc | apply Kd.R_drewN | apply Kd.R_drew)); exact Kd.R_mono HO117.out (fun _ hk => hk.1.1), hb_⟩
end Go.Proofs.Ytkbcmjejfbbcpaa.A.U

namespace Go.Proofs.Ytkbcmjejfbbcpaa.A
open Go.RowKit Go.Proofs.YtkbcmjejfbbcpaaW.PrintWords Go.Proofs.YtkbcmjejfbbcpaaW.PrintLast Go.Proofs.YtkbcmjejfbbcpaaW.PrintMore
set_option linter.unusedVariables false
theorem u64' {x : Int} (h1 : -9223372036854775808 ≤ x) (h2 : x ≤ 9223372036854775807) : wrap64 x = x := by unfold wrap64; omega
theorem concat_ev (l0 l1 : List S25) (h : l0.length + l1.length < 4398046511104) : Ev (fun k => U.api_Run_54.f k [l0, l1]) (l0 ++ l1) := by
  unfold U.api_Run_54.f
  have e0 : rd_L2 [l0, l1] 0 = l0 := rfl
  have e1 : rd_L2 [l0, l1] 1 = l1 := rfl
  have r1 : wrap64 (0 + (l0.length : Int)) = (l0.length : Int) := by rw [u64' (by omega) (by omega)]; omega
  have r2 : wrap64 ((l0.length : Int) + (l1.length : Int)) = (l0.length : Int) + l1.length := u64' (by omega) (by omega)
  have i1 : wrap64 (0 + 1) = 1 := by decide +kernel
  have i2 : wrap64 (1 + 1) = 2 := by decide +kernel
  refine Ev.step (f := fun k => U.api_Run_54.l0 k [l0, l1] (l0.length : Int) [l0, l1] 2 1) (fun k => ?_) ?_
  · rw [U.api_Run_54.l0, if_pos (by simp), if_pos (by decide), if_pos (by simp), e0, r1, if_neg (by omega), i1]; rfl
  refine Ev.step (f := fun k => U.api_Run_54.l0 k [l0, l1] ((l0.length : Int) + l1.length) [l0, l1] 2 2) (fun k => ?_) ?_
  · rw [U.api_Run_54.l0, if_pos (by decide), if_pos (by decide), if_pos (by simp), e1, r2, if_neg (by omega), i2]
  refine Ev.step (f := fun k => U.api_Run_54.l1 k [] [l0, l1] 2 0) (fun k => ?_) ?_
  · rw [U.api_Run_54.l0, if_neg (by decide), api_Run_62.f, if_pos (by constructor <;> omega)]; rfl
  refine Ev.step (f := fun k => U.api_Run_54.l1 k l0 [l0, l1] 2 1) (fun k => ?_) ?_
  · rw [U.api_Run_54.l1, if_pos (by decide), if_pos (by decide), if_pos (by simp), e0, if_pos (by simp; omega), i1]; rfl
  refine Ev.step (f := fun k => U.api_Run_54.l1 k (l0 ++ l1) [l0, l1] 2 2) (fun k => ?_) ?_
  · rw [U.api_Run_54.l1, if_pos (by decide), if_pos (by decide), if_pos (by simp), e1, if_pos (by omega), i2]
  exact Ev.step (f := fun _ => some (l0 ++ l1)) (fun k => by rw [U.api_Run_54.l1, if_neg (by decide)]) (Ev.now _)
theorem union_ev {l0 l1 r : List S25} (h : sets_Union.f l0 l1 = some r) : Ev (fun k => U.sets_Union.f k l0 l1) r := by
  unfold sets_Union.f at h
  by_cases c : l0.length + l1.length < 4398046511104
  · rw [if_pos c] at h
    obtain rfl := Option.some.inj h
    refine Ev.bind (concat_ev l0 l1 c) ?_
    refine Ev.congr (f := fun _ => some (norm (l0 ++ l1))) (fun k => ?_) (Ev.now _)
    rw [runs_Make.f, if_pos (by rw [List.length_append]; exact c)]; rfl
  · rw [if_neg c] at h; exact absurd h (by simp)
theorem sets_Union.calls (A0 : Option Addr) (c0 : Nat) (l0 : List S25) (A1 : Option Addr) (c1 : Nat) (l1 : List S25) (r : List S25) (w : World) (hr0 : Kd.C k25 w A0 l0.length l0) (hc0 : l0.length ≤ c0) (hr1 : Kd.C k25 w A1 l1.length l1) (hc1 : l1.length ≤ c1) (h : sets_Union.f l0 l1 = some r) :
    Calls Try.prog 34 #[.slice A0 l0.length c0, .slice A1 l1.length c1] w fun e w' => ∃ v0_ : Value, e = .returned (v0_) ∧ Kd.R k25 25 w' w.heap.size (fun _ => True) v0_ r ∧ Below w.heap.size w w' := by
  obtain ⟨k, hk⟩ := (union_ev h).rounds
  refine (U.sets_Union.calls k (fun k => k < w.heap.size) A0 c0 l0 (fun k => k < w.heap.size) A1 c1 l1 r w (Kd.V_mk hc0 (Kd.C_F k25_heap hr0)) (Kd.V_mk hc1 (Kd.C_F k25_heap hr1)) hk).mono ?_
  rintro e w' ⟨v, h1, h2, h3⟩
  exact ⟨v, h1, Kd.R_mono h2 (fun _ _ => trivial), h3⟩
end Go.Proofs.Ytkbcmjejfbbcpaa.A

namespace Go.Proofs.Ytkbcmjejfbbcpaa.A
open Go.RowKit Go.Proofs.YtkbcmjejfbbcpaaW.PrintWords Go.Proofs.YtkbcmjejfbbcpaaW.PrintLast Go.Proofs.YtkbcmjejfbbcpaaW.PrintMore
attribute [local go_sem] max2_int min2_int max_two min_two max_three min_three max_four min_four
set_option linter.unusedVariables false
set_option linter.unusedSimpArgs false
set_option maxHeartbeats 8000000 in
set_option maxRecDepth 100000 in
theorem lustrumlaw05_SetsLaws.calls (k : Nat) (A0 : Option Addr) (c0 : Nat) (l0 : List (S25)) (A1 : Option Addr) (c1 : Nat) (l1 : List (S25)) (A2 : Option Addr) (c2 : Nat) (l2 : List (S25)) (r : Bool) (w : World) (hr0 : Kd.C k25 w A0 l0.length l0) (hc0 : l0.length ≤ c0) (hr1 : Kd.C k25 w A1 l1.length l1) (hc1 : l1.length ≤ c1) (hr2 : Kd.C k25 w A2 l2.length l2) (hc2 : l2.length ≤ c2) (h : lustrumlaw05_SetsLaws.f k l0 l1 l2 = some r) :
  Calls Try.prog 9 #[.slice A0 l0.length c0, .slice A1 l1.length c1, .slice A2 l2.length c2] w fun e w' => e = .returned (.bool r) ∧ Below w.heap.size w w' := by
 have HR0 := Aside0.mk hr0; have HC0 := Aside0.mk hc0; clear hr0 hc0; have HR1 := Aside0.mk hr1; have HC1 := Aside0.mk hc1; clear hr1 hc1; have HR2 := Aside0.mk hr2; have HC2 := Aside0.mk hc2; clear hr2 hc2; have HB := Aside0.mk (Below.refl w.heap.size w); have H : ((lustrumlaw05_awake.f k).bind fun t403 => (if (l0.length : Int) > 30 then (lustrumlaw05_SetsLaws.j0 k l0 l1 l2 t403 true) else (if (l1.length : Int) > 30 then (lustrumlaw05_SetsLaws.j0 k l0 l1 l2 t403 true) else (lustrumlaw05_SetsLaws.j0 k l0 l1 l2 t403 (decide ((l2.length : Int) > 30)))))) = some r := h; clear h; replace H := Option.bind_eq_some_iff.mp H; obtain ⟨t403, A40, H⟩ := H; replace H : (if (l0.length : Int) > 30 then (lustrumlaw05_SetsLaws.j0 k l0 l1 l2 t403 true) else (if (l1.length : Int) > 30 then (lustrumlaw05_SetsLaws.j0 k l0 l1 l2 t403 true) else (lustrumlaw05_SetsLaws.j0 k l0 l1 l2 t403 (decide ((l2.length : Int) > 30))))) = some r := H; have A4 := Aside0.mk A40; clear A40; have HC5 := Aside0.mk H; clear H; go_enter Try.func9, Try.ntmps9; go_upto_region 2 with (first | ((with_reducible refine gate_callee (f := 16) rfl ?_); refine goesL_ (some 9) rfl rfl Try.func16 (by kernel_rfl) rfl #[] rfl ml_ ?_; (with_reducible refine (lustrumlaw05_awake.calls k  t403 _ A4.out).mono ?_); rintro e w6 ⟨rfl, hb⟩; refine ⟨_, rfl, ?_⟩; have n0_ := Aside0.mk (below_step hb_ hb); clear HB; have HB := n0_; clear n0_; (try clear hb); (try clear hb2); (try clear hk); (try clear hi))); (try simp only [Act.put, List.setIfInBounds_toArray, List.set_cons_zero, List.set_cons_succ]); go_cut [22] (fun v22 wc => ∃ (kq : Nat) (x22_4 : Bool), v22 = .bool x22_4 ∧ Aside0 (lustrumlaw05_SetsLaws.j0 kq l0 l1 l2 t403 x22_4 = some r) ∧ Aside0 (kq ≤ k) ∧ Aside0 (Below w.heap.size w wc))
 case first =>
  have H := HC5.out; clear HC5
  by_cases c7 : (l0.length : Int) > 30
  ·rw [if_pos c7] at H
   have c7b0 : decide (30 < (l0.length : Int)) = true := decide_eq_true c7; have c7b1 : decide (30 < l0.length) = true := decide_eq_true (by omega); clear c7; (first | rw [c7b0] | (simp only [i64_w, i32_w]; rw [c7b0]) | skip); have H' := Aside0.mk H; clear H; go_wp2; go_meet
   case rel => exact ⟨_, (true), rf_, H', ⟨by first | omega | exact Nat.le_refl _⟩, ⟨hb_⟩⟩
  ·rw [if_neg c7] at H
   have c7b0 : decide (30 < (l0.length : Int)) = false := decide_eq_false c7; have c7b1 : decide (30 < l0.length) = false := decide_eq_false (by omega); clear c7; (first | rw [c7b0] | (simp only [i64_w, i32_w]; rw [c7b0]) | skip)
   by_cases c8 : (l1.length : Int) > 30
   ·rw [if_pos c8] at H
    have c8b0 : decide (30 < (l1.length : Int)) = true := decide_eq_true c8; have c8b1 : decide (30 < l1.length) = true := decide_eq_true (by omega); clear c8; have H' := Aside0.mk H; clear H; go_wp2; go_meet
    case rel => exact ⟨_, (true), rf_, H', ⟨by first | omega | exact Nat.le_refl _⟩, ⟨hb_⟩⟩
   ·rw [if_neg c8] at H
    have c8b0 : decide (30 < (l1.length : Int)) = false := decide_eq_false c8; have c8b1 : decide (30 < l1.length) = false := decide_eq_false (by omega); clear c8; have H' := Aside0.mk H; clear H; go_wp2; go_meet
    case rel => exact ⟨_, (decide ((l2.length : Int) > 30)), rf_, H', ⟨by first | omega | exact Nat.le_refl _⟩, ⟨hb_⟩⟩
 case rest =>
  clear HC5; (try clear c1); (try clear c2); (try clear p2); (try clear c7); (try clear c7b0); (try clear c7b1); (try clear c8); (try clear c8b0); (try clear c8b1); obtain ⟨kq, x22_4, rfl, HA, HJ4, HB⟩ := hcut
  cases kq with
  | zero => exact absurd HA.out (by simp [lustrumlaw05_SetsLaws.j0])
  | succ kj4 =>
   have H := HA.out; clear HA; simp only [lustrumlaw05_SetsLaws.j0] at H
   by_cases c9 : x22_4 = true
   ·subst c9
    (have H1 : (some t403) = some r := by rw [if_pos rfl] at H; exact H); clear H; have H := H1; clear H1; obtain rfl := Option.some.inj H; go_wp2; go_ret; exact ⟨re_, hb_⟩
   ·replace c9 := Bool.eq_false_iff.mpr c9
    subst c9; (have H1 : ((sets_Union.f l1 l2).bind fun t404 => (if t403 = true then ((sets_Meet.f kj4 l0 t404).bind fun t407 => ((sets_Meet.f kj4 l0 l1).bind fun t410 => ((sets_Meet.f kj4 l0 l2).bind fun t413 => ((sets_Union.f t410 t413).bind fun t416 => ((lustrumref04_Same.f kj4 t407 t416).bind fun t419 => (if t419 = true then ((sets_Minus.f kj4 l0 t404).bind fun t420 => ((sets_Minus.f kj4 l0 l1).bind fun t423 => ((sets_Minus.f kj4 t423 l2).bind fun t426 => ((lustrumref04_Same.f kj4 t420 t426).bind fun t429 => (if t429 = true then ((sets_Union.f l0 t404).bind fun t430 => ((sets_Union.f l0 l1).bind fun t433 => ((sets_Union.f t433 l2).bind fun t436 => ((lustrumref04_Same.f kj4 t430 t436).bind fun t439 => (some t439))))) else (some false)))))) else (some false))))))) else (some false))) = some r := by rw [if_neg (show ¬ (false = true) by decide)] at H; exact H); clear H; have H := H1; clear H1; replace H := Option.bind_eq_some_iff.mp H; obtain ⟨t404, A100, H⟩ := H; replace H : (if t403 = true then ((sets_Meet.f kj4 l0 t404).bind fun t407 => ((sets_Meet.f kj4 l0 l1).bind fun t410 => ((sets_Meet.f kj4 l0 l2).bind fun t413 => ((sets_Union.f t410 t413).bind fun t416 => ((lustrumref04_Same.f kj4 t407 t416).bind fun t419 => (if t419 = true then ((sets_Minus.f kj4 l0 t404).bind fun t420 => ((sets_Minus.f kj4 l0 l1).bind fun t423 => ((sets_Minus.f kj4 t423 l2).bind fun t426 => ((lustrumref04_Same.f kj4 t420 t426).bind fun t429 => (if t429 = true then ((sets_Union.f l0 t404).bind fun t430 => ((sets_Union.f l0 l1).bind fun t433 => ((sets_Union.f t433 l2).bind fun t436 => ((lustrumref04_Same.f kj4 t430 t436).bind fun t439 => (some t439))))) else (some false)))))) else (some false))))))) else (some false)) = some r := H; have A10 := Aside0.mk A100; clear A100
    by_cases c11 : t403 = true
    ·subst c11
     (have H1 : ((sets_Meet.f kj4 l0 t404).bind fun t407 => ((sets_Meet.f kj4 l0 l1).bind fun t410 => ((sets_Meet.f kj4 l0 l2).bind fun t413 => ((sets_Union.f t410 t413).bind fun t416 => ((lustrumref04_Same.f kj4 t407 t416).bind fun t419 => (if t419 = true then ((sets_Minus.f kj4 l0 t404).bind fun t420 => ((sets_Minus.f kj4 l0 l1).bind fun t423 => ((sets_Minus.f kj4 t423 l2).bind fun t426 => ((lustrumref04_Same.f kj4 t420 t426).bind fun t429 => (if t429 = true then ((sets_Union.f l0 t404).bind fun t430 => ((sets_Union.f l0 l1).bind fun t433 => ((sets_Union.f t433 l2).bind fun t436 => ((lustrumref04_Same.f kj4 t430 t436).bind fun t439 => (some t439))))) else (some false)))))) else (some false))))))) = some r := by rw [if_pos rfl] at H; exact H); clear H; have H := H1; clear H1; replace H := Option.bind_eq_some_iff.mp H; obtain ⟨t407, A120, H⟩ := H; replace H : ((sets_Meet.f kj4 l0 l1).bind fun t410 => ((sets_Meet.f kj4 l0 l2).bind fun t413 => ((sets_Union.f t410 t413).bind fun t416 => ((lustrumref04_Same.f kj4 t407 t416).bind fun t419 => (if t419 = true then ((sets_Minus.f kj4 l0 t404).bind fun t420 => ((sets_Minus.f kj4 l0 l1).bind fun t423 => ((sets_Minus.f kj4 t423 l2).bind fun t426 => ((lustrumref04_Same.f kj4 t420 t426).bind fun t429 => (if t429 = true then ((sets_Union.f l0 t404).bind fun t430 => ((sets_Union.f l0 l1).bind fun t433 => ((sets_Union.f t433 l2).bind fun t436 => ((lustrumref04_Same.f kj4 t430 t436).bind fun t439 => (some t439))))) else (some false)))))) else (some false)))))) = some r := H; have A12 := Aside0.mk A120; clear A120; replace H := Option.bind_eq_some_iff.mp H; obtain ⟨t410, A130, H⟩ := H; replace H : ((sets_Meet.f kj4 l0 l2).bind fun t413 => ((sets_Union.f t410 t413).bind fun t416 => ((lustrumref04_Same.f kj4 t407 t416).bind fun t419 => (if t419 = true then ((sets_Minus.f kj4 l0 t404).bind fun t420 => ((sets_Minus.f kj4 l0 l1).bind fun t423 => ((sets_Minus.f kj4 t423 l2).bind fun t426 => ((lustrumref04_Same.f kj4 t420 t426).bind fun t429 => (if t429 = true then ((sets_Union.f l0 t404).bind fun t430 => ((sets_Union.f l0 l1).bind fun t433 => ((sets_Union.f t433 l2).bind fun t436 => ((lustrumref04_Same.f kj4 t430 t436).bind fun t439 => (some t439))))) else (some false)))))) else (some false))))) = some r := H; have A13 := Aside0.mk A130; clear A130; replace H := Option.bind_eq_some_iff.mp H; obtain ⟨t413, A140, H⟩ := H; replace H : ((sets_Union.f t410 t413).bind fun t416 => ((lustrumref04_Same.f kj4 t407 t416).bind fun t419 => (if t419 = true then ((sets_Minus.f kj4 l0 t404).bind fun t420 => ((sets_Minus.f kj4 l0 l1).bind fun t423 => ((sets_Minus.f kj4 t423 l2).bind fun t426 => ((lustrumref04_Same.f kj4 t420 t426).bind fun t429 => (if t429 = true then ((sets_Union.f l0 t404).bind fun t430 => ((sets_Union.f l0 l1).bind fun t433 => ((sets_Union.f t433 l2).bind fun t436 => ((lustrumref04_Same.f kj4 t430 t436).bind fun t439 => (some t439))))) else (some false)))))) else (some false)))) = some r := H; have A14 := Aside0.mk A140; clear A140; replace H := Option.bind_eq_some_iff.mp H; obtain ⟨t416, A150, H⟩ := H; replace H : ((lustrumref04_Same.f kj4 t407 t416).bind fun t419 => (if t419 = true then ((sets_Minus.f kj4 l0 t404).bind fun t420 => ((sets_Minus.f kj4 l0 l1).bind fun t423 => ((sets_Minus.f kj4 t423 l2).bind fun t426 => ((lustrumref04_Same.f kj4 t420 t426).bind fun t429 => (if t429 = true then ((sets_Union.f l0 t404).bind fun t430 => ((sets_Union.f l0 l1).bind fun t433 => ((sets_Union.f t433 l2).bind fun t436 => ((lustrumref04_Same.f kj4 t430 t436).bind fun t439 => (some t439))))) else (some false)))))) else (some false))) = some r := H; have A15 := Aside0.mk A150; clear A150; replace H := Option.bind_eq_some_iff.mp H; obtain ⟨t419, A160, H⟩ := H; replace H : (if t419 = true then ((sets_Minus.f kj4 l0 t404).bind fun t420 => ((sets_Minus.f kj4 l0 l1).bind fun t423 => ((sets_Minus.f kj4 t423 l2).bind fun t426 => ((lustrumref04_Same.f kj4 t420 t426).bind fun t429 => (if t429 = true then ((sets_Union.f l0 t404).bind fun t430 => ((sets_Union.f l0 l1).bind fun t433 => ((sets_Union.f t433 l2).bind fun t436 => ((lustrumref04_Same.f kj4 t430 t436).bind fun t439 => (some t439))))) else (some false)))))) else (some false)) = some r := H
     have A16 := Aside0.mk A160; clear A160
     by_cases c17 : t419 = true
     ·subst c17
      (have H1 : ((sets_Minus.f kj4 l0 t404).bind fun t420 => ((sets_Minus.f kj4 l0 l1).bind fun t423 => ((sets_Minus.f kj4 t423 l2).bind fun t426 => ((lustrumref04_Same.f kj4 t420 t426).bind fun t429 => (if t429 = true then ((sets_Union.f l0 t404).bind fun t430 => ((sets_Union.f l0 l1).bind fun t433 => ((sets_Union.f t433 l2).bind fun t436 => ((lustrumref04_Same.f kj4 t430 t436).bind fun t439 => (some t439))))) else (some false)))))) = some r := by rw [if_pos rfl] at H; exact H); clear H; have H := H1; clear H1; replace H := Option.bind_eq_some_iff.mp H; obtain ⟨t420, A180, H⟩ := H; replace H : ((sets_Minus.f kj4 l0 l1).bind fun t423 => ((sets_Minus.f kj4 t423 l2).bind fun t426 => ((lustrumref04_Same.f kj4 t420 t426).bind fun t429 => (if t429 = true then ((sets_Union.f l0 t404).bind fun t430 => ((sets_Union.f l0 l1).bind fun t433 => ((sets_Union.f t433 l2).bind fun t436 => ((lustrumref04_Same.f kj4 t430 t436).bind fun t439 => (some t439))))) else (some false))))) = some r := H; have A18 := Aside0.mk A180; clear A180; replace H := Option.bind_eq_some_iff.mp H; obtain ⟨t423, A190, H⟩ := H; replace H : ((sets_Minus.f kj4 t423 l2).bind fun t426 => ((lustrumref04_Same.f kj4 t420 t426).bind fun t429 => (if t429 = true then ((sets_Union.f l0 t404).bind fun t430 => ((sets_Union.f l0 l1).bind fun t433 => ((sets_Union.f t433 l2).bind fun t436 => ((lustrumref04_Same.f kj4 t430 t436).bind fun t439 => (some t439))))) else (some false)))) = some r := H; have A19 := Aside0.mk A190; clear A190; replace H := Option.bind_eq_some_iff.mp H; obtain ⟨t426, A200, H⟩ := H; replace H : ((lustrumref04_Same.f kj4 t420 t426).bind fun t429 => (if t429 = true then ((sets_Union.f l0 t404).bind fun t430 => ((sets_Union.f l0 l1).bind fun t433 => ((sets_Union.f t433 l2).bind fun t436 => ((lustrumref04_Same.f kj4 t430 t436).bind fun t439 => (some t439))))) else (some false))) = some r := H; have A20 := Aside0.mk A200; clear A200; replace H := Option.bind_eq_some_iff.mp H; obtain ⟨t429, A210, H⟩ := H; replace H : (if t429 = true then ((sets_Union.f l0 t404).bind fun t430 => ((sets_Union.f l0 l1).bind fun t433 => ((sets_Union.f t433 l2).bind fun t436 => ((lustrumref04_Same.f kj4 t430 t436).bind fun t439 => (some t439))))) else (some false)) = some r := H; have A21 := Aside0.mk A210; clear A210
      by_cases c22 : t429 = true
      ·subst c22
       (have H1 : ((sets_Union.f l0 t404).bind fun t430 => ((sets_Union.f l0 l1).bind fun t433 => ((sets_Union.f t433 l2).bind fun t436 => ((lustrumref04_Same.f kj4 t430 t436).bind fun t439 => (some t439))))) = some r := by rw [if_pos rfl] at H; exact H); clear H; have H := H1; clear H1; replace H := Option.bind_eq_some_iff.mp H; obtain ⟨t430, A230, H⟩ := H; replace H : ((sets_Union.f l0 l1).bind fun t433 => ((sets_Union.f t433 l2).bind fun t436 => ((lustrumref04_Same.f kj4 t430 t436).bind fun t439 => (some t439)))) = some r := H; have A23 := Aside0.mk A230; clear A230; replace H := Option.bind_eq_some_iff.mp H; obtain ⟨t433, A240, H⟩ := H; replace H : ((sets_Union.f t433 l2).bind fun t436 => ((lustrumref04_Same.f kj4 t430 t436).bind fun t439 => (some t439))) = some r := H; have A24 := Aside0.mk A240; clear A240; replace H := Option.bind_eq_some_iff.mp H; obtain ⟨t436, A250, H⟩ := H; replace H : ((lustrumref04_Same.f kj4 t430 t436).bind fun t439 => (some t439)) = some r := H; have A25 := Aside0.mk A250; clear A250; replace H := Option.bind_eq_some_iff.mp H; obtain ⟨t439, A260, H⟩ := H; replace H : (some t439) = some r := H; have A26 := Aside0.mk A260; clear A260; obtain rfl := Option.some.inj H; go_wp2_with (first | ((with_reducible refine gate_callee (f := 34) rfl ?_); refine goesL_ (some 26) rfl rfl Try.func34 (by kernel_rfl) rfl #[.slice A1 l1.length c1, .slice A2 l2.length c2] rfl ml_ ?_; (with_reducible refine (sets_Union.calls _ _ l1 _ _ l2 t404 _ ?side1 ?side2 ?side3 ?side4 A10.out).mono ?_); (case side1 => repeat (first | exact (Kd.C_below HR1.out HB.out) | (with_reducible refine Kd.C_alloc ?_ _) | (with_reducible refine Kd.C_drewN ?_ _) | (with_reducible refine Kd.C_drew ?_))); (case side2 => exact HC1.out); (case side3 => repeat (first | exact (Kd.C_below HR2.out HB.out) | (with_reducible refine Kd.C_alloc ?_ _) | (with_reducible refine Kd.C_drewN ?_ _) | (with_reducible refine Kd.C_drew ?_))); (case side4 => exact HC2.out); rintro e w27 ⟨v405, rfl, ho0, hb⟩; refine ⟨_, rfl, ?_⟩; have n0_ := Aside0.mk (Kd.R_lower ho0 (below_size hb_)); have n1_ := Aside0.mk (below_step hb_ hb); clear HB; have HO406 := n0_; have HB := n1_; clear n0_ n1_; (try clear hb); (try clear hb2); (try clear hk); (try clear hi); (try clear ho0); obtain ⟨Ao28, co28, eo28⟩ := Kd.R_slice HO406.out; subst eo28) | (go_at_call 35; (with_reducible refine (sets_Meet.calls kj4 _ _ l0 _ _ t404 t407 _ ?side1 ?side2 ?side3 ?side4 A12.out).mono ?_); (case side1 => repeat (first | exact (Kd.C_below HR0.out HB.out) | (with_reducible refine Kd.C_alloc ?_ _) | (with_reducible refine Kd.C_drewN ?_ _) | (with_reducible refine Kd.C_drew ?_))); (case side2 => exact HC0.out); (case side3 => repeat (first | exact (Kd.R_reads' HO406.out).2.2 | (with_reducible refine Kd.C_alloc ?_ _) | (with_reducible refine Kd.C_drewN ?_ _) | (with_reducible refine Kd.C_drew ?_))); (case side4 => exact (Kd.R_reads' HO406.out).2.1); rintro e w29 ⟨v408, rfl, ho0, hb⟩; have n0_ := Aside0.mk (Kd.R_elder' (by (with_reducible repeat (first | apply Kd.R_alloc | apply Kd.R_drewN | apply Kd.R_drew)); exact HO406.out) (Kd.R_base ho0) hb); have n1_ := Aside0.mk (Kd.R_lower (Kd.R_new' ho0 (Kd.R_lt (by (with_reducible repeat (first | apply Kd.R_alloc | apply Kd.R_drewN | apply Kd.R_drew)); exact HO406.out))) (below_size hb_)); have n2_ := Aside0.mk (below_step hb_ hb); clear HO406; clear HB; have HO406 := n0_; have HO409 := n1_; have HB := n2_; clear n0_ n1_ n2_; (try clear hb); (try clear hb2); (try clear hk); (try clear hi); (try clear ho0)) | (go_at_call 35; (with_reducible refine (sets_Meet.calls kj4 _ _ l0 _ _ l1 t410 _ ?side1 ?side2 ?side3 ?side4 A13.out).mono ?_); (case side1 => repeat (first | exact (Kd.C_below HR0.out HB.out) | (with_reducible refine Kd.C_alloc ?_ _) | (with_reducible refine Kd.C_drewN ?_ _) | (with_reducible refine Kd.C_drew ?_))); (case side2 => exact HC0.out); (case side3 => repeat (first | exact (Kd.C_below HR1.out HB.out) | (with_reducible refine Kd.C_alloc ?_ _) | (with_reducible refine Kd.C_drewN ?_ _) | (with_reducible refine Kd.C_drew ?_))); (case side4 => exact HC1.out); rintro e w30 ⟨v411, rfl, ho0, hb⟩; have n0_ := Aside0.mk (Kd.R_elder' (by (with_reducible repeat (first | apply Kd.R_alloc | apply Kd.R_drewN | apply Kd.R_drew)); exact HO406.out) (Kd.R_base ho0) hb); have n1_ := Aside0.mk (Kd.R_elder' (by (with_reducible repeat (first | apply Kd.R_alloc | apply Kd.R_drewN | apply Kd.R_drew)); exact HO409.out) (Kd.R_base ho0) hb); have n2_ := Aside0.mk (Kd.R_lower (Kd.R_new' (Kd.R_new' ho0 (Kd.R_lt (by (with_reducible repeat (first | apply Kd.R_alloc | apply Kd.R_drewN | apply Kd.R_drew)); exact HO406.out))) (Kd.R_lt (by (with_reducible repeat (first | apply Kd.R_alloc | apply Kd.R_drewN | apply Kd.R_drew)); exact HO409.out))) (below_size hb_)); have n3_ := Aside0.mk (below_step hb_ hb); clear HO406; clear HO409; clear HB; have HO406 := n0_; have HO409 := n1_; have HO412 := n2_; have HB := n3_; clear n0_ n1_ n2_ n3_; (try clear hb); (try clear hb2); (try clear hk); (try clear hi); (try clear ho0)) | (go_at_call 35; (with_reducible refine (sets_Meet.calls kj4 _ _ l0 _ _ l2 t413 _ ?side1 ?side2 ?side3 ?side4 A14.out).mono ?_); (case side1 => repeat (first | exact (Kd.C_below HR0.out HB.out) | (with_reducible refine Kd.C_alloc ?_ _) | (with_reducible refine Kd.C_drewN ?_ _) | (with_reducible refine Kd.C_drew ?_))); (case side2 => exact HC0.out); (case side3 => repeat (first | exact (Kd.C_below HR2.out HB.out) | (with_reducible refine Kd.C_alloc ?_ _) | (with_reducible refine Kd.C_drewN ?_ _) | (with_reducible refine Kd.C_drew ?_))); (case side4 => exact HC2.out); rintro e w31 ⟨v414, rfl, ho0, hb⟩; have n0_ := Aside0.mk (Kd.R_elder' (by (with_reducible repeat (first | apply Kd.R_alloc | apply Kd.R_drewN | apply Kd.R_drew)); exact HO406.out) (Kd.R_base ho0) hb); have n1_ := Aside0.mk (Kd.R_elder' (by (with_reducible repeat (first | apply Kd.R_alloc | apply Kd.R_drewN | apply Kd.R_drew)); exact HO409.out) (Kd.R_base ho0) hb); have n2_ := Aside0.mk (Kd.R_elder' (by (with_reducible repeat (first | apply Kd.R_alloc | apply Kd.R_drewN | apply Kd.R_drew)); exact HO412.out) (Kd.R_base ho0) hb); have n3_ := Aside0.mk (Kd.R_lower (Kd.R_new' (Kd.R_new' (Kd.R_new' ho0 (Kd.R_lt (by (with_reducible repeat (first | apply Kd.R_alloc | apply Kd.R_drewN | apply Kd.R_drew)); exact HO406.out))) (Kd.R_lt (by (with_reducible repeat (first | apply Kd.R_alloc | apply Kd.R_drewN | apply Kd.R_drew)); exact HO409.out))) (Kd.R_lt (by (with_reducible repeat (first | apply Kd.R_alloc | apply Kd.R_drewN | apply Kd.R_drew)); exact HO412.out))) (below_size hb_)); have n4_ := Aside0.mk (below_step hb_ hb); clear HO406; clear HO409; clear HO412; clear HB; have HO406 := n0_; have HO409 := n1_; have HO412 := n2_; have HO415 := n3_; have HB := n4_; clear n0_ n1_ n2_ n3_ n4_; (try clear hb); (try clear hb2); (try clear hk); (try clear hi); (try clear ho0); obtain ⟨Ao32, co32, eo32⟩ := Kd.R_slice HO412.out; subst eo32; obtain ⟨Ao33, co33, eo33⟩ := Kd.R_slice HO415.out; subst eo33) | (go_at_call 34; (with_reducible refine (sets_Union.calls _ _ t410 _ _ t413 t416 _ ?side1 ?side2 ?side3 ?side4 A15.out).mono ?_); (case side1 => repeat (first | exact (Kd.R_reads' HO412.out).2.2 | (with_reducible refine Kd.C_alloc ?_ _) | (with_reducible refine Kd.C_drewN ?_ _) | (with_reducible refine Kd.C_drew ?_))); (case side2 => exact (Kd.R_reads' HO412.out).2.1); (case side3 => repeat (first | exact (Kd.R_reads' HO415.out).2.2 | (with_reducible refine Kd.C_alloc ?_ _) | (with_reducible refine Kd.C_drewN ?_ _) | (with_reducible refine Kd.C_drew ?_))); (case side4 => exact (Kd.R_reads' HO415.out).2.1); rintro e w34 ⟨v417, rfl, ho0, hb⟩; have n0_ := Aside0.mk (Kd.R_elder' (by (with_reducible repeat (first | apply Kd.R_alloc | apply Kd.R_drewN | apply Kd.R_drew)); exact HO406.out) (Kd.R_base ho0) hb); have n1_ := Aside0.mk (Kd.R_elder' (by (with_reducible repeat (first | apply Kd.R_alloc | apply Kd.R_drewN | apply Kd.R_drew)); exact HO409.out) (Kd.R_base ho0) hb); have n2_ := Aside0.mk (Kd.R_elder' (by (with_reducible repeat (first | apply Kd.R_alloc | apply Kd.R_drewN | apply Kd.R_drew)); exact HO412.out) (Kd.R_base ho0) hb); have n3_ := Aside0.mk (Kd.R_elder' (by (with_reducible repeat (first | apply Kd.R_alloc | apply Kd.R_drewN | apply Kd.R_drew)); exact HO415.out) (Kd.R_base ho0) hb); have n4_ := Aside0.mk (Kd.R_lower (Kd.R_new' (Kd.R_new' (Kd.R_new' (Kd.R_new' ho0 (Kd.R_lt (by (with_reducible repeat (first | apply Kd.R_alloc | apply Kd.R_drewN | apply Kd.R_drew)); exact HO406.out))) (Kd.R_lt (by (with_reducible repeat (first | apply Kd.R_alloc | apply Kd.R_drewN | apply Kd.R_drew)); exact HO409.out))) (Kd.R_lt (by (with_reducible repeat (first | apply Kd.R_alloc | apply Kd.R_drewN | apply Kd.R_drew)); exact HO412.out))) (Kd.R_lt (by (with_reducible repeat (first | apply Kd.R_alloc | apply Kd.R_drewN | apply Kd.R_drew)); exact HO415.out))) (below_size hb_)); have n5_ := Aside0.mk (below_step hb_ hb); clear HO406; clear HO409; clear HO412; clear HO415; clear HB; have HO406 := n0_; have HO409 := n1_; have HO412 := n2_; have HO415 := n3_; have HO418 := n4_; have HB := n5_; clear n0_ n1_ n2_ n3_ n4_ n5_; (try clear hb); (try clear hb2); (try clear hk); (try clear hi); (try clear ho0); obtain ⟨Ao35, co35, eo35⟩ := Kd.R_slice HO409.out; subst eo35; obtain ⟨Ao36, co36, eo36⟩ := Kd.R_slice HO418.out; subst eo36) | (go_at_call 21; (with_reducible refine (lustrumref04_Same.calls kj4 _ _ t407 _ _ t416 true _ ?side1 ?side2 ?side3 ?side4 A16.out).mono ?_); (case side1 => repeat (first | exact (Kd.R_reads' HO409.out).2.2 | (with_reducible refine Kd.C_alloc ?_ _) | (with_reducible refine Kd.C_drewN ?_ _) | (with_reducible refine Kd.C_drew ?_))); (case side2 => exact (Kd.R_reads' HO409.out).2.1); (case side3 => repeat (first | exact (Kd.R_reads' HO418.out).2.2 | (with_reducible refine Kd.C_alloc ?_ _) | (with_reducible refine Kd.C_drewN ?_ _) | (with_reducible refine Kd.C_drew ?_))); (case side4 => exact (Kd.R_reads' HO418.out).2.1); rintro e w' ⟨rfl, ⟨nd, rfl⟩⟩) | (go_at_call 36; (with_reducible refine (sets_Minus.calls kj4 _ _ l0 _ _ t404 t420 _ ?side1 ?side2 ?side3 ?side4 A18.out).mono ?_); (case side1 => repeat (first | exact (Kd.C_below HR0.out hb_) | (with_reducible refine Kd.C_alloc ?_ _) | (with_reducible refine Kd.C_drewN ?_ _) | (with_reducible refine Kd.C_drew ?_))); (case side2 => exact HC0.out); (case side3 => repeat (first | exact (Kd.R_reads' HO406.out).2.2 | (with_reducible refine Kd.C_alloc ?_ _) | (with_reducible refine Kd.C_drewN ?_ _) | (with_reducible refine Kd.C_drew ?_))); (case side4 => exact (Kd.R_reads' HO406.out).2.1); rintro e w37 ⟨v421, rfl, ho0, hb⟩; have n0_ := Aside0.mk (Kd.R_elder' (by (with_reducible repeat (first | apply Kd.R_alloc | apply Kd.R_drewN | apply Kd.R_drew)); exact HO406.out) (Kd.R_base ho0) hb); have n1_ := Aside0.mk (Kd.R_elder' (by (with_reducible repeat (first | apply Kd.R_alloc | apply Kd.R_drewN | apply Kd.R_drew)); exact HO409.out) (Kd.R_base ho0) hb); have n2_ := Aside0.mk (Kd.R_elder' (by (with_reducible repeat (first | apply Kd.R_alloc | apply Kd.R_drewN | apply Kd.R_drew)); exact HO412.out) (Kd.R_base ho0) hb); have n3_ := Aside0.mk (Kd.R_elder' (by (with_reducible repeat (first | apply Kd.R_alloc | apply Kd.R_drewN | apply Kd.R_drew)); exact HO415.out) (Kd.R_base ho0) hb); have n4_ := Aside0.mk (Kd.R_elder' (by (with_reducible repeat (first | apply Kd.R_alloc | apply Kd.R_drewN | apply Kd.R_drew)); exact HO418.out) (Kd.R_base ho0) hb); have n5_ := Aside0.mk (Kd.R_lower (Kd.R_new' (Kd.R_new' (Kd.R_new' (Kd.R_new' (Kd.R_new' ho0 (Kd.R_lt (by (with_reducible repeat (first | apply Kd.R_alloc | apply Kd.R_drewN | apply Kd.R_drew)); exact HO406.out))) (Kd.R_lt (by (with_reducible repeat (first | apply Kd.R_alloc | apply Kd.R_drewN | apply Kd.R_drew)); exact HO409.out))) (Kd.R_lt (by (with_reducible repeat (first | apply Kd.R_alloc | apply Kd.R_drewN | apply Kd.R_drew)); exact HO412.out))) (Kd.R_lt (by (with_reducible repeat (first | apply Kd.R_alloc | apply Kd.R_drewN | apply Kd.R_drew)); exact HO415.out))) (Kd.R_lt (by (with_reducible repeat (first | apply Kd.R_alloc | apply Kd.R_drewN | apply Kd.R_drew)); exact HO418.out))) (below_size hb_)); have n6_ := Aside0.mk (below_step hb_ hb); clear HO406; clear HO409; clear HO412; clear HO415; clear HO418; clear HB; have HO406 := n0_; have HO409 := n1_; have HO412 := n2_; have HO415 := n3_; have HO418 := n4_; have HO422 := n5_; have HB := n6_; clear n0_ n1_ n2_ n3_ n4_ n5_ n6_; (try clear hb); (try clear hb2); (try clear hk); (try clear hi); (try clear ho0)) | (go_at_call 36; (with_reducible refine (sets_Minus.calls kj4 _ _ l0 _ _ l1 t423 _ ?side1 ?side2 ?side3 ?side4 A19.out).mono ?_); (case side1 => repeat (first | exact (Kd.C_below HR0.out HB.out) | (with_reducible refine Kd.C_alloc ?_ _) | (with_reducible refine Kd.C_drewN ?_ _) | (with_reducible refine Kd.C_drew ?_))); (case side2 => exact HC0.out); (case side3 => repeat (first | exact (Kd.C_below HR1.out HB.out) | (with_reducible refine Kd.C_alloc ?_ _) | (with_reducible refine Kd.C_drewN ?_ _) | (with_reducible refine Kd.C_drew ?_))); (case side4 => exact HC1.out); rintro e w38 ⟨v424, rfl, ho0, hb⟩; have n0_ := Aside0.mk (Kd.R_elder' (by (with_reducible repeat (first | apply Kd.R_alloc | apply Kd.R_drewN | apply Kd.R_drew)); exact HO406.out) (Kd.R_base ho0) hb); have n1_ := Aside0.mk (Kd.R_elder' (by (with_reducible repeat (first | apply Kd.R_alloc | apply Kd.R_drewN | apply Kd.R_drew)); exact HO409.out) (Kd.R_base ho0) hb); have n2_ := Aside0.mk (Kd.R_elder' (by (with_reducible repeat (first | apply Kd.R_alloc | apply Kd.R_drewN | apply Kd.R_drew)); exact HO412.out) (Kd.R_base ho0) hb); have n3_ := Aside0.mk (Kd.R_elder' (by (with_reducible repeat (first | apply Kd.R_alloc | apply Kd.R_drewN | apply Kd.R_drew)); exact HO415.out) (Kd.R_base ho0) hb); have n4_ := Aside0.mk (Kd.R_elder' (by (with_reducible repeat (first | apply Kd.R_alloc | apply Kd.R_drewN | apply Kd.R_drew)); exact HO418.out) (Kd.R_base ho0) hb); have n5_ := Aside0.mk (Kd.R_elder' (by (with_reducible repeat (first | apply Kd.R_alloc | apply Kd.R_drewN | apply Kd.R_drew)); exact HO422.out) (Kd.R_base ho0) hb); have n6_ := Aside0.mk (Kd.R_lower (Kd.R_new' (Kd.R_new' (Kd.R_new' (Kd.R_new' (Kd.R_new' (Kd.R_new' ho0 (Kd.R_lt (by (with_reducible repeat (first | apply Kd.R_alloc | apply Kd.R_drewN | apply Kd.R_drew)); exact HO406.out))) (Kd.R_lt (by (with_reducible repeat (first | apply Kd.R_alloc | apply Kd.R_drewN | apply Kd.R_drew)); exact HO409.out))) (Kd.R_lt (by (with_reducible repeat (first | apply Kd.R_alloc | apply Kd.R_drewN | apply Kd.R_drew)); exact HO412.out))) (Kd.R_lt (by (with_reducible repeat (first | apply Kd.R_alloc | apply Kd.R_drewN | apply Kd.R_drew)); exact HO415.out))) (Kd.R_lt (by (with_reducible repeat (first | apply Kd.R_alloc | apply Kd.R_drewN | apply Kd.R_drew)); exact HO418.out))) (Kd.R_lt (by (with_reducible repeat (first | apply Kd.R_alloc | apply Kd.R_drewN | apply Kd.R_drew)); exact HO422.out))) (below_size hb_)); have n7_ := Aside0.mk (below_step hb_ hb); clear HO406; clear HO409; clear HO412; clear HO415; clear HO418; clear HO422; clear HB; have HO406 := n0_; have HO409 := n1_; have HO412 := n2_; have HO415 := n3_; have HO418 := n4_; have HO422 := n5_; have HO425 := n6_; have HB := n7_; clear n0_ n1_ n2_ n3_ n4_ n5_ n6_ n7_; (try clear hb); (try clear hb2); (try clear hk); (try clear hi); (try clear ho0); obtain ⟨Ao39, co39, eo39⟩ := Kd.R_slice HO425.out; subst eo39) | (go_at_call 36; (with_reducible refine (sets_Minus.calls kj4 _ _ t423 _ _ l2 t426 _ ?side1 ?side2 ?side3 ?side4 A20.out).mono ?_); (case side1 => repeat (first | exact (Kd.R_reads' HO425.out).2.2 | (with_reducible refine Kd.C_alloc ?_ _) | (with_reducible refine Kd.C_drewN ?_ _) | (with_reducible refine Kd.C_drew ?_))); (case side2 => exact (Kd.R_reads' HO425.out).2.1); (case side3 => repeat (first | exact (Kd.C_below HR2.out HB.out) | (with_reducible refine Kd.C_alloc ?_ _) | (with_reducible refine Kd.C_drewN ?_ _) | (with_reducible refine Kd.C_drew ?_))); (case side4 => exact HC2.out); rintro e w40 ⟨v427, rfl, ho0, hb⟩; have n0_ := Aside0.mk (Kd.R_elder' (by (with_reducible repeat (first | apply Kd.R_alloc | apply Kd.R_drewN | apply Kd.R_drew)); exact HO406.out) (Kd.R_base ho0) hb); have n1_ := Aside0.mk (Kd.R_elder' (by (with_reducible repeat (first | apply Kd.R_alloc | apply Kd.R_drewN | apply Kd.R_drew)); exact HO409.out) (Kd.R_base ho0) hb); have n2_ := Aside0.mk (Kd.R_elder' (by (with_reducible repeat (first | apply Kd.R_alloc | apply Kd.R_drewN | apply Kd.R_drew)); exact HO412.out) (Kd.R_base ho0) hb); have n3_ := Aside0.mk (Kd.R_elder' (by (with_reducible repeat (first | apply Kd.R_alloc | apply Kd.R_drewN | apply Kd.R_drew)); exact HO415.out) (Kd.R_base ho0) hb); have n4_ := Aside0.mk (Kd.R_elder' (by (with_reducible repeat (first | apply Kd.R_alloc | apply Kd.R_drewN | apply Kd.R_drew)); exact HO418.out) (Kd.R_base ho0) hb); have n5_ := Aside0.mk (Kd.R_elder' (by (with_reducible repeat (first | apply Kd.R_alloc | apply Kd.R_drewN | apply Kd.R_drew)); exact HO422.out) (Kd.R_base ho0) hb); have n6_ := Aside0.mk (Kd.R_elder' (by (with_reducible repeat (first | apply Kd.R_alloc | apply Kd.R_drewN | apply Kd.R_drew)); exact HO425.out) (Kd.R_base ho0) hb); have n7_ := Aside0.mk (Kd.R_lower (Kd.R_new' (Kd.R_new' (Kd.R_new' (Kd.R_new' (Kd.R_new' (Kd.R_new' (Kd.R_new' ho0 (Kd.R_lt (by (with_reducible repeat (first | apply Kd.R_alloc | apply Kd.R_drewN | apply Kd.R_drew)); exact HO406.out))) (Kd.R_lt (by (with_reducible repeat (first | apply Kd.R_alloc | apply Kd.R_drewN | apply Kd.R_drew)); exact HO409.out))) (Kd.R_lt (by (with_reducible repeat (first | apply Kd.R_alloc | apply Kd.R_drewN | apply Kd.R_drew)); exact HO412.out))) (Kd.R_lt (by (with_reducible repeat (first | apply Kd.R_alloc | apply Kd.R_drewN | apply Kd.R_drew)); exact HO415.out))) (Kd.R_lt (by (with_reducible repeat (first | apply Kd.R_alloc | apply Kd.R_drewN | apply Kd.R_drew)); exact HO418.out))) (Kd.R_lt (by (with_reducible repeat (first | apply Kd.R_alloc | apply Kd.R_drewN | apply Kd.R_drew)); exact HO422.out))) (Kd.R_lt (by (with_reducible repeat (first | apply Kd.R_alloc | apply Kd.R_drewN | apply Kd.R_drew)); exact HO425.out))) (below_size hb_)); have n8_ := Aside0.mk (below_step hb_ hb); clear HO406; clear HO409; clear HO412; clear HO415; clear HO418; clear HO422; clear HO425; clear HB; have HO406 := n0_; have HO409 := n1_; have HO412 := n2_; have HO415 := n3_; have HO418 := n4_; have HO422 := n5_; have HO425 := n6_; have HO428 := n7_; have HB := n8_; clear n0_ n1_ n2_ n3_ n4_ n5_ n6_ n7_ n8_; (try clear hb); (try clear hb2); (try clear hk); (try clear hi); (try clear ho0); obtain ⟨Ao41, co41, eo41⟩ := Kd.R_slice HO422.out; subst eo41; obtain ⟨Ao42, co42, eo42⟩ := Kd.R_slice HO428.out; subst eo42) | (go_at_call 21; (with_reducible refine (lustrumref04_Same.calls kj4 _ _ t420 _ _ t426 true _ ?side1 ?side2 ?side3 ?side4 A21.out).mono ?_); (case side1 => repeat (first | exact (Kd.R_reads' HO422.out).2.2 | (with_reducible refine Kd.C_alloc ?_ _) | (with_reducible refine Kd.C_drewN ?_ _) | (with_reducible refine Kd.C_drew ?_))); (case side2 => exact (Kd.R_reads' HO422.out).2.1); (case side3 => repeat (first | exact (Kd.R_reads' HO428.out).2.2 | (with_reducible refine Kd.C_alloc ?_ _) | (with_reducible refine Kd.C_drewN ?_ _) | (with_reducible refine Kd.C_drew ?_))); (case side4 => exact (Kd.R_reads' HO428.out).2.1); rintro e w' ⟨rfl, ⟨nd, rfl⟩⟩) | (go_at_call 34; (with_reducible refine (sets_Union.calls _ _ l0 _ _ t404 t430 _ ?side1 ?side2 ?side3 ?side4 A23.out).mono ?_); (case side1 => repeat (first | exact (Kd.C_below HR0.out hb_) | (with_reducible refine Kd.C_alloc ?_ _) | (with_reducible refine Kd.C_drewN ?_ _) | (with_reducible refine Kd.C_drew ?_))); (case side2 => exact HC0.out); (case side3 => repeat (first | exact (Kd.R_reads' HO406.out).2.2 | (with_reducible refine Kd.C_alloc ?_ _) | (with_reducible refine Kd.C_drewN ?_ _) | (with_reducible refine Kd.C_drew ?_))); (case side4 => exact (Kd.R_reads' HO406.out).2.1); rintro e w43 ⟨v431, rfl, ho0, hb⟩; have n0_ := Aside0.mk (Kd.R_elder' (by (with_reducible repeat (first | apply Kd.R_alloc | apply Kd.R_drewN | apply Kd.R_drew)); exact HO406.out) (Kd.R_base ho0) hb); have n1_ := Aside0.mk (Kd.R_elder' (by (with_reducible repeat (first | apply Kd.R_alloc | apply Kd.R_drewN | apply Kd.R_drew)); exact HO409.out) (Kd.R_base ho0) hb); have n2_ := Aside0.mk (Kd.R_elder' (by (with_reducible repeat (first | apply Kd.R_alloc | apply Kd.R_drewN | apply Kd.R_drew)); exact HO412.out) (Kd.R_base ho0) hb); have n3_ := Aside0.mk (Kd.R_elder' (by (with_reducible repeat (first | apply Kd.R_alloc | apply Kd.R_drewN | apply Kd.R_drew)); exact HO415.out) (Kd.R_base ho0) hb); have n4_ := Aside0.mk (Kd.R_elder' (by (with_reducible repeat (first | apply Kd.R_alloc | apply Kd.R_drewN | apply Kd.R_drew)); exact HO418.out) (Kd.R_base ho0) hb); have n5_ := Aside0.mk (Kd.R_elder' (by (with_reducible repeat (first | apply Kd.R_alloc | apply Kd.R_drewN | apply Kd.R_drew)); exact HO422.out) (Kd.R_base ho0) hb); have n6_ := Aside0.mk (Kd.R_elder' (by (with_reducible repeat (first | apply Kd.R_alloc | apply Kd.R_drewN | apply Kd.R_drew)); exact HO425.out) (Kd.R_base ho0) hb); have n7_ := Aside0.mk (Kd.R_elder' (by (with_reducible repeat (first | apply Kd.R_alloc | apply Kd.R_drewN | apply Kd.R_drew)); exact HO428.out) (Kd.R_base ho0) hb); have n8_ := Aside0.mk (Kd.R_lower (Kd.R_new' (Kd.R_new' (Kd.R_new' (Kd.R_new' (Kd.R_new' (Kd.R_new' (Kd.R_new' (Kd.R_new' ho0 (Kd.R_lt (by (with_reducible repeat (first | apply Kd.R_alloc | apply Kd.R_drewN | apply Kd.R_drew)); exact HO406.out))) (Kd.R_lt (by (with_reducible repeat (first | apply Kd.R_alloc | apply Kd.R_drewN | apply Kd.R_drew)); exact HO409.out))) (Kd.R_lt (by (with_reducible repeat (first | apply Kd.R_alloc | apply Kd.R_drewN | apply Kd.R_drew)); exact HO412.out))) (Kd.R_lt (by (with_reducible repeat (first | apply Kd.R_alloc | apply Kd.R_drewN | apply Kd.R_drew)); exact HO415.out))) (Kd.R_lt (by (with_reducible repeat (first | apply Kd.R_alloc | apply Kd.R_drewN | apply Kd.R_drew)); exact HO418.out))) (Kd.R_lt (by (with_reducible repeat (first | apply Kd.R_alloc | apply Kd.R_drewN | apply Kd.R_drew)); exact HO422.out))) (Kd.R_lt (by (with_reducible repeat (first | apply Kd.R_alloc | apply Kd.R_drewN | apply Kd.R_drew)); exact HO425.out))) (Kd.R_lt (by (with_reducible repeat (first | apply Kd.R_alloc | apply Kd.R_drewN | apply Kd.R_drew)); exact HO428.out))) (below_size hb_)); have n9_ := Aside0.mk (below_step hb_ hb); clear HO406; clear HO409; clear HO412; clear HO415; clear HO418; clear HO422; clear HO425; clear HO428; clear HB; have HO406 := n0_; have HO409 := n1_; have HO412 := n2_; have HO415 := n3_; have HO418 := n4_; have HO422 := n5_; have HO425 := n6_; have HO428 := n7_; have HO432 := n8_; have HB := n9_; clear n0_ n1_ n2_ n3_ n4_ n5_ n6_ n7_ n8_ n9_; (try clear hb); (try clear hb2); (try clear hk); (try clear hi); (try clear ho0)) | (go_at_call 34; (with_reducible refine (sets_Union.calls _ _ l0 _ _ l1 t433 _ ?side1 ?side2 ?side3 ?side4 A24.out).mono ?_); (case side1 => repeat (first | exact (Kd.C_below HR0.out HB.out) | (with_reducible refine Kd.C_alloc ?_ _) | (with_reducible refine Kd.C_drewN ?_ _) | (with_reducible refine Kd.C_drew ?_))); (case side2 => exact HC0.out); (case side3 => repeat (first | exact (Kd.C_below HR1.out HB.out) | (with_reducible refine Kd.C_alloc ?_ _) | (with_reducible refine Kd.C_drewN ?_ _) | (with_reducible refine Kd.C_drew ?_))); (case side4 => exact HC1.out); rintro e w44 ⟨v434, rfl, ho0, hb⟩; have n0_ := Aside0.mk (Kd.R_elder' (by (with_reducible repeat (first | apply Kd.R_alloc | apply Kd.R_drewN | apply Kd.R_drew)); exact HO406.out) (Kd.R_base ho0) hb); have n1_ := Aside0.mk (Kd.R_elder' (by (with_reducible repeat (first | apply Kd.R_alloc | apply Kd.R_drewN | apply Kd.R_drew)); exact HO409.out) (Kd.R_base ho0) hb); have n2_ := Aside0.mk (Kd.R_elder' (by (with_reducible repeat (first | apply Kd.R_alloc | apply Kd.R_drewN | apply Kd.R_drew)); exact HO412.out) (Kd.R_base ho0) hb); have n3_ := Aside0.mk (Kd.R_elder' (by (with_reducible repeat (first | apply Kd.R_alloc | apply Kd.R_drewN | apply Kd.R_drew)); exact HO415.out) (Kd.R_base ho0) hb); have n4_ := Aside0.mk (Kd.R_elder' (by (with_reducible repeat (first | apply Kd.R_alloc | apply Kd.R_drewN | apply Kd.R_drew)); exact HO418.out) (Kd.R_base ho0) hb); have n5_ := Aside0.mk (Kd.R_elder' (by (with_reducible repeat (first | apply Kd.R_alloc | apply Kd.R_drewN | apply Kd.R_drew)); exact HO422.out) (Kd.R_base ho0) hb); have n6_ := Aside0.mk (Kd.R_elder' (by (with_reducible repeat (first | apply Kd.R_alloc | apply Kd.R_drewN | apply Kd.R_drew)); exact HO425.out) (Kd.R_base ho0) hb); have n7_ := Aside0.mk (Kd.R_elder' (by (with_reducible repeat (first | apply Kd.R_alloc | apply Kd.R_drewN | apply Kd.R_drew)); exact HO428.out) (Kd.R_base ho0) hb); have n8_ := Aside0.mk (Kd.R_elder' (by (with_reducible repeat (first | apply Kd.R_alloc | apply Kd.R_drewN | apply Kd.R_drew)); exact HO432.out) (Kd.R_base ho0) hb); have n9_ := Aside0.mk (Kd.R_lower (Kd.R_new' (Kd.R_new' (Kd.R_new' (Kd.R_new' (Kd.R_new' (Kd.R_new' (Kd.R_new' (Kd.R_new' (Kd.R_new' ho0 (Kd.R_lt (by (with_reducible repeat (first | apply Kd.R_alloc | apply Kd.R_drewN | apply Kd.R_drew)); exact HO406.out))) (Kd.R_lt (by (with_reducible repeat (first | apply Kd.R_alloc | apply Kd.R_drewN | apply Kd.R_drew)); exact HO409.out))) (Kd.R_lt (by (with_reducible repeat (first | apply Kd.R_alloc | apply Kd.R_drewN | apply Kd.R_drew)); exact HO412.out))) (Kd.R_lt (by (with_reducible repeat (first | apply Kd.R_alloc | apply Kd.R_drewN | apply Kd.R_drew)); exact HO415.out))) (Kd.R_lt (by (with_reducible repeat (first | apply Kd.R_alloc | apply Kd.R_drewN | apply Kd.R_drew)); exact HO418.out))) (Kd.R_lt (by (with_reducible repeat (first | apply Kd.R_alloc | apply Kd.R_drewN | apply Kd.R_drew)); exact HO422.out))) (Kd.R_lt (by (with_reducible repeat (first | apply Kd.R_alloc | apply Kd.R_drewN | apply Kd.R_drew)); exact HO425.out))) (Kd.R_lt (by (with_reducible repeat (first | apply Kd.R_alloc | apply Kd.R_drewN | apply Kd.R_drew)); exact HO428.out))) (Kd.R_lt (by (with_reducible repeat (first | apply Kd.R_alloc | apply Kd.R_drewN | apply Kd.R_drew)); exact HO432.out))) (below_size hb_)); have n10_ := Aside0.mk (below_step hb_ hb); clear HO406; clear HO409; clear HO412; clear HO415; clear HO418; clear HO422; clear HO425; clear HO428; clear HO432; clear HB; have HO406 := n0_; have HO409 := n1_; have HO412 := n2_; have HO415 := n3_; have HO418 := n4_; have HO422 := n5_; have HO425 := n6_; have HO428 := n7_; have HO432 := n8_; have HO435 := n9_; have HB := n10_; clear n0_ n1_ n2_ n3_ n4_ n5_ n6_ n7_ n8_ n9_ n10_; (try clear hb); (try clear hb2); (try clear hk); (try clear hi); (try clear ho0); obtain ⟨Ao45, co45, eo45⟩ := Kd.R_slice HO435.out; subst eo45) | (go_at_call 34; (with_reducible refine (sets_Union.calls _ _ t433 _ _ l2 t436 _ ?side1 ?side2 ?side3 ?side4 A25.out).mono ?_); (case side1 => repeat (first | exact (Kd.R_reads' HO435.out).2.2 | (with_reducible refine Kd.C_alloc ?_ _) | (with_reducible refine Kd.C_drewN ?_ _) | (with_reducible refine Kd.C_drew ?_))); (case side2 => exact (Kd.R_reads' HO435.out).2.1); (case side3 => repeat (first | exact (Kd.C_below HR2.out HB.out) | (with_reducible refine Kd.C_alloc ?_ _) | (with_reducible refine Kd.C_drewN ?_ _) | (with_reducible refine Kd.C_drew ?_))); (case side4 => exact HC2.out); rintro e w46 ⟨v437, rfl, ho0, hb⟩; have n0_ := Aside0.mk (Kd.R_elder' (by (with_reducible repeat (first | apply Kd.R_alloc | apply Kd.R_drewN | apply Kd.R_drew)); exact HO406.out) (Kd.R_base ho0) hb); have n1_ := Aside0.mk (Kd.R_elder' (by (with_reducible repeat (first | apply Kd.R_alloc | apply Kd.R_drewN | apply Kd.R_drew)); exact HO409.out) (Kd.R_base ho0) hb); have n2_ := Aside0.mk (Kd.R_elder' (by (with_reducible repeat (first | apply Kd.R_alloc | apply Kd.R_drewN | apply Kd.R_drew)); exact HO412.out) (Kd.R_base ho0) hb); have n3_ := Aside0.mk (Kd.R_elder' (by (with_reducible repeat (first | apply Kd.R_alloc | apply Kd.R_drewN | apply Kd.R_drew)); exact HO415.out) (Kd.R_base ho0) hb); have n4_ := Aside0.mk (Kd.R_elder' (by (with_reducible repeat (first | apply Kd.R_alloc | apply Kd.R_drewN | apply Kd.R_drew)); exact HO418.out) (Kd.R_base ho0) hb); have n5_ := Aside0.mk (Kd.R_elder' (by (with_reducible repeat (first | apply Kd.R_alloc | apply Kd.R_drewN | apply Kd.R_drew)); exact HO422.out) (Kd.R_base ho0) hb); have n6_ := Aside0.mk (Kd.R_elder' (by (with_reducible repeat (first | apply Kd.R_alloc | apply Kd.R_drewN | apply Kd.R_drew)); exact HO425.out) (Kd.R_base ho0) hb); have n7_ := Aside0.mk (Kd.R_elder' (by (with_reducible repeat (first | apply Kd.R_alloc | apply Kd.R_drewN | apply Kd.R_drew)); exact HO428.out) (Kd.R_base ho0) hb); have n8_ := Aside0.mk (Kd.R_elder' (by (with_reducible repeat (first | apply Kd.R_alloc | apply Kd.R_drewN | apply Kd.R_drew)); exact HO432.out) (Kd.R_base ho0) hb); have n9_ := Aside0.mk (Kd.R_elder' (by (with_reducible repeat (first | apply Kd.R_alloc | apply Kd.R_drewN | apply Kd.R_drew)); exact HO435.out) (Kd.R_base ho0) hb); have n10_ := Aside0.mk (Kd.R_lower (Kd.R_new' (Kd.R_new' (Kd.R_new' (Kd.R_new' (Kd.R_new' (Kd.R_new' (Kd.R_new' (Kd.R_new' (Kd.R_new' (Kd.R_new' ho0 (Kd.R_lt (by (with_reducible repeat (first | apply Kd.R_alloc | apply Kd.R_drewN | apply Kd.R_drew)); exact HO406.out))) (Kd.R_lt (by (with_reducible repeat (first | apply Kd.R_alloc | apply Kd.R_drewN | apply Kd.R_drew)); exact HO409.out))) (Kd.R_lt (by (with_reducible repeat (first | apply Kd.R_alloc | apply Kd.R_drewN | apply Kd.R_drew)); exact HO412.out))) (Kd.R_lt (by (with_reducible repeat (first | apply Kd.R_alloc | apply Kd.R_drewN | apply Kd.R_drew)); exact HO415.out))) (Kd.R_lt (by (with_reducible repeat (first | apply Kd.R_alloc | apply Kd.R_drewN | apply Kd.R_drew)); exact HO418.out))) (Kd.R_lt (by (with_reducible repeat (first | apply Kd.R_alloc | apply Kd.R_drewN | apply Kd.R_drew)); exact HO422.out))) (Kd.R_lt (by (with_reducible repeat (first | apply Kd.R_alloc | apply Kd.R_drewN | apply Kd.R_drew)); exact HO425.out))) (Kd.R_lt (by (with_reducible repeat (first | apply Kd.R_alloc | apply Kd.R_drewN | apply Kd.R_drew)); exact HO428.out))) (Kd.R_lt (by (with_reducible repeat (first | apply Kd.R_alloc | apply Kd.R_drewN | apply Kd.R_drew)); exact HO432.out))) (Kd.R_lt (by (with_reducible repeat (first | apply Kd.R_alloc | apply Kd.R_drewN | apply Kd.R_drew)); exact HO435.out))) (below_size hb_)); have n11_ := Aside0.mk (below_step hb_ hb); clear HO406; clear HO409; clear HO412; clear HO415; clear HO418; clear HO422; clear HO425; clear HO428; clear HO432; clear HO435; clear HB; have HO406 := n0_; have HO409 := n1_; have HO412 := n2_; have HO415 := n3_; have HO418 := n4_; have HO422 := n5_; have HO425 := n6_; have HO428 := n7_; have HO432 := n8_; have HO435 := n9_; have HO438 := n10_; have HB := n11_; clear n0_ n1_ n2_ n3_ n4_ n5_ n6_ n7_ n8_ n9_ n10_ n11_; (try clear hb); (try clear hb2); (try clear hk); (try clear hi); (try clear ho0); obtain ⟨Ao47, co47, eo47⟩ := Kd.R_slice HO432.out; subst eo47; obtain ⟨Ao48, co48, eo48⟩ := Kd.R_slice HO438.out; subst eo48) | (go_at_call 21; (with_reducible refine (lustrumref04_Same.calls kj4 _ _ t430 _ _ t436 t439 _ ?side1 ?side2 ?side3 ?side4 A26.out).mono ?_); (case side1 => repeat (first | exact (Kd.R_reads' HO432.out).2.2 | (with_reducible refine Kd.C_alloc ?_ _) | (with_reducible refine Kd.C_drewN ?_ _) | (with_reducible refine Kd.C_drew ?_))); (case side2 => exact (Kd.R_reads' HO432.out).2.1); (case side3 => repeat (first | exact (Kd.R_reads' HO438.out).2.2 | (with_reducible refine Kd.C_alloc ?_ _) | (with_reducible refine Kd.C_drewN ?_ _) | (with_reducible refine Kd.C_drew ?_))); (case side4 => exact (Kd.R_reads' HO438.out).2.1); rintro e w' ⟨rfl, ⟨nd, rfl⟩⟩))
       go_ret; exact ⟨re_, hb_⟩
      ·replace c22 := Bool.eq_false_iff.mpr c22
       subst c22; (have H1 : (some false) = some r := by rw [if_neg (show ¬ (false = true) by decide)] at H; exact H); clear H; have H := H1; clear H1; obtain rfl := Option.some.inj H; go_wp2_with (first | ((with_reducible refine gate_callee (f := 34) rfl ?_); refine goesL_ (some 26) rfl rfl Try.func34 (by kernel_rfl) rfl #[.slice A1 l1.length c1, .slice A2 l2.length c2] rfl ml_ ?_; (with_reducible refine (sets_Union.calls _ _ l1 _ _ l2 t404 _ ?side1 ?side2 ?side3 ?side4 A10.out).mono ?_); (case side1 => repeat (first | exact (Kd.C_below HR1.out HB.out) | (with_reducible refine Kd.C_alloc ?_ _) | (with_reducible refine Kd.C_drewN ?_ _) | (with_reducible refine Kd.C_drew ?_))); (case side2 => exact HC1.out); (case side3 => repeat (first | exact (Kd.C_below HR2.out HB.out) | (with_reducible refine Kd.C_alloc ?_ _) | (with_reducible refine Kd.C_drewN ?_ _) | (with_reducible refine Kd.C_drew ?_))); (case side4 => exact HC2.out); rintro e w49 ⟨v405, rfl, ho0, hb⟩; refine ⟨_, rfl, ?_⟩; have n0_ := Aside0.mk (Kd.R_lower ho0 (below_size hb_)); have n1_ := Aside0.mk (below_step hb_ hb); clear HB; have HO406 := n0_; have HB := n1_; clear n0_ n1_; (try clear hb); (try clear hb2); (try clear hk); (try clear hi); (try clear ho0); obtain ⟨Ao50, co50, eo50⟩ := Kd.R_slice HO406.out; subst eo50) | (go_at_call 35; (with_reducible refine (sets_Meet.calls kj4 _ _ l0 _ _ t404 t407 _ ?side1 ?side2 ?side3 ?side4 A12.out).mono ?_); (case side1 => repeat (first | exact (Kd.C_below HR0.out HB.out) | (with_reducible refine Kd.C_alloc ?_ _) | (with_reducible refine Kd.C_drewN ?_ _) | (with_reducible refine Kd.C_drew ?_))); (case side2 => exact HC0.out); (case side3 => repeat (first | exact (Kd.R_reads' HO406.out).2.2 | (with_reducible refine Kd.C_alloc ?_ _) | (with_reducible refine Kd.C_drewN ?_ _) | (with_reducible refine Kd.C_drew ?_))); (case side4 => exact (Kd.R_reads' HO406.out).2.1); rintro e w51 ⟨v408, rfl, ho0, hb⟩; have n0_ := Aside0.mk (Kd.R_elder' (by (with_reducible repeat (first | apply Kd.R_alloc | apply Kd.R_drewN | apply Kd.R_drew)); exact HO406.out) (Kd.R_base ho0) hb); have n1_ := Aside0.mk (Kd.R_lower (Kd.R_new' ho0 (Kd.R_lt (by (with_reducible repeat (first | apply Kd.R_alloc | apply Kd.R_drewN | apply Kd.R_drew)); exact HO406.out))) (below_size hb_)); have n2_ := Aside0.mk (below_step hb_ hb); clear HO406; clear HB; have HO406 := n0_; have HO409 := n1_; have HB := n2_; clear n0_ n1_ n2_; (try clear hb); (try clear hb2); (try clear hk); (try clear hi); (try clear ho0)) | (go_at_call 35; (with_reducible refine (sets_Meet.calls kj4 _ _ l0 _ _ l1 t410 _ ?side1 ?side2 ?side3 ?side4 A13.out).mono ?_); (case side1 => repeat (first | exact (Kd.C_below HR0.out HB.out) | (with_reducible refine Kd.C_alloc ?_ _) | (with_reducible refine Kd.C_drewN ?_ _) | (with_reducible refine Kd.C_drew ?_))); (case side2 => exact HC0.out); (case side3 => repeat (first | exact (Kd.C_below HR1.out HB.out) | (with_reducible refine Kd.C_alloc ?_ _) | (with_reducible refine Kd.C_drewN ?_ _) | (with_reducible refine Kd.C_drew ?_))); (case side4 => exact HC1.out); rintro e w52 ⟨v411, rfl, ho0, hb⟩; have n0_ := Aside0.mk (Kd.R_elder' (by (with_reducible repeat (first | apply Kd.R_alloc | apply Kd.R_drewN | apply Kd.R_drew)); exact HO406.out) (Kd.R_base ho0) hb); have n1_ := Aside0.mk (Kd.R_elder' (by (with_reducible repeat (first | apply Kd.R_alloc | apply Kd.R_drewN | apply Kd.R_drew)); exact HO409.out) (Kd.R_base ho0) hb); have n2_ := Aside0.mk (Kd.R_lower (Kd.R_new' (Kd.R_new' ho0 (Kd.R_lt (by (with_reducible repeat (first | apply Kd.R_alloc | apply Kd.R_drewN | apply Kd.R_drew)); exact HO406.out))) (Kd.R_lt (by (with_reducible repeat (first | apply Kd.R_alloc | apply Kd.R_drewN | apply Kd.R_drew)); exact HO409.out))) (below_size hb_)); have n3_ := Aside0.mk (below_step hb_ hb); clear HO406; clear HO409; clear HB; have HO406 := n0_; have HO409 := n1_; have HO412 := n2_; have HB := n3_; clear n0_ n1_ n2_ n3_; (try clear hb); (try clear hb2); (try clear hk); (try clear hi); (try clear ho0)) | (go_at_call 35; (with_reducible refine (sets_Meet.calls kj4 _ _ l0 _ _ l2 t413 _ ?side1 ?side2 ?side3 ?side4 A14.out).mono ?_); (case side1 => repeat (first | exact (Kd.C_below HR0.out HB.out) | (with_reducible refine Kd.C_alloc ?_ _) | (with_reducible refine Kd.C_drewN ?_ _) | (with_reducible refine Kd.C_drew ?_))); (case side2 => exact HC0.out); (case side3 => repeat (first | exact (Kd.C_below HR2.out HB.out) | (with_reducible refine Kd.C_alloc ?_ _) | (with_reducible refine Kd.C_drewN ?_ _) | (with_reducible refine Kd.C_drew ?_))); (case side4 => exact HC2.out); rintro e w53 ⟨v414, rfl, ho0, hb⟩; have n0_ := Aside0.mk (Kd.R_elder' (by (with_reducible repeat (first | apply Kd.R_alloc | apply Kd.R_drewN | apply Kd.R_drew)); exact HO406.out) (Kd.R_base ho0) hb); have n1_ := Aside0.mk (Kd.R_elder' (by (with_reducible repeat (first | apply Kd.R_alloc | apply Kd.R_drewN | apply Kd.R_drew)); exact HO409.out) (Kd.R_base ho0) hb); have n2_ := Aside0.mk (Kd.R_elder' (by (with_reducible repeat (first | apply Kd.R_alloc | apply Kd.R_drewN | apply Kd.R_drew)); exact HO412.out) (Kd.R_base ho0) hb); have n3_ := Aside0.mk (Kd.R_lower (Kd.R_new' (Kd.R_new' (Kd.R_new' ho0 (Kd.R_lt (by (with_reducible repeat (first | apply Kd.R_alloc | apply Kd.R_drewN | apply Kd.R_drew)); exact HO406.out))) (Kd.R_lt (by (with_reducible repeat (first | apply Kd.R_alloc | apply Kd.R_drewN | apply Kd.R_drew)); exact HO409.out))) (Kd.R_lt (by (with_reducible repeat (first | apply Kd.R_alloc | apply Kd.R_drewN | apply Kd.R_drew)); exact HO412.out))) (below_size hb_)); have n4_ := Aside0.mk (below_step hb_ hb); clear HO406; clear HO409; clear HO412; clear HB; have HO406 := n0_; have HO409 := n1_; have HO412 := n2_; have HO415 := n3_; have HB := n4_; clear n0_ n1_ n2_ n3_ n4_; (try clear hb); (try clear hb2); (try clear hk); (try clear hi); (try clear ho0); obtain ⟨Ao54, co54, eo54⟩ := Kd.R_slice HO412.out; subst eo54; obtain ⟨Ao55, co55, eo55⟩ := Kd.R_slice HO415.out; subst eo55) | (go_at_call 34; (with_reducible refine (sets_Union.calls _ _ t410 _ _ t413 t416 _ ?side1 ?side2 ?side3 ?side4 A15.out).mono ?_); (case side1 => repeat (first | exact (Kd.R_reads' HO412.out).2.2 | (with_reducible refine Kd.C_alloc ?_ _) | (with_reducible refine Kd.C_drewN ?_ _) | (with_reducible refine Kd.C_drew ?_))); (case side2 => exact (Kd.R_reads' HO412.out).2.1); (case side3 => repeat (first | exact (Kd.R_reads' HO415.out).2.2 | (with_reducible refine Kd.C_alloc ?_ _) | (with_reducible refine Kd.C_drewN ?_ _) | (with_reducible refine Kd.C_drew ?_))); (case side4 => exact (Kd.R_reads' HO415.out).2.1); rintro e w56 ⟨v417, rfl, ho0, hb⟩; have n0_ := Aside0.mk (Kd.R_elder' (by (with_reducible repeat (first | apply Kd.R_alloc | apply Kd.R_drewN | apply Kd.R_drew)); exact HO406.out) (Kd.R_base ho0) hb); have n1_ := Aside0.mk (Kd.R_elder' (by (with_reducible repeat (first | apply Kd.R_alloc | apply Kd.R_drewN | apply Kd.R_drew)); exact HO409.out) (Kd.R_base ho0) hb); have n2_ := Aside0.mk (Kd.R_elder' (by (with_reducible repeat (first | apply Kd.R_alloc | apply Kd.R_drewN | apply Kd.R_drew)); exact HO412.out) (Kd.R_base ho0) hb); have n3_ := Aside0.mk (Kd.R_elder' (by (with_reducible repeat (first | apply Kd.R_alloc | apply Kd.R_drewN | apply Kd.R_drew)); exact HO415.out) (Kd.R_base ho0) hb); have n4_ := Aside0.mk (Kd.R_lower (Kd.R_new' (Kd.R_new' (Kd.R_new' (Kd.R_new' ho0 (Kd.R_lt (by (with_reducible repeat (first | apply Kd.R_alloc | apply Kd.R_drewN | apply Kd.R_drew)); exact HO406.out))) (Kd.R_lt (by (with_reducible repeat (first | apply Kd.R_alloc | apply Kd.R_drewN | apply Kd.R_drew)); exact HO409.out))) (Kd.R_lt (by (with_reducible repeat (first | apply Kd.R_alloc | apply Kd.R_drewN | apply Kd.R_drew)); exact HO412.out))) (Kd.R_lt (by (with_reducible repeat (first | apply Kd.R_alloc | apply Kd.R_drewN | apply Kd.R_drew)); exact HO415.out))) (below_size hb_)); have n5_ := Aside0.mk (below_step hb_ hb); clear HO406; clear HO409; clear HO412; clear HO415; clear HB; have HO406 := n0_; have HO409 := n1_; have HO412 := n2_; have HO415 := n3_; have HO418 := n4_; have HB := n5_; clear n0_ n1_ n2_ n3_ n4_ n5_; (try clear hb); (try clear hb2); (try clear hk); (try clear hi); (try clear ho0); obtain ⟨Ao57, co57, eo57⟩ := Kd.R_slice HO409.out; subst eo57; obtain ⟨Ao58, co58, eo58⟩ := Kd.R_slice HO418.out; subst eo58) | (go_at_call 21; (with_reducible refine (lustrumref04_Same.calls kj4 _ _ t407 _ _ t416 true _ ?side1 ?side2 ?side3 ?side4 A16.out).mono ?_); (case side1 => repeat (first | exact (Kd.R_reads' HO409.out).2.2 | (with_reducible refine Kd.C_alloc ?_ _) | (with_reducible refine Kd.C_drewN ?_ _) | (with_reducible refine Kd.C_drew ?_))); (case side2 => exact (Kd.R_reads' HO409.out).2.1); (case side3 => repeat (first | exact (Kd.R_reads' HO418.out).2.2 | (with_reducible refine Kd.C_alloc ?_ _) | (with_reducible refine Kd.C_drewN ?_ _) | (with_reducible refine Kd.C_drew ?_))); (case side4 => exact (Kd.R_reads' HO418.out).2.1); rintro e w' ⟨rfl, ⟨nd, rfl⟩⟩) | (go_at_call 36; (with_reducible refine (sets_Minus.calls kj4 _ _ l0 _ _ t404 t420 _ ?side1 ?side2 ?side3 ?side4 A18.out).mono ?_); (case side1 => repeat (first | exact (Kd.C_below HR0.out hb_) | (with_reducible refine Kd.C_alloc ?_ _) | (with_reducible refine Kd.C_drewN ?_ _) | (with_reducible refine Kd.C_drew ?_))); (case side2 => exact HC0.out); (case side3 => repeat (first | exact (Kd.R_reads' HO406.out).2.2 | (with_reducible refine Kd.C_alloc ?_ _) | (with_reducible refine Kd.C_drewN ?_ _) | (with_reducible refine Kd.C_drew ?_))); (case side4 => exact (Kd.R_reads' HO406.out).2.1); rintro e w59 ⟨v421, rfl, ho0, hb⟩; have n0_ := Aside0.mk (Kd.R_elder' (by (with_reducible repeat (first | apply Kd.R_alloc | apply Kd.R_drewN | apply Kd.R_drew)); exact HO406.out) (Kd.R_base ho0) hb); have n1_ := Aside0.mk (Kd.R_elder' (by (with_reducible repeat (first | apply Kd.R_alloc | apply Kd.R_drewN | apply Kd.R_drew)); exact HO409.out) (Kd.R_base ho0) hb); have n2_ := Aside0.mk (Kd.R_elder' (by (with_reducible repeat (first | apply Kd.R_alloc | apply Kd.R_drewN | apply Kd.R_drew)); exact HO412.out) (Kd.R_base ho0) hb); have n3_ := Aside0.mk (Kd.R_elder' (by (with_reducible repeat (first | apply Kd.R_alloc | apply Kd.R_drewN | apply Kd.R_drew)); exact HO415.out) (Kd.R_base ho0) hb); have n4_ := Aside0.mk (Kd.R_elder' (by (with_reducible repeat (first | apply Kd.R_alloc | apply Kd.R_drewN | apply Kd.R_drew)); exact HO418.out) (Kd.R_base ho0) hb); have n5_ := Aside0.mk (Kd.R_lower (Kd.R_new' (Kd.R_new' (Kd.R_new' (Kd.R_new' (Kd.R_new' ho0 (Kd.R_lt (by (with_reducible repeat (first | apply Kd.R_alloc | apply Kd.R_drewN | apply Kd.R_drew)); exact HO406.out))) (Kd.R_lt (by (with_reducible repeat (first | apply Kd.R_alloc | apply Kd.R_drewN | apply Kd.R_drew)); exact HO409.out))) (Kd.R_lt (by (with_reducible repeat (first | apply Kd.R_alloc | apply Kd.R_drewN | apply Kd.R_drew)); exact HO412.out))) (Kd.R_lt (by (with_reducible repeat (first | apply Kd.R_alloc | apply Kd.R_drewN | apply Kd.R_drew)); exact HO415.out))) (Kd.R_lt (by (with_reducible repeat (first | apply Kd.R_alloc | apply Kd.R_drewN | apply Kd.R_drew)); exact HO418.out))) (below_size hb_)); have n6_ := Aside0.mk (below_step hb_ hb); clear HO406; clear HO409; clear HO412; clear HO415; clear HO418; clear HB; have HO406 := n0_; have HO409 := n1_; have HO412 := n2_; have HO415 := n3_; have HO418 := n4_; have HO422 := n5_; have HB := n6_; clear n0_ n1_ n2_ n3_ n4_ n5_ n6_; (try clear hb); (try clear hb2); (try clear hk); (try clear hi); (try clear ho0)) | (go_at_call 36; (with_reducible refine (sets_Minus.calls kj4 _ _ l0 _ _ l1 t423 _ ?side1 ?side2 ?side3 ?side4 A19.out).mono ?_); (case side1 => repeat (first | exact (Kd.C_below HR0.out HB.out) | (with_reducible refine Kd.C_alloc ?_ _) | (with_reducible refine Kd.C_drewN ?_ _) | (with_reducible refine Kd.C_drew ?_))); (case side2 => exact HC0.out); (case side3 => repeat (first | exact (Kd.C_below HR1.out HB.out) | (with_reducible refine Kd.C_alloc ?_ _) | (with_reducible refine Kd.C_drewN ?_ _) | (with_reducible refine Kd.C_drew ?_))); (case side4 => exact HC1.out); rintro e w60 ⟨v424, rfl, ho0, hb⟩; have n0_ := Aside0.mk (Kd.R_elder' (by (with_reducible repeat (first | apply Kd.R_alloc | apply Kd.R_drewN | apply Kd.R_drew)); exact HO406.out) (Kd.R_base ho0) hb); have n1_ := Aside0.mk (Kd.R_elder' (by (with_reducible repeat (first | apply Kd.R_alloc | apply Kd.R_drewN | apply Kd.R_drew)); exact HO409.out) (Kd.R_base ho0) hb); have n2_ := Aside0.mk (Kd.R_elder' (by (with_reducible repeat (first | apply Kd.R_alloc | apply Kd.R_drewN | apply Kd.R_drew)); exact HO412.out) (Kd.R_base ho0) hb); have n3_ := Aside0.mk (Kd.R_elder' (by (with_reducible repeat (first | apply Kd.R_alloc | apply Kd.R_drewN | apply Kd.R_drew)); exact HO415.out) (Kd.R_base ho0) hb); have n4_ := Aside0.mk (Kd.R_elder' (by (with_reducible repeat (first | apply Kd.R_alloc | apply Kd.R_drewN | apply Kd.R_drew)); exact HO418.out) (Kd.R_base ho0) hb); have n5_ := Aside0.mk (Kd.R_elder' (by (with_reducible repeat (first | apply Kd.R_alloc | apply Kd.R_drewN | apply Kd.R_drew)); exact HO422.out) (Kd.R_base ho0) hb); have n6_ := Aside0.mk (Kd.R_lower (Kd.R_new' (Kd.R_new' (Kd.R_new' (Kd.R_new' (Kd.R_new' (Kd.R_new' ho0 (Kd.R_lt (by (with_reducible repeat (first | apply Kd.R_alloc | apply Kd.R_drewN | apply Kd.R_drew)); exact HO406.out))) (Kd.R_lt (by (with_reducible repeat (first | apply Kd.R_alloc | apply Kd.R_drewN | apply Kd.R_drew)); exact HO409.out))) (Kd.R_lt (by (with_reducible repeat (first | apply Kd.R_alloc | apply Kd.R_drewN | apply Kd.R_drew)); exact HO412.out))) (Kd.R_lt (by (with_reducible repeat (first | apply Kd.R_alloc | apply Kd.R_drewN | apply Kd.R_drew)); exact HO415.out))) (Kd.R_lt (by (with_reducible repeat (first | apply Kd.R_alloc | apply Kd.R_drewN | apply Kd.R_drew)); exact HO418.out))) (Kd.R_lt (by (with_reducible repeat (first | apply Kd.R_alloc | apply Kd.R_drewN | apply Kd.R_drew)); exact HO422.out))) (below_size hb_)); have n7_ := Aside0.mk (below_step hb_ hb); clear HO406; clear HO409; clear HO412; clear HO415; clear HO418; clear HO422; clear HB; have HO406 := n0_; have HO409 := n1_; have HO412 := n2_; have HO415 := n3_; have HO418 := n4_; have HO422 := n5_; have HO425 := n6_; have HB := n7_; clear n0_ n1_ n2_ n3_ n4_ n5_ n6_ n7_; (try clear hb); (try clear hb2); (try clear hk); (try clear hi); (try clear ho0); obtain ⟨Ao61, co61, eo61⟩ := Kd.R_slice HO425.out; subst eo61) | (go_at_call 36; (with_reducible refine (sets_Minus.calls kj4 _ _ t423 _ _ l2 t426 _ ?side1 ?side2 ?side3 ?side4 A20.out).mono ?_); (case side1 => repeat (first | exact (Kd.R_reads' HO425.out).2.2 | (with_reducible refine Kd.C_alloc ?_ _) | (with_reducible refine Kd.C_drewN ?_ _) | (with_reducible refine Kd.C_drew ?_))); (case side2 => exact (Kd.R_reads' HO425.out).2.1); (case side3 => repeat (first | exact (Kd.C_below HR2.out HB.out) | (with_reducible refine Kd.C_alloc ?_ _) | (with_reducible refine Kd.C_drewN ?_ _) | (with_reducible refine Kd.C_drew ?_))); (case side4 => exact HC2.out); rintro e w62 ⟨v427, rfl, ho0, hb⟩; have n0_ := Aside0.mk (Kd.R_elder' (by (with_reducible repeat (first | apply Kd.R_alloc | apply Kd.R_drewN | apply Kd.R_drew)); exact HO406.out) (Kd.R_base ho0) hb); have n1_ := Aside0.mk (Kd.R_elder' (by (with_reducible repeat (first | apply Kd.R_alloc | apply Kd.R_drewN | apply Kd.R_drew)); exact HO409.out) (Kd.R_base ho0) hb); have n2_ := Aside0.mk (Kd.R_elder' (by (with_reducible repeat (first | apply Kd.R_alloc | apply Kd.R_drewN | apply Kd.R_drew)); exact HO412.out) (Kd.R_base ho0) hb); have n3_ := Aside0.mk (Kd.R_elder' (by (with_reducible repeat (first | apply Kd.R_alloc | apply Kd.R_drewN | apply Kd.R_drew)); exact HO415.out) (Kd.R_base ho0) hb); have n4_ := Aside0.mk (Kd.R_elder' (by (with_reducible repeat (first | apply Kd.R_alloc | apply Kd.R_drewN | apply Kd.R_drew)); exact HO418.out) (Kd.R_base ho0) hb); have n5_ := Aside0.mk (Kd.R_elder' (by (with_reducible repeat (first | apply Kd.R_alloc | apply Kd.R_drewN | apply Kd.R_drew)); exact HO422.out) (Kd.R_base ho0) hb); have n6_ := Aside0.mk (Kd.R_elder' (by (with_reducible repeat (first | apply Kd.R_alloc | apply Kd.R_drewN | apply Kd.R_drew)); exact HO425.out) (Kd.R_base ho0) hb); have n7_ := Aside0.mk (Kd.R_lower (Kd.R_new' (Kd.R_new' (Kd.R_new' (Kd.R_new' (Kd.R_new' (Kd.R_new' (Kd.R_new' ho0 (Kd.R_lt (by (with_reducible repeat (first | apply Kd.R_alloc | apply Kd.R_drewN | apply Kd.R_drew)); exact HO406.out))) (Kd.R_lt (by (with_reducible repeat (first | apply Kd.R_alloc | apply Kd.R_drewN | apply Kd.R_drew)); exact HO409.out))) (Kd.R_lt (by (with_reducible repeat (first | apply Kd.R_alloc | apply Kd.R_drewN | apply Kd.R_drew)); exact HO412.out))) (Kd.R_lt (by (with_reducible repeat (first | apply Kd.R_alloc | apply Kd.R_drewN | apply Kd.R_drew)); exact HO415.out))) (Kd.R_lt (by (with_reducible repeat (first | apply Kd.R_alloc | apply Kd.R_drewN | apply Kd.R_drew)); exact HO418.out))) (Kd.R_lt (by (with_reducible repeat (first | apply Kd.R_alloc | apply Kd.R_drewN | apply Kd.R_drew)); exact HO422.out))) (Kd.R_lt (by (with_reducible repeat (first | apply Kd.R_alloc | apply Kd.R_drewN | apply Kd.R_drew)); exact HO425.out))) (below_size hb_)); have n8_ := Aside0.mk (below_step hb_ hb); clear HO406; clear HO409; clear HO412; clear HO415; clear HO418; clear HO422; clear HO425; clear HB; have HO406 := n0_; have HO409 := n1_; have HO412 := n2_; have HO415 := n3_; have HO418 := n4_; have HO422 := n5_; have HO425 := n6_; have HO428 := n7_; have HB := n8_; clear n0_ n1_ n2_ n3_ n4_ n5_ n6_ n7_ n8_; (try clear hb); (try clear hb2); (try clear hk); (try clear hi); (try clear ho0); obtain ⟨Ao63, co63, eo63⟩ := Kd.R_slice HO422.out; subst eo63; obtain ⟨Ao64, co64, eo64⟩ := Kd.R_slice HO428.out; subst eo64) | (go_at_call 21; (with_reducible refine (lustrumref04_Same.calls kj4 _ _ t420 _ _ t426 false _ ?side1 ?side2 ?side3 ?side4 A21.out).mono ?_); (case side1 => repeat (first | exact (Kd.R_reads' HO422.out).2.2 | (with_reducible refine Kd.C_alloc ?_ _) | (with_reducible refine Kd.C_drewN ?_ _) | (with_reducible refine Kd.C_drew ?_))); (case side2 => exact (Kd.R_reads' HO422.out).2.1); (case side3 => repeat (first | exact (Kd.R_reads' HO428.out).2.2 | (with_reducible refine Kd.C_alloc ?_ _) | (with_reducible refine Kd.C_drewN ?_ _) | (with_reducible refine Kd.C_drew ?_))); (case side4 => exact (Kd.R_reads' HO428.out).2.1); rintro e w' ⟨rfl, ⟨nd, rfl⟩⟩))
       go_ret; exact ⟨re_, hb_⟩
     ·replace c17 := Bool.eq_false_iff.mpr c17
      subst c17; (have H1 : (some false) = some r := by rw [if_neg (show ¬ (false = true) by decide)] at H; exact H); clear H; have H := H1; clear H1; obtain rfl := Option.some.inj H; go_wp2_with (first | ((with_reducible refine gate_callee (f := 34) rfl ?_); refine goesL_ (some 26) rfl rfl Try.func34 (by kernel_rfl) rfl #[.slice A1 l1.length c1, .slice A2 l2.length c2] rfl ml_ ?_; (with_reducible refine (sets_Union.calls _ _ l1 _ _ l2 t404 _ ?side1 ?side2 ?side3 ?side4 A10.out).mono ?_); (case side1 => repeat (first | exact (Kd.C_below HR1.out HB.out) | (with_reducible refine Kd.C_alloc ?_ _) | (with_reducible refine Kd.C_drewN ?_ _) | (with_reducible refine Kd.C_drew ?_))); (case side2 => exact HC1.out); (case side3 => repeat (first | exact (Kd.C_below HR2.out HB.out) | (with_reducible refine Kd.C_alloc ?_ _) | (with_reducible refine Kd.C_drewN ?_ _) | (with_reducible refine Kd.C_drew ?_))); (case side4 => exact HC2.out); rintro e w65 ⟨v405, rfl, ho0, hb⟩; refine ⟨_, rfl, ?_⟩; have n0_ := Aside0.mk (Kd.R_lower ho0 (below_size hb_)); have n1_ := Aside0.mk (below_step hb_ hb); clear HB; have HO406 := n0_; have HB := n1_; clear n0_ n1_; (try clear hb); (try clear hb2); (try clear hk); (try clear hi); (try clear ho0); obtain ⟨Ao66, co66, eo66⟩ := Kd.R_slice HO406.out; subst eo66) | (go_at_call 35; (with_reducible refine (sets_Meet.calls kj4 _ _ l0 _ _ t404 t407 _ ?side1 ?side2 ?side3 ?side4 A12.out).mono ?_); (case side1 => repeat (first | exact (Kd.C_below HR0.out HB.out) | (with_reducible refine Kd.C_alloc ?_ _) | (with_reducible refine Kd.C_drewN ?_ _) | (with_reducible refine Kd.C_drew ?_))); (case side2 => exact HC0.out); (case side3 => repeat (first | exact (Kd.R_reads' HO406.out).2.2 | (with_reducible refine Kd.C_alloc ?_ _) | (with_reducible refine Kd.C_drewN ?_ _) | (with_reducible refine Kd.C_drew ?_))); (case side4 => exact (Kd.R_reads' HO406.out).2.1); rintro e w67 ⟨v408, rfl, ho0, hb⟩; have n0_ := Aside0.mk (Kd.R_elder' (by (with_reducible repeat (first | apply Kd.R_alloc | apply Kd.R_drewN | apply Kd.R_drew)); exact HO406.out) (Kd.R_base ho0) hb); have n1_ := Aside0.mk (Kd.R_lower (Kd.R_new' ho0 (Kd.R_lt (by (with_reducible repeat (first | apply Kd.R_alloc | apply Kd.R_drewN | apply Kd.R_drew)); exact HO406.out))) (below_size hb_)); have n2_ := Aside0.mk (below_step hb_ hb); clear HO406; clear HB; have HO406 := n0_; have HO409 := n1_; have HB := n2_; clear n0_ n1_ n2_; (try clear hb); (try clear hb2); (try clear hk); (try clear hi); (try clear ho0)) | (go_at_call 35; (with_reducible refine (sets_Meet.calls kj4 _ _ l0 _ _ l1 t410 _ ?side1 ?side2 ?side3 ?side4 A13.out).mono ?_); (case side1 => repeat (first | exact (Kd.C_below HR0.out HB.out) | (with_reducible refine Kd.C_alloc ?_ _) | (with_reducible refine Kd.C_drewN ?_ _) | (with_reducible refine Kd.C_drew ?_))); (case side2 => exact HC0.out); (case side3 => repeat (first | exact (Kd.C_below HR1.out HB.out) | (with_reducible refine Kd.C_alloc ?_ _) | (with_reducible refine Kd.C_drewN ?_ _) | (with_reducible refine Kd.C_drew ?_))); (case side4 => exact HC1.out); rintro e w68 ⟨v411, rfl, ho0, hb⟩; have n0_ := Aside0.mk (Kd.R_elder' (by (with_reducible repeat (first | apply Kd.R_alloc | apply Kd.R_drewN | apply Kd.R_drew)); exact HO406.out) (Kd.R_base ho0) hb); have n1_ := Aside0.mk (Kd.R_elder' (by (with_reducible repeat (first | apply Kd.R_alloc | apply Kd.R_drewN | apply Kd.R_drew)); exact HO409.out) (Kd.R_base ho0) hb); have n2_ := Aside0.mk (Kd.R_lower (Kd.R_new' (Kd.R_new' ho0 (Kd.R_lt (by (with_reducible repeat (first | apply Kd.R_alloc | apply Kd.R_drewN | apply Kd.R_drew)); exact HO406.out))) (Kd.R_lt (by (with_reducible repeat (first | apply Kd.R_alloc | apply Kd.R_drewN | apply Kd.R_drew)); exact HO409.out))) (below_size hb_)); have n3_ := Aside0.mk (below_step hb_ hb); clear HO406; clear HO409; clear HB; have HO406 := n0_; have HO409 := n1_; have HO412 := n2_; have HB := n3_; clear n0_ n1_ n2_ n3_; (try clear hb); (try clear hb2); (try clear hk); (try clear hi); (try clear ho0)) | (go_at_call 35; (with_reducible refine (sets_Meet.calls kj4 _ _ l0 _ _ l2 t413 _ ?side1 ?side2 ?side3 ?side4 A14.out).mono ?_); (case side1 => repeat (first | exact (Kd.C_below HR0.out HB.out) | (with_reducible refine Kd.C_alloc ?_ _) | (with_reducible refine Kd.C_drewN ?_ _) | (with_reducible refine Kd.C_drew ?_))); (case side2 => exact HC0.out); (case side3 => repeat (first | exact (Kd.C_below HR2.out HB.out) | (with_reducible refine Kd.C_alloc ?_ _) | (with_reducible refine Kd.C_drewN ?_ _) | (with_reducible refine Kd.C_drew ?_))); (case side4 => exact HC2.out); rintro e w69 ⟨v414, rfl, ho0, hb⟩; have n0_ := Aside0.mk (Kd.R_elder' (by (with_reducible repeat (first | apply Kd.R_alloc | apply Kd.R_drewN | apply Kd.R_drew)); exact HO406.out) (Kd.R_base ho0) hb); have n1_ := Aside0.mk (Kd.R_elder' (by (with_reducible repeat (first | apply Kd.R_alloc | apply Kd.R_drewN | apply Kd.R_drew)); exact HO409.out) (Kd.R_base ho0) hb); have n2_ := Aside0.mk (Kd.R_elder' (by (with_reducible repeat (first | apply Kd.R_alloc | apply Kd.R_drewN | apply Kd.R_drew)); exact HO412.out) (Kd.R_base ho0) hb); have n3_ := Aside0.mk (Kd.R_lower (Kd.R_new' (Kd.R_new' (Kd.R_new' ho0 (Kd.R_lt (by (with_reducible repeat (first | apply Kd.R_alloc | apply Kd.R_drewN | apply Kd.R_drew)); exact HO406.out))) (Kd.R_lt (by (with_reducible repeat (first | apply Kd.R_alloc | apply Kd.R_drewN | apply Kd.R_drew)); exact HO409.out))) (Kd.R_lt (by (with_reducible repeat (first | apply Kd.R_alloc | apply Kd.R_drewN | apply Kd.R_drew)); exact HO412.out))) (below_size hb_)); have n4_ := Aside0.mk (below_step hb_ hb); clear HO406; clear HO409; clear HO412; clear HB; have HO406 := n0_; have HO409 := n1_; have HO412 := n2_; have HO415 := n3_; have HB := n4_; clear n0_ n1_ n2_ n3_ n4_; (try clear hb); (try clear hb2); (try clear hk); (try clear hi); (try clear ho0); obtain ⟨Ao70, co70, eo70⟩ := Kd.R_slice HO412.out; subst eo70; obtain ⟨Ao71, co71, eo71⟩ := Kd.R_slice HO415.out; subst eo71) | (go_at_call 34; (with_reducible refine (sets_Union.calls _ _ t410 _ _ t413 t416 _ ?side1 ?side2 ?side3 ?side4 A15.out).mono ?_); (case side1 => repeat (first | exact (Kd.R_reads' HO412.out).2.2 | (with_reducible refine Kd.C_alloc ?_ _) | (with_reducible refine Kd.C_drewN ?_ _) | (with_reducible refine Kd.C_drew ?_))); (case side2 => exact (Kd.R_reads' HO412.out).2.1); (case side3 => repeat (first | exact (Kd.R_reads' HO415.out).2.2 | (with_reducible refine Kd.C_alloc ?_ _) | (with_reducible refine Kd.C_drewN ?_ _) | (with_reducible refine Kd.C_drew ?_))); (case side4 => exact (Kd.R_reads' HO415.out).2.1); rintro e w72 ⟨v417, rfl, ho0, hb⟩; have n0_ := Aside0.mk (Kd.R_elder' (by (with_reducible repeat (first | apply Kd.R_alloc | apply Kd.R_drewN | apply Kd.R_drew)); exact HO406.out) (Kd.R_base ho0) hb); have n1_ := Aside0.mk (Kd.R_elder' (by (with_reducible repeat (first | apply Kd.R_alloc | apply Kd.R_drewN | apply Kd.R_drew)); exact HO409.out) (Kd.R_base ho0) hb); have n2_ := Aside0.mk (Kd.R_elder' (by (with_reducible repeat (first | apply Kd.R_alloc | apply Kd.R_drewN | apply Kd.R_drew)); exact HO412.out) (Kd.R_base ho0) hb); have n3_ := Aside0.mk (Kd.R_elder' (by (with_reducible repeat (first | apply Kd.R_alloc | apply Kd.R_drewN | apply Kd.R_drew)); exact HO415.out) (Kd.R_base ho0) hb); have n4_ := Aside0.mk (Kd.R_lower (Kd.R_new' (Kd.R_new' (Kd.R_new' (Kd.R_new' ho0 (Kd.R_lt (by (with_reducible repeat (first | apply Kd.R_alloc | apply Kd.R_drewN | apply Kd.R_drew)); exact HO406.out))) (Kd.R_lt (by (with_reducible repeat (first | apply Kd.R_alloc | apply Kd.R_drewN | apply Kd.R_drew)); exact HO409.out))) (Kd.R_lt (by (with_reducible repeat (first | apply Kd.R_alloc | apply Kd.R_drewN | apply Kd.R_drew)); exact HO412.out))) (Kd.R_lt (by (with_reducible repeat (first | apply Kd.R_alloc | apply Kd.R_drewN | apply Kd.R_drew)); exact HO415.out))) (below_size hb_)); have n5_ := Aside0.mk (below_step hb_ hb); clear HO406; clear HO409; clear HO412; clear HO415; clear HB; have HO406 := n0_; have HO409 := n1_; have HO412 := n2_; have HO415 := n3_; have HO418 := n4_; have HB := n5_; clear n0_ n1_ n2_ n3_ n4_ n5_; (try clear hb); (try clear hb2); (try clear hk); (try clear hi); (try clear ho0); obtain ⟨Ao73, co73, eo73⟩ := Kd.R_slice HO409.out; subst eo73; obtain ⟨Ao74, co74, eo74⟩ := Kd.R_slice HO418.out; subst eo74) | (go_at_call 21; (with_reducible refine (lustrumref04_Same.calls kj4 _ _ t407 _ _ t416 false _ ?side1 ?side2 ?side3 ?side4 A16.out).mono ?_); (case side1 => repeat (first | exact (Kd.R_reads' HO409.out).2.2 | (with_reducible refine Kd.C_alloc ?_ _) | (with_reducible refine Kd.C_drewN ?_ _) | (with_reducible refine Kd.C_drew ?_))); (case side2 => exact (Kd.R_reads' HO409.out).2.1); (case side3 => repeat (first | exact (Kd.R_reads' HO418.out).2.2 | (with_reducible refine Kd.C_alloc ?_ _) | (with_reducible refine Kd.C_drewN ?_ _) | (with_reducible refine Kd.C_drew ?_))); (case side4 => exact (Kd.R_reads' HO418.out).2.1); rintro e w' ⟨rfl, ⟨nd, rfl⟩⟩))
      go_ret; exact ⟨re_, hb_⟩
    ·replace c11 := Bool.eq_false_iff.mpr c11
     subst c11; (have H1 : (some false) = some r := by rw [if_neg (show ¬ (false = true) by decide)] at H; exact H); clear H; have H := H1; clear H1; obtain rfl := Option.some.inj H; go_wp2_with (first | ((with_reducible refine gate_callee (f := 34) rfl ?_); refine goesL_ (some 26) rfl rfl Try.func34 (by kernel_rfl) rfl #[.slice A1 l1.length c1, .slice A2 l2.length c2] rfl ml_ ?_; (with_reducible refine (sets_Union.calls _ _ l1 _ _ l2 t404 _ ?side1 ?side2 ?side3 ?side4 A10.out).mono ?_); (case side1 => repeat (first | exact (Kd.C_below HR1.out HB.out) | (with_reducible refine Kd.C_alloc ?_ _) | (with_reducible refine Kd.C_drewN ?_ _) | (with_reducible refine Kd.C_drew ?_))); (case side2 => exact HC1.out); (case side3 => repeat (first | exact (Kd.C_below HR2.out HB.out) | (with_reducible refine Kd.C_alloc ?_ _) | (with_reducible refine Kd.C_drewN ?_ _) | (with_reducible refine Kd.C_drew ?_))); (case side4 => exact HC2.out); rintro e w75 ⟨v405, rfl, ho0, hb⟩; refine ⟨_, rfl, ?_⟩; have n0_ := Aside0.mk (Kd.R_lower ho0 (below_size hb_)); have n1_ := Aside0.mk (below_step hb_ hb); clear HB; have HO406 := n0_; have HB := n1_; clear n0_ n1_; (try clear hb); (try clear hb2); (try clear hk); (try clear hi); (try clear ho0))); go_ret; exact ⟨re_, hb_⟩
end Go.Proofs.Ytkbcmjejfbbcpaa.A

namespace Go.Proofs.Ytkbcmjejfbbcpaa.A
open Go.RowKit Go.Proofs.YtkbcmjejfbbcpaaW.PrintWords Go.Proofs.YtkbcmjejfbbcpaaW.PrintLast Go.Proofs.YtkbcmjejfbbcpaaW.PrintMore
set_option linter.unusedVariables false
theorem w64 {x : Int} (h1 : -9223372036854775808 ≤ x) (h2 : x ≤ 9223372036854775807) : wrap64 x = x := by unfold wrap64; omega
theorem at_rd (p : List S25) (r : S25) (t : List S25) : rd_T25 (p ++ r :: t) (p.length : Int) = r := by simp [rd_T25]
theorem at_lt {α : Type} (p : List α) (r : α) (t : List α) : (p.length : Int) < ((p ++ r :: t).length : Int) := by simp; omega
theorem at_end {α : Type} (p : List α) : ¬ (p.length : Int) < ((p ++ []).length : Int) := by simp
theorem at_0 {α : Type} (p : List α) : 0 ≤ (p.length : Int) := Int.natCast_nonneg _
theorem at_next {α : Type} {p : List α} {r : α} {t : List α} (h : (p ++ r :: t).length ≤ 4611686018427387904) : wrap64 ((p.length : Int) + 1) = ((p ++ [r]).length : Int) := by
  simp at h
  rw [w64 (by omega) (by omega)]
  simp
theorem at_app {α : Type} (p : List α) (r : α) (t : List α) : p ++ r :: t = (p ++ [r]) ++ t := by simp
theorem Ev.ift {α : Type} {c : Prop} [Decidable c] {g f : Nat → Option α} {r : α} (hc : c) (h : Ev g r) : Ev (fun k => if c then g k else f k) r := Ev.congr (fun k => if_pos hc) h
theorem Ev.iff_ {α : Type} {c : Prop} [Decidable c] {g f : Nat → Option α} {r : α} (hc : ¬ c) (h : Ev f r) : Ev (fun k => if c then g k else f k) r := Ev.congr (fun k => if_neg hc) h
theorem Ev.bnow {α β : Type} {a : Option α} {f : Nat → α → Option β} {x : α} {r : β} (h : a = some x) (k : Ev (fun n => f n x) r) : Ev (fun n => a.bind (f n)) r := Ev.congr (fun n => by rw [h]; rfl) k
theorem Ev.eq {α : Type} {g : Nat → Option α} {r q : α} (h : Ev g r) (e : r = q) : Ev g q := e ▸ h
theorem Sane_l0 : ∀ (t p : List S25) (last : Int), (p ++ t).length ≤ 4611686018427387904 → -lim - 2 ≤ last → last ≤ lim →
    ∃ b, Ev (fun k => runs_Sane.l0 k last (p ++ t) ((p ++ t).length : Int) (p.length : Int)) b ∧ (b = true ↔ saneF last t)
  | [], p, last, _, _, _ => ⟨true, Ev.step (f := fun _ => some true) (fun k => by simp only [runs_Sane.l0]; rw [if_neg (at_end p)]) (Ev.now true), by simp [saneF]⟩
  | r :: t, p, last, hn, h1, h2 => by
    have e : ∀ k, runs_Sane.l0 (k + 1) last (p ++ r :: t) ((p ++ r :: t).length : Int) (p.length : Int) = (if r.f0 > r.f1 then some false else if r.f0 < last + 2 then some false else if r.f1 > 1099511627776 then some false else runs_Sane.l0 k r.f1 (p ++ r :: t) ((p ++ r :: t).length : Int) ((p ++ [r]).length : Int)) := fun k => by
      simp only [runs_Sane.l0]
      rw [if_pos (at_lt p r t), if_pos (at_0 p), if_pos (at_lt p r t), at_rd, at_next hn, w64 (by unfold lim at h1; omega) (by unfold lim at h2; omega)]
    by_cases c1 : r.f0 > r.f1
    · exact ⟨false, Ev.step (f := fun _ => some false) (fun k => by rw [e, if_pos c1]) (Ev.now _), by simp [saneF]; omega⟩
    by_cases c2 : r.f0 < last + 2
    · exact ⟨false, Ev.step (f := fun _ => some false) (fun k => by rw [e, if_neg c1, if_pos c2]) (Ev.now _), by simp [saneF]; omega⟩
    by_cases c3 : r.f1 > 1099511627776
    · exact ⟨false, Ev.step (f := fun _ => some false) (fun k => by rw [e, if_neg c1, if_neg c2, if_pos c3]) (Ev.now _), by simp [saneF, lim]; omega⟩
    obtain ⟨b, hb, hs⟩ := Sane_l0 t (p ++ [r]) r.f1 (by rw [← at_app]; exact hn) (by omega) (by unfold lim; omega)
    rw [← at_app] at hb
    refine ⟨b, Ev.step (fun k => by rw [e, if_neg c1, if_neg c2, if_neg c3]) hb, ?_⟩
    rw [hs, saneF]
    unfold lim
    exact ⟨fun h => ⟨by omega, by omega, by omega, h⟩, fun h => h.2.2.2⟩
theorem Sane_f (l : List S25) (hn : l.length ≤ 4611686018427387904) : ∃ b, Ev (fun k => runs_Sane.f k l) b ∧ (b = true ↔ sane l) := by
  obtain ⟨b, hb, hs⟩ := Sane_l0 l [] (-lim - 2) (by simpa using hn) (by omega) (by unfold lim; omega)
  exact ⟨b, hb, hs⟩
theorem Make_f {l : List S25} (hn : l.length < 4398046511104) : Ev (fun _ => runs_Make.f l) (norm l) := ⟨0, fun _ _ => by unfold runs_Make.f; rw [if_pos hn]⟩
theorem sknown_f (l : List S25) (hn : l.length < 4398046511104) : Ev (fun k => sets_known.f k l) (norm l) := by
  obtain ⟨b, hb, hs⟩ := Sane_f l (by omega)
  refine Ev.bind hb ?_
  cases b with
  | true => exact Ev.congr (fun k => by rw [if_pos rfl, norm_of_sane (hs.1 rfl)]) (Ev.now (norm l))
  | false => exact Ev.congr (f := fun k => (runs_Make.f l).bind fun t => some t) (fun k => by rw [if_neg (by simp)]) (Ev.bind (Make_f hn) (Ev.now _))
theorem ins_len : ∀ (s : List S25) (x : S25), (ins x s).length ≤ s.length + 1
  | [], x => by unfold ins; simp
  | q :: t, x => by
    unfold ins
    split
    · have := ins_len t x; simp; omega
    · split
      · simp
      · have := ins_len t ⟨min x.f0 q.f0, max x.f1 q.f1⟩; simp; omega
theorem fold_len : ∀ (l s : List S25), (l.foldl step s).length ≤ s.length + l.length
  | [], s => by simp
  | r :: l, s => by
    have h1 := fold_len l (step s r)
    have h2 : (step s r).length ≤ s.length + 1 := by unfold step; split; exact ins_len _ _; omega
    simp; omega
theorem norm_len (l : List S25) : (norm l).length ≤ l.length := by have := fold_len l []; simpa [norm] using this
theorem mx_max (a b : Int) : mx a b = max a b := by unfold mx; omega
theorem mn_min (a b : Int) : mn a b = min a b := by unfold mn; omega
end Go.Proofs.Ytkbcmjejfbbcpaa.A

namespace Go.Proofs.Ytkbcmjejfbbcpaa.A
open Go.RowKit Go.Proofs.YtkbcmjejfbbcpaaW.PrintWords Go.Proofs.YtkbcmjejfbbcpaaW.PrintLast Go.Proofs.YtkbcmjejfbbcpaaW.PrintMore
set_option linter.unusedVariables false
theorem Same_l0 : ∀ (t u p q : List S25), (p ++ t).length ≤ 4611686018427387904 → p.length = q.length → t.length = u.length →
    ∃ b, Ev (fun k => lustrumref04_Same.l0 k (p ++ t) (q ++ u) (p.length : Int)) b ∧ (b = true ↔ t = u)
  | [], [], p, q, _, _, _ => ⟨true, Ev.step (f := fun _ => some true) (fun k => by simp only [lustrumref04_Same.l0]; rw [if_neg (at_end p)]) (Ev.now _), by simp⟩
  | [], y :: u, _, _, _, _, h => by simp at h
  | x :: t, [], _, _, _, _, h => by simp at h
  | x :: t, y :: u, p, q, hn, hl, h => by
    by_cases c : x.f0 = y.f0 ∧ x.f1 = y.f1
    · obtain ⟨b, hb, hs⟩ := Same_l0 t u (p ++ [x]) (q ++ [y]) (by rw [← at_app]; exact hn) (by simp [hl]) (by simpa using h)
      rw [← at_app, ← at_app] at hb
      refine ⟨b, Ev.step (fun k => ?_) hb, ?_⟩
      · simp only [lustrumref04_Same.l0]
        rw [if_pos (at_lt p x t), if_pos (at_0 p), if_pos (by rw [hl]; exact at_lt q y u), at_rd, show rd_T25 (q ++ y :: u) (p.length : Int) = y by rw [hl]; exact at_rd q y u, if_neg (by simp [c.1, c.2]), at_next hn]
      · rw [hs, show x = y from S25.ext2 c.1 c.2]; simp
    · refine ⟨false, Ev.step (f := fun _ => some false) (fun k => ?_) (Ev.now _), ?_⟩
      · simp only [lustrumref04_Same.l0]
        rw [if_pos (at_lt p x t), if_pos (at_0 p), if_pos (by rw [hl]; exact at_lt q y u), at_rd, show rd_T25 (q ++ y :: u) (p.length : Int) = y by rw [hl]; exact at_rd q y u, if_pos]
        by_cases h0 : x.f0 = y.f0
        · simp [h0]; exact fun h1 => c ⟨h0, h1⟩
        · simp [h0]
      · constructor
        · intro h; simp at h
        · intro h
          obtain ⟨rfl, _⟩ := List.cons.inj h
          exact absurd ⟨rfl, rfl⟩ c
theorem Same_f (s t : List S25) (hn : s.length ≤ 4611686018427387904) : ∃ b, Ev (fun k => lustrumref04_Same.f k s t) b ∧ (b = true ↔ s = t) := by
  by_cases c : s.length = t.length
  · obtain ⟨b, hb, hs⟩ := Same_l0 s t [] [] (by simpa using hn) rfl c
    exact ⟨b, Ev.congr (fun k => by unfold lustrumref04_Same.f; rw [if_pos (by rw [c])]; rfl) hb, hs⟩
  · exact ⟨false, Ev.congr (fun k => by unfold lustrumref04_Same.f; rw [if_neg (by omega)]) (Ev.now _), by simp; intro h; exact c (by rw [h])⟩
theorem Same_t {s t : List S25} (hn : s.length ≤ 4611686018427387904) (h : s = t) : Ev (fun k => lustrumref04_Same.f k s t) true := by
  obtain ⟨b, hb, hs⟩ := Same_f s t hn
  rwa [hs.2 h] at hb
end Go.Proofs.Ytkbcmjejfbbcpaa.A

namespace Go.Proofs.Ytkbcmjejfbbcpaa.A
open Go.RowKit Go.Proofs.YtkbcmjejfbbcpaaW.PrintWords Go.Proofs.YtkbcmjejfbbcpaaW.PrintLast Go.Proofs.YtkbcmjejfbbcpaaW.PrintMore
set_option linter.unusedVariables false
theorem saneF_all : ∀ {a : Int} {l : List S25}, saneF a l → ∀ q, q ∈ l → a + 2 ≤ q.f0 ∧ q.f0 ≤ q.f1 ∧ q.f1 ≤ lim
  | _, [], _, q, h => by simp at h
  | a, r :: t, ⟨h1, h2, h3, h4⟩, q, hq => by
    rcases List.mem_cons.1 hq with rfl | hq
    · exact ⟨h1, h2, h3⟩
    · have := saneF_all h4 q hq; omega
end Go.Proofs.Ytkbcmjejfbbcpaa.A

namespace Go.Proofs.Ytkbcmjejfbbcpaa.A
open Go.RowKit Go.Proofs.YtkbcmjejfbbcpaaW.PrintWords Go.Proofs.YtkbcmjejfbbcpaaW.PrintLast Go.Proofs.YtkbcmjejfbbcpaaW.PrintMore
set_option linter.unusedVariables false
def IsSet (m : List S25) (p : Int → Prop) : Prop := sane m ∧ ∀ n, mem m n ↔ -lim ≤ n ∧ n ≤ lim ∧ p n
theorem IsSet.eq {m m' : List S25} {p q : Int → Prop} (h : IsSet m p) (h' : IsSet m' q) (e : ∀ n, -lim ≤ n → n ≤ lim → (p n ↔ q n)) : m = m' :=
  same h.1 h'.1 fun n => by
    rw [h.2, h'.2]
    exact ⟨fun ⟨a, b, c⟩ => ⟨a, b, (e n a b).1 c⟩, fun ⟨a, b, c⟩ => ⟨a, b, (e n a b).2 c⟩⟩
theorem IsSet.congr {m : List S25} {p q : Int → Prop} (h : IsSet m p) (e : ∀ n, -lim ≤ n → n ≤ lim → (p n ↔ q n)) : IsSet m q :=
  ⟨h.1, fun n => by rw [h.2]; exact ⟨fun ⟨a, b, c⟩ => ⟨a, b, (e n a b).1 c⟩, fun ⟨a, b, c⟩ => ⟨a, b, (e n a b).2 c⟩⟩⟩
theorem isSet_norm (l : List S25) : IsSet (norm l) (mem l) := ⟨norm_sane l, norm_mem l⟩
theorem mem_one (r : S25) (n : Int) : mem [r] n ↔ r.f0 ≤ n ∧ n ≤ r.f1 := by rw [mem_cons]; simp [mem_nil]
def both (r q : S25) : S25 := ⟨max r.f0 q.f0, min r.f1 q.f1⟩
def meet2 : List S25 → List S25 → List S25
  | [], _ => []
  | _ :: _, [] => []
  | r :: s, q :: t => (if (both r q).f0 ≤ (both r q).f1 then [both r q] else []) ++ (if r.f1 < q.f1 then meet2 s (q :: t) else meet2 (r :: s) t)
termination_by s t => s.length + t.length
theorem meet2_nil (s : List S25) : meet2 s [] = [] := by cases s <;> simp [meet2]
theorem meet2_cons (r : S25) (s : List S25) (q : S25) (t : List S25) : meet2 (r :: s) (q :: t) = (if (both r q).f0 ≤ (both r q).f1 then [both r q] else []) ++ (if r.f1 < q.f1 then meet2 s (q :: t) else meet2 (r :: s) t) := by rw [meet2]
theorem meet2_len : ∀ (m : Nat) (s t : List S25), s.length + t.length = m → (meet2 s t).length ≤ s.length + t.length
  | _, [], t, _ => by simp [meet2]
  | _, s, [], _ => by simp [meet2_nil]
  | m + 1, r :: s, q :: t, e => by
    simp only [List.length_cons] at e
    rw [meet2_cons, List.length_append]
    have h1 : (if (both r q).f0 ≤ (both r q).f1 then [both r q] else []).length ≤ 1 := by split <;> simp
    by_cases c : r.f1 < q.f1
    · rw [if_pos c]
      have := meet2_len m s (q :: t) (by simp only [List.length_cons]; omega)
      simp only [List.length_cons] at this ⊢
      omega
    · rw [if_neg c]
      have := meet2_len m (r :: s) t (by simp only [List.length_cons]; omega)
      simp only [List.length_cons] at this ⊢
      omega
theorem meet2_sane : ∀ (m : Nat) (s t : List S25) (a b : Int), s.length + t.length = m → saneF a s → saneF b t → saneF (max a b) (meet2 s t)
  | _, [], t, _, _, _, _, _ => by simp [meet2, saneF]
  | _, s, [], _, _, _, _, _ => by simp [meet2_nil, saneF]
  | m + 1, r :: s, q :: t, a, b, e, hs, ht => by
    simp only [List.length_cons] at e
    obtain ⟨r1, r2, r3, r4⟩ := hs
    obtain ⟨q1, q2, q3, q4⟩ := ht
    have ht : saneF (if r.f1 < q.f1 then max r.f1 b else max a q.f1) (if r.f1 < q.f1 then meet2 s (q :: t) else meet2 (r :: s) t) := by
      split
      · exact meet2_sane m s (q :: t) _ _ (by simp only [List.length_cons]; omega) r4 ⟨q1, q2, q3, q4⟩
      · exact meet2_sane m (r :: s) t _ _ (by simp only [List.length_cons]; omega) ⟨r1, r2, r3, r4⟩ q4
    rw [meet2_cons]
    by_cases c : (both r q).f0 ≤ (both r q).f1
    · rw [if_pos c]
      simp only [both] at c
      refine ⟨by simp only [both]; omega, by simp only [both]; exact c, by simp only [both]; omega, saneF_le ht ?_⟩
      simp only [both]
      split <;> omega
    · rw [if_neg c, List.nil_append]
      refine saneF_le ht ?_
      split <;> omega
theorem meet2_mem : ∀ (m : Nat) (s t : List S25) (a b : Int), s.length + t.length = m → saneF a s → saneF b t → ∀ n, mem (meet2 s t) n ↔ mem s n ∧ mem t n
  | _, [], t, _, _, _, _, _, n => by simp [meet2, mem_nil]
  | _, s, [], _, _, _, _, _, n => by simp [meet2_nil, mem_nil]
  | m + 1, r :: s, q :: t, a, b, e, hs, ht, n => by
    simp only [List.length_cons] at e
    have hs0 := hs; have ht0 := ht
    obtain ⟨r1, r2, r3, r4⟩ := hs
    obtain ⟨q1, q2, q3, q4⟩ := ht
    have ho : mem (if (both r q).f0 ≤ (both r q).f1 then [both r q] else []) n ↔ (r.f0 ≤ n ∧ n ≤ r.f1) ∧ q.f0 ≤ n ∧ n ≤ q.f1 := by
      by_cases c : (both r q).f0 ≤ (both r q).f1
      · rw [if_pos c, mem_one]; simp only [both]; omega
      · rw [if_neg c]; simp only [both] at c; constructor
        · exact fun h => absurd h (mem_nil _)
        · intro h; omega
    rw [meet2_cons, mem_append, ho]
    by_cases c : r.f1 < q.f1
    · rw [if_pos c, meet2_mem m s (q :: t) _ _ (by simp only [List.length_cons]; omega) r4 ht0 n, mem_cons, mem_cons]
      have h1 : mem t n → q.f1 + 2 ≤ n := fun h => (saneF_mem q4 h).1
      constructor
      · rintro (h | h)
        · exact ⟨.inl h.1, .inl h.2⟩
        · exact ⟨.inr h.1, h.2⟩
      · rintro ⟨h | h, h'⟩
        · rcases h' with h' | h'
          · exact .inl ⟨h, h'⟩
          · have := h1 h'; omega
        · exact .inr ⟨h, h'⟩
    · rw [if_neg c, meet2_mem m (r :: s) t _ _ (by simp only [List.length_cons]; omega) hs0 q4 n, mem_cons, mem_cons]
      have h1 : mem s n → r.f1 + 2 ≤ n := fun h => (saneF_mem r4 h).1
      constructor
      · rintro (h | h)
        · exact ⟨.inl h.1, .inl h.2⟩
        · exact ⟨h.1, .inr h.2⟩
      · rintro ⟨h, h' | h'⟩
        · rcases h with h | h
          · exact .inl ⟨h, h'⟩
          · have := h1 h; omega
        · exact .inr ⟨h, h'⟩
theorem Meet_l0 : ∀ (m : Nat) (s t p q acc : List S25), s.length + t.length = m → (p ++ s).length < 4398046511104 → (q ++ t).length < 4398046511104 → acc.length + s.length + t.length < 8796093022208 →
    Ev (fun k => sets_Meet.l0 k (p ++ s) (q ++ t) acc (p.length : Int) (q.length : Int)) (acc ++ meet2 s t)
  | _, [], t, p, q, acc, _, _, _, _ => by
    refine Ev.step (f := fun k => sets_Meet.j1 k (p ++ []) (q ++ t) acc (p.length : Int) (q.length : Int) false) (fun k => by rw [sets_Meet.l0, if_neg (at_end p)]) ?_
    refine Ev.step (f := fun _ => some (acc ++ meet2 [] t)) (fun k => by rw [sets_Meet.j1, if_neg (by simp)]; simp [meet2]) (Ev.now _)
  | _, r :: s, [], p, q, acc, _, _, _, _ => by
    refine Ev.step (f := fun k => sets_Meet.j1 k (p ++ r :: s) (q ++ []) acc (p.length : Int) (q.length : Int) false) (fun k => by rw [sets_Meet.l0, if_pos (at_lt p r s), decide_eq_false (at_end q)]) ?_
    refine Ev.step (f := fun _ => some (acc ++ meet2 (r :: s) [])) (fun k => by rw [sets_Meet.j1, if_neg (by simp)]; simp [meet2_nil]) (Ev.now _)
  | m + 1, r :: s, x :: t, p, q, acc, e, h1, h2, h3 => by
    simp only [List.length_cons] at e h3
    refine Ev.step (f := fun k => sets_Meet.j1 k (p ++ r :: s) (q ++ x :: t) acc (p.length : Int) (q.length : Int) true) (fun k => by rw [sets_Meet.l0, if_pos (at_lt p r s), decide_eq_true (at_lt q x t)]) ?_
    have hn1 := at_next (p := p) (r := r) (t := s) (by omega)
    have hn2 := at_next (p := q) (r := x) (t := t) (by omega)
    have hgo : ∀ acc' : List S25, acc'.length + (s.length + 1) + (t.length + 1) ≤ acc.length + (s.length + 1) + (t.length + 1) + 1 →
        Ev (fun k => if (r.f1) < (x.f1) then sets_Meet.l0 k (p ++ r :: s) (q ++ x :: t) acc' (wrap64 ((p.length : Int) + 1)) (q.length : Int) else sets_Meet.l0 k (p ++ r :: s) (q ++ x :: t) acc' (p.length : Int) (wrap64 ((q.length : Int) + 1)))
          (acc' ++ (if r.f1 < x.f1 then meet2 s (x :: t) else meet2 (r :: s) t)) := fun acc' ha => by
      by_cases c : r.f1 < x.f1
      · rw [if_pos c]
        refine Ev.ift c ?_
        rw [hn1]
        have := Meet_l0 m s (x :: t) (p ++ [r]) q acc' (by simp only [List.length_cons]; omega) (by rw [← at_app]; exact h1) h2 (by simp only [List.length_cons]; omega)
        rw [← at_app] at this
        exact this
      · rw [if_neg c]
        refine Ev.iff_ c ?_
        rw [hn2]
        have := Meet_l0 m (r :: s) t p (q ++ [x]) acc' (by simp only [List.length_cons]; omega) h1 (by rw [← at_app]; exact h2) (by simp only [List.length_cons]; omega)
        rw [← at_app] at this
        exact this
    rw [meet2_cons]
    by_cases c : (both r x).f0 ≤ (both r x).f1
    · rw [if_pos c, ← List.append_assoc]
      refine Ev.step (fun k => ?_) (hgo (acc ++ [both r x]) (by rw [List.length_append, List.length_singleton]; omega))
      rw [sets_Meet.j1, if_pos rfl, if_pos (at_0 p), if_pos (at_lt p r s), if_pos (at_0 q), if_pos (at_lt q x t), at_rd, at_rd, mx_max, mn_min, if_pos (show max r.f0 x.f0 ≤ min r.f1 x.f1 from c), if_pos (by omega)]
      rfl
    · rw [if_neg c, List.nil_append]
      refine Ev.step (fun k => ?_) (hgo acc (by omega))
      rw [sets_Meet.j1, if_pos rfl, if_pos (at_0 p), if_pos (at_lt p r s), if_pos (at_0 q), if_pos (at_lt q x t), at_rd, at_rd, mx_max, mn_min, if_neg (show ¬ max r.f0 x.f0 ≤ min r.f1 x.f1 from c)]
theorem Meet_f (a b : List S25) (h : a.length + b.length < 4398046511104) : ∃ m, Ev (fun k => sets_Meet.f k a b) m ∧ IsSet m (fun n => mem a n ∧ mem b n) ∧ m.length ≤ a.length + b.length := by
  have h1 := norm_len a
  have h2 := norm_len b
  refine ⟨meet2 (norm a) (norm b), Ev.bind (sknown_f a (by omega)) (Ev.bind (sknown_f b (by omega)) ?_), ⟨?_, fun n => ?_⟩, ?_⟩
  · have := Meet_l0 _ (norm a) (norm b) [] [] [] rfl (by simp; omega) (by simp; omega) (by simp; omega)
    simpa using this
  · have := meet2_sane _ (norm a) (norm b) _ _ rfl (norm_sane a) (norm_sane b)
    rw [Int.max_self] at this
    exact this
  · rw [meet2_mem _ (norm a) (norm b) _ _ rfl (norm_sane a) (norm_sane b), norm_mem, norm_mem]
    exact ⟨fun ⟨⟨u, v, x⟩, _, _, y⟩ => ⟨u, v, x, y⟩, fun ⟨u, v, x, y⟩ => ⟨⟨u, v, x⟩, u, v, y⟩⟩
  · have := meet2_len _ (norm a) (norm b) rfl
    omega
def gaps : Int → List S25 → List S25
  | x, [] => if x ≤ lim then [⟨x, lim⟩] else []
  | x, r :: t => if x < r.f0 then ⟨x, r.f0 - 1⟩ :: gaps (r.f1 + 1) t else gaps (r.f1 + 1) t
theorem gaps_sane : ∀ (s : List S25) (x : Int), saneF (x - 2) s → saneF (x - 2) (gaps x s)
  | [], x, _ => by
    unfold gaps
    split
    · exact ⟨by simp only; omega, by assumption, Int.le_refl _, trivial⟩
    · trivial
  | r :: t, x, ⟨h1, h2, h3, h4⟩ => by
    unfold gaps
    have ih := gaps_sane t (r.f1 + 1) (saneF_le h4 (by omega))
    split
    · exact ⟨by simp only; omega, by simp only; omega, by simp only; omega, saneF_le ih (by simp only; omega)⟩
    · exact saneF_le ih (by omega)
theorem gaps_mem : ∀ (s : List S25) (x : Int), saneF (x - 2) s → ∀ n, mem (gaps x s) n ↔ x ≤ n ∧ n ≤ lim ∧ ¬ mem s n
  | [], x, _, n => by
    unfold gaps
    split
    · rw [mem_one]; simp [mem_nil]
    · simp only [mem_nil]
      constructor
      · exact fun h => h.elim
      · rintro ⟨h1, h2, _⟩; omega
  | r :: t, x, ⟨h1, h2, h3, h4⟩, n => by
    have hs : saneF (r.f1 + 1 - 2) t := saneF_le h4 (by omega)
    have ih := gaps_mem t (r.f1 + 1) hs n
    have ht : mem t n → r.f1 + 2 ≤ n := fun h => (saneF_mem h4 h).1
    unfold gaps
    split
    · rw [mem_cons, mem_cons, ih]
      simp only
      constructor
      · rintro (h | ⟨u, v, z⟩)
        · exact ⟨by omega, by omega, fun h' => h'.elim (fun h' => by omega) (fun h' => by have := ht h'; omega)⟩
        · exact ⟨by omega, v, fun h' => h'.elim (fun h' => by omega) z⟩
      · rintro ⟨u, v, z⟩
        by_cases c : n < r.f0
        · exact .inl (by omega)
        · refine .inr ⟨?_, v, fun h' => z (.inr h')⟩
          have : ¬ (r.f0 ≤ n ∧ n ≤ r.f1) := fun h' => z (.inl h')
          omega
    · rw [mem_cons, ih]
      constructor
      · rintro ⟨u, v, z⟩
        exact ⟨by omega, v, fun h' => h'.elim (fun h' => by omega) z⟩
      · rintro ⟨u, v, z⟩
        refine ⟨?_, v, fun h' => z (.inr h')⟩
        have : ¬ (r.f0 ≤ n ∧ n ≤ r.f1) := fun h' => z (.inl h')
        omega
theorem gaps_len : ∀ (s : List S25) (x : Int), (gaps x s).length ≤ s.length + 1
  | [], x => by unfold gaps; split <;> simp
  | r :: t, x => by
    have := gaps_len t (r.f1 + 1)
    unfold gaps
    split <;> simp only [List.length_cons] <;> omega
theorem Minus_l0 (a : List S25) (z : List S25) : ∀ (t p acc : List S25) (x b : Int), saneF b t → -lim ≤ x → x ≤ lim + 1 → -lim - 2 ≤ b → (p ++ t).length < 4398046511104 → acc.length + t.length < 4398046511104 → acc ++ gaps x t = z → (∀ m, Ev (fun k => sets_Meet.f k a z) m →
    Ev (fun k => sets_Minus.l0 k a acc x (p ++ t) ((p ++ t).length : Int) (p.length : Int)) m)
  | [], p, acc, x, b, _, h1, h2, _, h3, h4, hz, m, hm => by
    simp only [List.length_nil] at h4
    by_cases c : x ≤ lim
    · simp only [gaps, if_pos c] at hz
      refine Ev.step (f := fun k => (sets_Meet.f k a z).bind fun t => some t) (fun k => ?_) (Ev.bind hm (Ev.now _))
      rw [sets_Minus.l0, if_neg (at_end p), if_pos (by unfold lim at c; omega), if_pos (by omega), ← hz]
      rfl
    · simp only [gaps, if_neg c, List.append_nil] at hz
      refine Ev.step (f := fun k => (sets_Meet.f k a z).bind fun t => some t) (fun k => ?_) (Ev.bind hm (Ev.now _))
      rw [sets_Minus.l0, if_neg (at_end p), if_neg (by unfold lim at c; omega), ← hz]
  | r :: t, p, acc, x, b, ⟨r1, r2, r3, r4⟩, h1, h2, h0, h3, h4, hz, m, hm => by
    simp only [List.length_cons] at h4
    have hn := at_next (p := p) (r := r) (t := t) (by omega)
    have w1 : wrap64 (r.f1 + 1) = r.f1 + 1 := w64 (by unfold lim at *; omega) (by unfold lim at *; omega)
    have w2 : wrap64 (r.f0 - 1) = r.f0 - 1 := w64 (by unfold lim at *; omega) (by unfold lim at *; omega)
    by_cases c : x < r.f0
    · simp only [gaps, if_pos c] at hz
      have := Minus_l0 a z t (p ++ [r]) (acc ++ [⟨x, r.f0 - 1⟩]) (r.f1 + 1) r.f1 r4 (by omega) (by omega) (by omega) (by rw [← at_app]; exact h3) (by rw [List.length_append, List.length_singleton]; omega) (by rw [← hz]; simp) m hm
      rw [← at_app] at this
      refine Ev.step (fun k => ?_) this
      rw [sets_Minus.l0, if_pos (at_lt p r t), if_pos (at_0 p), if_pos (at_lt p r t), at_rd, if_pos c, if_pos (by omega), w1, w2, hn]
    · simp only [gaps, if_neg c] at hz
      have := Minus_l0 a z t (p ++ [r]) acc (r.f1 + 1) r.f1 r4 (by omega) (by omega) (by omega) (by rw [← at_app]; exact h3) (by omega) hz m hm
      rw [← at_app] at this
      refine Ev.step (fun k => ?_) this
      rw [sets_Minus.l0, if_pos (at_lt p r t), if_pos (at_0 p), if_pos (at_lt p r t), at_rd, if_neg c, w1, hn]
theorem Minus_f (a b : List S25) (h : a.length + b.length < 4398046511100) : ∃ m, Ev (fun k => sets_Minus.f k a b) m ∧ IsSet m (fun n => mem a n ∧ ¬ mem b n) ∧ m.length ≤ a.length + b.length + 1 := by
  have h2 := norm_len b
  have hl := gaps_len (norm b) (-lim)
  have hs := gaps_sane (norm b) (-lim) (norm_sane b)
  obtain ⟨m, hm, hi, hk⟩ := Meet_f a (gaps (-lim) (norm b)) (by omega)
  refine ⟨m, Ev.bind (sknown_f b (by omega)) ?_, hi.congr fun n h3 h4 => ?_, by omega⟩
  · have := Minus_l0 a _ (norm b) [] [] (-lim) _ (norm_sane b) (Int.le_refl _) (by unfold lim; omega) (Int.le_refl _) (by simp; omega) (by simp; omega) rfl m (by simpa using hm)
    simp only [List.nil_append, List.length_nil] at this
    exact this
  · rw [gaps_mem _ _ (norm_sane b), norm_mem]
    constructor
    · rintro ⟨u, _, _, v⟩
      exact ⟨u, fun hb => v ⟨h3, h4, hb⟩⟩
    · rintro ⟨u, v⟩
      exact ⟨u, h3, h4, fun hb => v hb.2.2⟩
end Go.Proofs.Ytkbcmjejfbbcpaa.A

namespace Go.Proofs.Ytkbcmjejfbbcpaa.A
open Go.RowKit Go.Proofs.YtkbcmjejfbbcpaaW.PrintWords Go.Proofs.YtkbcmjejfbbcpaaW.PrintLast Go.Proofs.YtkbcmjejfbbcpaaW.PrintMore
set_option linter.unusedVariables false
def shifted (lo hi : Int) (r : S25) : S25 := ⟨r.f0 + lo, r.f1 + hi⟩
theorem mem_grow {l : List S25} (hs : ∀ r, r ∈ l → r.f0 ≤ r.f1) (k n : Int) (hk : 0 ≤ k) : mem (l.map (shifted (-k) k)) n ↔ ∃ x, mem l x ∧ x - k ≤ n ∧ n ≤ x + k := by
  constructor
  · rintro ⟨r, hr, h1, h2⟩
    obtain ⟨q, hq, rfl⟩ := List.mem_map.1 hr
    simp only [shifted] at h1 h2
    have := hs q hq
    exact ⟨max q.f0 (min q.f1 n), ⟨q, hq, by omega, by omega⟩, by omega, by omega⟩
  · rintro ⟨x, ⟨q, hq, h1, h2⟩, h3, h4⟩
    exact ⟨_, List.mem_map.2 ⟨q, hq, rfl⟩, by simp only [shifted]; omega, by simp only [shifted]; omega⟩
theorem norm_runs (l : List S25) : ∀ r, r ∈ norm l → r.f0 ≤ r.f1 := fun r hr => (saneF_all (norm_sane l) r hr).2.1
def near (k : Int) : Int := max 0 (min k 2199023255552)
theorem grown (l : List S25) (k : Int) : IsSet (norm ((norm l).map (shifted (-(near k)) (near k)))) (fun n => ∃ x, mem (norm l) x ∧ x - near k ≤ n ∧ n ≤ x + near k) :=
  (isSet_norm _).congr fun n _ _ => mem_grow (norm_runs l) _ _ (by unfold near; omega)
theorem Union_f (a b : List S25) (h : a.length + b.length < 4398046511104) : Ev (fun _ => sets_Union.f a b) (norm (a ++ b)) := ⟨0, fun _ _ => by unfold sets_Union.f; rw [if_pos h]⟩
theorem isSet_union (a b : List S25) : IsSet (norm (a ++ b)) (fun n => mem a n ∨ mem b n) := (isSet_norm _).congr fun n _ _ => mem_append _ _ _
def row (r : S25) (t : List S25) : List S25 := t.flatMap fun q => if (both r q).f0 ≤ (both r q).f1 then [both r q] else []
end Go.Proofs.Ytkbcmjejfbbcpaa.A

namespace Go.Proofs.Ytkbcmjejfbbcpaa.A
open Go.RowKit Go.Proofs.YtkbcmjejfbbcpaaW.PrintWords Go.Proofs.YtkbcmjejfbbcpaaW.PrintLast Go.Proofs.YtkbcmjejfbbcpaaW.PrintMore
set_option linter.unusedVariables false
theorem awake5 : Ev (fun k => lustrumlaw05_awake.f k) true := Ev.of lustrumlaw05_awake.mono (k := 12) (by decide +kernel)
theorem Ev.sameT {s t : List S25} {r : Bool} {f : Nat → Bool → Option Bool} (hn : s.length ≤ 4611686018427387904) (h : s = t) (k : Ev (fun n => f n true) r) : Ev (fun n => (lustrumref04_Same.f n s t).bind (f n)) r := Ev.bind (Same_t hn h) k
theorem SetsLaws_t (a b c : List S25) : Ev (fun i => lustrumlaw05_SetsLaws.f i a b c) true := by
  refine Ev.bind awake5 ?_
  have hj : ∀ x, (x = false → a.length ≤ 30 ∧ b.length ≤ 30 ∧ c.length ≤ 30) → Ev (fun i => lustrumlaw05_SetsLaws.j0 i a b c true x) true := fun x hx => by
    refine Ev.step (fun i => by rw [lustrumlaw05_SetsLaws.j0]) ?_
    cases x with
    | true => exact Ev.ift rfl (Ev.now _)
    | false =>
      obtain ⟨h1, h2, h3⟩ := hx rfl
      have lu := norm_len (b ++ c)
      rw [List.length_append] at lu
      have iu := isSet_union b c
      obtain ⟨m1, e1, i1, l1⟩ := Meet_f a (norm (b ++ c)) (by omega)
      obtain ⟨m2, e2, i2, l2⟩ := Meet_f a b (by omega)
      obtain ⟨m3, e3, i3, l3⟩ := Meet_f a c (by omega)
      have lm := norm_len (m2 ++ m3)
      rw [List.length_append] at lm
      obtain ⟨d1, f1, j1, k1⟩ := Minus_f a (norm (b ++ c)) (by omega)
      obtain ⟨d2, f2, j2, k2⟩ := Minus_f a b (by omega)
      obtain ⟨d3, f3, j3, k3⟩ := Minus_f d2 c (by omega)
      have la := norm_len (a ++ norm (b ++ c))
      have lb := norm_len (a ++ b)
      rw [List.length_append] at la lb
      have s1 : m1 = norm (m2 ++ m3) := i1.eq (isSet_union m2 m3) fun n p q => by
        rw [iu.2, i2.2, i3.2]
        constructor
        · rintro ⟨x, _, _, y | y⟩
          · exact .inl ⟨p, q, x, y⟩
          · exact .inr ⟨p, q, x, y⟩
        · rintro (⟨_, _, x, y⟩ | ⟨_, _, x, y⟩)
          · exact ⟨x, p, q, .inl y⟩
          · exact ⟨x, p, q, .inr y⟩
      have s2 : d1 = d3 := j1.eq j3 fun n p q => by
        rw [iu.2, j2.2]
        constructor
        · rintro ⟨x, y⟩
          exact ⟨⟨p, q, x, fun z => y ⟨p, q, .inl z⟩⟩, fun z => y ⟨p, q, .inr z⟩⟩
        · rintro ⟨⟨_, _, x, y⟩, z⟩
          exact ⟨x, fun w => w.2.2.elim y z⟩
      have s3 : norm (a ++ norm (b ++ c)) = norm (norm (a ++ b) ++ c) := (isSet_union _ _).eq (isSet_union _ _) fun n p q => by
        rw [iu.2, (isSet_union a b).2]
        constructor
        · rintro (x | ⟨_, _, y | y⟩)
          · exact .inl ⟨p, q, .inl x⟩
          · exact .inl ⟨p, q, .inr y⟩
          · exact .inr y
        · rintro (⟨_, _, x | x⟩ | x)
          · exact .inl x
          · exact .inr ⟨p, q, .inl x⟩
          · exact .inr ⟨p, q, .inr x⟩
      refine Ev.iff_ (by simp) (Ev.bind (Union_f b c (by omega)) (Ev.ift rfl (Ev.bind e1 (Ev.bind e2 (Ev.bind e3 (Ev.bind (Union_f m2 m3 (by omega)) (Ev.sameT (by omega) s1 (Ev.ift rfl
        (Ev.bind f1 (Ev.bind f2 (Ev.bind f3 (Ev.sameT (by omega) s2 (Ev.ift rfl (Ev.bind (Union_f a _ (by omega)) (Ev.bind (Union_f a b (by omega)) (Ev.bind (Union_f _ c (by omega)) (Ev.sameT (by omega) s3 (Ev.now _))))))))))))))))))
  by_cases c1 : a.length ≤ 30
  · by_cases c2 : b.length ≤ 30
    · refine Ev.iff_ (by omega) (Ev.iff_ (by omega) (hj _ fun h => ⟨c1, c2, ?_⟩))
      have := of_decide_eq_false h
      omega
    · exact Ev.iff_ (by omega) (Ev.ift (by omega) (hj true (by simp)))
  · exact Ev.ift (by omega) (hj true (by simp))
end Go.Proofs.Ytkbcmjejfbbcpaa.A
