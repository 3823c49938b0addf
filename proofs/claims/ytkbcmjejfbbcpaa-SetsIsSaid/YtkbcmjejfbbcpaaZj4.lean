/- Walks of functions, and plain facts about what they compute. No conditions. -/
import Derived.Test.YtkbcmjejfbbcpaaZj3
set_option linter.unusedVariables false
set_option linter.unusedSimpArgs false
namespace Go.Proofs.Ytkbcmjejfbbcpaa.A
open Go.RowKit Go.Proofs.YtkbcmjejfbbcpaaW.PrintWords Go.Proofs.YtkbcmjejfbbcpaaW.PrintLast Go.Proofs.YtkbcmjejfbbcpaaW.PrintMore
attribute [local go_sem] max2_int min2_int max_two min_two max_three min_three max_four min_four
attribute [local go_sem] isSome_setCell
def lustrumref04_put.T9 : Bool × List (List Nat × List Nat) := (true, [([], []), ([0], [0]), ([], []), ([], []), ([2, 3], [2, 3]), ([4], [4]), ([5], [5]), ([1, 6], [1, 6]), ([], []), ([8], [8]), ([], []), ([], []), ([10, 11], [10, 11]), ([12], [12]), ([13], [13]), ([9, 14], [9, 14]), ([7, 15], [7, 15]), ([16, 0, 1, 2, 3, 4, 5, 6, 7, 8, 9, 10, 11, 12, 13, 14, 15, 16], [16])])
def lustrumref04_put.B9 : List Nat := [0, 1, 0, 0, 12, 28, 60, 127, 0, 256, 0, 0, 3072, 7168, 15360, 32512, 65535, 131071]
theorem lustrumref04_put.tab9 : rtab .any (opsOf Try.f53 9) = lustrumref04_put.T9 := by kernel_rfl
theorem lustrumref04_put.bits9 : waitsOk lustrumref04_put.T9.2 lustrumref04_put.B9 = true := by kernel_rfl
def lustrumref04_put.T10 : Bool × List (List Nat × List Nat) := (true, [([], []), ([], []), ([0, 1], [0, 1]), ([2], [2]), ([3], [3]), ([], []), ([5], [5]), ([6], [6]), ([4, 7], [4, 7]), ([8], [8])])
def lustrumref04_put.B10 : List Nat := [0, 0, 3, 7, 15, 0, 32, 96, 255, 511]
theorem lustrumref04_put.tab10 : rtab .any (opsOf Try.f53 10) = lustrumref04_put.T10 := by kernel_rfl
theorem lustrumref04_put.bits10 : waitsOk lustrumref04_put.T10.2 lustrumref04_put.B10 = true := by kernel_rfl
def lustrumref04_put.T12 : Bool × List (List Nat × List Nat) := (true, [([], []), ([], []), ([0, 1], [0, 1]), ([2], [2]), ([3], [3]), ([], []), ([5], [5]), ([6], [6]), ([4, 7], [4, 7]), ([8], [8])])
def lustrumref04_put.B12 : List Nat := [0, 0, 3, 7, 15, 0, 32, 96, 255, 511]
theorem lustrumref04_put.tab12 : rtab .any (opsOf Try.f53 12) = lustrumref04_put.T12 := by kernel_rfl
theorem lustrumref04_put.bits12 : waitsOk lustrumref04_put.T12.2 lustrumref04_put.B12 = true := by kernel_rfl
set_option maxHeartbeats 8000000 in
set_option maxRecDepth 100000 in
theorem lustrumref04_put.calls (k : Nat) (P0_ : Nat → Prop) (A0 : Option Addr) (c0 : Nat) (l0 : List (S25)) (a1_0 : Int) (a1_1 : Int) (r : List (S25)) (w : World) (hs0 : Kd.V k25 25 w w.heap.size (fun k_ => P0_ k_) (.slice A0 l0.length c0) l0) (h : lustrumref04_put.f k l0 a1_0 a1_1 = some r) :
  Calls Try.prog 53 #[.slice A0 l0.length c0, .agg #[.int .i64 a1_0, .int .i64 a1_1]] w fun e w' => ∃ v0_ : Value, e = .returned (v0_) ∧ Kd.V k25 25 w' w.heap.size (fun k_ => (P0_ k_ ∨ w.heap.size ≤ k_)) v0_ r ∧ Below w.heap.size w w' := by
 have hu25 := Try.underlying25; have HO0 := Aside0.mk (show Kd.V k25 25 w w.heap.size (fun k_ => (P0_ k_ ∨ w.heap.size ≤ k_)) (.slice A0 l0.length c0) l0 from Kd.V_mono hs0 (fun k_ hk => .inl hk)); have HB := Aside0.mk (Below.refl w.heap.size w); have H : (if (mx a1_0 (-1099511627776)) > (mn a1_1 1099511627776) then (some l0) else (lustrumref04_put.l0 k l0 ([] : List (S25)) ([] : List (S25)) 0 (mx a1_0 (-1099511627776)) (mn a1_1 1099511627776))) = some r := h; clear h; obtain ⟨ji3, hji3⟩ : ∃ j_ : Int, (mx a1_0 (-1099511627776)) = j_ := ⟨_, rfl⟩; (replace H : (if (ji3) > (mn a1_1 1099511627776) then (some l0) else (lustrumref04_put.l0 k l0 ([] : List (S25)) ([] : List (S25)) 0 ji3 (mn a1_1 1099511627776))) = some r := by first | (rw [hji3] at H; exact H) | (simp only [hji3] at H ⊢; exact H)); have hji3_ : (if a1_0 < (-1099511627776) then (-1099511627776) else a1_0) = ji3 := hji3; obtain ⟨ji4, hji4⟩ : ∃ j_ : Int, (mn a1_1 1099511627776) = j_ := ⟨_, rfl⟩; (replace H : (if (ji3) > (ji4) then (some l0) else (lustrumref04_put.l0 k l0 ([] : List (S25)) ([] : List (S25)) 0 ji3 ji4)) = some r := by first | (rw [hji4] at H; exact H) | (simp only [hji4] at H ⊢; exact H)); (try (have hji4h : ji4 ≤ 1099511627776 := by (rw [← hji4]; unfold mn; (repeat' split) <;> omega))); (try (have hji4g : ji4 ≤ 64 := by omega)); have hji4_ : (if 1099511627776 < a1_1 then 1099511627776 else a1_1) = ji4 := hji4
 by_cases c5 : (ji3) > (ji4)
 ·rw [if_pos c5] at H
  have c5b0 : decide ((ji4) < (ji3)) = true := decide_eq_true c5; clear c5; obtain rfl := Option.some.inj H; go_enter Try.func53, Try.ntmps53; go_wp2_with (first | ((with_reducible refine gate_dst (N := 3) rfl ?_); refine box_event ?hg (N := 3) ?hd (cs := #[.int .i64 a1_0, .int .i64 a1_1]) (t := 25) ?hr ?_; (case hd => rfl); (case hg => rfl); (case hr => first | (go_simp; done) | (go_simp; rfl)); intro gb213 hg w6 hbox hb; have n0_ := Aside0.mk (Kd.V_below (Kd.V_elderB (hrV_ HO0.out) gb213 (Nat.le_of_eq hg.symm)) hb); have n1_ := Aside0.mk (below_step hb_ hb); have n2_ := Aside0.mk (hbox); have n3_ := Aside0.mk ((by rw [hg]; exact (below_size hb_) : w.heap.size ≤ gb213)); have n4_ := Aside0.mk ((by rw [hg]; exact (below_size hb_) : w.heap.size ≤ gb213)); clear HO0; clear HB; have HO0 := n0_; have HB := n1_; have BK213 := n2_; have GW213 := n3_; have GE213 := n4_; clear n0_ n1_ n2_ n3_ n4_; clear hb hbox hg; have hcz7_0 : w6.cell? ⟨gb213, 0, none⟩ = some (.int .i64 a1_0) := (blk_cell BK213.out 0).trans rfl; have hcz7_1 : w6.cell? ⟨gb213, 1, none⟩ = some (.int .i64 a1_1) := (blk_cell BK213.out 1).trans rfl; have hfz7_0 := blk_frozen BK213.out 0; have hfz7_1 := blk_frozen BK213.out 1) | ((with_reducible refine gate_dst (N := 5) rfl ?_); refine box_event ?hg (N := 5) ?hd (cs := #[.int .i64 0, .int .i64 0]) (t := 25) ?hr ?_; (case hd => rfl); (case hg => rfl); (case hr => first | (go_simp; done) | (go_simp; rfl)); intro gb214 hg w8 hbox hb; have n0_ := Aside0.mk (Kd.V_below (Kd.V_elderB (hrV_ HO0.out) gb214 (Nat.le_of_eq hg.symm)) hb); have n1_ := Aside0.mk (blk_below (g := gb213) (o := .cells #[.int .i64 a1_0, .int .i64 a1_1] 25 (0, 0)) (bl_ BK213.out) hb); have n2_ := Aside0.mk (below_step (by repeat (first | (with_reducible first | exact HB.out | apply below_alloc | apply pw_below_drewN | apply below_drew1 | refine below_set ?_ GE213.out) | exact HB.out)) hb); have n3_ := Aside0.mk (hbox); have n4_ := Aside0.mk ((by rw [hg]; exact (below_size (by repeat (first | (with_reducible first | exact HB.out | apply below_alloc | apply pw_below_drewN | apply below_drew1 | refine below_set ?_ GE213.out) | exact HB.out))) : w.heap.size ≤ gb214)); have n5_ := Aside0.mk ((by rw [hg]; exact (below_size (by repeat (first | (with_reducible first | exact HB.out | apply below_alloc | apply pw_below_drewN | apply below_drew1 | refine below_set ?_ GE213.out) | exact HB.out))) : w.heap.size ≤ gb214)); have n6_ := Aside0.mk ((by rw [hg]; exact Nat.ne_of_lt (blk_lt (g := gb213) (o := .cells #[.int .i64 a1_0, .int .i64 a1_1] 25 (0, 0)) (bl_ BK213.out)) : gb213 ≠ gb214)); have n7_ := Aside0.mk ((by rw [hg]; exact Nat.ne_of_gt (blk_lt (g := gb213) (o := .cells #[.int .i64 a1_0, .int .i64 a1_1] 25 (0, 0)) (bl_ BK213.out)) : gb214 ≠ gb213)); clear HO0; clear BK213; clear HB; have HO0 := n0_; have BK213 := n1_; have HB := n2_; have BK214 := n3_; have GW214 := n4_; have GE214 := n5_; have NB213_214 := n6_; have NB214_213 := n7_; clear n0_ n1_ n2_ n3_ n4_ n5_ n6_ n7_; clear hb hbox hg; have hnb9 := NB214_213.out; have hnc9 := NB213_214.out; have hcz10_0 : w8.cell? ⟨gb214, 0, none⟩ = some (.int .i64 0) := (blk_cell BK214.out 0).trans rfl; have hcz10_1 : w8.cell? ⟨gb214, 1, none⟩ = some (.int .i64 0) := (blk_cell BK214.out 1).trans rfl; have hfz10_0 := blk_frozen BK214.out 0; have hfz10_1 := blk_frozen BK214.out 1)); go_ret; exact ⟨_, by first | rfl | (simp [errW_none, errW_some] <;> rfl) | (simp only [← hji3, ← hji4]; first | rfl | (simp [errW_none, errW_some] <;> rfl)) | (simp [*, errW_none, errW_some] <;> rfl), by (with_reducible repeat (first | apply Kd.V_alloc | apply Kd.V_drewN | apply Kd.V_drew)); exact Kd.V_mono (Kd.V_far (p := ⟨gb214, 1, none⟩) (Kd.V_far (p := ⟨gb214, 0, none⟩) (Kd.V_mono HO0.out (fun k_ hk => (⟨hk, hk.2⟩ : _ ∧ k_ ≠ gb214))) (fun _ hk => hk.2) (.int .i64 ji3)) (fun _ hk => hk.2) (.int .i64 ji4)) (fun _ hk => hk.1.1.1), by repeat (first | (with_reducible first | exact HB.out | apply below_alloc | apply pw_below_drewN | apply below_drew1 | refine below_set ?_ GE213.out | refine below_set ?_ GE214.out) | exact HB.out)⟩
 ·rw [if_neg c5] at H
  have c5b0 : decide ((ji4) < (ji3)) = false := decide_eq_false c5; clear c5; have H' := Aside0.mk H; clear H; go_enter Try.func53, Try.ntmps53; go_wp2_with (first | ((with_reducible refine gate_dst (N := 3) rfl ?_); refine box_event ?hg (N := 3) ?hd (cs := #[.int .i64 a1_0, .int .i64 a1_1]) (t := 25) ?hr ?_; (case hd => rfl); (case hg => rfl); (case hr => first | (go_simp; done) | (go_simp; rfl)); intro gb213 hg w11 hbox hb; have n0_ := Aside0.mk (Kd.V_below (Kd.V_elderB (hrV_ HO0.out) gb213 (Nat.le_of_eq hg.symm)) hb); have n1_ := Aside0.mk (below_step hb_ hb); have n2_ := Aside0.mk (hbox); have n3_ := Aside0.mk ((by rw [hg]; exact (below_size hb_) : w.heap.size ≤ gb213)); have n4_ := Aside0.mk ((by rw [hg]; exact (below_size hb_) : w.heap.size ≤ gb213)); clear HO0; clear HB; have HO0 := n0_; have HB := n1_; have BK213 := n2_; have GW213 := n3_; have GE213 := n4_; clear n0_ n1_ n2_ n3_ n4_; clear hb hbox hg; have hcz12_0 : w11.cell? ⟨gb213, 0, none⟩ = some (.int .i64 a1_0) := (blk_cell BK213.out 0).trans rfl; have hcz12_1 : w11.cell? ⟨gb213, 1, none⟩ = some (.int .i64 a1_1) := (blk_cell BK213.out 1).trans rfl; have hfz12_0 := blk_frozen BK213.out 0; have hfz12_1 := blk_frozen BK213.out 1) | ((with_reducible refine gate_dst (N := 5) rfl ?_); refine box_event ?hg (N := 5) ?hd (cs := #[.int .i64 0, .int .i64 0]) (t := 25) ?hr ?_; (case hd => rfl); (case hg => rfl); (case hr => first | (go_simp; done) | (go_simp; rfl)); intro gb214 hg w13 hbox hb; have n0_ := Aside0.mk (Kd.V_below (Kd.V_elderB (hrV_ HO0.out) gb214 (Nat.le_of_eq hg.symm)) hb); have n1_ := Aside0.mk (blk_below (g := gb213) (o := .cells #[.int .i64 a1_0, .int .i64 a1_1] 25 (0, 0)) (bl_ BK213.out) hb); have n2_ := Aside0.mk (below_step (by repeat (first | (with_reducible first | exact HB.out | apply below_alloc | apply pw_below_drewN | apply below_drew1 | refine below_set ?_ GE213.out) | exact HB.out)) hb); have n3_ := Aside0.mk (hbox); have n4_ := Aside0.mk ((by rw [hg]; exact (below_size (by repeat (first | (with_reducible first | exact HB.out | apply below_alloc | apply pw_below_drewN | apply below_drew1 | refine below_set ?_ GE213.out) | exact HB.out))) : w.heap.size ≤ gb214)); have n5_ := Aside0.mk ((by rw [hg]; exact (below_size (by repeat (first | (with_reducible first | exact HB.out | apply below_alloc | apply pw_below_drewN | apply below_drew1 | refine below_set ?_ GE213.out) | exact HB.out))) : w.heap.size ≤ gb214)); have n6_ := Aside0.mk ((by rw [hg]; exact Nat.ne_of_lt (blk_lt (g := gb213) (o := .cells #[.int .i64 a1_0, .int .i64 a1_1] 25 (0, 0)) (bl_ BK213.out)) : gb213 ≠ gb214)); have n7_ := Aside0.mk ((by rw [hg]; exact Nat.ne_of_gt (blk_lt (g := gb213) (o := .cells #[.int .i64 a1_0, .int .i64 a1_1] 25 (0, 0)) (bl_ BK213.out)) : gb214 ≠ gb213)); clear HO0; clear BK213; clear HB; have HO0 := n0_; have BK213 := n1_; have HB := n2_; have BK214 := n3_; have GW214 := n4_; have GE214 := n5_; have NB213_214 := n6_; have NB214_213 := n7_; clear n0_ n1_ n2_ n3_ n4_ n5_ n6_ n7_; clear hb hbox hg; have hnb14 := NB214_213.out; have hnc14 := NB213_214.out; have hcz15_0 : w13.cell? ⟨gb214, 0, none⟩ = some (.int .i64 0) := (blk_cell BK214.out 0).trans rfl; have hcz15_1 : w13.cell? ⟨gb214, 1, none⟩ = some (.int .i64 0) := (blk_cell BK214.out 1).trans rfl; have hfz15_0 := blk_frozen BK214.out 0; have hfz15_1 := blk_frozen BK214.out 1)); go_loopg [6, 7, 8] k (fun kq v6 v7 v8 w' => ∃ (x6_1 : List (S25)) (x7_1 : List (S25)) (x8_1 : Int) (x215000_1 : Int) (x215001_1 : Int), v8 = .int .i64 x8_1 ∧ Aside0 (lustrumref04_put.l0 kq l0 x6_1 x7_1 x8_1 x215000_1 x215001_1 = some r) ∧ Aside0 (kq ≤ k) ∧ Aside0 (Kd.V k25 25 w' w.heap.size (fun k_ => (P0_ k_ ∨ w.heap.size ≤ k_) ∧ some k_ ≠ (v6 : Value).ownBlock ∧ some k_ ≠ (v7 : Value).ownBlock ∧ k_ ≠ gb213 ∧ k_ ≠ gb214) (.slice A0 l0.length c0) l0) ∧ Aside0 (Kd.R k25 25 w' w.heap.size (fun k_ => (w.heap.size ≤ k_) ∧ some k_ ≠ (v7 : Value).ownBlock ∧ k_ ≠ gb213 ∧ k_ ≠ gb214) v6 x6_1) ∧ Aside0 (Kd.R k25 25 w' w.heap.size (fun k_ => (w.heap.size ≤ k_) ∧ some k_ ≠ (v6 : Value).ownBlock ∧ k_ ≠ gb213 ∧ k_ ≠ gb214) v7 x7_1) ∧ Aside0 (w'.heap[gb213]? = some (.cells #[.int .i64 a1_0, .int .i64 a1_1] 25 (0, 0))) ∧ Aside0 (w'.heap[gb214]? = some (.cells #[.int .i64 x215000_1, .int .i64 x215001_1] 25 (0, 0))) ∧ Aside0 (Below w.heap.size w w'))
  case atStart => exact ⟨(([] : List (S25))), (([] : List (S25))), (0), (ji3), (ji4), rf_, H', ⟨Nat.le_refl _⟩, ⟨by (with_reducible repeat (first | apply Kd.V_alloc | apply Kd.V_drewN | apply Kd.V_drew)); exact Kd.V_mono (Kd.V_far (p := ⟨gb214, 1, none⟩) (Kd.V_far (p := ⟨gb214, 0, none⟩) (Kd.V_mono HO0.out (fun k_ hk => (⟨hk, hk.2⟩ : _ ∧ k_ ≠ gb214))) (fun _ hk => hk.2) (.int .i64 ji3)) (fun _ hk => hk.2) (.int .i64 ji4)) (fun _ hk => ⟨hk.1.1.1, ⟨(by simp [Value.ownBlock]), ⟨(by simp [Value.ownBlock]), ⟨hk.1.1.2, hk.1.2⟩⟩⟩⟩)⟩, ⟨by first | exact Kd.R_nil _ _ _ _ _ | exact Kd.N_nil _ _ _ _ _ | exact Kd.V_nil _ _ _ _ _ | exact Kd.Q_nil _ _ _ _ _ | exact Kd.S_nil _ _ _ _ _⟩, ⟨by first | exact Kd.R_nil _ _ _ _ _ | exact Kd.N_nil _ _ _ _ _ | exact Kd.V_nil _ _ _ _ _ | exact Kd.Q_nil _ _ _ _ _ | exact Kd.S_nil _ _ _ _ _⟩, ⟨by (with_reducible repeat (first | refine blk_drewN ?_ _ | refine blk_drew ?_ | refine blk_alloc ?_ _)); refine blk_far ?_ NB213_214.out _; (with_reducible repeat (first | refine blk_drewN ?_ _ | refine blk_drew ?_ | refine blk_alloc ?_ _)); refine blk_far ?_ NB213_214.out _; (with_reducible repeat (first | refine blk_drewN ?_ _ | refine blk_drew ?_ | refine blk_alloc ?_ _)); exact BK213.out⟩, ⟨by (with_reducible repeat (first | refine blk_drewN ?_ _ | refine blk_drew ?_ | refine blk_alloc ?_ _)); refine blk_put (cs := #[.int .i64 ji3, .int .i64 0]) ?_ 1 _ rfl; (with_reducible repeat (first | refine blk_drewN ?_ _ | refine blk_drew ?_ | refine blk_alloc ?_ _)); refine blk_put (cs := #[.int .i64 0, .int .i64 0]) ?_ 0 _ rfl; (with_reducible repeat (first | refine blk_drewN ?_ _ | refine blk_drew ?_ | refine blk_alloc ?_ _)); exact BK214.out⟩, ⟨by repeat (first | (with_reducible first | exact HB.out | apply below_alloc | apply pw_below_drewN | apply below_drew1 | refine below_set ?_ GE213.out | refine below_set ?_ GE214.out) | exact HB.out)⟩⟩
  case round =>
   clear H'; (try clear c1); (try clear p2); (try clear c5); (try clear c5b0); (try clear c9); (try clear c14); (try clear hcz10_0); (try clear hcz10_1); (try clear hcz12_0); (try clear hcz12_1); (try clear hcz15_0); (try clear hcz15_1); (try clear hcz7_0); (try clear hcz7_1); (try clear hfz10_0); (try clear hfz10_1); (try clear hfz12_0); (try clear hfz12_1); (try clear hfz15_0); (try clear hfz15_1); (try clear hfz7_0); (try clear hfz7_1); obtain ⟨x6_1, x7_1, x8_1, x215000_1, x215001_1, rfl, HA, HK1, HO_0, HO_6, HO_7, BK213, BK214, HB⟩ := hrel
   cases gk with
   | zero => exact absurd HA.out (by simp [lustrumref04_put.l0])
   | succ k1 =>
    have H := HA.out; clear HA; simp only [lustrumref04_put.l0] at H
    by_cases c16 : x8_1 < (l0.length : Int)
    ·rw [if_pos c16] at H
     have c16b0 : decide (x8_1 < (l0.length : Int)) = true := decide_eq_true c16; clear c16
     by_cases c17 : 0 ≤ x8_1
     ·rw [if_pos c17] at H
      have c17b0 : decide (0 ≤ x8_1) = true := decide_eq_true c17; clear c17
      by_cases c18 : ((rd_T25 l0 x8_1).f1) < (wrap64 (x215000_1 - 1))
      ·rw [if_pos c18] at H
       have c18b0 : decide (((rd_T25 l0 x8_1).f1) < (wrap64 (x215000_1 - 1))) = true := decide_eq_true c18; clear c18
       by_cases c19 : x6_1.length < 8796093022208
       ·rw [if_pos c19] at H
        have LMc19 := Aside0.mk c19; clear c19; obtain ⟨y223, hy223⟩ : ∃ y_ : List (S25), y_ = (x6_1 ++ [(⟨(rd_T25 l0 x8_1).f0, (rd_T25 l0 x8_1).f1⟩ : S25)]) := ⟨_, rfl⟩; (replace H : (lustrumref04_put.l0 k1 l0 y223 x7_1 (wrap64 (x8_1 + 1)) x215000_1 x215001_1) = some r := hy_ hy223 H); have Ny223 := Aside0.mk hy223; clear hy223; have H' := Aside0.mk H; clear H; (try go_wp2); replace HO_0 := Aside0.mk (Kd.V_drew HO_0.out); replace HO_6 := Aside0.mk (Kd.R_drew HO_6.out); replace HO_7 := Aside0.mk (Kd.R_drew HO_7.out); replace BK213 := Aside0.mk (blk_drew BK213.out); replace BK214 := Aside0.mk (blk_drew BK214.out); replace HB := Aside0.mk (below_drew1 HB.out); have p221 : 0 ≤ (x8_1 : Int) := od_; have q221 : x8_1 < (l0.length : Int) := od_; obtain ⟨ad221, e221, hx221_0, hx221_1⟩ := at_T25 (Kd.V_reads' HO_0.out).2.2 x8_1 p221 q221
        cases e221
        replace p221 := eq_true p221; replace q221 := eq_true q221; refine start_ (n := 10) (S := fun w' => w'.cell? ⟨gb214, 0, none⟩ = some (.int .i64 x215000_1) ∧ w'.cell? ⟨gb214, 1, none⟩ = some (.int .i64 x215001_1) ∧ w'.cell? (ad221.add ((x8_1).toNat * 2)) = some (.int .i64 ((rd_T25 l0 x8_1).f0)) ∧ w'.cell? ⟨(ad221.add ((x8_1).toNat * 2)).block, (ad221.add ((x8_1).toNat * 2)).off + 1, none⟩ = some (.int .i64 ((rd_T25 l0 x8_1).f1))) (ds := []) (ab 10 0) (by kernel_rfl) rfl rfl ⟨(blk_cell BK214.out 0).trans rfl, (blk_cell BK214.out 1).trans rfl, hx221_0, hx221_1⟩ (fun hHeld => ?_); refine with_tabW lustrumref04_put.tab10 lustrumref04_put.bits10 (fun HT_ HW_ => ?_); generalize wr.drew = w20 at HO_0 HO_6 HO_7 BK213 BK214 HB hx221_0 hx221_1 hHeld ⊢; refine pA 0 46 10 1 ?_; refine pA 1 47 10 3 ?_; refine pA 2 48 10 7 ?_; refine pA 3 49 10 15 ?_; refine pA 5 51 10 47 ?_; refine tA 4 50 10 63 ?_; refine tA 6 52 10 127 ?_; refine pA 7 53 10 255 ?_; refine pA 8 54 10 511 ?_; refine pA 9 45 10 1023 ?_; refine done_ (done_of HT_.out (by kernel_rfl)) ?_; have p222 : 0 ≤ (x8_1 : Int) := od_; have q222 : x8_1 < (l0.length : Int) := od_; obtain ⟨ad222, e222, hx222_0, hx222_1⟩ := at_T25 (Kd.V_reads' HO_0.out).2.2 x8_1 p222 q222; obtain rfl : ad221 = ad222 := (by injection e222); replace p222 := eq_true p222; replace q222 := eq_true q222; (try go_wp2_with (first | ((with_reducible refine gate_builtin (b := .append) (xs := #[.tmp 55, .tmp 60]) rfl ?_); at_builtin; refine Kd.R_append k25 (w0 := w) w.heap.size rfl (.tmp 55) (.tmp 60) 23 25 (.agg #[(.int .i64 0), (.int .i64 0)]) 16 rfl Try.underlying23 info25 rfl (by decide) (by omega) u6 x6_1 (⟨(rd_T25 l0 x8_1).f0, (rd_T25 l0 x8_1).f1⟩ : S25) [.int .i64 ((rd_T25 l0 x8_1).f0), .int .i64 ((rd_T25 l0 x8_1).f1)] (fun k_ => (w.heap.size ≤ k_) ∧ some k_ ≠ (u7 : Value).ownBlock ∧ k_ ≠ gb213 ∧ k_ ≠ gb214) (fun _ => False) rfl rfl ?aP (fun _ hk => hk.elim) ?aF ?aO ?aB ?aS ?aL ?_; (case aP => exact k25_mkM _ _ _ (⟨(rd_T25 l0 x8_1).f0, (rd_T25 l0 x8_1).f1⟩ : S25)); (case aB => exact (by repeat (first | (with_reducible first | exact HB.out | apply below_alloc | apply pw_below_drewN | apply below_drew1 | refine below_set ?_ GE213.out | refine below_set ?_ GE214.out) | exact HB.out))); (case aF => exact (fun k_ hk => ⟨(Nat.le_trans (below_size (by repeat (first | (with_reducible first | exact HB.out | apply below_alloc | apply pw_below_drewN | apply below_drew1 | refine below_set ?_ GE213.out | refine below_set ?_ GE214.out) | exact HB.out))) hk), Kd.fresh' (Kd.R_lt (hrR_ HO_7.out)) k_ hk, Kd.freshB (g := gb213) (o := .cells #[.int .i64 a1_0, .int .i64 a1_1] 25 (0, 0)) (bl_ BK213.out) k_ hk, Kd.freshB (g := gb214) (o := .cells #[.int .i64 x215000_1, .int .i64 x215001_1] 25 (0, 0)) (bl_ BK214.out) k_ hk⟩)); (case aO => exact (hrR_ HO_6.out)); (case aS => exact (below_size (by repeat (first | (with_reducible first | exact HB.out | apply below_alloc | apply pw_below_drewN | apply below_drew1 | refine below_set ?_ GE213.out | refine below_set ?_ GE214.out) | exact HB.out)))); (case aL => have := LMc19.out; omega); intro v224 w21 ho hb hg hat; rw [← Ny223.out] at ho; have n0_ := Aside0.mk (Kd.V_afterv (ok := (fun k_ => (P0_ k_ ∨ w.heap.size ≤ k_) ∧ some k_ ≠ (u7 : Value).ownBlock ∧ k_ ≠ gb213 ∧ k_ ≠ gb214)) (by (with_reducible repeat (first | apply Kd.V_alloc | apply Kd.V_drewN | apply Kd.V_drew)); exact Kd.V_mono HO_0.out (fun _ hk => ⟨⟨hk.1, ⟨hk.2.2.1, ⟨hk.2.2.2.1, hk.2.2.2.2⟩⟩⟩, hk.2.1⟩)) hg hat); have n1_ := Aside0.mk (Kd.R_after (ok := (fun k_ => (w.heap.size ≤ k_) ∧ k_ ≠ gb213 ∧ k_ ≠ gb214)) (by (with_reducible repeat (first | apply Kd.R_alloc | apply Kd.R_drewN | apply Kd.R_drew)); exact Kd.R_mono HO_7.out (fun _ hk => ⟨⟨hk.1, ⟨hk.2.2.1, hk.2.2.2⟩⟩, hk.2.1⟩)) hg hat); have n2_ := Aside0.mk (blk_grown (g := gb213) (o := .cells #[.int .i64 a1_0, .int .i64 a1_1] 25 (0, 0)) (bl_ BK213.out) hg (Kd.R_away HO_6.out (fun _ hk => hk.2.2.1))); have n3_ := Aside0.mk (blk_grown (g := gb214) (o := .cells #[.int .i64 x215000_1, .int .i64 x215001_1] 25 (0, 0)) (bl_ BK214.out) hg (Kd.R_away HO_6.out (fun _ hk => hk.2.2.2))); have n4_ := Aside0.mk (hb); have n5_ := Aside0.mk (ho); clear HO_0; clear HO_7; clear BK213; clear BK214; clear HB; clear HO_6; have HO_0 := n0_; have HO_7 := n1_; have BK213 := n2_; have BK214 := n3_; have HB := n4_; have HO225 := n5_; clear n0_ n1_ n2_ n3_ n4_ n5_; clear ho hb hg hat)))
        go_roundg k1
        case measure => have := HK1.out; omega
        case rel => exact ⟨(y223), (x7_1), (wrap64 (x8_1 + 1)), (x215000_1), (x215001_1), rf_, H', ⟨by have := HK1.out; omega⟩, ⟨by (with_reducible repeat (first | apply Kd.V_alloc | apply Kd.V_drewN | apply Kd.V_drew)); exact Kd.V_mono HO_0.out (fun _ hk => ⟨hk.1.1, ⟨hk.2, ⟨hk.1.2.1, ⟨hk.1.2.2.1, hk.1.2.2.2⟩⟩⟩⟩)⟩, ⟨by (with_reducible repeat (first | apply Kd.R_alloc | apply Kd.R_drewN | apply Kd.R_drew)); exact HO225.out⟩, ⟨by (with_reducible repeat (first | apply Kd.R_alloc | apply Kd.R_drewN | apply Kd.R_drew)); exact Kd.R_mono HO_7.out (fun _ hk => ⟨hk.1.1, ⟨hk.2, ⟨hk.1.2.1, hk.1.2.2⟩⟩⟩)⟩, ⟨by (with_reducible repeat (first | refine blk_drewN ?_ _ | refine blk_drew ?_ | refine blk_alloc ?_ _)); exact BK213.out⟩, ⟨by (with_reducible repeat (first | refine blk_drewN ?_ _ | refine blk_drew ?_ | refine blk_alloc ?_ _)); exact BK214.out⟩, ⟨by repeat (first | (with_reducible first | exact HB.out | apply below_alloc | apply pw_below_drewN | apply below_drew1 | refine below_set ?_ GE213.out | refine below_set ?_ GE214.out) | exact HB.out)⟩⟩
       ·rw [if_neg c19] at H
        exact absurd H (by simp)
      ·rw [if_neg c18] at H
       have c18b0 : decide (((rd_T25 l0 x8_1).f1) < (wrap64 (x215000_1 - 1))) = false := decide_eq_false c18; clear c18
       by_cases c22 : ((rd_T25 l0 x8_1).f0) > (wrap64 (x215001_1 + 1))
       ·rw [if_pos c22] at H
        have c22b0 : decide ((wrap64 (x215001_1 + 1)) < ((rd_T25 l0 x8_1).f0)) = true := decide_eq_true c22; clear c22
        by_cases c23 : x7_1.length < 8796093022208
        ·rw [if_pos c23] at H
         have LMc23 := Aside0.mk c23; clear c23; obtain ⟨y228, hy228⟩ : ∃ y_ : List (S25), y_ = (x7_1 ++ [(⟨(rd_T25 l0 x8_1).f0, (rd_T25 l0 x8_1).f1⟩ : S25)]) := ⟨_, rfl⟩; (replace H : (lustrumref04_put.l0 k1 l0 x6_1 y228 (wrap64 (x8_1 + 1)) x215000_1 x215001_1) = some r := hy_ hy228 H); have Ny228 := Aside0.mk hy228; clear hy228; have H' := Aside0.mk H; clear H; (try go_wp2); replace HO_0 := Aside0.mk (Kd.V_drew HO_0.out); replace HO_6 := Aside0.mk (Kd.R_drew HO_6.out); replace HO_7 := Aside0.mk (Kd.R_drew HO_7.out); replace BK213 := Aside0.mk (blk_drew BK213.out); replace BK214 := Aside0.mk (blk_drew BK214.out); replace HB := Aside0.mk (below_drew1 HB.out); have p221 : 0 ≤ (x8_1 : Int) := od_; have q221 : x8_1 < (l0.length : Int) := od_; obtain ⟨ad221, e221, hx221_0, hx221_1⟩ := at_T25 (Kd.V_reads' HO_0.out).2.2 x8_1 p221 q221
         cases e221
         replace p221 := eq_true p221; replace q221 := eq_true q221; refine start_ (n := 10) (S := fun w' => w'.cell? ⟨gb214, 0, none⟩ = some (.int .i64 x215000_1) ∧ w'.cell? ⟨gb214, 1, none⟩ = some (.int .i64 x215001_1) ∧ w'.cell? (ad221.add ((x8_1).toNat * 2)) = some (.int .i64 ((rd_T25 l0 x8_1).f0)) ∧ w'.cell? ⟨(ad221.add ((x8_1).toNat * 2)).block, (ad221.add ((x8_1).toNat * 2)).off + 1, none⟩ = some (.int .i64 ((rd_T25 l0 x8_1).f1))) (ds := []) (ab 10 0) (by kernel_rfl) rfl rfl ⟨(blk_cell BK214.out 0).trans rfl, (blk_cell BK214.out 1).trans rfl, hx221_0, hx221_1⟩ (fun hHeld => ?_); refine with_tabW lustrumref04_put.tab10 lustrumref04_put.bits10 (fun HT_ HW_ => ?_); generalize wr.drew = w24 at HO_0 HO_6 HO_7 BK213 BK214 HB hx221_0 hx221_1 hHeld ⊢; refine pA 0 46 10 1 ?_; refine pA 1 47 10 3 ?_; refine pA 2 48 10 7 ?_; refine pA 3 49 10 15 ?_; refine pA 5 51 10 47 ?_; refine tA 4 50 10 63 ?_; refine tA 6 52 10 127 ?_; refine pA 7 53 10 255 ?_; refine pA 8 54 10 511 ?_; refine pA 9 45 10 1023 ?_; refine done_ (done_of HT_.out (by kernel_rfl)) ?_; (try go_wp2); replace HO_0 := Aside0.mk (Kd.V_drew HO_0.out); replace HO_6 := Aside0.mk (Kd.R_drew HO_6.out); replace HO_7 := Aside0.mk (Kd.R_drew HO_7.out); replace BK213 := Aside0.mk (blk_drew BK213.out); replace BK214 := Aside0.mk (blk_drew BK214.out); replace HB := Aside0.mk (below_drew1 HB.out); have p226 : 0 ≤ (x8_1 : Int) := od_; have q226 : x8_1 < (l0.length : Int) := od_; obtain ⟨ad226, e226, hx226_0, hx226_1⟩ := at_T25 (Kd.V_reads' HO_0.out).2.2 x8_1 p226 q226; obtain rfl : ad221 = ad226 := (by injection e226); replace p226 := eq_true p226; replace q226 := eq_true q226; refine start_ (n := 10) (S := fun w' => w'.cell? ⟨gb214, 0, none⟩ = some (.int .i64 x215000_1) ∧ w'.cell? ⟨gb214, 1, none⟩ = some (.int .i64 x215001_1) ∧ w'.cell? (ad221.add ((x8_1).toNat * 2)) = some (.int .i64 ((rd_T25 l0 x8_1).f0)) ∧ w'.cell? ⟨(ad221.add ((x8_1).toNat * 2)).block, (ad221.add ((x8_1).toNat * 2)).off + 1, none⟩ = some (.int .i64 ((rd_T25 l0 x8_1).f1))) (ds := []) (ab 10 0) (by kernel_rfl) rfl rfl ⟨(blk_cell BK214.out 0).trans rfl, (blk_cell BK214.out 1).trans rfl, hx226_0, hx226_1⟩ (fun hHeld => ?_); refine with_tabW lustrumref04_put.tab12 lustrumref04_put.bits12 (fun HT_ HW_ => ?_); generalize w24.drew = w25 at HO_0 HO_6 HO_7 BK213 BK214 HB hx226_0 hx226_1 hHeld ⊢; refine pA 0 63 10 1 ?_; refine pA 1 64 10 3 ?_; refine pA 2 65 10 7 ?_; refine pA 3 66 10 15 ?_; refine pA 5 68 10 47 ?_; refine tA 4 67 10 63 ?_; refine tA 6 69 10 127 ?_; refine pA 7 70 10 255 ?_; refine pA 8 71 10 511 ?_; refine pA 9 62 10 1023 ?_; refine done_ (done_of HT_.out (by kernel_rfl)) ?_; have p227 : 0 ≤ (x8_1 : Int) := od_; have q227 : x8_1 < (l0.length : Int) := od_; obtain ⟨ad227, e227, hx227_0, hx227_1⟩ := at_T25 (Kd.V_reads' HO_0.out).2.2 x8_1 p227 q227; obtain rfl : ad221 = ad227 := (by injection e227); replace p227 := eq_true p227; replace q227 := eq_true q227; (try go_wp2_with (first | ((with_reducible refine gate_builtin (b := .append) (xs := #[.tmp 72, .tmp 77]) rfl ?_); at_builtin; refine Kd.R_append k25 (w0 := w) w.heap.size rfl (.tmp 72) (.tmp 77) 23 25 (.agg #[(.int .i64 0), (.int .i64 0)]) 16 rfl Try.underlying23 info25 rfl (by decide) (by omega) u7 x7_1 (⟨(rd_T25 l0 x8_1).f0, (rd_T25 l0 x8_1).f1⟩ : S25) [.int .i64 ((rd_T25 l0 x8_1).f0), .int .i64 ((rd_T25 l0 x8_1).f1)] (fun k_ => (w.heap.size ≤ k_) ∧ some k_ ≠ (u6 : Value).ownBlock ∧ k_ ≠ gb213 ∧ k_ ≠ gb214) (fun _ => False) rfl rfl ?aP (fun _ hk => hk.elim) ?aF ?aO ?aB ?aS ?aL ?_; (case aP => exact k25_mkM _ _ _ (⟨(rd_T25 l0 x8_1).f0, (rd_T25 l0 x8_1).f1⟩ : S25)); (case aB => exact (by repeat (first | (with_reducible first | exact HB.out | apply below_alloc | apply pw_below_drewN | apply below_drew1 | refine below_set ?_ GE213.out | refine below_set ?_ GE214.out) | exact HB.out))); (case aF => exact (fun k_ hk => ⟨(Nat.le_trans (below_size (by repeat (first | (with_reducible first | exact HB.out | apply below_alloc | apply pw_below_drewN | apply below_drew1 | refine below_set ?_ GE213.out | refine below_set ?_ GE214.out) | exact HB.out))) hk), Kd.fresh' (Kd.R_lt (hrR_ HO_6.out)) k_ hk, Kd.freshB (g := gb213) (o := .cells #[.int .i64 a1_0, .int .i64 a1_1] 25 (0, 0)) (bl_ BK213.out) k_ hk, Kd.freshB (g := gb214) (o := .cells #[.int .i64 x215000_1, .int .i64 x215001_1] 25 (0, 0)) (bl_ BK214.out) k_ hk⟩)); (case aO => exact (hrR_ HO_7.out)); (case aS => exact (below_size (by repeat (first | (with_reducible first | exact HB.out | apply below_alloc | apply pw_below_drewN | apply below_drew1 | refine below_set ?_ GE213.out | refine below_set ?_ GE214.out) | exact HB.out)))); (case aL => have := LMc23.out; omega); intro v229 w26 ho hb hg hat; rw [← Ny228.out] at ho; have n0_ := Aside0.mk (Kd.V_afterv (ok := (fun k_ => (P0_ k_ ∨ w.heap.size ≤ k_) ∧ some k_ ≠ (u6 : Value).ownBlock ∧ k_ ≠ gb213 ∧ k_ ≠ gb214)) (by (with_reducible repeat (first | apply Kd.V_alloc | apply Kd.V_drewN | apply Kd.V_drew)); exact Kd.V_mono HO_0.out (fun _ hk => ⟨⟨hk.1, ⟨hk.2.1, ⟨hk.2.2.2.1, hk.2.2.2.2⟩⟩⟩, hk.2.2.1⟩)) hg hat); have n1_ := Aside0.mk (Kd.R_after (ok := (fun k_ => (w.heap.size ≤ k_) ∧ k_ ≠ gb213 ∧ k_ ≠ gb214)) (by (with_reducible repeat (first | apply Kd.R_alloc | apply Kd.R_drewN | apply Kd.R_drew)); exact Kd.R_mono HO_6.out (fun _ hk => ⟨⟨hk.1, ⟨hk.2.2.1, hk.2.2.2⟩⟩, hk.2.1⟩)) hg hat); have n2_ := Aside0.mk (blk_grown (g := gb213) (o := .cells #[.int .i64 a1_0, .int .i64 a1_1] 25 (0, 0)) (bl_ BK213.out) hg (Kd.R_away HO_7.out (fun _ hk => hk.2.2.1))); have n3_ := Aside0.mk (blk_grown (g := gb214) (o := .cells #[.int .i64 x215000_1, .int .i64 x215001_1] 25 (0, 0)) (bl_ BK214.out) hg (Kd.R_away HO_7.out (fun _ hk => hk.2.2.2))); have n4_ := Aside0.mk (hb); have n5_ := Aside0.mk (ho); clear HO_0; clear HO_6; clear BK213; clear BK214; clear HB; clear HO_7; have HO_0 := n0_; have HO_6 := n1_; have BK213 := n2_; have BK214 := n3_; have HB := n4_; have HO230 := n5_; clear n0_ n1_ n2_ n3_ n4_ n5_; clear ho hb hg hat)))
         go_roundg k1
         case measure => have := HK1.out; omega
         case rel => exact ⟨(x6_1), (y228), (wrap64 (x8_1 + 1)), (x215000_1), (x215001_1), rf_, H', ⟨by have := HK1.out; omega⟩, ⟨by (with_reducible repeat (first | apply Kd.V_alloc | apply Kd.V_drewN | apply Kd.V_drew)); exact Kd.V_mono HO_0.out (fun _ hk => ⟨hk.1.1, ⟨hk.1.2.1, ⟨hk.2, ⟨hk.1.2.2.1, hk.1.2.2.2⟩⟩⟩⟩)⟩, ⟨by (with_reducible repeat (first | apply Kd.R_alloc | apply Kd.R_drewN | apply Kd.R_drew)); exact Kd.R_mono HO_6.out (fun _ hk => ⟨hk.1.1, ⟨hk.2, ⟨hk.1.2.1, hk.1.2.2⟩⟩⟩)⟩, ⟨by (with_reducible repeat (first | apply Kd.R_alloc | apply Kd.R_drewN | apply Kd.R_drew)); exact HO230.out⟩, ⟨by (with_reducible repeat (first | refine blk_drewN ?_ _ | refine blk_drew ?_ | refine blk_alloc ?_ _)); exact BK213.out⟩, ⟨by (with_reducible repeat (first | refine blk_drewN ?_ _ | refine blk_drew ?_ | refine blk_alloc ?_ _)); exact BK214.out⟩, ⟨by repeat (first | (with_reducible first | exact HB.out | apply below_alloc | apply pw_below_drewN | apply below_drew1 | refine below_set ?_ GE213.out | refine below_set ?_ GE214.out) | exact HB.out)⟩⟩
        ·rw [if_neg c23] at H
         exact absurd H (by simp)
       ·rw [if_neg c22] at H
        have c22b0 : decide ((wrap64 (x215001_1 + 1)) < ((rd_T25 l0 x8_1).f0)) = false := decide_eq_false c22; clear c22; obtain ⟨ji27, hji27⟩ : ∃ j_ : Int, (mn x215000_1 ((rd_T25 l0 x8_1).f0)) = j_ := ⟨_, rfl⟩; (replace H : (lustrumref04_put.l0 k1 l0 x6_1 x7_1 (wrap64 (x8_1 + 1)) ji27 (mx x215001_1 ((rd_T25 l0 x8_1).f1))) = some r := by first | (rw [hji27] at H; exact H) | (simp only [hji27] at H ⊢; exact H)); have hji27_ : (if ((rd_T25 l0 x8_1).f0) < x215000_1 then ((rd_T25 l0 x8_1).f0) else x215000_1) = ji27 := hji27; obtain ⟨ji28, hji28⟩ : ∃ j_ : Int, (mx x215001_1 ((rd_T25 l0 x8_1).f1)) = j_ := ⟨_, rfl⟩; (replace H : (lustrumref04_put.l0 k1 l0 x6_1 x7_1 (wrap64 (x8_1 + 1)) ji27 ji28) = some r := by first | (rw [hji28] at H; exact H) | (simp only [hji28] at H ⊢; exact H)); have hji28_ : (if x215001_1 < ((rd_T25 l0 x8_1).f1) then ((rd_T25 l0 x8_1).f1) else x215001_1) = ji28 := hji28; have H' := Aside0.mk H; clear H; (try go_wp2); replace HO_0 := Aside0.mk (Kd.V_drew HO_0.out); replace HO_6 := Aside0.mk (Kd.R_drew HO_6.out); replace HO_7 := Aside0.mk (Kd.R_drew HO_7.out); replace BK213 := Aside0.mk (blk_drew BK213.out); replace BK214 := Aside0.mk (blk_drew BK214.out); replace HB := Aside0.mk (below_drew1 HB.out); have p221 : 0 ≤ (x8_1 : Int) := od_; have q221 : x8_1 < (l0.length : Int) := od_; obtain ⟨ad221, e221, hx221_0, hx221_1⟩ := at_T25 (Kd.V_reads' HO_0.out).2.2 x8_1 p221 q221
        cases e221
        replace p221 := eq_true p221; replace q221 := eq_true q221; refine start_ (n := 10) (S := fun w' => w'.cell? ⟨gb214, 0, none⟩ = some (.int .i64 x215000_1) ∧ w'.cell? ⟨gb214, 1, none⟩ = some (.int .i64 x215001_1) ∧ w'.cell? (ad221.add ((x8_1).toNat * 2)) = some (.int .i64 ((rd_T25 l0 x8_1).f0)) ∧ w'.cell? ⟨(ad221.add ((x8_1).toNat * 2)).block, (ad221.add ((x8_1).toNat * 2)).off + 1, none⟩ = some (.int .i64 ((rd_T25 l0 x8_1).f1))) (ds := []) (ab 10 0) (by kernel_rfl) rfl rfl ⟨(blk_cell BK214.out 0).trans rfl, (blk_cell BK214.out 1).trans rfl, hx221_0, hx221_1⟩ (fun hHeld => ?_); refine with_tabW lustrumref04_put.tab10 lustrumref04_put.bits10 (fun HT_ HW_ => ?_); generalize wr.drew = w29 at HO_0 HO_6 HO_7 BK213 BK214 HB hx221_0 hx221_1 hHeld ⊢; refine pA 0 46 10 1 ?_; refine pA 1 47 10 3 ?_; refine pA 2 48 10 7 ?_; refine pA 3 49 10 15 ?_; refine pA 5 51 10 47 ?_; refine tA 4 50 10 63 ?_; refine tA 6 52 10 127 ?_; refine pA 7 53 10 255 ?_; refine pA 8 54 10 511 ?_; refine pA 9 45 10 1023 ?_; refine done_ (done_of HT_.out (by kernel_rfl)) ?_; (try go_wp2); replace HO_0 := Aside0.mk (Kd.V_drew HO_0.out); replace HO_6 := Aside0.mk (Kd.R_drew HO_6.out); replace HO_7 := Aside0.mk (Kd.R_drew HO_7.out); replace BK213 := Aside0.mk (blk_drew BK213.out); replace BK214 := Aside0.mk (blk_drew BK214.out); replace HB := Aside0.mk (below_drew1 HB.out); have p226 : 0 ≤ (x8_1 : Int) := od_; have q226 : x8_1 < (l0.length : Int) := od_; obtain ⟨ad226, e226, hx226_0, hx226_1⟩ := at_T25 (Kd.V_reads' HO_0.out).2.2 x8_1 p226 q226; obtain rfl : ad221 = ad226 := (by injection e226); replace p226 := eq_true p226; replace q226 := eq_true q226; refine start_ (n := 10) (S := fun w' => w'.cell? ⟨gb214, 0, none⟩ = some (.int .i64 x215000_1) ∧ w'.cell? ⟨gb214, 1, none⟩ = some (.int .i64 x215001_1) ∧ w'.cell? (ad221.add ((x8_1).toNat * 2)) = some (.int .i64 ((rd_T25 l0 x8_1).f0)) ∧ w'.cell? ⟨(ad221.add ((x8_1).toNat * 2)).block, (ad221.add ((x8_1).toNat * 2)).off + 1, none⟩ = some (.int .i64 ((rd_T25 l0 x8_1).f1))) (ds := []) (ab 10 0) (by kernel_rfl) rfl rfl ⟨(blk_cell BK214.out 0).trans rfl, (blk_cell BK214.out 1).trans rfl, hx226_0, hx226_1⟩ (fun hHeld => ?_); refine with_tabW lustrumref04_put.tab12 lustrumref04_put.bits12 (fun HT_ HW_ => ?_); generalize w29.drew = w30 at HO_0 HO_6 HO_7 BK213 BK214 HB hx226_0 hx226_1 hHeld ⊢; refine pA 0 63 10 1 ?_; refine pA 1 64 10 3 ?_; refine pA 2 65 10 7 ?_; refine pA 3 66 10 15 ?_; refine pA 5 68 10 47 ?_; refine tA 4 67 10 63 ?_; refine tA 6 69 10 127 ?_; refine pA 7 70 10 255 ?_; refine pA 8 71 10 511 ?_; refine pA 9 62 10 1023 ?_; refine done_ (done_of HT_.out (by kernel_rfl)) ?_; (try go_wp2); replace HO_0 := Aside0.mk (Kd.V_drew HO_0.out); replace HO_6 := Aside0.mk (Kd.R_drew HO_6.out); replace HO_7 := Aside0.mk (Kd.R_drew HO_7.out); replace BK213 := Aside0.mk (blk_drew BK213.out); replace BK214 := Aside0.mk (blk_drew BK214.out); replace HB := Aside0.mk (below_drew1 HB.out); have p231 : 0 ≤ (x8_1 : Int) := od_; have q231 : x8_1 < (l0.length : Int) := od_; obtain ⟨ad231, e231, hx231_0, hx231_1⟩ := at_T25 (Kd.V_reads' HO_0.out).2.2 x8_1 p231 q231; obtain rfl : ad221 = ad231 := (by injection e231); replace p231 := eq_true p231; replace q231 := eq_true q231; have p232 : 0 ≤ (x8_1 : Int) := od_; have q232 : x8_1 < (l0.length : Int) := od_; obtain ⟨ad232, e232, hx232_0, hx232_1⟩ := at_T25 (Kd.V_reads' HO_0.out).2.2 x8_1 p232 q232; obtain rfl : ad221 = ad232 := (by injection e232); replace p232 := eq_true p232; replace q232 := eq_true q232; refine start_ (n := 18) (S := fun w' => w'.cell? ⟨gb214, 0, none⟩ = some (.int .i64 x215000_1) ∧ w'.cell? ⟨gb214, 1, none⟩ = some (.int .i64 x215001_1) ∧ w'.cell? (ad221.add ((x8_1).toNat * 2)) = some (.int .i64 ((rd_T25 l0 x8_1).f0)) ∧ w'.cell? ⟨(ad221.add ((x8_1).toNat * 2)).block, (ad221.add ((x8_1).toNat * 2)).off + 1, none⟩ = some (.int .i64 ((rd_T25 l0 x8_1).f1)) ∧ w'.cell? (ad221.add ((x8_1).toNat * 2)) = some (.int .i64 ((rd_T25 l0 x8_1).f0)) ∧ w'.cell? ⟨(ad221.add ((x8_1).toNat * 2)).block, (ad221.add ((x8_1).toNat * 2)).off + 1, none⟩ = some (.int .i64 ((rd_T25 l0 x8_1).f1))) (ds := [17]) (ab 18 0) (by kernel_rfl) rfl rfl ⟨(blk_cell BK214.out 0).trans rfl, (blk_cell BK214.out 1).trans rfl, hx231_0, hx231_1, hx232_0, hx232_1⟩ (fun hHeld => ?_); refine with_tabW lustrumref04_put.tab9 lustrumref04_put.bits9 (fun HT_ HW_ => ?_)
        generalize w30.drew = w31 at HO_0 HO_6 HO_7 BK213 BK214 HB hx231_0 hx231_1 hx232_0 hx232_1 hHeld ⊢; refine pA 0 28 18 1 ?_; refine pA 2 30 18 5 ?_; refine pA 3 31 18 13 ?_; refine pA 4 32 18 29 ?_; refine pA 5 33 18 61 ?_; refine pA 8 36 18 317 ?_; refine pA 10 38 18 1341 ?_; refine pA 11 39 18 3389 ?_; refine pA 12 40 18 7485 ?_; refine pA 13 41 18 15677 ?_; refine takeA 1 (some 29) (ab 18 15679) rfl rfl (take_ofW HT_.out HW_.out (by kernel_rfl)) (Or.inl ⟨by rfl, by rintro w' ⟨s0, s1, s2, s3, s4, s5⟩; go_simp; with_reducible rfl⟩) hHeld ?_; refine takeA 6 (some 34) (ab 18 15743) rfl rfl (take_ofW HT_.out HW_.out (by kernel_rfl)) (Or.inl ⟨by rfl, by rintro w' ⟨s0, s1, s2, s3, s4, s5⟩; go_simp; with_reducible rfl⟩) hHeld ?_; refine pA 7 35 18 15871 ?_; refine takeA 9 (some 37) (ab 18 16383) rfl rfl (take_ofW HT_.out HW_.out (by kernel_rfl)) (Or.inl ⟨by rfl, by rintro w' ⟨s0, s1, s2, s3, s4, s5⟩; go_simp; with_reducible rfl⟩) hHeld ?_; refine takeA 14 (some 42) (ab 18 32767) rfl rfl (take_ofW HT_.out HW_.out (by kernel_rfl)) (Or.inl ⟨by rfl, by rintro w' ⟨s0, s1, s2, s3, s4, s5⟩; go_simp; with_reducible rfl⟩) hHeld ?_; refine pA 15 43 18 65535 ?_; refine pA 16 44 18 131071 ?_; refine last_ (i := 17) (N := none) (ab 18 262143) rfl rfl (one_of HT_.out (by kernel_rfl)) (by decide) (fun K hK => ?_); have hs32 : w31.cell? ⟨gb214, 0, none⟩ = some (.int .i64 x215000_1) := (blk_cell BK214.out 0).trans rfl; have hfs32 := blk_frozen BK214.out 0; have hns32_0 := NB213_214.out; have hms32_0 := NB214_213.out; have hs33 : w31.cell? ⟨gb214, 1, none⟩ = some (.int .i64 x215001_1) := (blk_cell BK214.out 1).trans rfl; have hfs33 := blk_frozen BK214.out 1; have hns33_0 := NB213_214.out; have hms33_0 := NB214_213.out; refine sA ?_; refine hK.out _ _ ?_; clear hK K; refine done_ (done_of HT_.out (by kernel_rfl)) ?_; (try go_wp2); go_roundg k1
        case measure => have := HK1.out; omega
        case rel => exact ⟨(x6_1), (x7_1), (wrap64 (x8_1 + 1)), (ji27), (ji28), rf_, H', ⟨by have := HK1.out; omega⟩, ⟨by (with_reducible repeat (first | apply Kd.V_alloc | apply Kd.V_drewN | apply Kd.V_drew)); exact Kd.V_mono (Kd.V_far (p := ⟨gb214, 1, none⟩) (Kd.V_far (p := ⟨gb214, 0, none⟩) (Kd.V_mono HO_0.out (fun k_ hk => (⟨hk, hk.2.2.2.2⟩ : _ ∧ k_ ≠ gb214))) (fun _ hk => hk.2) (.int .i64 ji27)) (fun _ hk => hk.2) (.int .i64 ji28)) (fun _ hk => ⟨hk.1.1, ⟨hk.1.2.1, ⟨hk.1.2.2.1, ⟨hk.1.2.2.2.1, hk.1.2.2.2.2⟩⟩⟩⟩)⟩, ⟨by (with_reducible repeat (first | apply Kd.R_alloc | apply Kd.R_drewN | apply Kd.R_drew)); exact Kd.R_mono (Kd.R_far (p := ⟨gb214, 1, none⟩) (Kd.R_far (p := ⟨gb214, 0, none⟩) (Kd.R_mono HO_6.out (fun k_ hk => (⟨hk, hk.2.2.2⟩ : _ ∧ k_ ≠ gb214))) (fun _ hk => hk.2) (.int .i64 ji27)) (fun _ hk => hk.2) (.int .i64 ji28)) (fun _ hk => ⟨hk.1.1, ⟨hk.1.2.1, ⟨hk.1.2.2.1, hk.1.2.2.2⟩⟩⟩)⟩, ⟨by (with_reducible repeat (first | apply Kd.R_alloc | apply Kd.R_drewN | apply Kd.R_drew)); exact Kd.R_mono (Kd.R_far (p := ⟨gb214, 1, none⟩) (Kd.R_far (p := ⟨gb214, 0, none⟩) (Kd.R_mono HO_7.out (fun k_ hk => (⟨hk, hk.2.2.2⟩ : _ ∧ k_ ≠ gb214))) (fun _ hk => hk.2) (.int .i64 ji27)) (fun _ hk => hk.2) (.int .i64 ji28)) (fun _ hk => ⟨hk.1.1, ⟨hk.1.2.1, ⟨hk.1.2.2.1, hk.1.2.2.2⟩⟩⟩)⟩, ⟨by (with_reducible repeat (first | refine blk_drewN ?_ _ | refine blk_drew ?_ | refine blk_alloc ?_ _)); refine blk_far ?_ NB213_214.out _; (with_reducible repeat (first | refine blk_drewN ?_ _ | refine blk_drew ?_ | refine blk_alloc ?_ _)); refine blk_far ?_ NB213_214.out _; (with_reducible repeat (first | refine blk_drewN ?_ _ | refine blk_drew ?_ | refine blk_alloc ?_ _)); exact BK213.out⟩, ⟨by (with_reducible repeat (first | refine blk_drewN ?_ _ | refine blk_drew ?_ | refine blk_alloc ?_ _)); refine blk_put (cs := #[.int .i64 ji27, .int .i64 x215001_1]) ?_ 1 _ rfl; (with_reducible repeat (first | refine blk_drewN ?_ _ | refine blk_drew ?_ | refine blk_alloc ?_ _)); refine blk_put (cs := #[.int .i64 x215000_1, .int .i64 x215001_1]) ?_ 0 _ rfl; (with_reducible repeat (first | refine blk_drewN ?_ _ | refine blk_drew ?_ | refine blk_alloc ?_ _)); exact BK214.out⟩, ⟨by repeat (first | (with_reducible first | exact HB.out | apply below_alloc | apply pw_below_drewN | apply below_drew1 | refine below_set ?_ GE213.out | refine below_set ?_ GE214.out) | exact HB.out)⟩⟩
     ·rw [if_neg c17] at H
      exact absurd H (by simp)
    ·rw [if_neg c16] at H
     have c16b0 : decide (x8_1 < (l0.length : Int)) = false := decide_eq_false c16; clear c16
     by_cases c34 : x6_1.length < 8796093022208
     ·rw [if_pos c34] at H
      have LMc34 := Aside0.mk c34; clear c34; obtain ⟨y215, hy215⟩ : ∃ y_ : List (S25), y_ = (x6_1 ++ [(⟨x215000_1, x215001_1⟩ : S25)]) := ⟨_, rfl⟩; (replace H : (if y215.length + x7_1.length < 8796093022208 then (some (y215 ++ x7_1)) else (none)) = some r := hy_ hy215 H); have Ny215 := Aside0.mk hy215; clear hy215
      by_cases c35 : y215.length + x7_1.length < 8796093022208
      ·rw [if_pos c35] at H
       have LMc35 := Aside0.mk c35; clear c35; obtain ⟨y218, hy218⟩ : ∃ y_ : List (S25), y_ = (y215 ++ x7_1) := ⟨_, rfl⟩; (replace H : (some y218) = some r := hy_ hy218 H); have Ny218 := Aside0.mk hy218; clear hy218; obtain rfl := Option.some.inj H; have hnb36 := NB214_213.out; have hnc36 := NB213_214.out; have hcz37_0 : wr.cell? ⟨gb214, 0, none⟩ = some (.int .i64 x215000_1) := (blk_cell BK214.out 0).trans rfl; have hcz37_1 : wr.cell? ⟨gb214, 1, none⟩ = some (.int .i64 x215001_1) := (blk_cell BK214.out 1).trans rfl; have hfz37_0 := blk_frozen BK214.out 0; have hfz37_1 := blk_frozen BK214.out 1; go_wp2_with (first | ((with_reducible refine gate_builtin (b := .append) (xs := #[.tmp 79, .tmp 81]) rfl ?_); at_builtin; refine Kd.R_append k25 (w0 := w) w.heap.size rfl (.tmp 79) (.tmp 81) 23 25 (.agg #[(.int .i64 0), (.int .i64 0)]) 16 rfl Try.underlying23 info25 rfl (by decide) (by omega) u6 x6_1 (⟨x215000_1, x215001_1⟩ : S25) [.int .i64 x215000_1, .int .i64 x215001_1] (fun k_ => (w.heap.size ≤ k_) ∧ some k_ ≠ (u7 : Value).ownBlock ∧ k_ ≠ gb213 ∧ k_ ≠ gb214) (fun _ => False) rfl rfl ?aP (fun _ hk => hk.elim) ?aF ?aO ?aB ?aS ?aL ?_; (case aP => exact k25_mkM _ _ _ (⟨x215000_1, x215001_1⟩ : S25)); (case aB => exact (by repeat (first | (with_reducible first | exact HB.out | apply below_alloc | apply pw_below_drewN | apply below_drew1 | refine below_set ?_ GE213.out | refine below_set ?_ GE214.out) | exact HB.out))); (case aF => exact (fun k_ hk => ⟨(Nat.le_trans (below_size (by repeat (first | (with_reducible first | exact HB.out | apply below_alloc | apply pw_below_drewN | apply below_drew1 | refine below_set ?_ GE213.out | refine below_set ?_ GE214.out) | exact HB.out))) hk), Kd.fresh' (Kd.R_lt (hrR_ HO_7.out)) k_ hk, Kd.freshB (g := gb213) (o := .cells #[.int .i64 a1_0, .int .i64 a1_1] 25 (0, 0)) (bl_ BK213.out) k_ hk, Kd.freshB (g := gb214) (o := .cells #[.int .i64 x215000_1, .int .i64 x215001_1] 25 (0, 0)) (bl_ BK214.out) k_ hk⟩)); (case aO => exact (hrR_ HO_6.out)); (case aS => exact (below_size (by repeat (first | (with_reducible first | exact HB.out | apply below_alloc | apply pw_below_drewN | apply below_drew1 | refine below_set ?_ GE213.out | refine below_set ?_ GE214.out) | exact HB.out)))); (case aL => have := LMc34.out; omega); intro v216 w38 ho hb hg hat; rw [← Ny215.out] at ho; have n0_ := Aside0.mk (Kd.V_afterv (ok := (fun k_ => (P0_ k_ ∨ w.heap.size ≤ k_) ∧ some k_ ≠ (u7 : Value).ownBlock ∧ k_ ≠ gb213 ∧ k_ ≠ gb214)) (by (with_reducible repeat (first | apply Kd.V_alloc | apply Kd.V_drewN | apply Kd.V_drew)); exact Kd.V_mono HO_0.out (fun _ hk => ⟨⟨hk.1, ⟨hk.2.2.1, ⟨hk.2.2.2.1, hk.2.2.2.2⟩⟩⟩, hk.2.1⟩)) hg hat); have n1_ := Aside0.mk (Kd.R_after (ok := (fun k_ => (w.heap.size ≤ k_) ∧ k_ ≠ gb213 ∧ k_ ≠ gb214)) (by (with_reducible repeat (first | apply Kd.R_alloc | apply Kd.R_drewN | apply Kd.R_drew)); exact Kd.R_mono HO_7.out (fun _ hk => ⟨⟨hk.1, ⟨hk.2.2.1, hk.2.2.2⟩⟩, hk.2.1⟩)) hg hat); have n2_ := Aside0.mk (blk_grown (g := gb213) (o := .cells #[.int .i64 a1_0, .int .i64 a1_1] 25 (0, 0)) (bl_ BK213.out) hg (Kd.R_away HO_6.out (fun _ hk => hk.2.2.1))); have n3_ := Aside0.mk (blk_grown (g := gb214) (o := .cells #[.int .i64 x215000_1, .int .i64 x215001_1] 25 (0, 0)) (bl_ BK214.out) hg (Kd.R_away HO_6.out (fun _ hk => hk.2.2.2))); have n4_ := Aside0.mk (hb); have n5_ := Aside0.mk (ho); clear HO_0; clear HO_7; clear BK213; clear BK214; clear HB; clear HO_6; have HO_0 := n0_; have HO_7 := n1_; have BK213 := n2_; have BK214 := n3_; have HB := n4_; have HO217 := n5_; clear n0_ n1_ n2_ n3_ n4_ n5_; clear ho hb hg hat; obtain ⟨Ao40, co40, eo40⟩ := Kd.R_slice HO_7.out; subst eo40) | ((with_reducible refine gate_builtin (b := .append) (xs := #[.tmp 83, .tmp 84]) rfl ?_); at_builtin; refine Kd.R_append_rows k25 (w0 := w) w.heap.size rfl (.tmp 83) (.tmp 84) 23 25 (.agg #[(.int .i64 0), (.int .i64 0)]) 16 rfl Try.underlying23 info25 rfl (by decide) (by omega) v216 y215 x7_1 _ _ _ (fun k_ => (w.heap.size ≤ k_) ∧ some k_ ≠ (.slice Ao40 x7_1.length co40 : Value).ownBlock ∧ k_ ≠ gb213 ∧ k_ ≠ gb214) (fun _ => False) rfl rfl ?aO ?aR (fun _ _ h => h) (fun _ h => h.elim) ?aF ?aB ?aS ?aL ?_; (case aR => repeat (first | exact (Kd.R_reads' HO_7.out).2.2 | (with_reducible refine Kd.C_alloc ?_ _) | (with_reducible refine Kd.C_drewN ?_ _) | (with_reducible refine Kd.C_drew ?_))); (case aB => exact (by repeat (first | (with_reducible first | exact HB.out | apply below_alloc | apply pw_below_drewN | apply below_drew1 | refine below_set ?_ GE213.out | refine below_set ?_ GE214.out) | exact HB.out))); (case aF => exact (fun k_ hk => ⟨(Nat.le_trans (below_size (by repeat (first | (with_reducible first | exact HB.out | apply below_alloc | apply pw_below_drewN | apply below_drew1 | refine below_set ?_ GE213.out | refine below_set ?_ GE214.out) | exact HB.out))) hk), Kd.fresh' (Kd.R_lt (hrR_ HO_7.out)) k_ hk, Kd.freshB (g := gb213) (o := .cells #[.int .i64 a1_0, .int .i64 a1_1] 25 (0, 0)) (bl_ BK213.out) k_ hk, Kd.freshB (g := gb214) (o := .cells #[.int .i64 x215000_1, .int .i64 x215001_1] 25 (0, 0)) (bl_ BK214.out) k_ hk⟩)); (case aO => exact (hrR_ HO217.out)); (case aS => exact (below_size (by repeat (first | (with_reducible first | exact HB.out | apply below_alloc | apply pw_below_drewN | apply below_drew1 | refine below_set ?_ GE213.out | refine below_set ?_ GE214.out) | exact HB.out)))); (case aL => have := LMc35.out; omega); intro v219 w39 ho hb hg hat; rw [← Ny218.out] at ho; have n0_ := Aside0.mk (Kd.V_afterv (ok := (fun k_ => (P0_ k_ ∨ w.heap.size ≤ k_) ∧ some k_ ≠ (.slice Ao40 x7_1.length co40 : Value).ownBlock ∧ k_ ≠ gb213 ∧ k_ ≠ gb214)) (hrV_ HO_0.out) hg hat); have n1_ := Aside0.mk (Kd.R_after (ok := (fun k_ => (w.heap.size ≤ k_) ∧ k_ ≠ gb213 ∧ k_ ≠ gb214)) (hrR_ HO_7.out) hg hat); have n2_ := Aside0.mk (blk_grown (g := gb213) (o := .cells #[.int .i64 a1_0, .int .i64 a1_1] 25 (0, 0)) (bl_ BK213.out) hg (Kd.R_away HO217.out (fun _ hk => hk.2.2.1))); have n3_ := Aside0.mk (blk_grown (g := gb214) (o := .cells #[.int .i64 x215000_1, .int .i64 x215001_1] 25 (0, 0)) (bl_ BK214.out) hg (Kd.R_away HO217.out (fun _ hk => hk.2.2.2))); have n4_ := Aside0.mk (hb); have n5_ := Aside0.mk (ho); clear HO_0; clear HO_7; clear BK213; clear BK214; clear HB; clear HO217; have HO_0 := n0_; have HO_7 := n1_; have BK213 := n2_; have BK214 := n3_; have HB := n4_; have HO220 := n5_; clear n0_ n1_ n2_ n3_ n4_ n5_; clear ho hb hg hat))
       go_ret; exact ⟨_, by first | rfl | (simp [errW_none, errW_some] <;> rfl) | (simp only [← hji3, ← hji4]; first | rfl | (simp [errW_none, errW_some] <;> rfl)) | (simp [*, errW_none, errW_some] <;> rfl), Kd.V_mono (Kd.R_V (by (with_reducible repeat (first | apply Kd.R_alloc | apply Kd.R_drewN | apply Kd.R_drew)); exact Kd.R_mono HO220.out (fun _ hk => hk.1))) (fun k_ hk => by first | exact ⟨(.inr (hk.1)), hk.2⟩ | exact (.inr (hk))), by repeat (first | (with_reducible first | exact HB.out | apply below_alloc | apply pw_below_drewN | apply below_drew1 | refine below_set ?_ GE213.out | refine below_set ?_ GE214.out) | exact HB.out)⟩
      ·rw [if_neg c35] at H
       exact absurd H (by simp)
     ·rw [if_neg c34] at H
      exact absurd H (by simp)
set_option maxHeartbeats 8000000 in
set_option maxRecDepth 100000 in
theorem lustrumref04_Make.calls (k : Nat) (A0 : Option Addr) (c0 : Nat) (l0 : List (S25)) (r : List (S25)) (w : World) (hr0 : Kd.C k25 w A0 l0.length l0) (hc0 : l0.length ≤ c0) (h : lustrumref04_Make.f k l0 = some r) :
  Calls Try.prog 30 #[.slice A0 l0.length c0] w fun e w' => ∃ v0_ : Value, e = .returned (v0_) ∧ Kd.V k25 25 w' w.heap.size (fun k_ => (w.heap.size ≤ k_)) v0_ r ∧ Below w.heap.size w w' := by
 have hu25 := Try.underlying25; have HR0 := Aside0.mk hr0; have HC0 := Aside0.mk hc0; clear hr0 hc0; have HB := Aside0.mk (Below.refl w.heap.size w); have H : (lustrumref04_Make.l0 k l0 ([] : List (S25)) 0) = some r := h; clear h; have H' := Aside0.mk H; clear H; go_enter Try.func30, Try.ntmps30; go_wp2; go_loopg [3, 4] k (fun kq v3 v4 w' => ∃ (x3_1 : List (S25)) (x4_1 : Int), v4 = .int .i64 x4_1 ∧ Aside0 (lustrumref04_Make.l0 kq l0 x3_1 x4_1 = some r) ∧ Aside0 (kq ≤ k) ∧ Aside0 (Kd.V k25 25 w' w.heap.size (fun k_ => (w.heap.size ≤ k_)) v3 x3_1) ∧ Aside0 (Below w.heap.size w w'))
 case atStart => exact ⟨(([] : List (S25))), (0), rf_, H', ⟨Nat.le_refl _⟩, ⟨Kd.V_nil _ _ _ _ _⟩, ⟨hb_⟩⟩
 case round =>
  clear H'; obtain ⟨x3_1, x4_1, rfl, HA, HK1, HO_3, HB⟩ := hrel
  cases gk with
  | zero => exact absurd HA.out (by simp [lustrumref04_Make.l0])
  | succ k1 =>
   have H := HA.out; clear HA; simp only [lustrumref04_Make.l0] at H
   by_cases c2 : x4_1 < (l0.length : Int)
   ·rw [if_pos c2] at H
    have c2b0 : decide (x4_1 < (l0.length : Int)) = true := decide_eq_true c2; clear c2
    by_cases c3 : 0 ≤ x4_1
    ·rw [if_pos c3] at H
     have c3b0 : decide (0 ≤ x4_1) = true := decide_eq_true c3; clear c3; replace H := Option.bind_eq_some_iff.mp H; obtain ⟨t234, A40, H⟩ := H; replace H : (lustrumref04_Make.l0 k1 l0 t234 (wrap64 (x4_1 + 1))) = some r := H; have A4 := Aside0.mk A40; clear A40; have H' := Aside0.mk H; clear H; have p233 : 0 ≤ (x4_1 : Int) := od_; have q233 : x4_1 < (l0.length : Int) := od_; obtain ⟨ad233, e233, hx233_0, hx233_1⟩ := at_T25 HR0.out x4_1 p233 q233
     cases e233
     replace hx233_0 := (HB.out.cell (World.block_lt_of_cell? w _ hx233_0)).trans hx233_0; replace hx233_1 := (HB.out.cell (World.block_lt_of_cell? w _ hx233_1)).trans hx233_1; replace p233 := eq_true p233; replace q233 := eq_true q233; obtain ⟨Ao5, co5, eo5⟩ := Kd.V_slice HO_3.out; subst eo5; go_wp2_with (first | ((with_reducible refine gate_callee (f := 53) rfl ?_); refine goesL_ (some 16) rfl rfl Try.func53 (by kernel_rfl) rfl #[.slice Ao5 x3_1.length co5, .agg #[.int .i64 ((rd_T25 l0 x4_1).f0), .int .i64 ((rd_T25 l0 x4_1).f1)]] rfl ml_ ?_; (with_reducible refine (lustrumref04_put.calls k1 (fun k_ => (w.heap.size ≤ k_)) _ _ x3_1 ((rd_T25 l0 x4_1).f0) ((rd_T25 l0 x4_1).f1) t234 _ ?side1 A4.out).mono ?_); (case side1 => exact HO_3.out); rintro e w6 ⟨v235, rfl, ho0, hb⟩; refine ⟨_, rfl, ?_⟩; have n0_ := Aside0.mk (Kd.V_below (hrV_ HO_3.out) hb); have n1_ := Aside0.mk (Kd.V_lower (Kd.V_mono (ok' := fun k_ => (w.heap.size ≤ k_)) ho0 (fun k_ hk_ => Or.elim hk_ (fun hs_ => hs_) (fun hn_ => (Nat.le_trans (below_size hb_) hn_)))) (below_size hb_)); have n2_ := Aside0.mk (below_step hb_ hb); clear HO_3; clear HB; have HO_3 := n0_; have HO236 := n1_; have HB := n2_; clear n0_ n1_ n2_; (try clear hb); (try clear hb2); (try clear hk); (try clear hi); (try clear ho0))); go_roundg k1
     case measure => have := HK1.out; omega
     case rel => exact ⟨(t234), (wrap64 (x4_1 + 1)), rf_, H', ⟨by have := HK1.out; omega⟩, ⟨by (with_reducible repeat (first | apply Kd.V_alloc | apply Kd.V_drewN | apply Kd.V_drew)); exact HO236.out⟩, ⟨hb_⟩⟩
    ·rw [if_neg c3] at H
     exact absurd H (by simp)
   ·rw [if_neg c2] at H
    have c2b0 : decide (x4_1 < (l0.length : Int)) = false := decide_eq_false c2; clear c2; obtain rfl := Option.some.inj H; go_wp2; go_ret; exact ⟨_, by first | rfl | (simp [errW_none, errW_some] <;> rfl) | (simp [*, errW_none, errW_some] <;> rfl), by (with_reducible repeat (first | apply Kd.V_alloc | apply Kd.V_drewN | apply Kd.V_drew)); exact HO_3.out, hb_⟩
set_option maxHeartbeats 8000000 in
set_option maxRecDepth 100000 in
theorem lustrumref04_As.calls (k : Nat) (P0_ : Nat → Prop) (A0 : Option Addr) (c0 : Nat) (l0 : List (S25)) (r : List (S25)) (w : World) (hs0 : Kd.V k25 25 w w.heap.size (fun k_ => P0_ k_) (.slice A0 l0.length c0) l0) (h : lustrumref04_As.f k l0 = some r) :
  Calls Try.prog 52 #[.slice A0 l0.length c0] w fun e w' => ∃ v0_ : Value, e = .returned (v0_) ∧ Kd.V k25 25 w' w.heap.size (fun k_ => (P0_ k_ ∨ w.heap.size ≤ k_)) v0_ r ∧ Below w.heap.size w w' := by
 have HO0 := Aside0.mk (show Kd.V k25 25 w w.heap.size (fun k_ => (P0_ k_ ∨ w.heap.size ≤ k_)) (.slice A0 l0.length c0) l0 from Kd.V_mono hs0 (fun k_ hk => .inl hk)); have HB := Aside0.mk (Below.refl w.heap.size w); have H : ((lustrumref04_Sane.f k l0).bind fun t237 => (if t237 = true then (some l0) else ((lustrumref04_Make.f k l0).bind fun t238 => (some t238)))) = some r := h; clear h; replace H := Option.bind_eq_some_iff.mp H; obtain ⟨t237, A20, H⟩ := H; replace H : (if t237 = true then (some l0) else ((lustrumref04_Make.f k l0).bind fun t238 => (some t238))) = some r := H; have A2 := Aside0.mk A20; clear A20
 by_cases c3 : t237 = true
 ·subst c3
  (have H1 : (some l0) = some r := by rw [if_pos rfl] at H; exact H); clear H; have H := H1; clear H1; obtain rfl := Option.some.inj H; go_enter Try.func52, Try.ntmps52; go_wp2_with (first | ((with_reducible refine gate_callee (f := 29) rfl ?_); refine goesL_ (some 4) rfl rfl Try.func29 (by kernel_rfl) rfl #[.slice A0 l0.length c0] rfl ml_ ?_; (with_reducible refine (lustrumref04_Sane.calls k _ _ l0 true _ ?side1 ?side2 A2.out).mono ?_); (case side1 => exact cr_ (Kd.V_reads' HO0.out).2.2); (case side2 => exact (Kd.V_reads' HO0.out).2.1); rintro e w' ⟨rfl, ⟨nd, rfl⟩⟩; refine ⟨_, rfl, ?_⟩)); go_ret; exact ⟨_, by first | rfl | (simp [errW_none, errW_some] <;> rfl) | (simp [*, errW_none, errW_some] <;> rfl), by (with_reducible repeat (first | apply Kd.V_alloc | apply Kd.V_drewN | apply Kd.V_drew)); exact HO0.out, hb_⟩
 ·replace c3 := Bool.eq_false_iff.mpr c3
  subst c3; (have H1 : ((lustrumref04_Make.f k l0).bind fun t238 => (some t238)) = some r := by rw [if_neg (show ¬ (false = true) by decide)] at H; exact H); clear H; have H := H1; clear H1; replace H := Option.bind_eq_some_iff.mp H; obtain ⟨t238, A40, H⟩ := H; replace H : (some t238) = some r := H; have A4 := Aside0.mk A40; clear A40; obtain rfl := Option.some.inj H; go_enter Try.func52, Try.ntmps52; go_wp2_with (first | ((with_reducible refine gate_callee (f := 29) rfl ?_); refine goesL_ (some 4) rfl rfl Try.func29 (by kernel_rfl) rfl #[.slice A0 l0.length c0] rfl ml_ ?_; (with_reducible refine (lustrumref04_Sane.calls k _ _ l0 false _ ?side1 ?side2 A2.out).mono ?_); (case side1 => exact cr_ (Kd.V_reads' HO0.out).2.2); (case side2 => exact (Kd.V_reads' HO0.out).2.1); rintro e w' ⟨rfl, ⟨nd, rfl⟩⟩; refine ⟨_, rfl, ?_⟩) | ((with_reducible refine gate_callee (f := 30) rfl ?_); refine goesL_ (some 7) rfl rfl Try.func30 (by kernel_rfl) rfl #[.slice A0 l0.length c0] rfl ml_ ?_; (with_reducible refine (lustrumref04_Make.calls k _ _ l0 t238 _ ?side1 ?side2 A4.out).mono ?_); (case side1 => exact cr_ (Kd.V_reads' HO0.out).2.2); (case side2 => exact (Kd.V_reads' HO0.out).2.1); rintro e w5 ⟨v239, rfl, ho0, hb⟩; refine ⟨_, rfl, ?_⟩; have n0_ := Aside0.mk (Kd.V_below (hrV_ HO0.out) hb); have n1_ := Aside0.mk (Kd.V_lower (Kd.V_mono (ok' := fun k_ => (P0_ k_ ∨ w.heap.size ≤ k_)) ho0 (fun k_ hk_ => (.inr (Nat.le_trans (below_size hb_) hk_)))) (below_size hb_)); have n2_ := Aside0.mk (below_step hb_ hb); clear HO0; clear HB; have HO0 := n0_; have HO240 := n1_; have HB := n2_; clear n0_ n1_ n2_; (try clear hb); (try clear hb2); (try clear hk); (try clear hi); (try clear ho0))); go_ret; exact ⟨_, by first | rfl | (simp [errW_none, errW_some] <;> rfl) | (simp [*, errW_none, errW_some] <;> rfl), by (with_reducible repeat (first | apply Kd.V_alloc | apply Kd.V_drewN | apply Kd.V_drew)); exact HO240.out, hb_⟩
end Go.Proofs.Ytkbcmjejfbbcpaa.A
namespace Go.Proofs.Ytkbcmjejfbbcpaa.A
open Go.RowKit Go.Proofs.YtkbcmjejfbbcpaaW.PrintWords Go.Proofs.YtkbcmjejfbbcpaaW.PrintLast Go.Proofs.YtkbcmjejfbbcpaaW.PrintMore
attribute [local go_sem] max2_int min2_int
def api_Run_62.f (a1 : Int) : Option (List S25) := if 0 ≤ a1 ∧ a1 < 8796093022208 then some [] else none
set_option maxHeartbeats 8000000 in
set_option maxRecDepth 100000 in
theorem api_Run_62.calls (a1 : Int) (r : List S25) (w : World) (h : api_Run_62.f a1 = some r) :
    Calls Try.prog 62 #[.slice none 0 0, .int .i64 a1] w fun e w' => ∃ v0_ : Value, e = .returned (v0_) ∧ Kd.R k25 25 w' w.heap.size (fun _ => True) v0_ r ∧ Below w.heap.size w w' := by
  have HB := Aside0.mk (Below.refl w.heap.size w)
  unfold api_Run_62.f at h
  by_cases c : 0 ≤ a1 ∧ a1 < 8796093022208
  · rw [if_pos c] at h
    obtain rfl := Option.some.inj h
    obtain ⟨c1, c2⟩ := c
    have c3b0 : decide (a1 < 0) = false := decide_eq_false (by omega)
    have hw : IntKind.i64.wrap a1 = a1 := (i64_w _).trans (by unfold wrap64; omega)
    have hw2 : IntKind.i64.wrap (a1 - 0) = a1 := by rw [Int.sub_zero]; exact hw
    by_cases c4 : 0 < a1
    · have c4b0 : decide (0 < a1) = true := decide_eq_true c4
      have c6b1 : decide (0 ≤ a1) = true := decide_eq_true c1
      have LMc7 := Aside0.mk c2
      clear h c1 c2 c4
      go_enter Try.func62, Try.ntmps62
      go_wp2_with (first | (at_builtin; refine Kd.R_append_zeros k25 (w0 := w) w.heap.size rfl (.tmp 20) (.tmp 21) 23 3 25 (.agg #[(.int .i64 0), (.int .i64 0)]) 16 rfl Try.underlying23 Try.underlying3 info25 rfl (by decide) (by omega) (.slice none 0 0) ([] : List S25) z25 a1 (fun _ => True) rfl rfl (k25_mkM _ _ _ z25 ) ?aF ?aO (of_decide_eq_true (by first | (with_reducible assumption) | assumption)) ?aB ?aS ?aL ?_; (case aB => exact hb_); (case aF => exact (fun _ _ => trivial)); (case aO => exact ((Kd.R_nil _ _ _ _ (fun _ => True)))); (case aS => exact (below_size hb_)); (case aL => have := LMc7.out; simp; omega); intro v102 w8 ho hb hg hat; obtain ⟨Ao, co, rfl⟩ := Kd.R_slice ho; have HB2 := Aside0.mk hb; have HO := Aside0.mk (Kd.R_take (m := 0) ho (Nat.zero_le _)); clear HB; have HB := HB2; clear HB2 ho hb hg hat))
      go_ret
      exact ⟨_, rfl, HO.out, hb_⟩
    · obtain rfl : a1 = 0 := by omega
      clear h c1 c2 c4
      go_enter Try.func62, Try.ntmps62
      go_wp2
      go_ret
      exact ⟨_, rfl, Kd.R_nil _ _ _ _ _, hb_⟩
  · rw [if_neg c] at h
    exact absurd h (by simp)
end Go.Proofs.Ytkbcmjejfbbcpaa.A
namespace Go.Proofs.Ytkbcmjejfbbcpaa.A.U
open Go.RowKit Go.Proofs.YtkbcmjejfbbcpaaW.PrintWords Go.Proofs.YtkbcmjejfbbcpaaW.PrintLast Go.Proofs.YtkbcmjejfbbcpaaW.PrintMore
attribute [local go_sem] max2_int min2_int max_two min_two max_three min_three max_four min_four
mutual
def api_Run_54.l0 : Nat → List (List (S25)) → Int → List (List (S25)) → Int → Int → Option ((List (S25)))
  | 0, _, _, _, _, _ => none
  | k + 1, x0, x3, x9, x10, x11 => if x11 < x10 then (if 0 ≤ x11 then (if x11 < (x9.length : Int) then (if (wrap64 (x3 + ((rd_L2 x9 x11).length : Int))) < 0 then (none) else (api_Run_54.l0 k x0 (wrap64 (x3 + ((rd_L2 x9 x11).length : Int))) x9 x10 (wrap64 (x11 + 1)))) else (none)) else (none)) else ((api_Run_62.f x3).bind fun t102 => (api_Run_54.l1 k t102 x0 (x0.length : Int) 0))
def api_Run_54.l1 : Nat → List (S25) → List (List (S25)) → Int → Int → Option ((List (S25)))
  | 0, _, _, _, _ => none
  | k + 1, x6, x25, x26, x27 => if x27 < x26 then (if 0 ≤ x27 then (if x27 < (x25.length : Int) then (if x6.length + (rd_L2 x25 x27).length < 8796093022208 then (api_Run_54.l1 k (x6 ++ (rd_L2 x25 x27)) x25 x26 (wrap64 (x27 + 1))) else (none)) else (none)) else (none)) else (some x6)
end
def api_Run_54.f (k : Nat) (l0 : List (List (S25))) : Option ((List (S25))) := api_Run_54.l0 k l0 0 l0 (l0.length : Int) 0
def sets_Union.f (k : Nat) (l0 : List (S25)) (l1 : List (S25)) : Option ((List (S25))) := (api_Run_54.f k (([l0, l1] : List (List (S25))))).bind fun t112 => ((runs_Make.f t112).bind fun t115 => (some t115))
set_option maxHeartbeats 8000000 in
set_option maxRecDepth 100000 in
theorem api_Run_54.calls (k : Nat) (A0 : Option Addr) (c0 : Nat) (l0 : List (List (S25))) (r : List (S25)) (w : World) (hr0 : Kd.C (Kd.slice 25 k25) w A0 l0.length l0) (hc0 : l0.length ≤ c0) (h : api_Run_54.f k l0 = some r) :
  Calls Try.prog 54 #[.slice A0 l0.length c0] w fun e w' => ∃ v0_ : Value, e = .returned (v0_) ∧ Kd.R k25 25 w' w.heap.size (fun _ => True) v0_ r ∧ Below w.heap.size w w' := by
 have HR0 := Aside0.mk hr0; have HC0 := Aside0.mk hc0; clear hr0 hc0; have HB := Aside0.mk (Below.refl w.heap.size w); have H : (api_Run_54.l0 k l0 0 l0 (l0.length : Int) 0) = some r := h; clear h; have H' := Aside0.mk H; clear H; go_enter Try.func54, Try.ntmps54; go_wp2; go_loopg [3, 11] k (fun kq v3 v11 w' => ∃ (x3_1 : Int) (x11_1 : Int), v3 = .int .i64 x3_1 ∧ v11 = .int .i64 x11_1 ∧ Aside0 (api_Run_54.l0 kq l0 x3_1 l0 (l0.length : Int) x11_1 = some r) ∧ Aside0 (kq ≤ k) ∧ Aside0 (Below w.heap.size w w'))
 case atStart => exact ⟨(0), (0), rf_, rf_, H', ⟨Nat.le_refl _⟩, ⟨hb_⟩⟩
 case round =>
  clear H'; obtain ⟨x3_1, x11_1, rfl, rfl, HA, HK1, HB⟩ := hrel
  cases gk with
  | zero => exact absurd HA.out (by simp [api_Run_54.l0])
  | succ k1 =>
   have H := HA.out; clear HA; simp only [api_Run_54.l0] at H
   by_cases c2 : x11_1 < (l0.length : Int)
   ·rw [if_pos c2] at H
    have c2b0 : decide (x11_1 < (l0.length : Int)) = true := decide_eq_true c2; clear c2
    by_cases c3 : 0 ≤ x11_1
    ·rw [if_pos c3] at H
     have c3b0 : decide (0 ≤ x11_1) = true := decide_eq_true c3; clear c3
     by_cases c4 : x11_1 < (l0.length : Int)
     ·rw [if_pos c4] at H
      have c4b0 : decide (x11_1 < (l0.length : Int)) = true := decide_eq_true c4; clear c4
      by_cases c5 : (wrap64 (x3_1 + ((rd_L2 l0 x11_1).length : Int))) < 0
      ·rw [if_pos c5] at H
       exact absurd H (by simp)
      ·rw [if_neg c5] at H
       have c5b0 : decide ((wrap64 (x3_1 + ((rd_L2 l0 x11_1).length : Int))) < 0) = false := decide_eq_false c5; have c5b9 := c5b0; (try simp only [hl101_0] at c5b9); (try simp only [hl105_0] at c5b9); clear c5; have H' := Aside0.mk H; clear H; have p101 : 0 ≤ (x11_1 : Int) := od_; have q101 : x11_1 < (l0.length : Int) := od_; obtain ⟨ad101, A101_0, c101_0, e101, hx101_0, hl101_0, hi101_0⟩ := at_L2 HR0.out x11_1 p101 q101
       cases e101
       replace hx101_0 := (HB.out.cell (World.block_lt_of_cell? w _ hx101_0)).trans hx101_0; have HR101_0 := Aside0.mk hi101_0; have HC101_0 := Aside0.mk hl101_0; clear hi101_0 hl101_0; replace p101 := eq_true p101; replace q101 := eq_true q101; go_wp2; go_roundg k1
       case measure => have := HK1.out; omega
       case rel => exact ⟨(wrap64 (x3_1 + ((rd_L2 l0 x11_1).length : Int))), (wrap64 (x11_1 + 1)), rf_, rf_, H', ⟨by have := HK1.out; omega⟩, ⟨hb_⟩⟩
     ·rw [if_neg c4] at H
      exact absurd H (by simp)
    ·rw [if_neg c3] at H
     exact absurd H (by simp)
   ·rw [if_neg c2] at H
    have c2b0 : decide (x11_1 < (l0.length : Int)) = false := decide_eq_false c2; have c2b9 := c2b0; (try simp only [hl101_0] at c2b9); (try simp only [hl105_0] at c2b9); clear c2; replace H := Option.bind_eq_some_iff.mp H; obtain ⟨t102, A60, H⟩ := H; replace H : (api_Run_54.l1 k1 t102 l0 (l0.length : Int) 0) = some r := H; have A6 := Aside0.mk A60; clear A60; have H' := Aside0.mk H; clear H; go_wp2_with (first | ((with_reducible refine gate_callee (f := 62) rfl ?_); refine goesL_ (some 24) rfl rfl Try.func62 (by kernel_rfl) rfl #[.slice none 0 0, .int .i64 x3_1] rfl ml_ ?_; (with_reducible refine (api_Run_62.calls x3_1 t102 _ A6.out).mono ?_); rintro e w7 ⟨v103, rfl, ho0, hb⟩; refine ⟨_, rfl, ?_⟩; have n0_ := Aside0.mk (Kd.R_lower ho0 (below_size hb_)); have n1_ := Aside0.mk (below_step hb_ hb); clear HB; have HO104 := n0_; have HB := n1_; clear n0_ n1_; (try clear hb); (try clear hb2); (try clear hk); (try clear hi); (try clear ho0))); go_loopg [6, 27] k1 (fun kq v6 v27 w' => ∃ (x6_2 : List (S25)) (x27_2 : Int), v27 = .int .i64 x27_2 ∧ Aside0 (api_Run_54.l1 kq x6_2 l0 (l0.length : Int) x27_2 = some r) ∧ Aside0 (kq ≤ k1) ∧ Aside0 (Kd.R k25 25 w' w.heap.size (fun _ => True) v6 x6_2) ∧ Aside0 (Below w.heap.size w w'))
    case atStart => exact ⟨(t102), (0), rf_, H', ⟨Nat.le_refl _⟩, ⟨by (with_reducible repeat (first | apply Kd.R_alloc | apply Kd.R_drewN | apply Kd.R_drew)); exact HO104.out⟩, ⟨hb_⟩⟩
    case round =>
     clear H'; (try clear c1); (try clear p1); (try clear q1); (try clear hx1); (try clear c2); (try clear c2b0); (try clear p2); (try clear c3); (try clear c3b0); (try clear c4); (try clear c4b0); (try clear c5); (try clear c5b0); (try clear c6); (try clear p6); (try clear hx101_0); (try clear p101); (try clear q101); obtain ⟨x6_2, x27_2, rfl, HA, HK2, HO_6, HB⟩ := hrel
     cases gk with
     | zero => exact absurd HA.out (by simp [api_Run_54.l1])
     | succ k2 =>
      have H := HA.out; clear HA; simp only [api_Run_54.l1] at H
      by_cases c8 : x27_2 < (l0.length : Int)
      ·rw [if_pos c8] at H
       have c8b0 : decide (x27_2 < (l0.length : Int)) = true := decide_eq_true c8; clear c8
       by_cases c9 : 0 ≤ x27_2
       ·rw [if_pos c9] at H
        have c9b0 : decide (0 ≤ x27_2) = true := decide_eq_true c9; clear c9
        by_cases c10 : x27_2 < (l0.length : Int)
        ·rw [if_pos c10] at H
         have c10b0 : decide (x27_2 < (l0.length : Int)) = true := decide_eq_true c10; clear c10
         by_cases c11 : x6_2.length + (rd_L2 l0 x27_2).length < 8796093022208
         ·rw [if_pos c11] at H
          have LMc11 := Aside0.mk c11; clear c11; obtain ⟨y106, hy106⟩ : ∃ y_ : List (S25), y_ = (x6_2 ++ (rd_L2 l0 x27_2)) := ⟨_, rfl⟩; (replace H : (api_Run_54.l1 k2 y106 l0 (l0.length : Int) (wrap64 (x27_2 + 1))) = some r := hy_ hy106 H); have Ny106 := Aside0.mk hy106; clear hy106; have H' := Aside0.mk H; clear H; have p105 : 0 ≤ (x27_2 : Int) := od_; have q105 : x27_2 < (l0.length : Int) := od_; obtain ⟨ad105, A105_0, c105_0, e105, hx105_0, hl105_0, hi105_0⟩ := at_L2 HR0.out x27_2 p105 q105
          cases e105
          replace hx105_0 := (HB.out.cell (World.block_lt_of_cell? w _ hx105_0)).trans hx105_0; have HR105_0 := Aside0.mk hi105_0; have HC105_0 := Aside0.mk hl105_0; clear hi105_0 hl105_0; replace p105 := eq_true p105; replace q105 := eq_true q105; go_wp2_with (first | ((with_reducible refine gate_builtin (b := .append) (xs := #[.tmp 31, .tmp 32]) rfl ?_); at_builtin; refine Kd.R_append_rows k25 (w0 := w) w.heap.size rfl (.tmp 31) (.tmp 32) 23 25 (.agg #[(.int .i64 0), (.int .i64 0)]) 16 rfl Try.underlying23 info25 rfl (by decide) (by omega) u6 x6_2 (rd_L2 l0 x27_2) _ _ _ (fun _ => True) (fun _ => False) rfl rfl ?aO ?aR (fun _ _ h => h) (fun _ h => h.elim) ?aF ?aB ?aS ?aL ?_; (case aR => repeat (first | exact (Kd.C_below HR105_0.out HB.out) | (with_reducible refine Kd.C_alloc ?_ _) | (with_reducible refine Kd.C_drewN ?_ _) | (with_reducible refine Kd.C_drew ?_))); (case aB => exact hb_); (case aF => exact (fun _ _ => trivial)); (case aO => exact (hrR_ HO_6.out)); (case aS => exact (below_size hb_)); (case aL => have := LMc11.out; omega); intro v107 w12 ho hb hg hat; rw [← Ny106.out] at ho; have n0_ := Aside0.mk (hb); have n1_ := Aside0.mk (ho); clear HB; clear HO_6; have HB := n0_; have HO108 := n1_; clear n0_ n1_; clear ho hb hg hat)); go_roundg k2
          case measure => have := HK1.out; have := HK2.out; omega
          case rel => exact ⟨(y106), (wrap64 (x27_2 + 1)), rf_, H', ⟨by have := HK1.out; have := HK2.out; omega⟩, ⟨by (with_reducible repeat (first | apply Kd.R_alloc | apply Kd.R_drewN | apply Kd.R_drew)); exact HO108.out⟩, ⟨hb_⟩⟩
         ·rw [if_neg c11] at H
          exact absurd H (by simp)
        ·rw [if_neg c10] at H
         exact absurd H (by simp)
       ·rw [if_neg c9] at H
        exact absurd H (by simp)
      ·rw [if_neg c8] at H
       have c8b0 : decide (x27_2 < (l0.length : Int)) = false := decide_eq_false c8; have c8b9 := c8b0; (try simp only [hl101_0] at c8b9); (try simp only [hl105_0] at c8b9); clear c8; obtain rfl := Option.some.inj H; go_wp2; go_ret; exact ⟨_, by first | rfl | (simp [errW_none, errW_some] <;> rfl) | (simp [*, errW_none, errW_some] <;> rfl), by (with_reducible repeat (first | apply Kd.R_alloc | apply Kd.R_drewN | apply Kd.R_drew)); exact HO_6.out, hb_⟩
set_option maxHeartbeats 8000000 in
set_option maxRecDepth 100000 in
theorem sets_Union.calls (k : Nat) (P0_ : Nat → Prop) (A0 : Option Addr) (c0 : Nat) (l0 : List (S25)) (P1_ : Nat → Prop) (A1 : Option Addr) (c1 : Nat) (l1 : List (S25)) (r : List (S25)) (w : World) (hs0 : Kd.V k25 25 w w.heap.size (fun k_ => P0_ k_) (.slice A0 l0.length c0) l0) (hs1 : Kd.V k25 25 w w.heap.size (fun k_ => P1_ k_) (.slice A1 l1.length c1) l1) (h : sets_Union.f k l0 l1 = some r) :
  Calls Try.prog 34 #[.slice A0 l0.length c0, .slice A1 l1.length c1] w fun e w' => ∃ v0_ : Value, e = .returned (v0_) ∧ Kd.R k25 25 w' w.heap.size (fun k_ => (w.heap.size ≤ k_)) v0_ r ∧ Below w.heap.size w w' := by
 have HO0 := Aside0.mk (show Kd.V k25 25 w w.heap.size (fun k_ => ((P0_ k_ ∨ P1_ k_) ∨ w.heap.size ≤ k_)) (.slice A0 l0.length c0) l0 from Kd.V_mono hs0 (fun k_ hk => .inl (.inl hk))); have HO1 := Aside0.mk (show Kd.V k25 25 w w.heap.size (fun k_ => ((P0_ k_ ∨ P1_ k_) ∨ w.heap.size ≤ k_)) (.slice A1 l1.length c1) l1 from Kd.V_mono hs1 (fun k_ hk => .inl (.inr hk))); have HB := Aside0.mk (Below.refl w.heap.size w); have H : ((api_Run_54.f k (([l0, l1] : List (List (S25))))).bind fun t112 => ((runs_Make.f t112).bind fun t115 => (some t115))) = some r := h; clear h; obtain ⟨y109, hy109⟩ : ∃ y_ : List (List (S25)), y_ = (([l0, l1] : List (List (S25)))) := ⟨_, rfl⟩; (replace H : ((api_Run_54.f k y109).bind fun t112 => ((runs_Make.f t112).bind fun t115 => (some t115))) = some r := hy_ hy109 H); have Ny109 := Aside0.mk hy109; clear hy109; replace H := Option.bind_eq_some_iff.mp H; obtain ⟨t112, A30, H⟩ := H; replace H : ((runs_Make.f t112).bind fun t115 => (some t115)) = some r := H; have A3 := Aside0.mk A30; clear A30; replace H := Option.bind_eq_some_iff.mp H; obtain ⟨t115, A40, H⟩ := H; replace H : (some t115) = some r := H; have A4 := Aside0.mk A40; clear A40; obtain rfl := Option.some.inj H; go_enter Try.func34, Try.ntmps34; go_wp2_with (first | ((with_reducible refine gate_dst (N := 7) rfl ?_); refine Kd.N_lit (Kd.slice 25 k25) _ 23 ?hg (N' := 7) ?hd (xs := ([l0, l1] : List (List (S25)))) (inner := [.slice A0 l0.length c0, .slice A1 l1.length c1]) (ok := (fun k_ => ((P0_ k_ ∨ P1_ k_) ∨ w.heap.size ≤ k_))) (okp := (fun k_ => ((P0_ k_ ∨ P1_ k_) ∨ w.heap.size ≤ k_))) ?hr ?hp (fun _ hk => hk) ((show ∀ k_, w.heap.size ≤ k_ → (fun k_ => ((P0_ k_ ∨ P1_ k_) ∨ w.heap.size ≤ k_)) k_ from fun k_ hk => (.inr (Nat.le_trans (below_size hb_) hk))) _ (Nat.le_refl _)) (Below.refl _ _) (Nat.le_refl _) (by simp) ?_; (case hd => rfl); (case hg => rfl); (case hr => first | (go_simp; done) | (go_simp; rfl)); (case hp => exact (Reps.one (show Kd.FK (Kd.slice 25 k25) _ _ l0 [.slice A0 l0.length c0] from (Kd.FK_slice_mk (Kd.V_reads' (Kd.V_mono (ok' := (fun k_ => ((P0_ k_ ∨ P1_ k_) ∨ w.heap.size ≤ k_))) (HO0.out) (fun k_ hk => hk))).2.1 (Kd.V_F (Kd.V_mono (ok' := (fun k_ => ((P0_ k_ ∨ P1_ k_) ∨ w.heap.size ≤ k_))) (HO0.out) (fun k_ hk => hk))))) (Reps.one (show Kd.FK (Kd.slice 25 k25) _ _ l1 [.slice A1 l1.length c1] from (Kd.FK_slice_mk (Kd.V_reads' (Kd.V_mono (ok' := (fun k_ => ((P0_ k_ ∨ P1_ k_) ∨ w.heap.size ≤ k_))) (HO1.out) (fun k_ hk => hk))).2.1 (Kd.V_F (Kd.V_mono (ok' := (fun k_ => ((P0_ k_ ∨ P1_ k_) ∨ w.heap.size ≤ k_))) (HO1.out) (fun k_ hk => hk))))) (Reps.none _ _)))); intro v110 w5 ho6 hb hg_ hnew_; clear hg_ hnew_; (first | rw [← Ny109.out] at ho6 | (simp only [Int.reduceToNat] at ho6; rw [← Ny109.out] at ho6)); have n0_ := Aside0.mk (Kd.V_elder' (hrV_ HO0.out) (Kd.N_base ho6) hb); have n1_ := Aside0.mk (Kd.V_elder' (hrV_ HO1.out) (Kd.N_base ho6) hb); have n2_ := Aside0.mk (Kd.N_lower ho6 (below_size hb_)); have n3_ := Aside0.mk (below_step hb_ hb); clear HO0; clear HO1; clear HB; have HO0 := n0_; have HO1 := n1_; have HO111 := n2_; have HB := n3_; clear n0_ n1_ n2_ n3_; clear hb ho6; obtain ⟨Ao7, co7, eo7⟩ := Kd.N_slice HO111.out; subst eo7) | ((with_reducible refine gate_callee (f := 54) rfl ?_); refine goesL_ (some 8) rfl rfl Try.func54 (by kernel_rfl) rfl #[.slice Ao7 y109.length co7] rfl ml_ ?_; (with_reducible refine (api_Run_54.calls k _ _ y109 t112 _ ?side1 ?side2 A3.out).mono ?_); (case side1 => exact cr_ (Kd.N_reads' HO111.out).2.2); (case side2 => exact (Kd.N_reads' HO111.out).2.1); rintro e w8 ⟨v113, rfl, ho0, hb⟩; refine ⟨_, rfl, ?_⟩; have n0_ := Aside0.mk (Kd.V_elder' (hrV_ HO0.out) (Kd.R_base ho0) hb); have n1_ := Aside0.mk (Kd.V_elder' (hrV_ HO1.out) (Kd.R_base ho0) hb); have n2_ := Aside0.mk (Kd.N_elder' (by (with_reducible repeat (first | apply Kd.N_alloc | apply Kd.N_drewN | apply Kd.N_drew)); exact HO111.out) (Kd.R_base ho0) hb); have n3_ := Aside0.mk (Kd.R_lower (Kd.R_newM (M := fun k_ => (w.heap.size ≤ k_)) ho0 (below_size hb_) (fun k_ h_ => h_)) (below_size hb_)); have n4_ := Aside0.mk (below_step hb_ hb); clear HO0; clear HO1; clear HO111; clear HB; have HO0 := n0_; have HO1 := n1_; have HO111 := n2_; have HO114 := n3_; have HB := n4_; clear n0_ n1_ n2_ n3_ n4_; (try clear hb); (try clear hb2); (try clear hk); (try clear hi); (try clear ho0); obtain ⟨Ao9, co9, eo9⟩ := Kd.R_slice HO114.out; subst eo9) | ((with_reducible refine gate_callee (f := 19) rfl ?_); refine goesL_ (some 9) rfl rfl Try.func19 (by kernel_rfl) rfl #[.slice Ao9 t112.length co9] rfl ml_ ?_; (with_reducible refine (runs_Make.calls _ _ t112 t115 _ ?side1 ?side2 A4.out).mono ?_); (case side1 => exact cr_ (Kd.R_reads' HO114.out).2.2); (case side2 => exact (Kd.R_reads' HO114.out).2.1); rintro e w10 ⟨v116, rfl, ho0, hb⟩; refine ⟨_, rfl, ?_⟩; have n0_ := Aside0.mk (Kd.V_elder' (hrV_ HO0.out) (Kd.R_base ho0) hb); have n1_ := Aside0.mk (Kd.V_elder' (hrV_ HO1.out) (Kd.R_base ho0) hb); have n2_ := Aside0.mk (Kd.N_elder' (by (with_reducible repeat (first | apply Kd.N_alloc | apply Kd.N_drewN | apply Kd.N_drew)); exact HO111.out) (Kd.R_base ho0) hb); have n3_ := Aside0.mk (Kd.R_elder' (hrR_ HO114.out) (Kd.R_base ho0) hb); have n4_ := Aside0.mk (Kd.R_lower (Kd.R_new' (Kd.R_newM (M := fun k_ => (w.heap.size ≤ k_)) ho0 (below_size hb_) (fun k_ h_ => h_)) (Kd.R_lt (hrR_ HO114.out))) (below_size hb_)); have n5_ := Aside0.mk (below_step hb_ hb); clear HO0; clear HO1; clear HO111; clear HO114; clear HB; have HO0 := n0_; have HO1 := n1_; have HO111 := n2_; have HO114 := n3_; have HO117 := n4_; have HB := n5_; clear n0_ n1_ n2_ n3_ n4_ n5_; (try clear hb); (try clear hb2); (try clear hk); (try clear hi); (try clear ho0)))
 go_ret; exact ⟨_, by first | rfl | (simp [errW_none, errW_some] <;> rfl) | (simp [*, errW_none, errW_some] <;> rfl), by (with_reducible repeat (first | apply Kd.R_alloc | apply Kd.R_drewN | apply Kd.R_drew)); exact Kd.R_mono HO117.out (fun _ hk => hk.1.1), hb_⟩
end Go.Proofs.Ytkbcmjejfbbcpaa.A.U
namespace Go.Proofs.Ytkbcmjejfbbcpaa.A
open Go.RowKit Go.Proofs.YtkbcmjejfbbcpaaW.PrintWords Go.Proofs.YtkbcmjejfbbcpaaW.PrintLast Go.Proofs.YtkbcmjejfbbcpaaW.PrintMore
theorem u64' {x : Int} (h1 : -9223372036854775808 ≤ x) (h2 : x ≤ 9223372036854775807) : wrap64 x = x := by unfold wrap64; omega
theorem concat_ev (l0 l1 : List S25) (h : l0.length + l1.length < 4398046511104) : Ev (fun k => U.api_Run_54.f k [l0, l1]) (l0 ++ l1) := by
  unfold U.api_Run_54.f
  have e0 : rd_L2 [l0, l1] 0 = l0 := rfl
  have e1 : rd_L2 [l0, l1] 1 = l1 := rfl
  have r1 : wrap64 (0 + (l0.length : Int)) = (l0.length : Int) := by rw [u64' (by omega) (by omega)]; omega
  have r2 : wrap64 ((l0.length : Int) + (l1.length : Int)) = (l0.length : Int) + l1.length := u64' (by omega) (by omega)
  have i1 : wrap64 (0 + 1) = 1 := by decide +kernel
  have i2 : wrap64 (1 + 1) = 2 := by decide +kernel
  refine Ev.step (f := fun k => U.api_Run_54.l0 k [l0, l1] (l0.length : Int) [l0, l1] 2 1) (fun k => ?_) ?_
  · rw [U.api_Run_54.l0, if_pos (by simp), if_pos (by decide), if_pos (by simp), e0, r1, if_neg (by omega), i1]; rfl
  refine Ev.step (f := fun k => U.api_Run_54.l0 k [l0, l1] ((l0.length : Int) + l1.length) [l0, l1] 2 2) (fun k => ?_) ?_
  · rw [U.api_Run_54.l0, if_pos (by decide), if_pos (by decide), if_pos (by simp), e1, r2, if_neg (by omega), i2]
  refine Ev.step (f := fun k => U.api_Run_54.l1 k [] [l0, l1] 2 0) (fun k => ?_) ?_
  · rw [U.api_Run_54.l0, if_neg (by decide), api_Run_62.f, if_pos (by constructor <;> omega)]; rfl
  refine Ev.step (f := fun k => U.api_Run_54.l1 k l0 [l0, l1] 2 1) (fun k => ?_) ?_
  · rw [U.api_Run_54.l1, if_pos (by decide), if_pos (by decide), if_pos (by simp), e0, if_pos (by simp; omega), i1]; rfl
  refine Ev.step (f := fun k => U.api_Run_54.l1 k (l0 ++ l1) [l0, l1] 2 2) (fun k => ?_) ?_
  · rw [U.api_Run_54.l1, if_pos (by decide), if_pos (by decide), if_pos (by simp), e1, if_pos (by omega), i2]
  exact Ev.step (f := fun _ => some (l0 ++ l1)) (fun k => by rw [U.api_Run_54.l1, if_neg (by decide)]) (Ev.now _)
theorem union_ev {l0 l1 r : List S25} (h : sets_Union.f l0 l1 = some r) : Ev (fun k => U.sets_Union.f k l0 l1) r := by
  unfold sets_Union.f at h
  by_cases c : l0.length + l1.length < 4398046511104
  · rw [if_pos c] at h
    obtain rfl := Option.some.inj h
    refine Ev.bind (concat_ev l0 l1 c) ?_
    refine Ev.congr (f := fun _ => some (norm (l0 ++ l1))) (fun k => ?_) (Ev.now _)
    rw [runs_Make.f, if_pos (by rw [List.length_append]; exact c)]; rfl
  · rw [if_neg c] at h; exact absurd h (by simp)
theorem sets_Union.calls (A0 : Option Addr) (c0 : Nat) (l0 : List S25) (A1 : Option Addr) (c1 : Nat) (l1 : List S25) (r : List S25) (w : World) (hr0 : Kd.C k25 w A0 l0.length l0) (hc0 : l0.length ≤ c0) (hr1 : Kd.C k25 w A1 l1.length l1) (hc1 : l1.length ≤ c1) (h : sets_Union.f l0 l1 = some r) :
    Calls Try.prog 34 #[.slice A0 l0.length c0, .slice A1 l1.length c1] w fun e w' => ∃ v0_ : Value, e = .returned (v0_) ∧ Kd.R k25 25 w' w.heap.size (fun _ => True) v0_ r ∧ Below w.heap.size w w' := by
  obtain ⟨k, hk⟩ := (union_ev h).rounds
  refine (U.sets_Union.calls k (fun k => k < w.heap.size) A0 c0 l0 (fun k => k < w.heap.size) A1 c1 l1 r w (Kd.V_mk hc0 (Kd.C_F k25_heap hr0)) (Kd.V_mk hc1 (Kd.C_F k25_heap hr1)) hk).mono ?_
  rintro e w' ⟨v, h1, h2, h3⟩
  exact ⟨v, h1, Kd.R_mono h2 (fun _ _ => trivial), h3⟩
end Go.Proofs.Ytkbcmjejfbbcpaa.A
namespace Go.Proofs.Ytkbcmjejfbbcpaa.A
open Go.RowKit Go.Proofs.YtkbcmjejfbbcpaaW.PrintWords Go.Proofs.YtkbcmjejfbbcpaaW.PrintLast Go.Proofs.YtkbcmjejfbbcpaaW.PrintMore
attribute [local go_sem] max2_int min2_int max_two min_two max_three min_three max_four min_four
set_option maxHeartbeats 8000000 in
set_option maxRecDepth 100000 in
theorem lustrumref05_Union.calls (k : Nat) (A0 : Option Addr) (c0 : Nat) (l0 : List (S25)) (A1 : Option Addr) (c1 : Nat) (l1 : List (S25)) (r : List (S25)) (w : World) (hr0 : Kd.C k25 w A0 l0.length l0) (hc0 : l0.length ≤ c0) (hr1 : Kd.C k25 w A1 l1.length l1) (hc1 : l1.length ≤ c1) (h : lustrumref05_Union.f k l0 l1 = some r) :
  Calls Try.prog 37 #[.slice A0 l0.length c0, .slice A1 l1.length c1] w fun e w' => ∃ v0_ : Value, e = .returned (v0_) ∧ Kd.V k25 25 w' w.heap.size (fun k_ => (w.heap.size ≤ k_)) v0_ r ∧ Below w.heap.size w w' := by
 have HR0 := Aside0.mk hr0; have HC0 := Aside0.mk hc0; clear hr0 hc0; have HR1 := Aside0.mk hr1; have HC1 := Aside0.mk hc1; clear hr1 hc1; have HB := Aside0.mk (Below.refl w.heap.size w); have H : ((some (([] : List (S25)) : List (S25))).bind fun y440 => (if y440.length + l0.length < 8796093022208 then ((some (y440 ++ l0 : List (S25))).bind fun y443 => (if y443.length + l1.length < 8796093022208 then ((lustrumref04_Make.f k (y443 ++ l1)).bind fun t449 => (some t449)) else (none))) else (none))) = some r := h; clear h; obtain ⟨y440, hy440⟩ : ∃ y_ : List (S25), y_ = (([] : List (S25))) := ⟨_, rfl⟩; (replace H : (if y440.length + l0.length < 8796093022208 then ((some (y440 ++ l0 : List (S25))).bind fun y443 => (if y443.length + l1.length < 8796093022208 then ((lustrumref04_Make.f k (y443 ++ l1)).bind fun t449 => (some t449)) else (none))) else (none)) = some r := hy_ hy440 H); have Ny440 := Aside0.mk hy440; clear hy440
 by_cases c3 : y440.length + l0.length < 8796093022208
 ·rw [if_pos c3] at H
  have LMc3 := Aside0.mk c3; clear c3; obtain ⟨y443, hy443⟩ : ∃ y_ : List (S25), y_ = (y440 ++ l0) := ⟨_, rfl⟩; (replace H : (if y443.length + l1.length < 8796093022208 then ((lustrumref04_Make.f k (y443 ++ l1)).bind fun t449 => (some t449)) else (none)) = some r := hy_ hy443 H); have Ny443 := Aside0.mk hy443; clear hy443
  by_cases c4 : y443.length + l1.length < 8796093022208
  ·rw [if_pos c4] at H
   have LMc4 := Aside0.mk c4; clear c4; obtain ⟨y446, hy446⟩ : ∃ y_ : List (S25), y_ = (y443 ++ l1) := ⟨_, rfl⟩; (replace H : ((lustrumref04_Make.f k y446).bind fun t449 => (some t449)) = some r := hy_ hy446 H); have Ny446 := Aside0.mk hy446; clear hy446; replace H := Option.bind_eq_some_iff.mp H; obtain ⟨t449, A50, H⟩ := H; replace H : (some t449) = some r := H; have A5 := Aside0.mk A50; clear A50; obtain rfl := Option.some.inj H; go_enter Try.func37, Try.ntmps37; go_wp2_with (first | ((with_reducible refine gate_dst (N := 6) rfl ?_); refine Kd.R_lit k25 _ 25 ?hg (N := 6) ?hd (xs := ([] : List (S25))) (inner := []) (ok := fun _ => True) (okp := fun _ => True) ?hr ?hp (fun _ hk => hk) trivial (Below.refl _ _) (Nat.le_refl _) (by simp) ?_; (case hd => rfl); (case hg => rfl); (case hr => first | (go_simp; done) | (go_simp; rfl)); (case hp => exact (Reps.none _ _)); intro v441 w6 ho7 hb hg_ hnew_; clear hg_ hnew_; (first | rw [← Ny440.out] at ho7 | (simp only [Int.reduceToNat] at ho7; rw [← Ny440.out] at ho7)); have n0_ := Aside0.mk (Kd.R_lower (Kd.R_newM (M := fun k_ => (w.heap.size ≤ k_)) ho7 (below_size hb_) (fun k_ h_ => h_)) (below_size hb_)); have n1_ := Aside0.mk (below_step hb_ hb); clear HB; have HO442 := n0_; have HB := n1_; clear n0_ n1_; clear hb ho7) | ((with_reducible refine gate_builtin (b := .append) (xs := #[.tmp 6, .tmp 7]) rfl ?_); at_builtin; refine Kd.R_append_rows k25 (w0 := w) w.heap.size rfl (.tmp 6) (.tmp 7) 23 25 (.agg #[(.int .i64 0), (.int .i64 0)]) 16 rfl Try.underlying23 info25 rfl (by decide) (by omega) v441 y440 l0 _ _ _ (fun k_ => (w.heap.size ≤ k_)) (fun _ => False) rfl rfl ?aO ?aR (fun _ _ h => h) (fun _ h => h.elim) ?aF ?aB ?aS ?aL ?_; (case aR => repeat (first | exact (Kd.C_below HR0.out HB.out) | (with_reducible refine Kd.C_alloc ?_ _) | (with_reducible refine Kd.C_drewN ?_ _) | (with_reducible refine Kd.C_drew ?_))); (case aB => exact hb_); (case aF => exact (fun k_ hk => (Nat.le_trans (below_size hb_) hk))); (case aO => exact (by (with_reducible repeat (first | apply Kd.R_alloc | apply Kd.R_drewN | apply Kd.R_drew)); exact Kd.R_mono HO442.out (fun _ hk => hk.1))); (case aS => exact (below_size hb_)); (case aL => have := LMc3.out; omega); intro v444 w8 ho hb hg hat; rw [← Ny443.out] at ho; have n0_ := Aside0.mk (hb); have n1_ := Aside0.mk (ho); clear HB; clear HO442; have HB := n0_; have HO445 := n1_; clear n0_ n1_; clear ho hb hg hat) | ((with_reducible refine gate_builtin (b := .append) (xs := #[.tmp 9, .tmp 10]) rfl ?_); at_builtin; refine Kd.R_append_rows k25 (w0 := w) w.heap.size rfl (.tmp 9) (.tmp 10) 23 25 (.agg #[(.int .i64 0), (.int .i64 0)]) 16 rfl Try.underlying23 info25 rfl (by decide) (by omega) v444 y443 l1 _ _ _ (fun k_ => (w.heap.size ≤ k_)) (fun _ => False) rfl rfl ?aO ?aR (fun _ _ h => h) (fun _ h => h.elim) ?aF ?aB ?aS ?aL ?_; (case aR => repeat (first | exact (Kd.C_below HR1.out HB.out) | (with_reducible refine Kd.C_alloc ?_ _) | (with_reducible refine Kd.C_drewN ?_ _) | (with_reducible refine Kd.C_drew ?_))); (case aB => exact hb_); (case aF => exact (fun k_ hk => (Nat.le_trans (below_size hb_) hk))); (case aO => exact (hrR_ HO445.out)); (case aS => exact (below_size hb_)); (case aL => have := LMc4.out; omega); intro v447 w9 ho hb hg hat; rw [← Ny446.out] at ho; have n0_ := Aside0.mk (hb); have n1_ := Aside0.mk (ho); clear HB; clear HO445; have HB := n0_; have HO448 := n1_; clear n0_ n1_; clear ho hb hg hat; obtain ⟨Ao10, co10, eo10⟩ := Kd.R_slice HO448.out; subst eo10) | ((with_reducible refine gate_callee (f := 30) rfl ?_); refine goesL_ (some 13) rfl rfl Try.func30 (by kernel_rfl) rfl #[.slice Ao10 y446.length co10] rfl ml_ ?_; (with_reducible refine (lustrumref04_Make.calls k _ _ y446 t449 _ ?side1 ?side2 A5.out).mono ?_); (case side1 => exact cr_ (Kd.R_reads' HO448.out).2.2); (case side2 => exact (Kd.R_reads' HO448.out).2.1); rintro e w11 ⟨v450, rfl, ho0, hb⟩; refine ⟨_, rfl, ?_⟩; have n0_ := Aside0.mk (Kd.R_below (hrR_ HO448.out) hb); have n1_ := Aside0.mk (Kd.V_lower (Kd.V_mono (ok' := fun k_ => (w.heap.size ≤ k_) ∧ some k_ ≠ (.slice Ao10 y446.length co10 : Value).ownBlock) ho0 (fun k_ hk_ => ⟨(Nat.le_trans (below_size hb_) hk_), (Kd.fresh' (Kd.R_lt (hrR_ HO448.out)) k_ hk_)⟩)) (below_size hb_)); have n2_ := Aside0.mk (below_step hb_ hb); clear HO448; clear HB; have HO448 := n0_; have HO451 := n1_; have HB := n2_; clear n0_ n1_ n2_; (try clear hb); (try clear hb2); (try clear hk); (try clear hi); (try clear ho0)))
   go_ret; exact ⟨_, by first | rfl | (simp [errW_none, errW_some] <;> rfl) | (simp [*, errW_none, errW_some] <;> rfl), by (with_reducible repeat (first | apply Kd.V_alloc | apply Kd.V_drewN | apply Kd.V_drew)); exact Kd.V_mono HO451.out (fun _ hk => hk.1), hb_⟩
  ·rw [if_neg c4] at H
   exact absurd H (by simp)
 ·rw [if_neg c3] at H
  exact absurd H (by simp)
def lustrumref05_Meet.T10 : Bool × List (List Nat × List Nat) := (true, [([], []), ([], []), ([0, 1], [0, 1]), ([2], [2]), ([3], [3]), ([], []), ([], []), ([5, 6], [5, 6]), ([7], [7]), ([8], [8]), ([4, 9], [4, 9]), ([], []), ([], []), ([11, 12], [11, 12]), ([13], [13]), ([14], [14]), ([], []), ([], []), ([16, 17], [16, 17]), ([18], [18]), ([19], [19]), ([15, 20], [15, 20]), ([10, 21], [10, 21])])
def lustrumref05_Meet.B10 : List Nat := [0, 0, 3, 7, 15, 0, 0, 96, 224, 480, 1023, 0, 0, 6144, 14336, 30720, 0, 0, 196608, 458752, 983040, 2095104, 4194303]
theorem lustrumref05_Meet.tab10 : rtab .any (opsOf Try.f38 10) = lustrumref05_Meet.T10 := by kernel_rfl
theorem lustrumref05_Meet.bits10 : waitsOk lustrumref05_Meet.T10.2 lustrumref05_Meet.B10 = true := by kernel_rfl
def lustrumref05_Meet.T11 : Bool × List (List Nat × List Nat) := (true, [([], []), ([], []), ([], []), ([1, 2], [1, 2]), ([3], [3]), ([4], [4]), ([], []), ([], []), ([6, 7], [6, 7]), ([8], [8]), ([9], [9]), ([5, 10], [5, 10]), ([], []), ([], []), ([12, 13], [12, 13]), ([14], [14]), ([15], [15]), ([], []), ([], []), ([17, 18], [17, 18]), ([19], [19]), ([20], [20]), ([16, 21], [16, 21]), ([11, 22], [11, 22]), ([23], [23]), ([0, 24], [0, 24]), ([25, 25, 0, 1, 2, 3, 4, 5, 6, 7, 8, 9, 10, 11, 12, 13, 14, 15, 16, 17, 18, 19, 20, 21, 22, 23, 24, 25], [0, 25])])
def lustrumref05_Meet.B11 : List Nat := [0, 0, 0, 6, 14, 30, 0, 0, 192, 448, 960, 2046, 0, 0, 12288, 28672, 61440, 0, 0, 393216, 917504, 1966080, 4190208, 8388606, 16777214, 33554431, 67108863]
theorem lustrumref05_Meet.tab11 : rtab .any (opsOf Try.f38 11) = lustrumref05_Meet.T11 := by kernel_rfl
theorem lustrumref05_Meet.bits11 : waitsOk lustrumref05_Meet.T11.2 lustrumref05_Meet.B11 = true := by kernel_rfl
set_option maxHeartbeats 8000000 in
set_option maxRecDepth 100000 in
theorem lustrumref05_Meet.calls (k : Nat) (A0 : Option Addr) (c0 : Nat) (l0 : List (S25)) (A1 : Option Addr) (c1 : Nat) (l1 : List (S25)) (r : List (S25)) (w : World) (hr0 : Kd.C k25 w A0 l0.length l0) (hc0 : l0.length ≤ c0) (hr1 : Kd.C k25 w A1 l1.length l1) (hc1 : l1.length ≤ c1) (h : lustrumref05_Meet.f k l0 l1 = some r) :
  Calls Try.prog 38 #[.slice A0 l0.length c0, .slice A1 l1.length c1] w fun e w' => ∃ v0_ : Value, e = .returned (v0_) ∧ Kd.R k25 25 w' w.heap.size (fun _ => True) v0_ r ∧ Below w.heap.size w w' := by
 have hu25 := Try.underlying25; have HR0 := Aside0.mk hr0; have HC0 := Aside0.mk hc0; clear hr0 hc0; have HR1 := Aside0.mk hr1; have HC1 := Aside0.mk hc1; clear hr1 hc1; have HB := Aside0.mk (Below.refl w.heap.size w); have H : ((lustrumref04_As.f k l0).bind fun t452 => ((lustrumref04_As.f k l1).bind fun t455 => (lustrumref05_Meet.l0 k t452 t455 ([] : List (S25)) 0))) = some r := h; clear h; replace H := Option.bind_eq_some_iff.mp H; obtain ⟨t452, A30, H⟩ := H; replace H : ((lustrumref04_As.f k l1).bind fun t455 => (lustrumref05_Meet.l0 k t452 t455 ([] : List (S25)) 0)) = some r := H; have A3 := Aside0.mk A30; clear A30; replace H := Option.bind_eq_some_iff.mp H; obtain ⟨t455, A40, H⟩ := H; replace H : (lustrumref05_Meet.l0 k t452 t455 ([] : List (S25)) 0) = some r := H; have A4 := Aside0.mk A40; clear A40; have H' := Aside0.mk H; clear H; go_enter Try.func38, Try.ntmps38; go_wp2_with (first | ((with_reducible refine gate_callee (f := 52) rfl ?_); refine goesL_ (some 11) rfl rfl Try.func52 (by kernel_rfl) rfl #[.slice A0 l0.length c0] rfl ml_ ?_; (with_reducible refine (lustrumref04_As.calls k (fun k_ => k_ < w.heap.size) _ _ l0 t452 _ ?side1 A3.out).mono ?_); (case side1 => exact Kd.V_mk HC0.out (Kd.F_below (Kd.C_F k25_heap HR0.out) hb_)); rintro e w5 ⟨v453, rfl, ho0, hb⟩; refine ⟨_, rfl, ?_⟩; have n0_ := Aside0.mk (Kd.V_lower (Kd.V_mono (ok' := fun k_ => True) ho0 (fun k_ hk_ => trivial)) (below_size hb_)); have n1_ := Aside0.mk (below_step hb_ hb); clear HB; have HO454 := n0_; have HB := n1_; clear n0_ n1_; (try clear hb); (try clear hb2); (try clear hk); (try clear hi); (try clear ho0)) | ((with_reducible refine gate_callee (f := 52) rfl ?_); refine goesL_ (some 13) rfl rfl Try.func52 (by kernel_rfl) rfl #[.slice A1 l1.length c1] rfl ml_ ?_; (with_reducible refine (lustrumref04_As.calls k (fun k_ => k_ < w.heap.size) _ _ l1 t455 _ ?side1 A4.out).mono ?_); (case side1 => exact Kd.V_mk HC1.out (Kd.F_below (Kd.C_F k25_heap HR1.out) hb_)); rintro e w6 ⟨v456, rfl, ho0, hb⟩; refine ⟨_, rfl, ?_⟩; have n0_ := Aside0.mk (Kd.V_below (hrV_ HO454.out) hb); have n1_ := Aside0.mk (Kd.V_lower (Kd.V_mono (ok' := fun k_ => True) ho0 (fun k_ hk_ => trivial)) (below_size hb_)); have n2_ := Aside0.mk (below_step hb_ hb); clear HO454; clear HB; have HO454 := n0_; have HO457 := n1_; have HB := n2_; clear n0_ n1_ n2_; (try clear hb); (try clear hb2); (try clear hk); (try clear hi); (try clear ho0))); go_loopg [7, 8] k (fun kq v7 v8 w' => ∃ (x7_1 : List (S25)) (x8_1 : Int), v8 = .int .i64 x8_1 ∧ Aside0 (lustrumref05_Meet.l0 kq t452 t455 x7_1 x8_1 = some r) ∧ Aside0 (kq ≤ k) ∧ Aside0 (Kd.V k25 25 w' w.heap.size (fun k_ => some k_ ≠ (v7 : Value).ownBlock) v453 t452) ∧ Aside0 (Kd.V k25 25 w' w.heap.size (fun k_ => some k_ ≠ (v7 : Value).ownBlock) v456 t455) ∧ Aside0 (Kd.R k25 25 w' w.heap.size (fun _ => True) v7 x7_1) ∧ Aside0 (Below w.heap.size w w'))
 case atStart => exact ⟨(([] : List (S25))), (0), rf_, H', ⟨Nat.le_refl _⟩, ⟨by (with_reducible repeat (first | apply Kd.V_alloc | apply Kd.V_drewN | apply Kd.V_drew)); exact Kd.V_mono HO454.out (fun _ hk => (by simp [Value.ownBlock]))⟩, ⟨by (with_reducible repeat (first | apply Kd.V_alloc | apply Kd.V_drewN | apply Kd.V_drew)); exact Kd.V_mono HO457.out (fun _ hk => (by simp [Value.ownBlock]))⟩, ⟨by first | exact Kd.R_nil _ _ _ _ _ | exact Kd.N_nil _ _ _ _ _ | exact Kd.V_nil _ _ _ _ _ | exact Kd.Q_nil _ _ _ _ _ | exact Kd.S_nil _ _ _ _ _⟩, ⟨hb_⟩⟩
 case round =>
  clear H'; (try clear c1); (try clear p2); (try clear c3); (try clear c5); obtain ⟨x7_1, x8_1, rfl, HA, HK1, HO_5, HO_6, HO_7, HB⟩ := hrel
  cases gk with
  | zero => exact absurd HA.out (by simp [lustrumref05_Meet.l0])
  | succ k1 =>
   have H := HA.out; clear HA; simp only [lustrumref05_Meet.l0] at H
   by_cases c7 : x8_1 < (t452.length : Int)
   ·rw [if_pos c7] at H
    have c7b0 : decide (x8_1 < (t452.length : Int)) = true := decide_eq_true c7; clear c7; have H' := Aside0.mk H; clear H; obtain ⟨Ao8, co8, eo8⟩ := Kd.V_slice HO_5.out; subst eo8; go_wp2; go_loopg [7, 9] k1 (fun kq v7 v9 w' => ∃ (x7_2 : List (S25)) (x9_2 : Int), v9 = .int .i64 x9_2 ∧ Aside0 (lustrumref05_Meet.l1 kq t452 t455 x7_2 x8_1 x9_2 = some r) ∧ Aside0 (kq ≤ k1) ∧ Aside0 (Kd.V k25 25 w' w.heap.size (fun k_ => some k_ ≠ (v7 : Value).ownBlock) (.slice Ao8 t452.length co8) t452) ∧ Aside0 (Kd.V k25 25 w' w.heap.size (fun k_ => some k_ ≠ (v7 : Value).ownBlock) v456 t455) ∧ Aside0 (Kd.R k25 25 w' w.heap.size (fun _ => True) v7 x7_2) ∧ Aside0 (Below w.heap.size w w'))
    case atStart => exact ⟨(x7_1), (0), rf_, H', ⟨Nat.le_refl _⟩, ⟨by (with_reducible repeat (first | apply Kd.V_alloc | apply Kd.V_drewN | apply Kd.V_drew)); exact HO_5.out⟩, ⟨by (with_reducible repeat (first | apply Kd.V_alloc | apply Kd.V_drewN | apply Kd.V_drew)); exact HO_6.out⟩, ⟨by (with_reducible repeat (first | apply Kd.R_alloc | apply Kd.R_drewN | apply Kd.R_drew)); exact HO_7.out⟩, ⟨hb_⟩⟩
    case round =>
     clear H'; (try clear c1); (try clear p2); (try clear c3); (try clear c5); (try clear c7); (try clear c7b0); (try clear p2); obtain ⟨x7_2, x9_2, rfl, HA, HK2, HO_5, HO_6, HO_7, HB⟩ := hrel
     cases gk with
     | zero => exact absurd HA.out (by simp [lustrumref05_Meet.l1])
     | succ k2 =>
      have H := HA.out; clear HA; simp only [lustrumref05_Meet.l1] at H
      by_cases c9 : x9_2 < (t455.length : Int)
      ·rw [if_pos c9] at H
       have c9b0 : decide (x9_2 < (t455.length : Int)) = true := decide_eq_true c9; clear c9
       by_cases c10 : 0 ≤ x8_1
       ·rw [if_pos c10] at H
        have c10b0 : decide (0 ≤ x8_1) = true := decide_eq_true c10; clear c10
        by_cases c11 : x8_1 < (t452.length : Int)
        ·rw [if_pos c11] at H
         have c11b0 : decide (x8_1 < (t452.length : Int)) = true := decide_eq_true c11; clear c11
         by_cases c12 : 0 ≤ x9_2
         ·rw [if_pos c12] at H
          have c12b0 : decide (0 ≤ x9_2) = true := decide_eq_true c12; clear c12; obtain ⟨ji13, hji13⟩ : ∃ j_ : Int, (mx ((rd_T25 t452 x8_1).f0) ((rd_T25 t455 x9_2).f0)) = j_ := ⟨_, rfl⟩; (replace H : (if (ji13) ≤ (mn ((rd_T25 t452 x8_1).f1) ((rd_T25 t455 x9_2).f1)) then (if x7_2.length < 8796093022208 then (lustrumref05_Meet.l1 k2 t452 t455 (x7_2 ++ [(⟨ji13, mn ((rd_T25 t452 x8_1).f1) ((rd_T25 t455 x9_2).f1)⟩ : S25)]) x8_1 (wrap64 (x9_2 + 1))) else (none)) else (lustrumref05_Meet.l1 k2 t452 t455 x7_2 x8_1 (wrap64 (x9_2 + 1)))) = some r := by first | (rw [hji13] at H; exact H) | (simp only [hji13] at H ⊢; exact H)); have hji13_ : (if ((rd_T25 t452 x8_1).f0) < ((rd_T25 t455 x9_2).f0) then ((rd_T25 t455 x9_2).f0) else ((rd_T25 t452 x8_1).f0)) = ji13 := hji13; obtain ⟨ji14, hji14⟩ : ∃ j_ : Int, (mn ((rd_T25 t452 x8_1).f1) ((rd_T25 t455 x9_2).f1)) = j_ := ⟨_, rfl⟩; (replace H : (if (ji13) ≤ (ji14) then (if x7_2.length < 8796093022208 then (lustrumref05_Meet.l1 k2 t452 t455 (x7_2 ++ [(⟨ji13, ji14⟩ : S25)]) x8_1 (wrap64 (x9_2 + 1))) else (none)) else (lustrumref05_Meet.l1 k2 t452 t455 x7_2 x8_1 (wrap64 (x9_2 + 1)))) = some r := by first | (rw [hji14] at H; exact H) | (simp only [hji14] at H ⊢; exact H)); have hji14_ : (if ((rd_T25 t455 x9_2).f1) < ((rd_T25 t452 x8_1).f1) then ((rd_T25 t455 x9_2).f1) else ((rd_T25 t452 x8_1).f1)) = ji14 := hji14
          by_cases c15 : (ji13) ≤ (ji14)
          ·rw [if_pos c15] at H
           have c15b0 : decide ((ji13) ≤ (ji14)) = true := decide_eq_true c15; clear c15
           by_cases c16 : x7_2.length < 8796093022208
           ·rw [if_pos c16] at H
            have LMc16 := Aside0.mk c16; clear c16; obtain ⟨y466, hy466⟩ : ∃ y_ : List (S25), y_ = (x7_2 ++ [(⟨ji13, ji14⟩ : S25)]) := ⟨_, rfl⟩; (replace H : (lustrumref05_Meet.l1 k2 t452 t455 y466 x8_1 (wrap64 (x9_2 + 1))) = some r := hy_ hy466 H); have Ny466 := Aside0.mk hy466; clear hy466; have H' := Aside0.mk H; clear H; obtain ⟨Ao17, co17, eo17⟩ := Kd.V_slice HO_6.out; subst eo17; (try go_wp2); replace HO_5 := Aside0.mk (Kd.V_drew HO_5.out); replace HO_6 := Aside0.mk (Kd.V_drew HO_6.out); replace HO_7 := Aside0.mk (Kd.R_drew HO_7.out); replace HB := Aside0.mk (below_drew1 HB.out); have p458 : 0 ≤ (x8_1 : Int) := od_; have q458 : x8_1 < (t452.length : Int) := od_; obtain ⟨ad458, e458, hx458_0, hx458_1⟩ := at_T25 (Kd.V_reads' HO_5.out).2.2 x8_1 p458 q458
            cases e458
            replace p458 := eq_true p458; replace q458 := eq_true q458; have p459 : 0 ≤ (x9_2 : Int) := od_; have q459 : x9_2 < (t455.length : Int) := od_; obtain ⟨ad459, e459, hx459_0, hx459_1⟩ := at_T25 (Kd.V_reads' HO_6.out).2.2 x9_2 p459 q459
            cases e459
            replace p459 := eq_true p459; replace q459 := eq_true q459; have p460 : 0 ≤ (x8_1 : Int) := od_; have q460 : x8_1 < (t452.length : Int) := od_; obtain ⟨ad460, e460, hx460_0, hx460_1⟩ := at_T25 (Kd.V_reads' HO_5.out).2.2 x8_1 p460 q460; obtain rfl : ad458 = ad460 := (by injection e460); replace p460 := eq_true p460; replace q460 := eq_true q460; have p461 : 0 ≤ (x9_2 : Int) := od_; have q461 : x9_2 < (t455.length : Int) := od_; obtain ⟨ad461, e461, hx461_0, hx461_1⟩ := at_T25 (Kd.V_reads' HO_6.out).2.2 x9_2 p461 q461; obtain rfl : ad459 = ad461 := (by injection e461); replace p461 := eq_true p461; replace q461 := eq_true q461; refine start_ (n := 23) (S := fun w' => w'.cell? (ad458.add ((x8_1).toNat * 2)) = some (.int .i64 ((rd_T25 t452 x8_1).f0)) ∧ w'.cell? ⟨(ad458.add ((x8_1).toNat * 2)).block, (ad458.add ((x8_1).toNat * 2)).off + 1, none⟩ = some (.int .i64 ((rd_T25 t452 x8_1).f1)) ∧ w'.cell? (ad459.add ((x9_2).toNat * 2)) = some (.int .i64 ((rd_T25 t455 x9_2).f0)) ∧ w'.cell? ⟨(ad459.add ((x9_2).toNat * 2)).block, (ad459.add ((x9_2).toNat * 2)).off + 1, none⟩ = some (.int .i64 ((rd_T25 t455 x9_2).f1)) ∧ w'.cell? (ad458.add ((x8_1).toNat * 2)) = some (.int .i64 ((rd_T25 t452 x8_1).f0)) ∧ w'.cell? ⟨(ad458.add ((x8_1).toNat * 2)).block, (ad458.add ((x8_1).toNat * 2)).off + 1, none⟩ = some (.int .i64 ((rd_T25 t452 x8_1).f1)) ∧ w'.cell? (ad459.add ((x9_2).toNat * 2)) = some (.int .i64 ((rd_T25 t455 x9_2).f0)) ∧ w'.cell? ⟨(ad459.add ((x9_2).toNat * 2)).block, (ad459.add ((x9_2).toNat * 2)).off + 1, none⟩ = some (.int .i64 ((rd_T25 t455 x9_2).f1))) (ds := []) (ab 23 0) (by kernel_rfl) rfl rfl ⟨hx458_0, hx458_1, hx459_0, hx459_1, hx460_0, hx460_1, hx461_0, hx461_1⟩ (fun hHeld => ?_); refine with_tabW lustrumref05_Meet.tab10 lustrumref05_Meet.bits10 (fun HT_ HW_ => ?_); generalize wr.drew = w18 at HO_5 HO_6 HO_7 HB hx458_0 hx458_1 hx459_0 hx459_1 hx460_0 hx460_1 hx461_0 hx461_1 hHeld ⊢; refine pA 0 26 23 1 ?_; refine pA 1 27 23 3 ?_; refine pA 2 28 23 7 ?_; refine pA 3 29 23 15 ?_; refine pA 5 31 23 47 ?_; refine pA 6 32 23 111 ?_; refine pA 7 33 23 239 ?_; refine pA 8 34 23 495 ?_; refine pA 11 37 23 2543 ?_; refine pA 12 38 23 6639 ?_; refine pA 13 39 23 14831 ?_; refine pA 14 40 23 31215 ?_; refine pA 16 42 23 96751 ?_; refine pA 17 43 23 227823 ?_; refine pA 18 44 23 489967 ?_; refine pA 19 45 23 1014255 ?_; refine takeA 4 (some 30) (ab 23 1014271) rfl rfl (take_ofW HT_.out HW_.out (by kernel_rfl)) (Or.inl ⟨by rfl, by rintro w' ⟨s0, s1, s2, s3, s4, s5, s6, s7⟩; go_simp; with_reducible rfl⟩) hHeld ?_; refine takeA 9 (some 35) (ab 23 1014783) rfl rfl (take_ofW HT_.out HW_.out (by kernel_rfl)) (Or.inl ⟨by rfl, by rintro w' ⟨s0, s1, s2, s3, s4, s5, s6, s7⟩; go_simp; with_reducible rfl⟩) hHeld ?_; refine pA 10 36 23 1015807 ?_; refine takeA 15 (some 41) (ab 23 1048575) rfl rfl (take_ofW HT_.out HW_.out (by kernel_rfl)) (Or.inl ⟨by rfl, by rintro w' ⟨s0, s1, s2, s3, s4, s5, s6, s7⟩; go_simp; with_reducible rfl⟩) hHeld ?_; refine takeA 20 (some 46) (ab 23 2097151) rfl rfl (take_ofW HT_.out HW_.out (by kernel_rfl)) (Or.inl ⟨by rfl, by rintro w' ⟨s0, s1, s2, s3, s4, s5, s6, s7⟩; go_simp; with_reducible rfl⟩) hHeld ?_; refine pA 21 47 23 4194303 ?_; refine pA 22 48 23 8388607 ?_; refine done_ (done_of HT_.out (by kernel_rfl)) ?_; (try go_wp2); replace HO_5 := Aside0.mk (Kd.V_drew HO_5.out); replace HO_6 := Aside0.mk (Kd.V_drew HO_6.out); replace HO_7 := Aside0.mk (Kd.R_drew HO_7.out); replace HB := Aside0.mk (below_drew1 HB.out); have p462 : 0 ≤ (x8_1 : Int) := od_; have q462 : x8_1 < (t452.length : Int) := od_; obtain ⟨ad462, e462, hx462_0, hx462_1⟩ := at_T25 (Kd.V_reads' HO_5.out).2.2 x8_1 p462 q462; obtain rfl : ad458 = ad462 := (by injection e462); replace p462 := eq_true p462; replace q462 := eq_true q462; have p463 : 0 ≤ (x9_2 : Int) := od_; have q463 : x9_2 < (t455.length : Int) := od_; obtain ⟨ad463, e463, hx463_0, hx463_1⟩ := at_T25 (Kd.V_reads' HO_6.out).2.2 x9_2 p463 q463; obtain rfl : ad459 = ad463 := (by injection e463); replace p463 := eq_true p463
            replace q463 := eq_true q463; have p464 : 0 ≤ (x8_1 : Int) := od_; have q464 : x8_1 < (t452.length : Int) := od_; obtain ⟨ad464, e464, hx464_0, hx464_1⟩ := at_T25 (Kd.V_reads' HO_5.out).2.2 x8_1 p464 q464; obtain rfl : ad458 = ad464 := (by injection e464); replace p464 := eq_true p464; replace q464 := eq_true q464; have p465 : 0 ≤ (x9_2 : Int) := od_; have q465 : x9_2 < (t455.length : Int) := od_; obtain ⟨ad465, e465, hx465_0, hx465_1⟩ := at_T25 (Kd.V_reads' HO_6.out).2.2 x9_2 p465 q465; obtain rfl : ad459 = ad465 := (by injection e465); replace p465 := eq_true p465; replace q465 := eq_true q465; refine start_ (n := 27) (S := fun w' => w'.cell? (ad458.add ((x8_1).toNat * 2)) = some (.int .i64 ((rd_T25 t452 x8_1).f0)) ∧ w'.cell? ⟨(ad458.add ((x8_1).toNat * 2)).block, (ad458.add ((x8_1).toNat * 2)).off + 1, none⟩ = some (.int .i64 ((rd_T25 t452 x8_1).f1)) ∧ w'.cell? (ad459.add ((x9_2).toNat * 2)) = some (.int .i64 ((rd_T25 t455 x9_2).f0)) ∧ w'.cell? ⟨(ad459.add ((x9_2).toNat * 2)).block, (ad459.add ((x9_2).toNat * 2)).off + 1, none⟩ = some (.int .i64 ((rd_T25 t455 x9_2).f1)) ∧ w'.cell? (ad458.add ((x8_1).toNat * 2)) = some (.int .i64 ((rd_T25 t452 x8_1).f0)) ∧ w'.cell? ⟨(ad458.add ((x8_1).toNat * 2)).block, (ad458.add ((x8_1).toNat * 2)).off + 1, none⟩ = some (.int .i64 ((rd_T25 t452 x8_1).f1)) ∧ w'.cell? (ad459.add ((x9_2).toNat * 2)) = some (.int .i64 ((rd_T25 t455 x9_2).f0)) ∧ w'.cell? ⟨(ad459.add ((x9_2).toNat * 2)).block, (ad459.add ((x9_2).toNat * 2)).off + 1, none⟩ = some (.int .i64 ((rd_T25 t455 x9_2).f1))) (ds := [24, 25]) (ab 27 0) (by kernel_rfl) rfl rfl ⟨hx462_0, hx462_1, hx463_0, hx463_1, hx464_0, hx464_1, hx465_0, hx465_1⟩ (fun hHeld => ?_); refine with_tabW lustrumref05_Meet.tab11 lustrumref05_Meet.bits11 (fun HT_ HW_ => ?_); generalize w18.drew = w19 at HO_5 HO_6 HO_7 HB hx462_0 hx462_1 hx463_0 hx463_1 hx464_0 hx464_1 hx465_0 hx465_1 hHeld ⊢; refine pA 0 49 27 1 ?_; refine pA 1 50 27 3 ?_; refine pA 2 51 27 7 ?_; refine pA 3 52 27 15 ?_; refine pA 4 53 27 31 ?_; refine pA 6 55 27 95 ?_; refine pA 7 56 27 223 ?_; refine pA 8 57 27 479 ?_; refine pA 9 58 27 991 ?_; refine pA 12 61 27 5087 ?_; refine pA 13 62 27 13279 ?_; refine pA 14 63 27 29663 ?_; refine pA 15 64 27 62431 ?_; refine pA 17 66 27 193503 ?_; refine pA 18 67 27 455647 ?_; refine pA 19 68 27 979935 ?_; refine pA 20 69 27 2028511 ?_; refine takeA 5 (some 54) (ab 27 2028543) rfl rfl (take_ofW HT_.out HW_.out (by kernel_rfl)) (Or.inl ⟨by rfl, by rintro w' ⟨s0, s1, s2, s3, s4, s5, s6, s7⟩; go_simp; with_reducible rfl⟩) hHeld ?_; refine takeA 10 (some 59) (ab 27 2029567) rfl rfl (take_ofW HT_.out HW_.out (by kernel_rfl)) (Or.inl ⟨by rfl, by rintro w' ⟨s0, s1, s2, s3, s4, s5, s6, s7⟩; go_simp; with_reducible rfl⟩) hHeld ?_; refine pA 11 60 27 2031615 ?_; refine takeA 16 (some 65) (ab 27 2097151) rfl rfl (take_ofW HT_.out HW_.out (by kernel_rfl)) (Or.inl ⟨by rfl, by rintro w' ⟨s0, s1, s2, s3, s4, s5, s6, s7⟩; go_simp; with_reducible rfl⟩) hHeld ?_; refine takeA 21 (some 70) (ab 27 4194303) rfl rfl (take_ofW HT_.out HW_.out (by kernel_rfl)) (Or.inl ⟨by rfl, by rintro w' ⟨s0, s1, s2, s3, s4, s5, s6, s7⟩; go_simp; with_reducible rfl⟩) hHeld ?_; refine pA 22 71 27 8388607 ?_; refine pA 23 72 27 16777215 ?_; refine last_ (i := 24) (N := some 73) (ab 27 33554431) rfl rfl (one_of HT_.out (by kernel_rfl)) (by decide) (fun K hK => ?_); refine value_ (w1 := ?_) (v := ?_) (by rfl) rfl ?_ ?_; rotate_left 2
            ·go_simp
             constructor
             ·rfl
             ·rfl
            refine hK.out _ _ ?_; clear hK K; refine nA ?_; refine last_ (i := 25) (N := some 74) (ab 27 67108863) rfl rfl (one_of HT_.out (by kernel_rfl)) (by decide) (fun K hK => ?_); refine Kd.R_append_step k25 (w0 := w) w.heap.size (by rfl) (.tmp 49) (.tmp 73) 23 25 (.agg #[(.int .i64 0), (.int .i64 0)]) 16 rfl Try.underlying23 info25 rfl (by decide) (by omega) u7 x7_2 (⟨ji13, ji14⟩ : S25) [.int .i64 ji13, .int .i64 ji14] (fun _ => True) (fun _ => False) rfl rfl ?aP (fun _ hk => hk.elim) ?aF ?aO ?aB ?aS ?aL ?_
            (case aP => exact k25_mkM _ _ _ (⟨ji13, ji14⟩ : S25))
            (case aB => exact hb_)
            (case aF => exact (fun _ _ => trivial))
            (case aO => exact (hrR_ HO_7.out))
            (case aS => exact (below_size hb_))
            (case aL => have := LMc16.out; omega)
            intro v467 w20 ho hb hg hat
            rw [← Ny466.out] at ho; have n0_ := Aside0.mk (Kd.V_afterv (ok := (fun _ => True)) (by (with_reducible repeat (first | apply Kd.V_alloc | apply Kd.V_drewN | apply Kd.V_drew)); exact Kd.V_mono HO_5.out (fun _ hk => ⟨trivial, hk⟩)) hg hat); have n1_ := Aside0.mk (Kd.V_afterv (ok := (fun _ => True)) (by (with_reducible repeat (first | apply Kd.V_alloc | apply Kd.V_drewN | apply Kd.V_drew)); exact Kd.V_mono HO_6.out (fun _ hk => ⟨trivial, hk⟩)) hg hat); have n2_ := Aside0.mk (hb); have n3_ := Aside0.mk (ho); clear HO_5; clear HO_6; clear HB; clear HO_7; have HO_5 := n0_; have HO_6 := n1_; have HB := n2_; have HO468 := n3_; clear n0_ n1_ n2_ n3_
            clear ho hb hg hat
            refine hK.out _ _ ?_; clear hK K; refine nA ?_; refine pA 26 7 27 134217727 ?_; refine done_ (done_of HT_.out (by kernel_rfl)) ?_; (try go_wp2); go_roundg k2
            case measure => have := HK1.out; have := HK2.out; omega
            case rel => exact ⟨(y466), (wrap64 (x9_2 + 1)), rf_, H', ⟨by have := HK1.out; have := HK2.out; omega⟩, ⟨by (with_reducible repeat (first | apply Kd.V_alloc | apply Kd.V_drewN | apply Kd.V_drew)); exact Kd.V_mono HO_5.out (fun _ hk => hk.2)⟩, ⟨by (with_reducible repeat (first | apply Kd.V_alloc | apply Kd.V_drewN | apply Kd.V_drew)); exact Kd.V_mono HO_6.out (fun _ hk => hk.2)⟩, ⟨by (with_reducible repeat (first | apply Kd.R_alloc | apply Kd.R_drewN | apply Kd.R_drew)); exact HO468.out⟩, ⟨hb_⟩⟩
           ·rw [if_neg c16] at H
            exact absurd H (by simp)
          ·rw [if_neg c15] at H
           have c15b0 : decide ((ji13) ≤ (ji14)) = false := decide_eq_false c15; clear c15; have H' := Aside0.mk H; clear H; obtain ⟨Ao21, co21, eo21⟩ := Kd.V_slice HO_6.out; subst eo21; (try go_wp2); replace HO_5 := Aside0.mk (Kd.V_drew HO_5.out); replace HO_6 := Aside0.mk (Kd.V_drew HO_6.out); replace HO_7 := Aside0.mk (Kd.R_drew HO_7.out); replace HB := Aside0.mk (below_drew1 HB.out); have p458 : 0 ≤ (x8_1 : Int) := od_; have q458 : x8_1 < (t452.length : Int) := od_; obtain ⟨ad458, e458, hx458_0, hx458_1⟩ := at_T25 (Kd.V_reads' HO_5.out).2.2 x8_1 p458 q458
           cases e458
           replace p458 := eq_true p458; replace q458 := eq_true q458; have p459 : 0 ≤ (x9_2 : Int) := od_; have q459 : x9_2 < (t455.length : Int) := od_; obtain ⟨ad459, e459, hx459_0, hx459_1⟩ := at_T25 (Kd.V_reads' HO_6.out).2.2 x9_2 p459 q459
           cases e459
           replace p459 := eq_true p459; replace q459 := eq_true q459; have p460 : 0 ≤ (x8_1 : Int) := od_; have q460 : x8_1 < (t452.length : Int) := od_; obtain ⟨ad460, e460, hx460_0, hx460_1⟩ := at_T25 (Kd.V_reads' HO_5.out).2.2 x8_1 p460 q460; obtain rfl : ad458 = ad460 := (by injection e460); replace p460 := eq_true p460; replace q460 := eq_true q460; have p461 : 0 ≤ (x9_2 : Int) := od_; have q461 : x9_2 < (t455.length : Int) := od_; obtain ⟨ad461, e461, hx461_0, hx461_1⟩ := at_T25 (Kd.V_reads' HO_6.out).2.2 x9_2 p461 q461; obtain rfl : ad459 = ad461 := (by injection e461); replace p461 := eq_true p461; replace q461 := eq_true q461; refine start_ (n := 23) (S := fun w' => w'.cell? (ad458.add ((x8_1).toNat * 2)) = some (.int .i64 ((rd_T25 t452 x8_1).f0)) ∧ w'.cell? ⟨(ad458.add ((x8_1).toNat * 2)).block, (ad458.add ((x8_1).toNat * 2)).off + 1, none⟩ = some (.int .i64 ((rd_T25 t452 x8_1).f1)) ∧ w'.cell? (ad459.add ((x9_2).toNat * 2)) = some (.int .i64 ((rd_T25 t455 x9_2).f0)) ∧ w'.cell? ⟨(ad459.add ((x9_2).toNat * 2)).block, (ad459.add ((x9_2).toNat * 2)).off + 1, none⟩ = some (.int .i64 ((rd_T25 t455 x9_2).f1)) ∧ w'.cell? (ad458.add ((x8_1).toNat * 2)) = some (.int .i64 ((rd_T25 t452 x8_1).f0)) ∧ w'.cell? ⟨(ad458.add ((x8_1).toNat * 2)).block, (ad458.add ((x8_1).toNat * 2)).off + 1, none⟩ = some (.int .i64 ((rd_T25 t452 x8_1).f1)) ∧ w'.cell? (ad459.add ((x9_2).toNat * 2)) = some (.int .i64 ((rd_T25 t455 x9_2).f0)) ∧ w'.cell? ⟨(ad459.add ((x9_2).toNat * 2)).block, (ad459.add ((x9_2).toNat * 2)).off + 1, none⟩ = some (.int .i64 ((rd_T25 t455 x9_2).f1))) (ds := []) (ab 23 0) (by kernel_rfl) rfl rfl ⟨hx458_0, hx458_1, hx459_0, hx459_1, hx460_0, hx460_1, hx461_0, hx461_1⟩ (fun hHeld => ?_); refine with_tabW lustrumref05_Meet.tab10 lustrumref05_Meet.bits10 (fun HT_ HW_ => ?_); generalize wr.drew = w22 at HO_5 HO_6 HO_7 HB hx458_0 hx458_1 hx459_0 hx459_1 hx460_0 hx460_1 hx461_0 hx461_1 hHeld ⊢; refine pA 0 26 23 1 ?_; refine pA 1 27 23 3 ?_; refine pA 2 28 23 7 ?_; refine pA 3 29 23 15 ?_; refine pA 5 31 23 47 ?_; refine pA 6 32 23 111 ?_; refine pA 7 33 23 239 ?_; refine pA 8 34 23 495 ?_; refine pA 11 37 23 2543 ?_; refine pA 12 38 23 6639 ?_; refine pA 13 39 23 14831 ?_; refine pA 14 40 23 31215 ?_; refine pA 16 42 23 96751 ?_; refine pA 17 43 23 227823 ?_; refine pA 18 44 23 489967 ?_; refine pA 19 45 23 1014255 ?_; refine takeA 4 (some 30) (ab 23 1014271) rfl rfl (take_ofW HT_.out HW_.out (by kernel_rfl)) (Or.inl ⟨by rfl, by rintro w' ⟨s0, s1, s2, s3, s4, s5, s6, s7⟩; go_simp; with_reducible rfl⟩) hHeld ?_; refine takeA 9 (some 35) (ab 23 1014783) rfl rfl (take_ofW HT_.out HW_.out (by kernel_rfl)) (Or.inl ⟨by rfl, by rintro w' ⟨s0, s1, s2, s3, s4, s5, s6, s7⟩; go_simp; with_reducible rfl⟩) hHeld ?_; refine pA 10 36 23 1015807 ?_; refine takeA 15 (some 41) (ab 23 1048575) rfl rfl (take_ofW HT_.out HW_.out (by kernel_rfl)) (Or.inl ⟨by rfl, by rintro w' ⟨s0, s1, s2, s3, s4, s5, s6, s7⟩; go_simp; with_reducible rfl⟩) hHeld ?_; refine takeA 20 (some 46) (ab 23 2097151) rfl rfl (take_ofW HT_.out HW_.out (by kernel_rfl)) (Or.inl ⟨by rfl, by rintro w' ⟨s0, s1, s2, s3, s4, s5, s6, s7⟩; go_simp; with_reducible rfl⟩) hHeld ?_; refine pA 21 47 23 4194303 ?_; refine pA 22 48 23 8388607 ?_; refine done_ (done_of HT_.out (by kernel_rfl)) ?_; (try go_wp2); go_roundg k2
           case measure => have := HK1.out; have := HK2.out; omega
           case rel => exact ⟨(x7_2), (wrap64 (x9_2 + 1)), rf_, H', ⟨by have := HK1.out; have := HK2.out; omega⟩, ⟨by (with_reducible repeat (first | apply Kd.V_alloc | apply Kd.V_drewN | apply Kd.V_drew)); exact HO_5.out⟩, ⟨by (with_reducible repeat (first | apply Kd.V_alloc | apply Kd.V_drewN | apply Kd.V_drew)); exact HO_6.out⟩, ⟨by (with_reducible repeat (first | apply Kd.R_alloc | apply Kd.R_drewN | apply Kd.R_drew)); exact HO_7.out⟩, ⟨hb_⟩⟩
         ·rw [if_neg c12] at H
          exact absurd H (by simp)
        ·rw [if_neg c11] at H
         exact absurd H (by simp)
       ·rw [if_neg c10] at H
        exact absurd H (by simp)
      ·rw [if_neg c9] at H
       have c9b0 : decide (x9_2 < (t455.length : Int)) = false := decide_eq_false c9; clear c9; have H' := Aside0.mk H; clear H; obtain ⟨Ao23, co23, eo23⟩ := Kd.V_slice HO_6.out; subst eo23; go_wp2; go_roundg k2
       case measure => have := HK1.out; have := HK2.out; omega
       case rel => exact ⟨(x7_2), (wrap64 (x8_1 + 1)), rf_, H', ⟨by have := HK1.out; have := HK2.out; omega⟩, ⟨by (with_reducible repeat (first | apply Kd.V_alloc | apply Kd.V_drewN | apply Kd.V_drew)); exact HO_5.out⟩, ⟨by (with_reducible repeat (first | apply Kd.V_alloc | apply Kd.V_drewN | apply Kd.V_drew)); exact HO_6.out⟩, ⟨by (with_reducible repeat (first | apply Kd.R_alloc | apply Kd.R_drewN | apply Kd.R_drew)); exact HO_7.out⟩, ⟨hb_⟩⟩
   ·rw [if_neg c7] at H
    have c7b0 : decide (x8_1 < (t452.length : Int)) = false := decide_eq_false c7; clear c7; obtain rfl := Option.some.inj H; obtain ⟨Ao24, co24, eo24⟩ := Kd.V_slice HO_5.out; subst eo24; go_wp2; go_ret; exact ⟨_, by first | rfl | (simp [errW_none, errW_some] <;> rfl) | (simp [*, errW_none, errW_some] <;> rfl), by (with_reducible repeat (first | apply Kd.R_alloc | apply Kd.R_drewN | apply Kd.R_drew)); exact HO_7.out, hb_⟩
set_option maxHeartbeats 8000000 in
set_option maxRecDepth 100000 in
theorem lustrumref05_rest.calls (k : Nat) (A0 : Option Addr) (c0 : Nat) (l0 : List (S25)) (r : List (S25)) (w : World) (hr0 : Kd.C k25 w A0 l0.length l0) (hc0 : l0.length ≤ c0) (h : lustrumref05_rest.f k l0 = some r) :
  Calls Try.prog 55 #[.slice A0 l0.length c0] w fun e w' => ∃ v0_ : Value, e = .returned (v0_) ∧ Kd.R k25 25 w' w.heap.size (fun _ => True) v0_ r ∧ Below w.heap.size w w' := by
 have hu25 := Try.underlying25; have HR0 := Aside0.mk hr0; have HC0 := Aside0.mk hc0; clear hr0 hc0; have HB := Aside0.mk (Below.refl w.heap.size w); have H : ((lustrumref04_As.f k l0).bind fun t469 => (lustrumref05_rest.l0 k t469 ([] : List (S25)) (-1099511627776) 0)) = some r := h; clear h; replace H := Option.bind_eq_some_iff.mp H; obtain ⟨t469, A20, H⟩ := H; replace H : (lustrumref05_rest.l0 k t469 ([] : List (S25)) (-1099511627776) 0) = some r := H; have A2 := Aside0.mk A20; clear A20; have H' := Aside0.mk H; clear H; go_enter Try.func55, Try.ntmps55; go_wp2_with (first | ((with_reducible refine gate_callee (f := 52) rfl ?_); refine goesL_ (some 8) rfl rfl Try.func52 (by kernel_rfl) rfl #[.slice A0 l0.length c0] rfl ml_ ?_; (with_reducible refine (lustrumref04_As.calls k (fun k_ => k_ < w.heap.size) _ _ l0 t469 _ ?side1 A2.out).mono ?_); (case side1 => exact Kd.V_mk HC0.out (Kd.F_below (Kd.C_F k25_heap HR0.out) hb_)); rintro e w3 ⟨v470, rfl, ho0, hb⟩; refine ⟨_, rfl, ?_⟩; have n0_ := Aside0.mk (Kd.V_lower (Kd.V_mono (ok' := fun k_ => True) ho0 (fun k_ hk_ => trivial)) (below_size hb_)); have n1_ := Aside0.mk (below_step hb_ hb); clear HB; have HO471 := n0_; have HB := n1_; clear n0_ n1_; (try clear hb); (try clear hb2); (try clear hk); (try clear hi); (try clear ho0))); go_loopg [4, 5, 6] k (fun kq v4 v5 v6 w' => ∃ (x4_1 : List (S25)) (x5_1 : Int) (x6_1 : Int), v5 = .int .i64 x5_1 ∧ v6 = .int .i64 x6_1 ∧ Aside0 (lustrumref05_rest.l0 kq t469 x4_1 x5_1 x6_1 = some r) ∧ Aside0 (kq ≤ k) ∧ Aside0 (Kd.V k25 25 w' w.heap.size (fun k_ => some k_ ≠ (v4 : Value).ownBlock) v470 t469) ∧ Aside0 (Kd.R k25 25 w' w.heap.size (fun _ => True) v4 x4_1) ∧ Aside0 (Below w.heap.size w w'))
 case atStart => exact ⟨(([] : List (S25))), ((-1099511627776)), (0), rf_, rf_, H', ⟨Nat.le_refl _⟩, ⟨by (with_reducible repeat (first | apply Kd.V_alloc | apply Kd.V_drewN | apply Kd.V_drew)); exact Kd.V_mono HO471.out (fun _ hk => (by simp [Value.ownBlock]))⟩, ⟨by first | exact Kd.R_nil _ _ _ _ _ | exact Kd.N_nil _ _ _ _ _ | exact Kd.V_nil _ _ _ _ _ | exact Kd.Q_nil _ _ _ _ _ | exact Kd.S_nil _ _ _ _ _⟩, ⟨hb_⟩⟩
 case round =>
  clear H'; (try clear p2); obtain ⟨x4_1, x5_1, x6_1, rfl, rfl, HA, HK1, HO_3, HO_4, HB⟩ := hrel
  cases gk with
  | zero => exact absurd HA.out (by simp [lustrumref05_rest.l0])
  | succ k1 =>
   have H := HA.out; clear HA; simp only [lustrumref05_rest.l0] at H
   by_cases c4 : x6_1 < (t469.length : Int)
   ·rw [if_pos c4] at H
    have c4b0 : decide (x6_1 < (t469.length : Int)) = true := decide_eq_true c4; clear c4
    by_cases c5 : 0 ≤ x6_1
    ·rw [if_pos c5] at H
     have c5b0 : decide (0 ≤ x6_1) = true := decide_eq_true c5; clear c5
     by_cases c6 : ((rd_T25 t469 x6_1).f0) > x5_1
     ·rw [if_pos c6] at H
      have c6b0 : decide (x5_1 < ((rd_T25 t469 x6_1).f0)) = true := decide_eq_true c6; clear c6
      by_cases c7 : x4_1.length < 8796093022208
      ·rw [if_pos c7] at H
       have LMc7 := Aside0.mk c7; clear c7; obtain ⟨y474, hy474⟩ : ∃ y_ : List (S25), y_ = (x4_1 ++ [(⟨x5_1, wrap64 (((rd_T25 t469 x6_1).f0) - 1)⟩ : S25)]) := ⟨_, rfl⟩; (replace H : (lustrumref05_rest.l0 k1 t469 y474 (wrap64 (((rd_T25 t469 x6_1).f1) + 1)) (wrap64 (x6_1 + 1))) = some r := hy_ hy474 H); have Ny474 := Aside0.mk hy474; clear hy474; have H' := Aside0.mk H; clear H; obtain ⟨Ao8, co8, eo8⟩ := Kd.V_slice HO_3.out; subst eo8; have p472 : 0 ≤ (x6_1 : Int) := od_; have q472 : x6_1 < (t469.length : Int) := od_; obtain ⟨ad472, e472, hx472_0, hx472_1⟩ := at_T25 (Kd.V_reads' HO_3.out).2.2 x6_1 p472 q472
       cases e472
       replace p472 := eq_true p472; replace q472 := eq_true q472; have p473 : 0 ≤ (x6_1 : Int) := od_; have q473 : x6_1 < (t469.length : Int) := od_; obtain ⟨ad473, e473, hx473_0, hx473_1⟩ := at_T25 (Kd.V_reads' HO_3.out).2.2 x6_1 p473 q473; obtain rfl : ad472 = ad473 := (by injection e473); replace p473 := eq_true p473; replace q473 := eq_true q473; go_wp2_with (first | ((with_reducible refine gate_builtin (b := .append) (xs := #[.tmp 22, .tmp 31]) rfl ?_); at_builtin; refine Kd.R_append k25 (w0 := w) w.heap.size rfl (.tmp 22) (.tmp 31) 23 25 (.agg #[(.int .i64 0), (.int .i64 0)]) 16 rfl Try.underlying23 info25 rfl (by decide) (by omega) u4 x4_1 (⟨x5_1, wrap64 (((rd_T25 t469 x6_1).f0) - 1)⟩ : S25) [.int .i64 x5_1, .int .i64 (wrap64 (((rd_T25 t469 x6_1).f0) - 1))] (fun _ => True) (fun _ => False) rfl rfl ?aP (fun _ hk => hk.elim) ?aF ?aO ?aB ?aS ?aL ?_; (case aP => exact k25_mkM _ _ _ (⟨x5_1, wrap64 (((rd_T25 t469 x6_1).f0) - 1)⟩ : S25)); (case aB => exact hb_); (case aF => exact (fun _ _ => trivial)); (case aO => exact (hrR_ HO_4.out)); (case aS => exact (below_size hb_)); (case aL => have := LMc7.out; omega); intro v475 w9 ho hb hg hat; rw [← Ny474.out] at ho; have n0_ := Aside0.mk (Kd.V_afterv (ok := (fun _ => True)) (by (with_reducible repeat (first | apply Kd.V_alloc | apply Kd.V_drewN | apply Kd.V_drew)); exact Kd.V_mono HO_3.out (fun _ hk => ⟨trivial, hk⟩)) hg hat); have n1_ := Aside0.mk (hb); have n2_ := Aside0.mk (ho); clear HO_3; clear HB; clear HO_4; have HO_3 := n0_; have HB := n1_; have HO476 := n2_; clear n0_ n1_ n2_; clear ho hb hg hat; have p477 : 0 ≤ (x6_1 : Int) := od_; have q477 : x6_1 < (t469.length : Int) := od_; obtain ⟨ad477, e477, hx477_0, hx477_1⟩ := at_T25 (Kd.V_reads' HO_3.out).2.2 x6_1 p477 q477; obtain rfl : ad472 = ad477 := (by injection e477); replace p477 := eq_true p477; replace q477 := eq_true q477)); go_roundg k1
       case measure => have := HK1.out; omega
       case rel => exact ⟨(y474), (wrap64 (((rd_T25 t469 x6_1).f1) + 1)), (wrap64 (x6_1 + 1)), rf_, rf_, H', ⟨by have := HK1.out; omega⟩, ⟨by (with_reducible repeat (first | apply Kd.V_alloc | apply Kd.V_drewN | apply Kd.V_drew)); exact Kd.V_mono HO_3.out (fun _ hk => hk.2)⟩, ⟨by (with_reducible repeat (first | apply Kd.R_alloc | apply Kd.R_drewN | apply Kd.R_drew)); exact HO476.out⟩, ⟨hb_⟩⟩
      ·rw [if_neg c7] at H
       exact absurd H (by simp)
     ·rw [if_neg c6] at H
      have c6b0 : decide (x5_1 < ((rd_T25 t469 x6_1).f0)) = false := decide_eq_false c6; clear c6; have H' := Aside0.mk H; clear H; obtain ⟨Ao10, co10, eo10⟩ := Kd.V_slice HO_3.out; subst eo10; have p472 : 0 ≤ (x6_1 : Int) := od_; have q472 : x6_1 < (t469.length : Int) := od_; obtain ⟨ad472, e472, hx472_0, hx472_1⟩ := at_T25 (Kd.V_reads' HO_3.out).2.2 x6_1 p472 q472
      cases e472
      replace p472 := eq_true p472; replace q472 := eq_true q472; have p478 : 0 ≤ (x6_1 : Int) := od_; have q478 : x6_1 < (t469.length : Int) := od_; obtain ⟨ad478, e478, hx478_0, hx478_1⟩ := at_T25 (Kd.V_reads' HO_3.out).2.2 x6_1 p478 q478; obtain rfl : ad472 = ad478 := (by injection e478); replace p478 := eq_true p478; replace q478 := eq_true q478; go_wp2; go_roundg k1
      case measure => have := HK1.out; omega
      case rel => exact ⟨(x4_1), (wrap64 (((rd_T25 t469 x6_1).f1) + 1)), (wrap64 (x6_1 + 1)), rf_, rf_, H', ⟨by have := HK1.out; omega⟩, ⟨by (with_reducible repeat (first | apply Kd.V_alloc | apply Kd.V_drewN | apply Kd.V_drew)); exact HO_3.out⟩, ⟨by (with_reducible repeat (first | apply Kd.R_alloc | apply Kd.R_drewN | apply Kd.R_drew)); exact HO_4.out⟩, ⟨hb_⟩⟩
    ·rw [if_neg c5] at H
     exact absurd H (by simp)
   ·rw [if_neg c4] at H
    have c4b0 : decide (x6_1 < (t469.length : Int)) = false := decide_eq_false c4; clear c4
    by_cases c11 : x5_1 ≤ 1099511627776
    ·rw [if_pos c11] at H
     have c11b0 : decide (x5_1 ≤ 1099511627776) = true := decide_eq_true c11; clear c11
     by_cases c12 : x4_1.length < 8796093022208
     ·rw [if_pos c12] at H
      have LMc12 := Aside0.mk c12; clear c12; obtain ⟨y479, hy479⟩ : ∃ y_ : List (S25), y_ = (x4_1 ++ [(⟨x5_1, 1099511627776⟩ : S25)]) := ⟨_, rfl⟩; (replace H : (some y479) = some r := hy_ hy479 H); have Ny479 := Aside0.mk hy479; clear hy479; obtain rfl := Option.some.inj H; obtain ⟨Ao13, co13, eo13⟩ := Kd.V_slice HO_3.out; subst eo13; go_wp2_with (first | ((with_reducible refine gate_builtin (b := .append) (xs := #[.tmp 41, .tmp 44]) rfl ?_); at_builtin; refine Kd.R_append k25 (w0 := w) w.heap.size rfl (.tmp 41) (.tmp 44) 23 25 (.agg #[(.int .i64 0), (.int .i64 0)]) 16 rfl Try.underlying23 info25 rfl (by decide) (by omega) u4 x4_1 (⟨x5_1, 1099511627776⟩ : S25) [.int .i64 x5_1, .int .i64 1099511627776] (fun _ => True) (fun _ => False) rfl rfl ?aP (fun _ hk => hk.elim) ?aF ?aO ?aB ?aS ?aL ?_; (case aP => exact k25_mkM _ _ _ (⟨x5_1, 1099511627776⟩ : S25)); (case aB => exact hb_); (case aF => exact (fun _ _ => trivial)); (case aO => exact (hrR_ HO_4.out)); (case aS => exact (below_size hb_)); (case aL => have := LMc12.out; omega); intro v480 w14 ho hb hg hat; rw [← Ny479.out] at ho; have n0_ := Aside0.mk (Kd.V_afterv (ok := (fun _ => True)) (by (with_reducible repeat (first | apply Kd.V_alloc | apply Kd.V_drewN | apply Kd.V_drew)); exact Kd.V_mono HO_3.out (fun _ hk => ⟨trivial, hk⟩)) hg hat); have n1_ := Aside0.mk (hb); have n2_ := Aside0.mk (ho); clear HO_3; clear HB; clear HO_4; have HO_3 := n0_; have HB := n1_; have HO481 := n2_; clear n0_ n1_ n2_; clear ho hb hg hat)); go_ret; exact ⟨_, by first | rfl | (simp [errW_none, errW_some] <;> rfl) | (simp [*, errW_none, errW_some] <;> rfl), by (with_reducible repeat (first | apply Kd.R_alloc | apply Kd.R_drewN | apply Kd.R_drew)); exact HO481.out, hb_⟩
     ·rw [if_neg c12] at H
      exact absurd H (by simp)
    ·rw [if_neg c11] at H
     have c11b0 : decide (x5_1 ≤ 1099511627776) = false := decide_eq_false c11; clear c11; obtain rfl := Option.some.inj H; obtain ⟨Ao15, co15, eo15⟩ := Kd.V_slice HO_3.out; subst eo15; go_wp2; go_ret; exact ⟨_, by first | rfl | (simp [errW_none, errW_some] <;> rfl) | (simp [*, errW_none, errW_some] <;> rfl), by (with_reducible repeat (first | apply Kd.R_alloc | apply Kd.R_drewN | apply Kd.R_drew)); exact HO_4.out, hb_⟩
set_option maxHeartbeats 8000000 in
set_option maxRecDepth 100000 in
theorem lustrumref05_Minus.calls (k : Nat) (A0 : Option Addr) (c0 : Nat) (l0 : List (S25)) (A1 : Option Addr) (c1 : Nat) (l1 : List (S25)) (r : List (S25)) (w : World) (hr0 : Kd.C k25 w A0 l0.length l0) (hc0 : l0.length ≤ c0) (hr1 : Kd.C k25 w A1 l1.length l1) (hc1 : l1.length ≤ c1) (h : lustrumref05_Minus.f k l0 l1 = some r) :
  Calls Try.prog 39 #[.slice A0 l0.length c0, .slice A1 l1.length c1] w fun e w' => ∃ v0_ : Value, e = .returned (v0_) ∧ Kd.R k25 25 w' w.heap.size (fun _ => True) v0_ r ∧ Below w.heap.size w w' := by
 have HR0 := Aside0.mk hr0; have HC0 := Aside0.mk hc0; clear hr0 hc0; have HR1 := Aside0.mk hr1; have HC1 := Aside0.mk hc1; clear hr1 hc1; have HB := Aside0.mk (Below.refl w.heap.size w); have H : ((lustrumref05_rest.f k l1).bind fun t482 => ((lustrumref05_Meet.f k l0 t482).bind fun t485 => (some t485))) = some r := h; clear h; replace H := Option.bind_eq_some_iff.mp H; obtain ⟨t482, A30, H⟩ := H; replace H : ((lustrumref05_Meet.f k l0 t482).bind fun t485 => (some t485)) = some r := H; have A3 := Aside0.mk A30; clear A30; replace H := Option.bind_eq_some_iff.mp H; obtain ⟨t485, A40, H⟩ := H; replace H : (some t485) = some r := H; have A4 := Aside0.mk A40; clear A40; obtain rfl := Option.some.inj H; go_enter Try.func39, Try.ntmps39; go_wp2_with (first | ((with_reducible refine gate_callee (f := 55) rfl ?_); refine goesL_ (some 7) rfl rfl Try.func55 (by kernel_rfl) rfl #[.slice A1 l1.length c1] rfl ml_ ?_; (with_reducible refine (lustrumref05_rest.calls k _ _ l1 t482 _ ?side1 ?side2 A3.out).mono ?_); (case side1 => exact cr_ HR1.out); (case side2 => exact HC1.out); rintro e w5 ⟨v483, rfl, ho0, hb⟩; refine ⟨_, rfl, ?_⟩; have n0_ := Aside0.mk (Kd.R_lower ho0 (below_size hb_)); have n1_ := Aside0.mk (below_step hb_ hb); clear HB; have HO484 := n0_; have HB := n1_; clear n0_ n1_; (try clear hb); (try clear hb2); (try clear hk); (try clear hi); (try clear ho0); obtain ⟨Ao6, co6, eo6⟩ := Kd.R_slice HO484.out; subst eo6) | ((with_reducible refine gate_callee (f := 38) rfl ?_); refine goesL_ (some 8) rfl rfl Try.func38 (by kernel_rfl) rfl #[.slice A0 l0.length c0, .slice Ao6 t482.length co6] rfl ml_ ?_; (with_reducible refine (lustrumref05_Meet.calls k _ _ l0 _ _ t482 t485 _ ?side1 ?side2 ?side3 ?side4 A4.out).mono ?_); (case side1 => exact cr_ (Kd.C_below HR0.out HB.out)); (case side2 => exact HC0.out); (case side3 => exact cr_ (Kd.R_reads' HO484.out).2.2); (case side4 => exact (Kd.R_reads' HO484.out).2.1); rintro e w7 ⟨v486, rfl, ho0, hb⟩; refine ⟨_, rfl, ?_⟩; have n0_ := Aside0.mk (Kd.R_elder' (hrR_ HO484.out) (Kd.R_base ho0) hb); have n1_ := Aside0.mk (Kd.R_lower (Kd.R_new' ho0 (Kd.R_lt (hrR_ HO484.out))) (below_size hb_)); have n2_ := Aside0.mk (below_step hb_ hb); clear HO484; clear HB; have HO484 := n0_; have HO487 := n1_; have HB := n2_; clear n0_ n1_ n2_; (try clear hb); (try clear hb2); (try clear hk); (try clear hi); (try clear ho0))); go_ret; exact ⟨_, by first | rfl | (simp [errW_none, errW_some] <;> rfl) | (simp [*, errW_none, errW_some] <;> rfl), by (with_reducible repeat (first | apply Kd.R_alloc | apply Kd.R_drewN | apply Kd.R_drew)); exact Kd.R_mono HO487.out (fun _ hk => trivial), hb_⟩
set_option maxHeartbeats 8000000 in
set_option maxRecDepth 100000 in
theorem sets_Shift.calls (k : Nat) (A0 : Option Addr) (c0 : Nat) (l0 : List (S25)) (a1 : Int) (r : List (S25)) (w : World) (hr0 : Kd.C k25 w A0 l0.length l0) (hc0 : l0.length ≤ c0) (h : sets_Shift.f k l0 a1 = some r) :
  Calls Try.prog 40 #[.slice A0 l0.length c0, .int .i64 a1] w fun e w' => ∃ v0_ : Value, e = .returned (v0_) ∧ Kd.R k25 25 w' w.heap.size (fun _ => True) v0_ r ∧ Below w.heap.size w w' := by
 have HR0 := Aside0.mk hr0; have HC0 := Aside0.mk hc0; clear hr0 hc0; have HB := Aside0.mk (Below.refl w.heap.size w); have H : (if a1 > 2199023255552 then (some ([] : List (S25))) else (if a1 < (-2199023255552) then (some ([] : List (S25))) else ((sets_moved.f k l0 a1 a1).bind fun t488 => (some t488)))) = some r := h; clear h
 by_cases c3 : a1 > 2199023255552
 ·rw [if_pos c3] at H
  have c3b0 : decide (2199023255552 < a1) = true := decide_eq_true c3; clear c3; obtain rfl := Option.some.inj H; go_enter Try.func40, Try.ntmps40; go_wp2; go_ret; exact ⟨_, by first | rfl | (simp [errW_none, errW_some] <;> rfl) | (simp [*, errW_none, errW_some] <;> rfl), by first | exact Kd.R_nil _ _ _ _ _ | exact Kd.N_nil _ _ _ _ _ | exact Kd.V_nil _ _ _ _ _ | exact Kd.Q_nil _ _ _ _ _ | exact Kd.S_nil _ _ _ _ _, hb_⟩
 ·rw [if_neg c3] at H
  have c3b0 : decide (2199023255552 < a1) = false := decide_eq_false c3; clear c3
  by_cases c4 : a1 < (-2199023255552)
  ·rw [if_pos c4] at H
   have c4b0 : decide (a1 < (-2199023255552)) = true := decide_eq_true c4; clear c4; obtain rfl := Option.some.inj H; go_enter Try.func40, Try.ntmps40; go_wp2; go_ret; exact ⟨_, by first | rfl | (simp [errW_none, errW_some] <;> rfl) | (simp [*, errW_none, errW_some] <;> rfl), by first | exact Kd.R_nil _ _ _ _ _ | exact Kd.N_nil _ _ _ _ _ | exact Kd.V_nil _ _ _ _ _ | exact Kd.Q_nil _ _ _ _ _ | exact Kd.S_nil _ _ _ _ _, hb_⟩
  ·rw [if_neg c4] at H
   have c4b0 : decide (a1 < (-2199023255552)) = false := decide_eq_false c4; clear c4; replace H := Option.bind_eq_some_iff.mp H; obtain ⟨t488, A50, H⟩ := H; replace H : (some t488) = some r := H; have A5 := Aside0.mk A50; clear A50; obtain rfl := Option.some.inj H; go_enter Try.func40, Try.ntmps40; go_wp2_with (first | ((with_reducible refine gate_callee (f := 56) rfl ?_); refine goesL_ (some 14) rfl rfl Try.func56 (by kernel_rfl) rfl #[.slice A0 l0.length c0, .int .i64 a1, .int .i64 a1] rfl ml_ ?_; (with_reducible refine (sets_moved.calls k _ _ l0 a1 a1 t488 _ ?side1 ?side2 A5.out).mono ?_); (case side1 => exact cr_ HR0.out); (case side2 => exact HC0.out); rintro e w6 ⟨v489, rfl, ho0, hb⟩; refine ⟨_, rfl, ?_⟩; have n0_ := Aside0.mk (Kd.R_lower ho0 (below_size hb_)); have n1_ := Aside0.mk (below_step hb_ hb); clear HB; have HO490 := n0_; have HB := n1_; clear n0_ n1_; (try clear hb); (try clear hb2); (try clear hk); (try clear hi); (try clear ho0))); go_ret; exact ⟨_, by first | rfl | (simp [errW_none, errW_some] <;> rfl) | (simp [*, errW_none, errW_some] <;> rfl), by (with_reducible repeat (first | apply Kd.R_alloc | apply Kd.R_drewN | apply Kd.R_drew)); exact HO490.out, hb_⟩
def lustrumref05_Shift.T8 : Bool × List (List Nat × List Nat) := (true, [([], []), ([], []), ([], []), ([1, 2], [1, 2]), ([3], [3]), ([4], [4]), ([], []), ([5, 6], [5, 6]), ([], []), ([], []), ([8, 9], [8, 9]), ([10], [10]), ([11], [11]), ([], []), ([12, 13], [12, 13]), ([7, 14], [7, 14]), ([15], [15]), ([0, 16], [0, 16]), ([17, 17, 0, 1, 2, 3, 4, 5, 6, 7, 8, 9, 10, 11, 12, 13, 14, 15, 16, 17], [0, 17])])
def lustrumref05_Shift.B8 : List Nat := [0, 0, 0, 6, 14, 30, 0, 126, 0, 0, 768, 1792, 3840, 0, 16128, 32766, 65534, 131071, 262143]
theorem lustrumref05_Shift.tab8 : rtab .any (opsOf Try.f41 8) = lustrumref05_Shift.T8 := by kernel_rfl
theorem lustrumref05_Shift.bits8 : waitsOk lustrumref05_Shift.T8.2 lustrumref05_Shift.B8 = true := by kernel_rfl
set_option maxHeartbeats 8000000 in
set_option maxRecDepth 100000 in
theorem lustrumref05_Shift.calls (k : Nat) (P0_ : Nat → Prop) (A0 : Option Addr) (c0 : Nat) (l0 : List (S25)) (a1 : Int) (r : List (S25)) (w : World) (hs0 : Kd.V k25 25 w w.heap.size (fun k_ => P0_ k_) (.slice A0 l0.length c0) l0) (h : lustrumref05_Shift.f k l0 a1 = some r) :
  Calls Try.prog 41 #[.slice A0 l0.length c0, .int .i64 a1] w fun e w' => ∃ v0_ : Value, e = .returned (v0_) ∧ Kd.V k25 25 w' w.heap.size (fun k_ => (P0_ k_ ∨ w.heap.size ≤ k_)) v0_ r ∧ Below w.heap.size w w' := by
 have hu25 := Try.underlying25; have HO0 := Aside0.mk (show Kd.V k25 25 w w.heap.size (fun k_ => (P0_ k_ ∨ w.heap.size ≤ k_)) (.slice A0 l0.length c0) l0 from Kd.V_mono hs0 (fun k_ hk => .inl hk)); have HB := Aside0.mk (Below.refl w.heap.size w); have H : (if a1 > 2199023255552 then (lustrumref05_Shift.j0 k l0 a1 true) else (lustrumref05_Shift.j0 k l0 a1 (decide (a1 < (-2199023255552))))) = some r := h; clear h; have HC3 := Aside0.mk H; clear H; go_enter Try.func41, Try.ntmps41; go_upto_region 1 with (fail); go_cut [13] (fun v13 wc => ∃ (kq : Nat) (x13_2 : Bool), v13 = .bool x13_2 ∧ Aside0 (lustrumref05_Shift.j0 kq l0 a1 x13_2 = some r) ∧ Aside0 (kq ≤ k) ∧ Aside0 (Kd.V k25 25 wc w.heap.size (fun k_ => (P0_ k_ ∨ w.heap.size ≤ k_)) (.slice A0 l0.length c0) l0) ∧ Aside0 (Below w.heap.size w wc))
 case first =>
  have H := HC3.out; clear HC3
  by_cases c4 : a1 > 2199023255552
  ·rw [if_pos c4] at H
   have c4b0 : decide (2199023255552 < a1) = true := decide_eq_true c4; clear c4; (first | rw [c4b0] | (simp only [i64_w, i32_w]; rw [c4b0]) | skip); have H' := Aside0.mk H; clear H; go_wp2; go_meet
   case rel => exact ⟨_, (true), rf_, H', ⟨by first | omega | exact Nat.le_refl _⟩, ⟨by (with_reducible repeat (first | apply Kd.V_alloc | apply Kd.V_drewN | apply Kd.V_drew)); exact HO0.out⟩, ⟨hb_⟩⟩
  ·rw [if_neg c4] at H
   have c4b0 : decide (2199023255552 < a1) = false := decide_eq_false c4; clear c4; (first | rw [c4b0] | (simp only [i64_w, i32_w]; rw [c4b0]) | skip); have H' := Aside0.mk H; clear H; go_wp2; go_meet
   case rel => exact ⟨_, (decide (a1 < (-2199023255552))), rf_, H', ⟨by first | omega | exact Nat.le_refl _⟩, ⟨by (with_reducible repeat (first | apply Kd.V_alloc | apply Kd.V_drewN | apply Kd.V_drew)); exact HO0.out⟩, ⟨hb_⟩⟩
 case rest =>
  clear HC3; (try clear p2); (try clear c4); (try clear c4b0); obtain ⟨kq, x13_2, rfl, HA, HJ2, HO_0, HB⟩ := hcut
  cases kq with
  | zero => exact absurd HA.out (by simp [lustrumref05_Shift.j0])
  | succ kj2 =>
   have H := HA.out; clear HA; simp only [lustrumref05_Shift.j0] at H
   by_cases c5 : x13_2 = true
   ·subst c5
    (have H1 : (some ([] : List (S25))) = some r := by rw [if_pos rfl] at H; exact H); clear H; have H := H1; clear H1; obtain rfl := Option.some.inj H; go_wp2; go_ret; exact ⟨_, by first | rfl | (simp [errW_none, errW_some] <;> rfl) | (simp [*, errW_none, errW_some] <;> rfl), Kd.V_nil _ _ _ _ _, hb_⟩
   ·replace c5 := Bool.eq_false_iff.mpr c5
    subst c5; (have H1 : ((lustrumref04_As.f kj2 l0).bind fun t491 => (lustrumref05_Shift.l0 kj2 a1 t491 ([] : List (S25)) 0)) = some r := by rw [if_neg (show ¬ (false = true) by decide)] at H; exact H); clear H; have H := H1; clear H1; replace H := Option.bind_eq_some_iff.mp H; obtain ⟨t491, A60, H⟩ := H; replace H : (lustrumref05_Shift.l0 kj2 a1 t491 ([] : List (S25)) 0) = some r := H; have A6 := Aside0.mk A60; clear A60; have H' := Aside0.mk H; clear H; go_wp2_with (first | ((with_reducible refine gate_callee (f := 52) rfl ?_); refine goesL_ (some 15) rfl rfl Try.func52 (by kernel_rfl) rfl #[.slice A0 l0.length c0] rfl ml_ ?_; (with_reducible refine (lustrumref04_As.calls kj2 (fun k_ => (P0_ k_ ∨ w.heap.size ≤ k_)) _ _ l0 t491 _ ?side1 A6.out).mono ?_); (case side1 => exact HO_0.out); rintro e w7 ⟨v492, rfl, ho0, hb⟩; refine ⟨_, rfl, ?_⟩; have n0_ := Aside0.mk (Kd.V_below (hrV_ HO_0.out) hb); have n1_ := Aside0.mk (Kd.V_lower (Kd.V_mono (ok' := fun k_ => (P0_ k_ ∨ w.heap.size ≤ k_)) ho0 (fun k_ hk_ => Or.elim hk_ (fun hs_ => hs_) (fun hn_ => (.inr (Nat.le_trans (below_size hb_) hn_))))) (below_size hb_)); have n2_ := Aside0.mk (below_step hb_ hb); clear HO_0; clear HB; have HO_0 := n0_; have HO493 := n1_; have HB := n2_; clear n0_ n1_ n2_; (try clear hb); (try clear hb2); (try clear hk); (try clear hi); (try clear ho0))); go_loopg [6, 7] kj2 (fun kq v6 v7 w' => ∃ (x6_2 : List (S25)) (x7_2 : Int), v7 = .int .i64 x7_2 ∧ Aside0 (lustrumref05_Shift.l0 kq a1 t491 x6_2 x7_2 = some r) ∧ Aside0 (kq ≤ kj2) ∧ Aside0 (Kd.V k25 25 w' w.heap.size (fun k_ => (P0_ k_ ∨ w.heap.size ≤ k_) ∧ some k_ ≠ (v6 : Value).ownBlock) v492 t491) ∧ Aside0 (Kd.R k25 25 w' w.heap.size (fun k_ => (w.heap.size ≤ k_)) v6 x6_2) ∧ Aside0 (Below w.heap.size w w'))
    case atStart => exact ⟨(([] : List (S25))), (0), rf_, H', ⟨Nat.le_refl _⟩, ⟨by (with_reducible repeat (first | apply Kd.V_alloc | apply Kd.V_drewN | apply Kd.V_drew)); exact Kd.V_mono HO493.out (fun _ hk => ⟨hk, (by simp [Value.ownBlock])⟩)⟩, ⟨by first | exact Kd.R_nil _ _ _ _ _ | exact Kd.N_nil _ _ _ _ _ | exact Kd.V_nil _ _ _ _ _ | exact Kd.Q_nil _ _ _ _ _ | exact Kd.S_nil _ _ _ _ _⟩, ⟨hb_⟩⟩
    case round =>
     clear H'; (try clear p2); (try clear c4); (try clear c4b0); (try clear c5); (try clear p2); obtain ⟨x6_2, x7_2, rfl, HA, HK2, HO_5, HO_6, HB⟩ := hrel
     cases gk with
     | zero => exact absurd HA.out (by simp [lustrumref05_Shift.l0])
     | succ k2 =>
      have H := HA.out; clear HA; simp only [lustrumref05_Shift.l0] at H
      by_cases c8 : x7_2 < (t491.length : Int)
      ·rw [if_pos c8] at H
       have c8b0 : decide (x7_2 < (t491.length : Int)) = true := decide_eq_true c8; clear c8
       by_cases c9 : 0 ≤ x7_2
       ·rw [if_pos c9] at H
        have c9b0 : decide (0 ≤ x7_2) = true := decide_eq_true c9; clear c9
        by_cases c10 : x6_2.length < 8796093022208
        ·rw [if_pos c10] at H
         have LMc10 := Aside0.mk c10; clear c10; obtain ⟨y496, hy496⟩ : ∃ y_ : List (S25), y_ = (x6_2 ++ [(⟨wrap64 (((rd_T25 t491 x7_2).f0) + a1), wrap64 (((rd_T25 t491 x7_2).f1) + a1)⟩ : S25)]) := ⟨_, rfl⟩; (replace H : (lustrumref05_Shift.l0 k2 a1 t491 y496 (wrap64 (x7_2 + 1))) = some r := hy_ hy496 H); have Ny496 := Aside0.mk hy496; clear hy496; have H' := Aside0.mk H; clear H; obtain ⟨Ao11, co11, eo11⟩ := Kd.V_slice HO_5.out; subst eo11; (try go_wp2); replace HO_5 := Aside0.mk (Kd.V_drew HO_5.out); replace HO_6 := Aside0.mk (Kd.R_drew HO_6.out); replace HB := Aside0.mk (below_drew1 HB.out); have p494 : 0 ≤ (x7_2 : Int) := od_; have q494 : x7_2 < (t491.length : Int) := od_; obtain ⟨ad494, e494, hx494_0, hx494_1⟩ := at_T25 (Kd.V_reads' HO_5.out).2.2 x7_2 p494 q494
         cases e494
         replace p494 := eq_true p494; replace q494 := eq_true q494; have p495 : 0 ≤ (x7_2 : Int) := od_; have q495 : x7_2 < (t491.length : Int) := od_; obtain ⟨ad495, e495, hx495_0, hx495_1⟩ := at_T25 (Kd.V_reads' HO_5.out).2.2 x7_2 p495 q495; obtain rfl : ad494 = ad495 := (by injection e495); replace p495 := eq_true p495; replace q495 := eq_true q495; refine start_ (n := 19) (S := fun w' => w'.cell? (ad494.add ((x7_2).toNat * 2)) = some (.int .i64 ((rd_T25 t491 x7_2).f0)) ∧ w'.cell? ⟨(ad494.add ((x7_2).toNat * 2)).block, (ad494.add ((x7_2).toNat * 2)).off + 1, none⟩ = some (.int .i64 ((rd_T25 t491 x7_2).f1)) ∧ w'.cell? (ad494.add ((x7_2).toNat * 2)) = some (.int .i64 ((rd_T25 t491 x7_2).f0)) ∧ w'.cell? ⟨(ad494.add ((x7_2).toNat * 2)).block, (ad494.add ((x7_2).toNat * 2)).off + 1, none⟩ = some (.int .i64 ((rd_T25 t491 x7_2).f1))) (ds := [16, 17]) (ab 19 0) (by kernel_rfl) rfl rfl ⟨hx494_0, hx494_1, hx495_0, hx495_1⟩ (fun hHeld => ?_); refine with_tabW lustrumref05_Shift.tab8 lustrumref05_Shift.bits8 (fun HT_ HW_ => ?_); generalize wr.drew = w12 at HO_5 HO_6 HB hx494_0 hx494_1 hx495_0 hx495_1 hHeld ⊢; refine pA 0 22 19 1 ?_; refine pA 1 23 19 3 ?_; refine pA 2 24 19 7 ?_; refine pA 3 25 19 15 ?_; refine pA 4 26 19 31 ?_; refine pA 6 28 19 95 ?_; refine pA 8 30 19 351 ?_; refine pA 9 31 19 863 ?_; refine pA 10 32 19 1887 ?_; refine pA 11 33 19 3935 ?_; refine pA 13 35 19 12127 ?_; refine tA 5 27 19 12159 ?_; refine pA 7 29 19 12287 ?_; refine tA 12 34 19 16383 ?_; refine pA 14 36 19 32767 ?_; refine pA 15 37 19 65535 ?_; refine last_ (i := 16) (N := some 38) (ab 19 131071) rfl rfl (one_of HT_.out (by kernel_rfl)) (by decide) (fun K hK => ?_); refine value_ (w1 := ?_) (v := ?_) (by rfl) rfl ?_ ?_; rotate_left 2
         ·go_simp
          constructor
          ·rfl
          ·rfl
         refine hK.out _ _ ?_; clear hK K; refine nA ?_; refine last_ (i := 17) (N := some 39) (ab 19 262143) rfl rfl (one_of HT_.out (by kernel_rfl)) (by decide) (fun K hK => ?_); refine Kd.R_append_step k25 (w0 := w) w.heap.size (by rfl) (.tmp 22) (.tmp 38) 23 25 (.agg #[(.int .i64 0), (.int .i64 0)]) 16 rfl Try.underlying23 info25 rfl (by decide) (by omega) u6 x6_2 (⟨wrap64 (((rd_T25 t491 x7_2).f0) + a1), wrap64 (((rd_T25 t491 x7_2).f1) + a1)⟩ : S25) [.int .i64 (wrap64 (((rd_T25 t491 x7_2).f0) + a1)), .int .i64 (wrap64 (((rd_T25 t491 x7_2).f1) + a1))] (fun k_ => (w.heap.size ≤ k_)) (fun _ => False) rfl rfl ?aP (fun _ hk => hk.elim) ?aF ?aO ?aB ?aS ?aL ?_
         (case aP => exact k25_mkM _ _ _ (⟨wrap64 (((rd_T25 t491 x7_2).f0) + a1), wrap64 (((rd_T25 t491 x7_2).f1) + a1)⟩ : S25))
         (case aB => exact hb_)
         (case aF => exact (fun k_ hk => (Nat.le_trans (below_size hb_) hk)))
         (case aO => exact (hrR_ HO_6.out))
         (case aS => exact (below_size hb_))
         (case aL => have := LMc10.out; omega)
         intro v497 w13 ho hb hg hat
         rw [← Ny496.out] at ho; have n0_ := Aside0.mk (Kd.V_afterv (ok := (fun k_ => (P0_ k_ ∨ w.heap.size ≤ k_))) (hrV_ HO_5.out) hg hat); have n1_ := Aside0.mk (hb); have n2_ := Aside0.mk (ho); clear HO_5; clear HB; clear HO_6; have HO_5 := n0_; have HB := n1_; have HO498 := n2_; clear n0_ n1_ n2_
         clear ho hb hg hat
         refine hK.out _ _ ?_; clear hK K; refine nA ?_; refine pA 18 6 19 524287 ?_; refine done_ (done_of HT_.out (by kernel_rfl)) ?_; (try go_wp2); go_roundg k2
         case measure => have := HJ2.out; have := HK2.out; omega
         case rel => exact ⟨(y496), (wrap64 (x7_2 + 1)), rf_, H', ⟨by have := HJ2.out; have := HK2.out; omega⟩, ⟨by (with_reducible repeat (first | apply Kd.V_alloc | apply Kd.V_drewN | apply Kd.V_drew)); exact HO_5.out⟩, ⟨by (with_reducible repeat (first | apply Kd.R_alloc | apply Kd.R_drewN | apply Kd.R_drew)); exact HO498.out⟩, ⟨hb_⟩⟩
        ·rw [if_neg c10] at H
         exact absurd H (by simp)
       ·rw [if_neg c9] at H
        exact absurd H (by simp)
      ·rw [if_neg c8] at H
       have c8b0 : decide (x7_2 < (t491.length : Int)) = false := decide_eq_false c8; clear c8; replace H := Option.bind_eq_some_iff.mp H; obtain ⟨t499, A140, H⟩ := H; replace H : (some t499) = some r := H; have A14 := Aside0.mk A140; clear A140; obtain rfl := Option.some.inj H; obtain ⟨Ao15, co15, eo15⟩ := Kd.V_slice HO_5.out; subst eo15; obtain ⟨Ao16, co16, eo16⟩ := Kd.R_slice HO_6.out; subst eo16; go_wp2_with (first | ((with_reducible refine gate_callee (f := 30) rfl ?_); refine goesL_ (some 41) rfl rfl Try.func30 (by kernel_rfl) rfl #[.slice Ao16 x6_2.length co16] rfl ml_ ?_; (with_reducible refine (lustrumref04_Make.calls k2 _ _ x6_2 t499 _ ?side1 ?side2 A14.out).mono ?_); (case side1 => exact cr_ (Kd.R_reads' HO_6.out).2.2); (case side2 => exact (Kd.R_reads' HO_6.out).2.1); rintro e w17 ⟨v500, rfl, ho0, hb⟩; refine ⟨_, rfl, ?_⟩; have n0_ := Aside0.mk (Kd.V_below (hrV_ HO_5.out) hb); have n1_ := Aside0.mk (Kd.R_below (hrR_ HO_6.out) hb); have n2_ := Aside0.mk (Kd.V_lower (Kd.V_mono (ok' := fun k_ => (P0_ k_ ∨ w.heap.size ≤ k_) ∧ some k_ ≠ (.slice Ao16 x6_2.length co16 : Value).ownBlock) ho0 (fun k_ hk_ => ⟨(.inr (Nat.le_trans (below_size hb_) hk_)), (Kd.fresh' (Kd.R_lt (hrR_ HO_6.out)) k_ hk_)⟩)) (below_size hb_)); have n3_ := Aside0.mk (below_step hb_ hb); clear HO_5; clear HO_6; clear HB; have HO_5 := n0_; have HO_6 := n1_; have HO501 := n2_; have HB := n3_; clear n0_ n1_ n2_ n3_; (try clear hb); (try clear hb2); (try clear hk); (try clear hi); (try clear ho0))); go_ret; exact ⟨_, by first | rfl | (simp [errW_none, errW_some] <;> rfl) | (simp [*, errW_none, errW_some] <;> rfl), by (with_reducible repeat (first | apply Kd.V_alloc | apply Kd.V_drewN | apply Kd.V_drew)); exact Kd.V_mono HO501.out (fun _ hk => hk.1), hb_⟩
def lustrumref05_Grow.T7 : Bool × List (List Nat × List Nat) := (true, [([], []), ([], []), ([], []), ([1, 2], [1, 2]), ([3], [3]), ([4], [4]), ([], []), ([5, 6], [5, 6]), ([], []), ([], []), ([8, 9], [8, 9]), ([10], [10]), ([11], [11]), ([], []), ([12, 13], [12, 13]), ([7, 14], [7, 14]), ([15], [15]), ([0, 16], [0, 16]), ([17, 17, 0, 1, 2, 3, 4, 5, 6, 7, 8, 9, 10, 11, 12, 13, 14, 15, 16, 17], [0, 17])])
def lustrumref05_Grow.B7 : List Nat := [0, 0, 0, 6, 14, 30, 0, 126, 0, 0, 768, 1792, 3840, 0, 16128, 32766, 65534, 131071, 262143]
theorem lustrumref05_Grow.tab7 : rtab .any (opsOf Try.f43 7) = lustrumref05_Grow.T7 := by kernel_rfl
theorem lustrumref05_Grow.bits7 : waitsOk lustrumref05_Grow.T7.2 lustrumref05_Grow.B7 = true := by kernel_rfl
set_option maxHeartbeats 8000000 in
set_option maxRecDepth 100000 in
theorem lustrumref05_Grow.calls (k : Nat) (P0_ : Nat → Prop) (A0 : Option Addr) (c0 : Nat) (l0 : List (S25)) (a1 : Int) (r : List (S25)) (w : World) (hs0 : Kd.V k25 25 w w.heap.size (fun k_ => P0_ k_) (.slice A0 l0.length c0) l0) (h : lustrumref05_Grow.f k l0 a1 = some r) :
  Calls Try.prog 43 #[.slice A0 l0.length c0, .int .i64 a1] w fun e w' => ∃ v0_ : Value, e = .returned (v0_) ∧ Kd.V k25 25 w' w.heap.size (fun k_ => (P0_ k_ ∨ w.heap.size ≤ k_)) v0_ r ∧ Below w.heap.size w w' := by
 have hu25 := Try.underlying25; have HO0 := Aside0.mk (show Kd.V k25 25 w w.heap.size (fun k_ => (P0_ k_ ∨ w.heap.size ≤ k_)) (.slice A0 l0.length c0) l0 from Kd.V_mono hs0 (fun k_ hk => .inl hk)); have HB := Aside0.mk (Below.refl w.heap.size w); have H : ((lustrumref04_As.f k l0).bind fun t502 => (lustrumref05_Grow.l0 k t502 (mn (mx a1 0) 2199023255552) ([] : List (S25)) 0)) = some r := h; clear h; replace H := Option.bind_eq_some_iff.mp H; obtain ⟨t502, A30, H⟩ := H; replace H : (lustrumref05_Grow.l0 k t502 (mn (mx a1 0) 2199023255552) ([] : List (S25)) 0) = some r := H; have A3 := Aside0.mk A30; clear A30; obtain ⟨ji4, hji4⟩ : ∃ j_ : Int, (mx a1 0) = j_ := ⟨_, rfl⟩; (replace H : (lustrumref05_Grow.l0 k t502 (mn (ji4) 2199023255552) ([] : List (S25)) 0) = some r := by first | (rw [hji4] at H; exact H) | (simp only [hji4] at H ⊢; exact H)); (try rw [hji4] at A3); (try (have hji4l : 0 ≤ ji4 := by (rw [← hji4]; unfold mx; (repeat' split) <;> omega))); (try (have hji4m : 0 ≤ ji4 := by omega)); have hji4_ : (if a1 < 0 then 0 else a1) = ji4 := hji4; obtain ⟨ji5, hji5⟩ : ∃ j_ : Int, (mn (ji4) 2199023255552) = j_ := ⟨_, rfl⟩; (replace H : (lustrumref05_Grow.l0 k t502 ji5 ([] : List (S25)) 0) = some r := by first | (rw [hji5] at H; exact H) | (simp only [hji5] at H ⊢; exact H)); (try rw [hji5] at A3); have hji5_ : (if 2199023255552 < (ji4) then 2199023255552 else (ji4)) = ji5 := hji5; have H' := Aside0.mk H; clear H; go_enter Try.func43, Try.ntmps43; go_wp2_with (first | ((with_reducible refine gate_callee (f := 52) rfl ?_); refine goesL_ (some 10) rfl rfl Try.func52 (by kernel_rfl) rfl #[.slice A0 l0.length c0] rfl ml_ ?_; (with_reducible refine (lustrumref04_As.calls k (fun k_ => (P0_ k_ ∨ w.heap.size ≤ k_)) _ _ l0 t502 _ ?side1 A3.out).mono ?_); (case side1 => exact HO0.out); rintro e w6 ⟨v503, rfl, ho0, hb⟩; refine ⟨_, rfl, ?_⟩; have n0_ := Aside0.mk (Kd.V_below (hrV_ HO0.out) hb); have n1_ := Aside0.mk (Kd.V_lower (Kd.V_mono (ok' := fun k_ => (P0_ k_ ∨ w.heap.size ≤ k_)) ho0 (fun k_ hk_ => Or.elim hk_ (fun hs_ => hs_) (fun hn_ => (.inr (Nat.le_trans (below_size hb_) hn_))))) (below_size hb_)); have n2_ := Aside0.mk (below_step hb_ hb); clear HO0; clear HB; have HO0 := n0_; have HO504 := n1_; have HB := n2_; clear n0_ n1_ n2_; (try clear hb); (try clear hb2); (try clear hk); (try clear hi); (try clear ho0))); go_loopg [7, 8] k (fun kq v7 v8 w' => ∃ (x7_1 : List (S25)) (x8_1 : Int), v8 = .int .i64 x8_1 ∧ Aside0 (lustrumref05_Grow.l0 kq t502 ji5 x7_1 x8_1 = some r) ∧ Aside0 (kq ≤ k) ∧ Aside0 (Kd.V k25 25 w' w.heap.size (fun k_ => (P0_ k_ ∨ w.heap.size ≤ k_) ∧ some k_ ≠ (v7 : Value).ownBlock) v503 t502) ∧ Aside0 (Kd.R k25 25 w' w.heap.size (fun k_ => (w.heap.size ≤ k_)) v7 x7_1) ∧ Aside0 (Below w.heap.size w w'))
 case atStart => exact ⟨(([] : List (S25))), (0), rf_, H', ⟨Nat.le_refl _⟩, ⟨by (with_reducible repeat (first | apply Kd.V_alloc | apply Kd.V_drewN | apply Kd.V_drew)); exact Kd.V_mono HO504.out (fun _ hk => ⟨hk, (by simp [Value.ownBlock])⟩)⟩, ⟨by first | exact Kd.R_nil _ _ _ _ _ | exact Kd.N_nil _ _ _ _ _ | exact Kd.V_nil _ _ _ _ _ | exact Kd.Q_nil _ _ _ _ _ | exact Kd.S_nil _ _ _ _ _⟩, ⟨hb_⟩⟩
 case round =>
  clear H'; (try clear p2); (try clear c4); (try clear c5); obtain ⟨x7_1, x8_1, rfl, HA, HK1, HO_5, HO_7, HB⟩ := hrel
  cases gk with
  | zero => exact absurd HA.out (by simp [lustrumref05_Grow.l0])
  | succ k1 =>
   have H := HA.out; clear HA; simp only [lustrumref05_Grow.l0] at H
   by_cases c7 : x8_1 < (t502.length : Int)
   ·rw [if_pos c7] at H
    have c7b0 : decide (x8_1 < (t502.length : Int)) = true := decide_eq_true c7; clear c7
    by_cases c8 : 0 ≤ x8_1
    ·rw [if_pos c8] at H
     have c8b0 : decide (0 ≤ x8_1) = true := decide_eq_true c8; clear c8
     by_cases c9 : x7_1.length < 8796093022208
     ·rw [if_pos c9] at H
      have LMc9 := Aside0.mk c9; clear c9; obtain ⟨y507, hy507⟩ : ∃ y_ : List (S25), y_ = (x7_1 ++ [(⟨wrap64 (((rd_T25 t502 x8_1).f0) - ji5), wrap64 (((rd_T25 t502 x8_1).f1) + ji5)⟩ : S25)]) := ⟨_, rfl⟩; (replace H : (lustrumref05_Grow.l0 k1 t502 ji5 y507 (wrap64 (x8_1 + 1))) = some r := hy_ hy507 H); have Ny507 := Aside0.mk hy507; clear hy507; have H' := Aside0.mk H; clear H; obtain ⟨Ao10, co10, eo10⟩ := Kd.V_slice HO_5.out; subst eo10; (try go_wp2); replace HO_5 := Aside0.mk (Kd.V_drew HO_5.out); replace HO_7 := Aside0.mk (Kd.R_drew HO_7.out); replace HB := Aside0.mk (below_drew1 HB.out); have p505 : 0 ≤ (x8_1 : Int) := od_; have q505 : x8_1 < (t502.length : Int) := od_; obtain ⟨ad505, e505, hx505_0, hx505_1⟩ := at_T25 (Kd.V_reads' HO_5.out).2.2 x8_1 p505 q505
      cases e505
      replace p505 := eq_true p505; replace q505 := eq_true q505; have p506 : 0 ≤ (x8_1 : Int) := od_; have q506 : x8_1 < (t502.length : Int) := od_; obtain ⟨ad506, e506, hx506_0, hx506_1⟩ := at_T25 (Kd.V_reads' HO_5.out).2.2 x8_1 p506 q506; obtain rfl : ad505 = ad506 := (by injection e506); replace p506 := eq_true p506; replace q506 := eq_true q506; refine start_ (n := 19) (S := fun w' => w'.cell? (ad505.add ((x8_1).toNat * 2)) = some (.int .i64 ((rd_T25 t502 x8_1).f0)) ∧ w'.cell? ⟨(ad505.add ((x8_1).toNat * 2)).block, (ad505.add ((x8_1).toNat * 2)).off + 1, none⟩ = some (.int .i64 ((rd_T25 t502 x8_1).f1)) ∧ w'.cell? (ad505.add ((x8_1).toNat * 2)) = some (.int .i64 ((rd_T25 t502 x8_1).f0)) ∧ w'.cell? ⟨(ad505.add ((x8_1).toNat * 2)).block, (ad505.add ((x8_1).toNat * 2)).off + 1, none⟩ = some (.int .i64 ((rd_T25 t502 x8_1).f1))) (ds := [16, 17]) (ab 19 0) (by kernel_rfl) rfl rfl ⟨hx505_0, hx505_1, hx506_0, hx506_1⟩ (fun hHeld => ?_); refine with_tabW lustrumref05_Grow.tab7 lustrumref05_Grow.bits7 (fun HT_ HW_ => ?_); generalize wr.drew = w11 at HO_5 HO_7 HB hx505_0 hx505_1 hx506_0 hx506_1 hHeld ⊢; refine pA 0 20 19 1 ?_; refine pA 1 21 19 3 ?_; refine pA 2 22 19 7 ?_; refine pA 3 23 19 15 ?_; refine pA 4 24 19 31 ?_; refine pA 6 26 19 95 ?_; refine pA 8 28 19 351 ?_; refine pA 9 29 19 863 ?_; refine pA 10 30 19 1887 ?_; refine pA 11 31 19 3935 ?_; refine pA 13 33 19 12127 ?_; refine tA 5 25 19 12159 ?_; refine pA 7 27 19 12287 ?_; refine tA 12 32 19 16383 ?_; refine pA 14 34 19 32767 ?_; refine pA 15 35 19 65535 ?_; refine last_ (i := 16) (N := some 36) (ab 19 131071) rfl rfl (one_of HT_.out (by kernel_rfl)) (by decide) (fun K hK => ?_); refine value_ (w1 := ?_) (v := ?_) (by rfl) rfl ?_ ?_; rotate_left 2
      ·go_simp
       constructor
       ·rfl
       ·rfl
      refine hK.out _ _ ?_; clear hK K; refine nA ?_; refine last_ (i := 17) (N := some 37) (ab 19 262143) rfl rfl (one_of HT_.out (by kernel_rfl)) (by decide) (fun K hK => ?_); refine Kd.R_append_step k25 (w0 := w) w.heap.size (by rfl) (.tmp 20) (.tmp 36) 23 25 (.agg #[(.int .i64 0), (.int .i64 0)]) 16 rfl Try.underlying23 info25 rfl (by decide) (by omega) u7 x7_1 (⟨wrap64 (((rd_T25 t502 x8_1).f0) - ji5), wrap64 (((rd_T25 t502 x8_1).f1) + ji5)⟩ : S25) [.int .i64 (wrap64 (((rd_T25 t502 x8_1).f0) - ji5)), .int .i64 (wrap64 (((rd_T25 t502 x8_1).f1) + ji5))] (fun k_ => (w.heap.size ≤ k_)) (fun _ => False) rfl rfl ?aP (fun _ hk => hk.elim) ?aF ?aO ?aB ?aS ?aL ?_
      (case aP => exact k25_mkM _ _ _ (⟨wrap64 (((rd_T25 t502 x8_1).f0) - ji5), wrap64 (((rd_T25 t502 x8_1).f1) + ji5)⟩ : S25))
      (case aB => exact hb_)
      (case aF => exact (fun k_ hk => (Nat.le_trans (below_size hb_) hk)))
      (case aO => exact (hrR_ HO_7.out))
      (case aS => exact (below_size hb_))
      (case aL => have := LMc9.out; omega)
      intro v508 w12 ho hb hg hat
      rw [← Ny507.out] at ho; have n0_ := Aside0.mk (Kd.V_afterv (ok := (fun k_ => (P0_ k_ ∨ w.heap.size ≤ k_))) (hrV_ HO_5.out) hg hat); have n1_ := Aside0.mk (hb); have n2_ := Aside0.mk (ho); clear HO_5; clear HB; clear HO_7; have HO_5 := n0_; have HB := n1_; have HO509 := n2_; clear n0_ n1_ n2_
      clear ho hb hg hat
      refine hK.out _ _ ?_; clear hK K; refine nA ?_; refine pA 18 7 19 524287 ?_; refine done_ (done_of HT_.out (by kernel_rfl)) ?_; (try go_wp2); go_roundg k1
      case measure => have := HK1.out; omega
      case rel => exact ⟨(y507), (wrap64 (x8_1 + 1)), rf_, H', ⟨by have := HK1.out; omega⟩, ⟨by (with_reducible repeat (first | apply Kd.V_alloc | apply Kd.V_drewN | apply Kd.V_drew)); exact HO_5.out⟩, ⟨by (with_reducible repeat (first | apply Kd.R_alloc | apply Kd.R_drewN | apply Kd.R_drew)); exact HO509.out⟩, ⟨hb_⟩⟩
     ·rw [if_neg c9] at H
      exact absurd H (by simp)
    ·rw [if_neg c8] at H
     exact absurd H (by simp)
   ·rw [if_neg c7] at H
    have c7b0 : decide (x8_1 < (t502.length : Int)) = false := decide_eq_false c7; clear c7; replace H := Option.bind_eq_some_iff.mp H; obtain ⟨t510, A130, H⟩ := H; replace H : (some t510) = some r := H; have A13 := Aside0.mk A130; clear A130; obtain rfl := Option.some.inj H; obtain ⟨Ao14, co14, eo14⟩ := Kd.V_slice HO_5.out; subst eo14; obtain ⟨Ao15, co15, eo15⟩ := Kd.R_slice HO_7.out; subst eo15; go_wp2_with (first | ((with_reducible refine gate_callee (f := 30) rfl ?_); refine goesL_ (some 39) rfl rfl Try.func30 (by kernel_rfl) rfl #[.slice Ao15 x7_1.length co15] rfl ml_ ?_; (with_reducible refine (lustrumref04_Make.calls k1 _ _ x7_1 t510 _ ?side1 ?side2 A13.out).mono ?_); (case side1 => exact cr_ (Kd.R_reads' HO_7.out).2.2); (case side2 => exact (Kd.R_reads' HO_7.out).2.1); rintro e w16 ⟨v511, rfl, ho0, hb⟩; refine ⟨_, rfl, ?_⟩; have n0_ := Aside0.mk (Kd.V_below (hrV_ HO_5.out) hb); have n1_ := Aside0.mk (Kd.R_below (hrR_ HO_7.out) hb); have n2_ := Aside0.mk (Kd.V_lower (Kd.V_mono (ok' := fun k_ => (P0_ k_ ∨ w.heap.size ≤ k_) ∧ some k_ ≠ (.slice Ao15 x7_1.length co15 : Value).ownBlock) ho0 (fun k_ hk_ => ⟨(.inr (Nat.le_trans (below_size hb_) hk_)), (Kd.fresh' (Kd.R_lt (hrR_ HO_7.out)) k_ hk_)⟩)) (below_size hb_)); have n3_ := Aside0.mk (below_step hb_ hb); clear HO_5; clear HO_7; clear HB; have HO_5 := n0_; have HO_7 := n1_; have HO512 := n2_; have HB := n3_; clear n0_ n1_ n2_ n3_; (try clear hb); (try clear hb2); (try clear hk); (try clear hi); (try clear ho0))); go_ret; exact ⟨_, by first | rfl | (simp [errW_none, errW_some] <;> rfl) | (simp only [← hji4, ← hji5]; first | rfl | (simp [errW_none, errW_some] <;> rfl)) | (simp [*, errW_none, errW_some] <;> rfl), by (with_reducible repeat (first | apply Kd.V_alloc | apply Kd.V_drewN | apply Kd.V_drew)); exact Kd.V_mono HO512.out (fun _ hk => hk.1), hb_⟩
set_option maxHeartbeats 8000000 in
set_option maxRecDepth 100000 in
theorem sets_Clip.calls (k : Nat) (A0 : Option Addr) (c0 : Nat) (l0 : List (S25)) (a1 : Int) (a2 : Int) (r : List (S25)) (w : World) (hr0 : Kd.C k25 w A0 l0.length l0) (hc0 : l0.length ≤ c0) (h : sets_Clip.f k l0 a1 a2 = some r) :
  Calls Try.prog 44 #[.slice A0 l0.length c0, .int .i64 a1, .int .i64 a2] w fun e w' => ∃ v0_ : Value, e = .returned (v0_) ∧ Kd.R k25 25 w' w.heap.size (fun _ => True) v0_ r ∧ Below w.heap.size w w' := by
 have hu25 := Try.underlying25; have HR0 := Aside0.mk hr0; have HC0 := Aside0.mk hc0; clear hr0 hc0; have HB := Aside0.mk (Below.refl w.heap.size w); have H : ((sets_Meet.f k l0 (([(⟨a1, a2⟩ : S25)] : List (S25)))).bind fun t516 => (some t516)) = some r := h; clear h; obtain ⟨y513, hy513⟩ : ∃ y_ : List (S25), y_ = (([(⟨a1, a2⟩ : S25)] : List (S25))) := ⟨_, rfl⟩; (replace H : ((sets_Meet.f k l0 y513).bind fun t516 => (some t516)) = some r := hy_ hy513 H); have Ny513 := Aside0.mk hy513; clear hy513; replace H := Option.bind_eq_some_iff.mp H; obtain ⟨t516, A40, H⟩ := H; replace H : (some t516) = some r := H; have A4 := Aside0.mk A40; clear A40; obtain rfl := Option.some.inj H; go_enter Try.func44, Try.ntmps44; go_wp2_with (first | ((with_reducible refine gate_dst (N := 11) rfl ?_); refine Kd.R_lit k25 _ 25 ?hg (N := 11) ?hd (xs := ([(⟨a1, a2⟩ : S25)] : List (S25))) (inner := [.int .i64 a1, .int .i64 a2]) (ok := fun _ => True) (okp := fun _ => True) ?hr ?hp (fun _ hk => hk) trivial (Below.refl _ _) (Nat.le_refl _) (by simp) ?_; (case hd => rfl); (case hg => rfl); (case hr => first | (go_simp; done) | (go_simp; rfl)); (case hp => exact (Reps.c2 (show Kd.M k25 _ _ _ (⟨a1, a2⟩ : S25) [.int .i64 a1, .int .i64 a2] from (k25_mkM _ _ _ (⟨a1, a2⟩ : S25) )) (Reps.none _ _))); intro v514 w5 ho6 hb hg_ hnew_; clear hg_ hnew_; (first | rw [← Ny513.out] at ho6 | (simp only [Int.reduceToNat] at ho6; rw [← Ny513.out] at ho6)); have n0_ := Aside0.mk (Kd.R_lower ho6 (below_size hb_)); have n1_ := Aside0.mk (below_step hb_ hb); clear HB; have HO515 := n0_; have HB := n1_; clear n0_ n1_; clear hb ho6; obtain ⟨Ao7, co7, eo7⟩ := Kd.R_slice HO515.out; subst eo7) | ((with_reducible refine gate_callee (f := 35) rfl ?_); refine goesL_ (some 12) rfl rfl Try.func35 (by kernel_rfl) rfl #[.slice A0 l0.length c0, .slice Ao7 y513.length co7] rfl ml_ ?_; (with_reducible refine (sets_Meet.calls k _ _ l0 _ _ y513 t516 _ ?side1 ?side2 ?side3 ?side4 A4.out).mono ?_); (case side1 => exact cr_ (Kd.C_below HR0.out HB.out)); (case side2 => exact HC0.out); (case side3 => exact cr_ (Kd.R_reads' HO515.out).2.2); (case side4 => exact (Kd.R_reads' HO515.out).2.1); rintro e w8 ⟨v517, rfl, ho0, hb⟩; refine ⟨_, rfl, ?_⟩; have n0_ := Aside0.mk (Kd.R_elder' (hrR_ HO515.out) (Kd.R_base ho0) hb); have n1_ := Aside0.mk (Kd.R_lower (Kd.R_new' ho0 (Kd.R_lt (hrR_ HO515.out))) (below_size hb_)); have n2_ := Aside0.mk (below_step hb_ hb); clear HO515; clear HB; have HO515 := n0_; have HO518 := n1_; have HB := n2_; clear n0_ n1_ n2_; (try clear hb); (try clear hb2); (try clear hk); (try clear hi); (try clear ho0))); go_ret; exact ⟨_, by first | rfl | (simp [errW_none, errW_some] <;> rfl) | (simp [*, errW_none, errW_some] <;> rfl), by (with_reducible repeat (first | apply Kd.R_alloc | apply Kd.R_drewN | apply Kd.R_drew)); exact Kd.R_mono HO518.out (fun _ hk => trivial), hb_⟩
set_option maxHeartbeats 8000000 in
set_option maxRecDepth 100000 in
theorem lustrumref05_Clip.calls (k : Nat) (A0 : Option Addr) (c0 : Nat) (l0 : List (S25)) (a1 : Int) (a2 : Int) (r : List (S25)) (w : World) (hr0 : Kd.C k25 w A0 l0.length l0) (hc0 : l0.length ≤ c0) (h : lustrumref05_Clip.f k l0 a1 a2 = some r) :
  Calls Try.prog 45 #[.slice A0 l0.length c0, .int .i64 a1, .int .i64 a2] w fun e w' => ∃ v0_ : Value, e = .returned (v0_) ∧ Kd.R k25 25 w' w.heap.size (fun _ => True) v0_ r ∧ Below w.heap.size w w' := by
 have hu25 := Try.underlying25; have HR0 := Aside0.mk hr0; have HC0 := Aside0.mk hc0; clear hr0 hc0; have HB := Aside0.mk (Below.refl w.heap.size w); have H : ((lustrumref05_Meet.f k l0 (([(⟨a1, a2⟩ : S25)] : List (S25)))).bind fun t522 => (some t522)) = some r := h; clear h; obtain ⟨y519, hy519⟩ : ∃ y_ : List (S25), y_ = (([(⟨a1, a2⟩ : S25)] : List (S25))) := ⟨_, rfl⟩; (replace H : ((lustrumref05_Meet.f k l0 y519).bind fun t522 => (some t522)) = some r := hy_ hy519 H); have Ny519 := Aside0.mk hy519; clear hy519; replace H := Option.bind_eq_some_iff.mp H; obtain ⟨t522, A40, H⟩ := H; replace H : (some t522) = some r := H; have A4 := Aside0.mk A40; clear A40; obtain rfl := Option.some.inj H; go_enter Try.func45, Try.ntmps45; go_wp2_with (first | ((with_reducible refine gate_dst (N := 11) rfl ?_); refine Kd.R_lit k25 _ 25 ?hg (N := 11) ?hd (xs := ([(⟨a1, a2⟩ : S25)] : List (S25))) (inner := [.int .i64 a1, .int .i64 a2]) (ok := fun _ => True) (okp := fun _ => True) ?hr ?hp (fun _ hk => hk) trivial (Below.refl _ _) (Nat.le_refl _) (by simp) ?_; (case hd => rfl); (case hg => rfl); (case hr => first | (go_simp; done) | (go_simp; rfl)); (case hp => exact (Reps.c2 (show Kd.M k25 _ _ _ (⟨a1, a2⟩ : S25) [.int .i64 a1, .int .i64 a2] from (k25_mkM _ _ _ (⟨a1, a2⟩ : S25) )) (Reps.none _ _))); intro v520 w5 ho6 hb hg_ hnew_; clear hg_ hnew_; (first | rw [← Ny519.out] at ho6 | (simp only [Int.reduceToNat] at ho6; rw [← Ny519.out] at ho6)); have n0_ := Aside0.mk (Kd.R_lower ho6 (below_size hb_)); have n1_ := Aside0.mk (below_step hb_ hb); clear HB; have HO521 := n0_; have HB := n1_; clear n0_ n1_; clear hb ho6; obtain ⟨Ao7, co7, eo7⟩ := Kd.R_slice HO521.out; subst eo7) | ((with_reducible refine gate_callee (f := 38) rfl ?_); refine goesL_ (some 12) rfl rfl Try.func38 (by kernel_rfl) rfl #[.slice A0 l0.length c0, .slice Ao7 y519.length co7] rfl ml_ ?_; (with_reducible refine (lustrumref05_Meet.calls k _ _ l0 _ _ y519 t522 _ ?side1 ?side2 ?side3 ?side4 A4.out).mono ?_); (case side1 => exact cr_ (Kd.C_below HR0.out HB.out)); (case side2 => exact HC0.out); (case side3 => exact cr_ (Kd.R_reads' HO521.out).2.2); (case side4 => exact (Kd.R_reads' HO521.out).2.1); rintro e w8 ⟨v523, rfl, ho0, hb⟩; refine ⟨_, rfl, ?_⟩; have n0_ := Aside0.mk (Kd.R_elder' (hrR_ HO521.out) (Kd.R_base ho0) hb); have n1_ := Aside0.mk (Kd.R_lower (Kd.R_new' ho0 (Kd.R_lt (hrR_ HO521.out))) (below_size hb_)); have n2_ := Aside0.mk (below_step hb_ hb); clear HO521; clear HB; have HO521 := n0_; have HO524 := n1_; have HB := n2_; clear n0_ n1_ n2_; (try clear hb); (try clear hb2); (try clear hk); (try clear hi); (try clear ho0))); go_ret; exact ⟨_, by first | rfl | (simp [errW_none, errW_some] <;> rfl) | (simp [*, errW_none, errW_some] <;> rfl), by (with_reducible repeat (first | apply Kd.R_alloc | apply Kd.R_drewN | apply Kd.R_drew)); exact Kd.R_mono HO524.out (fun _ hk => trivial), hb_⟩
set_option maxHeartbeats 8000000 in
set_option maxRecDepth 100000 in
theorem lustrumref05_Wide.calls (k : Nat) (A0 : Option Addr) (c0 : Nat) (l0 : List (S25)) (r : Bool) (w : World) (hr0 : Kd.C k25 w A0 l0.length l0) (hc0 : l0.length ≤ c0) (h : lustrumref05_Wide.f k l0 = some r) :
  Calls Try.prog 46 #[.slice A0 l0.length c0] w fun e w' => e = .returned (.bool r) ∧ Below w.heap.size w w' := by
 have HR0 := Aside0.mk hr0; have HC0 := Aside0.mk hc0; clear hr0 hc0; have HB := Aside0.mk (Below.refl w.heap.size w); have H : ((lustrumref04_As.f k l0).bind fun t525 => (some (decide ((t525.length : Int) > 400)))) = some r := h; clear h; replace H := Option.bind_eq_some_iff.mp H; obtain ⟨t525, A20, H⟩ := H; replace H : (some (decide ((t525.length : Int) > 400))) = some r := H; have A2 := Aside0.mk A20; clear A20; obtain rfl := Option.some.inj H; go_enter Try.func46, Try.ntmps46; go_wp2_with (first | ((with_reducible refine gate_callee (f := 52) rfl ?_); refine goesL_ (some 4) rfl rfl Try.func52 (by kernel_rfl) rfl #[.slice A0 l0.length c0] rfl ml_ ?_; (with_reducible refine (lustrumref04_As.calls k (fun k_ => k_ < w.heap.size) _ _ l0 t525 _ ?side1 A2.out).mono ?_); (case side1 => exact Kd.V_mk HC0.out (Kd.F_below (Kd.C_F k25_heap HR0.out) hb_)); rintro e w3 ⟨v526, rfl, ho0, hb⟩; refine ⟨_, rfl, ?_⟩; have n0_ := Aside0.mk (Kd.V_lower (Kd.V_mono (ok' := fun k_ => True) ho0 (fun k_ hk_ => trivial)) (below_size hb_)); have n1_ := Aside0.mk (below_step hb_ hb); clear HB; have HO527 := n0_; have HB := n1_; clear n0_ n1_; (try clear hb); (try clear hb2); (try clear hk); (try clear hi); (try clear ho0); obtain ⟨Ao4, co4, eo4⟩ := Kd.V_slice HO527.out; subst eo4)); go_ret; exact ⟨re_, hb_⟩
set_option maxHeartbeats 8000000 in
set_option maxRecDepth 100000 in
theorem lustrumlaw05_SetsIs.calls (k : Nat) (A0 : Option Addr) (c0 : Nat) (l0 : List (S25)) (A1 : Option Addr) (c1 : Nat) (l1 : List (S25)) (a2 : Int) (a3 : Int) (r : Bool) (w : World) (hr0 : Kd.C k25 w A0 l0.length l0) (hc0 : l0.length ≤ c0) (hr1 : Kd.C k25 w A1 l1.length l1) (hc1 : l1.length ≤ c1) (h : lustrumlaw05_SetsIs.f k l0 l1 a2 a3 = some r) :
  Calls Try.prog 10 #[.slice A0 l0.length c0, .slice A1 l1.length c1, .int .i64 a2, .int .i64 a3] w fun e w' => e = .returned (.bool r) ∧ Below w.heap.size w w' := by
 have HR0 := Aside0.mk hr0; have HC0 := Aside0.mk hc0; clear hr0 hc0; have HR1 := Aside0.mk hr1; have HC1 := Aside0.mk hc1; clear hr1 hc1; have HB := Aside0.mk (Below.refl w.heap.size w); have H : ((lustrumlaw05_awake.f k).bind fun t528 => (if (l0.length : Int) > 40 then (lustrumlaw05_SetsIs.j0 k l0 l1 a2 a3 t528 true) else (lustrumlaw05_SetsIs.j0 k l0 l1 a2 a3 t528 (decide ((l1.length : Int) > 40))))) = some r := h; clear h; replace H := Option.bind_eq_some_iff.mp H; obtain ⟨t528, A50, H⟩ := H; replace H : (if (l0.length : Int) > 40 then (lustrumlaw05_SetsIs.j0 k l0 l1 a2 a3 t528 true) else (lustrumlaw05_SetsIs.j0 k l0 l1 a2 a3 t528 (decide ((l1.length : Int) > 40)))) = some r := H; have A5 := Aside0.mk A50; clear A50; have HC6 := Aside0.mk H; clear H; go_enter Try.func10, Try.ntmps10; go_upto_region 2 with (first | ((with_reducible refine gate_callee (f := 16) rfl ?_); refine goesL_ (some 10) rfl rfl Try.func16 (by kernel_rfl) rfl #[] rfl ml_ ?_; (with_reducible refine (lustrumlaw05_awake.calls k  t528 _ A5.out).mono ?_); rintro e w7 ⟨rfl, hb⟩; refine ⟨_, rfl, ?_⟩; have n0_ := Aside0.mk (below_step hb_ hb); clear HB; have HB := n0_; clear n0_; (try clear hb); (try clear hb2); (try clear hk); (try clear hi))); (try simp only [Act.put, List.setIfInBounds_toArray, List.set_cons_zero, List.set_cons_succ]); go_cut [18] (fun v18 wc => ∃ (kq : Nat) (x18_5 : Bool), v18 = .bool x18_5 ∧ Aside0 (lustrumlaw05_SetsIs.j0 kq l0 l1 a2 a3 t528 x18_5 = some r) ∧ Aside0 (kq ≤ k) ∧ Aside0 (Below w.heap.size w wc))
 case first =>
  have H := HC6.out; clear HC6
  by_cases c8 : (l0.length : Int) > 40
  ·rw [if_pos c8] at H
   have c8b0 : decide (40 < (l0.length : Int)) = true := decide_eq_true c8; have c8b1 : decide (40 < l0.length) = true := decide_eq_true (by omega); clear c8; (first | rw [c8b0] | (simp only [i64_w, i32_w]; rw [c8b0]) | skip); have H' := Aside0.mk H; clear H; go_wp2; go_meet
   case rel => exact ⟨_, (true), rf_, H', ⟨by first | omega | exact Nat.le_refl _⟩, ⟨hb_⟩⟩
  ·rw [if_neg c8] at H
   have c8b0 : decide (40 < (l0.length : Int)) = false := decide_eq_false c8; have c8b1 : decide (40 < l0.length) = false := decide_eq_false (by omega); clear c8; (first | rw [c8b0] | (simp only [i64_w, i32_w]; rw [c8b0]) | skip); have H' := Aside0.mk H; clear H; go_wp2; go_meet
   case rel => exact ⟨_, (decide ((l1.length : Int) > 40)), rf_, H', ⟨by first | omega | exact Nat.le_refl _⟩, ⟨hb_⟩⟩
 case rest =>
  clear HC6; (try clear c1); (try clear p2); (try clear c8); (try clear c8b0); (try clear c8b1); obtain ⟨kq, x18_5, rfl, HA, HJ5, HB⟩ := hcut
  cases kq with
  | zero => exact absurd HA.out (by simp [lustrumlaw05_SetsIs.j0])
  | succ kj5 =>
   have H := HA.out; clear HA; simp only [lustrumlaw05_SetsIs.j0] at H
   by_cases c9 : x18_5 = true
   ·subst c9
    (have H1 : (some t528) = some r := by rw [if_pos rfl] at H; exact H); clear H; have H := H1; clear H1; obtain rfl := Option.some.inj H; go_wp2; go_ret; exact ⟨re_, hb_⟩
   ·replace c9 := Bool.eq_false_iff.mpr c9
    subst c9; (have H1 : ((sets_Union.f l0 l1).bind fun t529 => ((lustrumref05_Union.f kj5 l0 l1).bind fun t532 => ((lustrumref04_Same.f kj5 t529 t532).bind fun t535 => (if t535 = true then ((sets_Meet.f kj5 l0 l1).bind fun t536 => ((lustrumref05_Meet.f kj5 l0 l1).bind fun t539 => ((lustrumref04_Same.f kj5 t536 t539).bind fun t542 => (if t542 = true then ((sets_Minus.f kj5 l0 l1).bind fun t543 => ((lustrumref05_Minus.f kj5 l0 l1).bind fun t546 => ((lustrumref04_Same.f kj5 t543 t546).bind fun t549 => (lustrumlaw05_SetsIs.j1 kj5 l0 a2 a3 t528 (!t549))))) else (lustrumlaw05_SetsIs.j1 kj5 l0 a2 a3 t528 true))))) else (lustrumlaw05_SetsIs.j1 kj5 l0 a2 a3 t528 true))))) = some r := by rw [if_neg (show ¬ (false = true) by decide)] at H; exact H); clear H; have H := H1; clear H1; have HC10 := Aside0.mk H; clear H; go_upto_region 4 with (fail); go_cut [47] (fun v47 wc => ∃ (kq : Nat) (x47_9 : Bool), v47 = .bool x47_9 ∧ Aside0 (lustrumlaw05_SetsIs.j1 kq l0 a2 a3 t528 x47_9 = some r) ∧ Aside0 (kq ≤ kj5) ∧ Aside0 (Below w.heap.size w wc))
    case first =>
     have H := HC10.out; clear HC10; replace H := Option.bind_eq_some_iff.mp H; obtain ⟨t529, A110, H⟩ := H; replace H : ((lustrumref05_Union.f kj5 l0 l1).bind fun t532 => ((lustrumref04_Same.f kj5 t529 t532).bind fun t535 => (if t535 = true then ((sets_Meet.f kj5 l0 l1).bind fun t536 => ((lustrumref05_Meet.f kj5 l0 l1).bind fun t539 => ((lustrumref04_Same.f kj5 t536 t539).bind fun t542 => (if t542 = true then ((sets_Minus.f kj5 l0 l1).bind fun t543 => ((lustrumref05_Minus.f kj5 l0 l1).bind fun t546 => ((lustrumref04_Same.f kj5 t543 t546).bind fun t549 => (lustrumlaw05_SetsIs.j1 kj5 l0 a2 a3 t528 (!t549))))) else (lustrumlaw05_SetsIs.j1 kj5 l0 a2 a3 t528 true))))) else (lustrumlaw05_SetsIs.j1 kj5 l0 a2 a3 t528 true)))) = some r := H; have A11 := Aside0.mk A110; clear A110; replace H := Option.bind_eq_some_iff.mp H; obtain ⟨t532, A120, H⟩ := H; replace H : ((lustrumref04_Same.f kj5 t529 t532).bind fun t535 => (if t535 = true then ((sets_Meet.f kj5 l0 l1).bind fun t536 => ((lustrumref05_Meet.f kj5 l0 l1).bind fun t539 => ((lustrumref04_Same.f kj5 t536 t539).bind fun t542 => (if t542 = true then ((sets_Minus.f kj5 l0 l1).bind fun t543 => ((lustrumref05_Minus.f kj5 l0 l1).bind fun t546 => ((lustrumref04_Same.f kj5 t543 t546).bind fun t549 => (lustrumlaw05_SetsIs.j1 kj5 l0 a2 a3 t528 (!t549))))) else (lustrumlaw05_SetsIs.j1 kj5 l0 a2 a3 t528 true))))) else (lustrumlaw05_SetsIs.j1 kj5 l0 a2 a3 t528 true))) = some r := H; have A12 := Aside0.mk A120; clear A120; replace H := Option.bind_eq_some_iff.mp H; obtain ⟨t535, A130, H⟩ := H; replace H : (if t535 = true then ((sets_Meet.f kj5 l0 l1).bind fun t536 => ((lustrumref05_Meet.f kj5 l0 l1).bind fun t539 => ((lustrumref04_Same.f kj5 t536 t539).bind fun t542 => (if t542 = true then ((sets_Minus.f kj5 l0 l1).bind fun t543 => ((lustrumref05_Minus.f kj5 l0 l1).bind fun t546 => ((lustrumref04_Same.f kj5 t543 t546).bind fun t549 => (lustrumlaw05_SetsIs.j1 kj5 l0 a2 a3 t528 (!t549))))) else (lustrumlaw05_SetsIs.j1 kj5 l0 a2 a3 t528 true))))) else (lustrumlaw05_SetsIs.j1 kj5 l0 a2 a3 t528 true)) = some r := H; have A13 := Aside0.mk A130; clear A130
     by_cases c14 : t535 = true
     ·subst c14
      (have H1 : ((sets_Meet.f kj5 l0 l1).bind fun t536 => ((lustrumref05_Meet.f kj5 l0 l1).bind fun t539 => ((lustrumref04_Same.f kj5 t536 t539).bind fun t542 => (if t542 = true then ((sets_Minus.f kj5 l0 l1).bind fun t543 => ((lustrumref05_Minus.f kj5 l0 l1).bind fun t546 => ((lustrumref04_Same.f kj5 t543 t546).bind fun t549 => (lustrumlaw05_SetsIs.j1 kj5 l0 a2 a3 t528 (!t549))))) else (lustrumlaw05_SetsIs.j1 kj5 l0 a2 a3 t528 true))))) = some r := by rw [if_pos rfl] at H; exact H); clear H; have H := H1; clear H1; replace H := Option.bind_eq_some_iff.mp H; obtain ⟨t536, A150, H⟩ := H; replace H : ((lustrumref05_Meet.f kj5 l0 l1).bind fun t539 => ((lustrumref04_Same.f kj5 t536 t539).bind fun t542 => (if t542 = true then ((sets_Minus.f kj5 l0 l1).bind fun t543 => ((lustrumref05_Minus.f kj5 l0 l1).bind fun t546 => ((lustrumref04_Same.f kj5 t543 t546).bind fun t549 => (lustrumlaw05_SetsIs.j1 kj5 l0 a2 a3 t528 (!t549))))) else (lustrumlaw05_SetsIs.j1 kj5 l0 a2 a3 t528 true)))) = some r := H; have A15 := Aside0.mk A150; clear A150; replace H := Option.bind_eq_some_iff.mp H; obtain ⟨t539, A160, H⟩ := H; replace H : ((lustrumref04_Same.f kj5 t536 t539).bind fun t542 => (if t542 = true then ((sets_Minus.f kj5 l0 l1).bind fun t543 => ((lustrumref05_Minus.f kj5 l0 l1).bind fun t546 => ((lustrumref04_Same.f kj5 t543 t546).bind fun t549 => (lustrumlaw05_SetsIs.j1 kj5 l0 a2 a3 t528 (!t549))))) else (lustrumlaw05_SetsIs.j1 kj5 l0 a2 a3 t528 true))) = some r := H; have A16 := Aside0.mk A160; clear A160; replace H := Option.bind_eq_some_iff.mp H; obtain ⟨t542, A170, H⟩ := H; replace H : (if t542 = true then ((sets_Minus.f kj5 l0 l1).bind fun t543 => ((lustrumref05_Minus.f kj5 l0 l1).bind fun t546 => ((lustrumref04_Same.f kj5 t543 t546).bind fun t549 => (lustrumlaw05_SetsIs.j1 kj5 l0 a2 a3 t528 (!t549))))) else (lustrumlaw05_SetsIs.j1 kj5 l0 a2 a3 t528 true)) = some r := H; have A17 := Aside0.mk A170; clear A170
      by_cases c18 : t542 = true
      ·subst c18
       (have H1 : ((sets_Minus.f kj5 l0 l1).bind fun t543 => ((lustrumref05_Minus.f kj5 l0 l1).bind fun t546 => ((lustrumref04_Same.f kj5 t543 t546).bind fun t549 => (lustrumlaw05_SetsIs.j1 kj5 l0 a2 a3 t528 (!t549))))) = some r := by rw [if_pos rfl] at H; exact H); clear H; have H := H1; clear H1; replace H := Option.bind_eq_some_iff.mp H; obtain ⟨t543, A190, H⟩ := H; replace H : ((lustrumref05_Minus.f kj5 l0 l1).bind fun t546 => ((lustrumref04_Same.f kj5 t543 t546).bind fun t549 => (lustrumlaw05_SetsIs.j1 kj5 l0 a2 a3 t528 (!t549)))) = some r := H; have A19 := Aside0.mk A190; clear A190; replace H := Option.bind_eq_some_iff.mp H; obtain ⟨t546, A200, H⟩ := H; replace H : ((lustrumref04_Same.f kj5 t543 t546).bind fun t549 => (lustrumlaw05_SetsIs.j1 kj5 l0 a2 a3 t528 (!t549))) = some r := H; have A20 := Aside0.mk A200; clear A200; replace H := Option.bind_eq_some_iff.mp H; obtain ⟨t549, A210, H⟩ := H; replace H : (lustrumlaw05_SetsIs.j1 kj5 l0 a2 a3 t528 (!t549)) = some r := H; have A21 := Aside0.mk A210; clear A210; have H' := Aside0.mk H; clear H; go_wp2_with (first | ((with_reducible refine gate_callee (f := 34) rfl ?_); refine goesL_ (some 22) rfl rfl Try.func34 (by kernel_rfl) rfl #[.slice A0 l0.length c0, .slice A1 l1.length c1] rfl ml_ ?_; (with_reducible refine (sets_Union.calls _ _ l0 _ _ l1 t529 _ ?side1 ?side2 ?side3 ?side4 A11.out).mono ?_); (case side1 => exact cr_ (Kd.C_below HR0.out HB.out)); (case side2 => exact HC0.out); (case side3 => exact cr_ (Kd.C_below HR1.out HB.out)); (case side4 => exact HC1.out); rintro e w22 ⟨v530, rfl, ho0, hb⟩; refine ⟨_, rfl, ?_⟩; have n0_ := Aside0.mk (Kd.R_lower ho0 (below_size hb_)); have n1_ := Aside0.mk (below_step hb_ hb); clear HB; have HO531 := n0_; have HB := n1_; clear n0_ n1_; (try clear hb); (try clear hb2); (try clear hk); (try clear hi); (try clear ho0)) | ((with_reducible refine gate_callee (f := 37) rfl ?_); refine goesL_ (some 25) rfl rfl Try.func37 (by kernel_rfl) rfl #[.slice A0 l0.length c0, .slice A1 l1.length c1] rfl ml_ ?_; (with_reducible refine (lustrumref05_Union.calls kj5 _ _ l0 _ _ l1 t532 _ ?side1 ?side2 ?side3 ?side4 A12.out).mono ?_); (case side1 => exact cr_ (Kd.C_below HR0.out HB.out)); (case side2 => exact HC0.out); (case side3 => exact cr_ (Kd.C_below HR1.out HB.out)); (case side4 => exact HC1.out); rintro e w23 ⟨v533, rfl, ho0, hb⟩; refine ⟨_, rfl, ?_⟩; have n0_ := Aside0.mk (Kd.R_below (hrR_ HO531.out) hb); have n1_ := Aside0.mk (Kd.V_lower (Kd.V_mono (ok' := fun k_ => some k_ ≠ (v530 : Value).ownBlock) ho0 (fun k_ hk_ => (Kd.fresh' (Kd.R_lt (hrR_ HO531.out)) k_ hk_))) (below_size hb_)); have n2_ := Aside0.mk (below_step hb_ hb); clear HO531; clear HB; have HO531 := n0_; have HO534 := n1_; have HB := n2_; clear n0_ n1_ n2_; (try clear hb); (try clear hb2); (try clear hk); (try clear hi); (try clear ho0); obtain ⟨Ao24, co24, eo24⟩ := Kd.R_slice HO531.out; subst eo24; obtain ⟨Ao25, co25, eo25⟩ := Kd.V_slice HO534.out; subst eo25) | ((with_reducible refine gate_callee (f := 21) rfl ?_); refine goesL_ (some 26) rfl rfl Try.func21 (by kernel_rfl) rfl #[.slice Ao24 t529.length co24, .slice Ao25 t532.length co25] rfl ml_ ?_; (with_reducible refine (lustrumref04_Same.calls kj5 _ _ t529 _ _ t532 true _ ?side1 ?side2 ?side3 ?side4 A13.out).mono ?_); (case side1 => exact cr_ (Kd.R_reads' HO531.out).2.2); (case side2 => exact (Kd.R_reads' HO531.out).2.1); (case side3 => exact cr_ (Kd.V_reads' HO534.out).2.2); (case side4 => exact (Kd.V_reads' HO534.out).2.1); rintro e w' ⟨rfl, ⟨nd, rfl⟩⟩; refine ⟨_, rfl, ?_⟩) | (go_at_call 35; (with_reducible refine (sets_Meet.calls kj5 _ _ l0 _ _ l1 t536 _ ?side1 ?side2 ?side3 ?side4 A15.out).mono ?_); (case side1 => exact cr_ (Kd.C_below HR0.out hb_)); (case side2 => exact HC0.out); (case side3 => exact cr_ (Kd.C_below HR1.out hb_)); (case side4 => exact HC1.out); rintro e w26 ⟨v537, rfl, ho0, hb⟩; have n0_ := Aside0.mk (Kd.R_elder' (hrR_ HO531.out) (Kd.R_base ho0) hb); have n1_ := Aside0.mk (Kd.V_elder' (hrV_ HO534.out) (Kd.R_base ho0) hb); have n2_ := Aside0.mk (Kd.R_lower (Kd.R_new' ho0 (Kd.R_lt (hrR_ HO531.out))) (below_size hb_)); have n3_ := Aside0.mk (below_step hb_ hb); clear HO531; clear HO534; clear HB; have HO531 := n0_; have HO534 := n1_; have HO538 := n2_; have HB := n3_; clear n0_ n1_ n2_ n3_; (try clear hb); (try clear hb2); (try clear hk); (try clear hi); (try clear ho0)) | (go_at_call 38; (with_reducible refine (lustrumref05_Meet.calls kj5 _ _ l0 _ _ l1 t539 _ ?side1 ?side2 ?side3 ?side4 A16.out).mono ?_); (case side1 => exact cr_ (Kd.C_below HR0.out HB.out)); (case side2 => exact HC0.out); (case side3 => exact cr_ (Kd.C_below HR1.out HB.out)); (case side4 => exact HC1.out); rintro e w27 ⟨v540, rfl, ho0, hb⟩; have n0_ := Aside0.mk (Kd.R_elder' (hrR_ HO531.out) (Kd.R_base ho0) hb); have n1_ := Aside0.mk (Kd.V_elder' (hrV_ HO534.out) (Kd.R_base ho0) hb); have n2_ := Aside0.mk (Kd.R_elder' (hrR_ HO538.out) (Kd.R_base ho0) hb); have n3_ := Aside0.mk (Kd.R_lower (Kd.R_new' (Kd.R_new' ho0 (Kd.R_lt (hrR_ HO531.out))) (Kd.R_lt (hrR_ HO538.out))) (below_size hb_)); have n4_ := Aside0.mk (below_step hb_ hb); clear HO531; clear HO534; clear HO538; clear HB; have HO531 := n0_; have HO534 := n1_; have HO538 := n2_; have HO541 := n3_; have HB := n4_; clear n0_ n1_ n2_ n3_ n4_; (try clear hb); (try clear hb2); (try clear hk); (try clear hi); (try clear ho0); obtain ⟨Ao28, co28, eo28⟩ := Kd.R_slice HO538.out; subst eo28; obtain ⟨Ao29, co29, eo29⟩ := Kd.R_slice HO541.out; subst eo29) | (go_at_call 21; (with_reducible refine (lustrumref04_Same.calls kj5 _ _ t536 _ _ t539 true _ ?side1 ?side2 ?side3 ?side4 A17.out).mono ?_); (case side1 => exact cr_ (Kd.R_reads' HO538.out).2.2); (case side2 => exact (Kd.R_reads' HO538.out).2.1); (case side3 => exact cr_ (Kd.R_reads' HO541.out).2.2); (case side4 => exact (Kd.R_reads' HO541.out).2.1); rintro e w' ⟨rfl, ⟨nd, rfl⟩⟩) | (go_at_call 36; (with_reducible refine (sets_Minus.calls kj5 _ _ l0 _ _ l1 t543 _ ?side1 ?side2 ?side3 ?side4 A19.out).mono ?_); (case side1 => exact cr_ (Kd.C_below HR0.out hb_)); (case side2 => exact HC0.out); (case side3 => exact cr_ (Kd.C_below HR1.out hb_)); (case side4 => exact HC1.out); rintro e w30 ⟨v544, rfl, ho0, hb⟩; have n0_ := Aside0.mk (Kd.R_elder' (hrR_ HO531.out) (Kd.R_base ho0) hb); have n1_ := Aside0.mk (Kd.V_elder' (hrV_ HO534.out) (Kd.R_base ho0) hb); have n2_ := Aside0.mk (Kd.R_elder' (hrR_ HO538.out) (Kd.R_base ho0) hb); have n3_ := Aside0.mk (Kd.R_elder' (hrR_ HO541.out) (Kd.R_base ho0) hb); have n4_ := Aside0.mk (Kd.R_lower (Kd.R_new' (Kd.R_new' (Kd.R_new' ho0 (Kd.R_lt (hrR_ HO531.out))) (Kd.R_lt (hrR_ HO538.out))) (Kd.R_lt (hrR_ HO541.out))) (below_size hb_)); have n5_ := Aside0.mk (below_step hb_ hb); clear HO531; clear HO534; clear HO538; clear HO541; clear HB; have HO531 := n0_; have HO534 := n1_; have HO538 := n2_; have HO541 := n3_; have HO545 := n4_; have HB := n5_; clear n0_ n1_ n2_ n3_ n4_ n5_; (try clear hb); (try clear hb2); (try clear hk); (try clear hi); (try clear ho0)) | (go_at_call 39; (with_reducible refine (lustrumref05_Minus.calls kj5 _ _ l0 _ _ l1 t546 _ ?side1 ?side2 ?side3 ?side4 A20.out).mono ?_); (case side1 => exact cr_ (Kd.C_below HR0.out HB.out)); (case side2 => exact HC0.out); (case side3 => exact cr_ (Kd.C_below HR1.out HB.out)); (case side4 => exact HC1.out); rintro e w31 ⟨v547, rfl, ho0, hb⟩; have n0_ := Aside0.mk (Kd.R_elder' (hrR_ HO531.out) (Kd.R_base ho0) hb); have n1_ := Aside0.mk (Kd.V_elder' (hrV_ HO534.out) (Kd.R_base ho0) hb); have n2_ := Aside0.mk (Kd.R_elder' (hrR_ HO538.out) (Kd.R_base ho0) hb); have n3_ := Aside0.mk (Kd.R_elder' (hrR_ HO541.out) (Kd.R_base ho0) hb); have n4_ := Aside0.mk (Kd.R_elder' (hrR_ HO545.out) (Kd.R_base ho0) hb); have n5_ := Aside0.mk (Kd.R_lower (Kd.R_new' (Kd.R_new' (Kd.R_new' (Kd.R_new' ho0 (Kd.R_lt (hrR_ HO531.out))) (Kd.R_lt (hrR_ HO538.out))) (Kd.R_lt (hrR_ HO541.out))) (Kd.R_lt (hrR_ HO545.out))) (below_size hb_)); have n6_ := Aside0.mk (below_step hb_ hb); clear HO531; clear HO534; clear HO538; clear HO541; clear HO545; clear HB; have HO531 := n0_; have HO534 := n1_; have HO538 := n2_; have HO541 := n3_; have HO545 := n4_; have HO548 := n5_; have HB := n6_; clear n0_ n1_ n2_ n3_ n4_ n5_ n6_; (try clear hb); (try clear hb2); (try clear hk); (try clear hi); (try clear ho0); obtain ⟨Ao32, co32, eo32⟩ := Kd.R_slice HO545.out; subst eo32; obtain ⟨Ao33, co33, eo33⟩ := Kd.R_slice HO548.out; subst eo33) | (go_at_call 21; (with_reducible refine (lustrumref04_Same.calls kj5 _ _ t543 _ _ t546 t549 _ ?side1 ?side2 ?side3 ?side4 A21.out).mono ?_); (case side1 => exact cr_ (Kd.R_reads' HO545.out).2.2); (case side2 => exact (Kd.R_reads' HO545.out).2.1); (case side3 => exact cr_ (Kd.R_reads' HO548.out).2.2); (case side4 => exact (Kd.R_reads' HO548.out).2.1); rintro e w' ⟨rfl, ⟨nd, rfl⟩⟩))
       go_meet
       case rel => exact ⟨_, (!t549), rf_, H', ⟨by have := HJ5.out; first | omega | exact Nat.le_refl _⟩, ⟨hb_⟩⟩
      ·replace c18 := Bool.eq_false_iff.mpr c18
       subst c18; (have H1 : (lustrumlaw05_SetsIs.j1 kj5 l0 a2 a3 t528 true) = some r := by rw [if_neg (show ¬ (false = true) by decide)] at H; exact H); clear H; have H := H1; clear H1; have H' := Aside0.mk H; clear H; go_wp2_with (first | ((with_reducible refine gate_callee (f := 34) rfl ?_); refine goesL_ (some 22) rfl rfl Try.func34 (by kernel_rfl) rfl #[.slice A0 l0.length c0, .slice A1 l1.length c1] rfl ml_ ?_; (with_reducible refine (sets_Union.calls _ _ l0 _ _ l1 t529 _ ?side1 ?side2 ?side3 ?side4 A11.out).mono ?_); (case side1 => exact cr_ (Kd.C_below HR0.out HB.out)); (case side2 => exact HC0.out); (case side3 => exact cr_ (Kd.C_below HR1.out HB.out)); (case side4 => exact HC1.out); rintro e w34 ⟨v530, rfl, ho0, hb⟩; refine ⟨_, rfl, ?_⟩; have n0_ := Aside0.mk (Kd.R_lower ho0 (below_size hb_)); have n1_ := Aside0.mk (below_step hb_ hb); clear HB; have HO531 := n0_; have HB := n1_; clear n0_ n1_; (try clear hb); (try clear hb2); (try clear hk); (try clear hi); (try clear ho0)) | ((with_reducible refine gate_callee (f := 37) rfl ?_); refine goesL_ (some 25) rfl rfl Try.func37 (by kernel_rfl) rfl #[.slice A0 l0.length c0, .slice A1 l1.length c1] rfl ml_ ?_; (with_reducible refine (lustrumref05_Union.calls kj5 _ _ l0 _ _ l1 t532 _ ?side1 ?side2 ?side3 ?side4 A12.out).mono ?_); (case side1 => exact cr_ (Kd.C_below HR0.out HB.out)); (case side2 => exact HC0.out); (case side3 => exact cr_ (Kd.C_below HR1.out HB.out)); (case side4 => exact HC1.out); rintro e w35 ⟨v533, rfl, ho0, hb⟩; refine ⟨_, rfl, ?_⟩; have n0_ := Aside0.mk (Kd.R_below (hrR_ HO531.out) hb); have n1_ := Aside0.mk (Kd.V_lower (Kd.V_mono (ok' := fun k_ => some k_ ≠ (v530 : Value).ownBlock) ho0 (fun k_ hk_ => (Kd.fresh' (Kd.R_lt (hrR_ HO531.out)) k_ hk_))) (below_size hb_)); have n2_ := Aside0.mk (below_step hb_ hb); clear HO531; clear HB; have HO531 := n0_; have HO534 := n1_; have HB := n2_; clear n0_ n1_ n2_; (try clear hb); (try clear hb2); (try clear hk); (try clear hi); (try clear ho0); obtain ⟨Ao36, co36, eo36⟩ := Kd.R_slice HO531.out; subst eo36; obtain ⟨Ao37, co37, eo37⟩ := Kd.V_slice HO534.out; subst eo37) | ((with_reducible refine gate_callee (f := 21) rfl ?_); refine goesL_ (some 26) rfl rfl Try.func21 (by kernel_rfl) rfl #[.slice Ao36 t529.length co36, .slice Ao37 t532.length co37] rfl ml_ ?_; (with_reducible refine (lustrumref04_Same.calls kj5 _ _ t529 _ _ t532 true _ ?side1 ?side2 ?side3 ?side4 A13.out).mono ?_); (case side1 => exact cr_ (Kd.R_reads' HO531.out).2.2); (case side2 => exact (Kd.R_reads' HO531.out).2.1); (case side3 => exact cr_ (Kd.V_reads' HO534.out).2.2); (case side4 => exact (Kd.V_reads' HO534.out).2.1); rintro e w' ⟨rfl, ⟨nd, rfl⟩⟩; refine ⟨_, rfl, ?_⟩) | (go_at_call 35; (with_reducible refine (sets_Meet.calls kj5 _ _ l0 _ _ l1 t536 _ ?side1 ?side2 ?side3 ?side4 A15.out).mono ?_); (case side1 => exact cr_ (Kd.C_below HR0.out hb_)); (case side2 => exact HC0.out); (case side3 => exact cr_ (Kd.C_below HR1.out hb_)); (case side4 => exact HC1.out); rintro e w38 ⟨v537, rfl, ho0, hb⟩; have n0_ := Aside0.mk (Kd.R_elder' (hrR_ HO531.out) (Kd.R_base ho0) hb); have n1_ := Aside0.mk (Kd.V_elder' (hrV_ HO534.out) (Kd.R_base ho0) hb); have n2_ := Aside0.mk (Kd.R_lower (Kd.R_new' ho0 (Kd.R_lt (hrR_ HO531.out))) (below_size hb_)); have n3_ := Aside0.mk (below_step hb_ hb); clear HO531; clear HO534; clear HB; have HO531 := n0_; have HO534 := n1_; have HO538 := n2_; have HB := n3_; clear n0_ n1_ n2_ n3_; (try clear hb); (try clear hb2); (try clear hk); (try clear hi); (try clear ho0)) | (go_at_call 38; (with_reducible refine (lustrumref05_Meet.calls kj5 _ _ l0 _ _ l1 t539 _ ?side1 ?side2 ?side3 ?side4 A16.out).mono ?_); (case side1 => exact cr_ (Kd.C_below HR0.out HB.out)); (case side2 => exact HC0.out); (case side3 => exact cr_ (Kd.C_below HR1.out HB.out)); (case side4 => exact HC1.out); rintro e w39 ⟨v540, rfl, ho0, hb⟩; have n0_ := Aside0.mk (Kd.R_elder' (hrR_ HO531.out) (Kd.R_base ho0) hb); have n1_ := Aside0.mk (Kd.V_elder' (hrV_ HO534.out) (Kd.R_base ho0) hb); have n2_ := Aside0.mk (Kd.R_elder' (hrR_ HO538.out) (Kd.R_base ho0) hb); have n3_ := Aside0.mk (Kd.R_lower (Kd.R_new' (Kd.R_new' ho0 (Kd.R_lt (hrR_ HO531.out))) (Kd.R_lt (hrR_ HO538.out))) (below_size hb_)); have n4_ := Aside0.mk (below_step hb_ hb); clear HO531; clear HO534; clear HO538; clear HB; have HO531 := n0_; have HO534 := n1_; have HO538 := n2_; have HO541 := n3_; have HB := n4_; clear n0_ n1_ n2_ n3_ n4_; (try clear hb); (try clear hb2); (try clear hk); (try clear hi); (try clear ho0); obtain ⟨Ao40, co40, eo40⟩ := Kd.R_slice HO538.out; subst eo40; obtain ⟨Ao41, co41, eo41⟩ := Kd.R_slice HO541.out; subst eo41) | (go_at_call 21; (with_reducible refine (lustrumref04_Same.calls kj5 _ _ t536 _ _ t539 false _ ?side1 ?side2 ?side3 ?side4 A17.out).mono ?_); (case side1 => exact cr_ (Kd.R_reads' HO538.out).2.2); (case side2 => exact (Kd.R_reads' HO538.out).2.1); (case side3 => exact cr_ (Kd.R_reads' HO541.out).2.2); (case side4 => exact (Kd.R_reads' HO541.out).2.1); rintro e w' ⟨rfl, ⟨nd, rfl⟩⟩))
       go_meet
       case rel => exact ⟨_, (true), rf_, H', ⟨by have := HJ5.out; first | omega | exact Nat.le_refl _⟩, ⟨hb_⟩⟩
     ·replace c14 := Bool.eq_false_iff.mpr c14
      subst c14; (have H1 : (lustrumlaw05_SetsIs.j1 kj5 l0 a2 a3 t528 true) = some r := by rw [if_neg (show ¬ (false = true) by decide)] at H; exact H); clear H; have H := H1; clear H1; have H' := Aside0.mk H; clear H; go_wp2_with (first | ((with_reducible refine gate_callee (f := 34) rfl ?_); refine goesL_ (some 22) rfl rfl Try.func34 (by kernel_rfl) rfl #[.slice A0 l0.length c0, .slice A1 l1.length c1] rfl ml_ ?_; (with_reducible refine (sets_Union.calls _ _ l0 _ _ l1 t529 _ ?side1 ?side2 ?side3 ?side4 A11.out).mono ?_); (case side1 => exact cr_ (Kd.C_below HR0.out HB.out)); (case side2 => exact HC0.out); (case side3 => exact cr_ (Kd.C_below HR1.out HB.out)); (case side4 => exact HC1.out); rintro e w42 ⟨v530, rfl, ho0, hb⟩; refine ⟨_, rfl, ?_⟩; have n0_ := Aside0.mk (Kd.R_lower ho0 (below_size hb_)); have n1_ := Aside0.mk (below_step hb_ hb); clear HB; have HO531 := n0_; have HB := n1_; clear n0_ n1_; (try clear hb); (try clear hb2); (try clear hk); (try clear hi); (try clear ho0)) | ((with_reducible refine gate_callee (f := 37) rfl ?_); refine goesL_ (some 25) rfl rfl Try.func37 (by kernel_rfl) rfl #[.slice A0 l0.length c0, .slice A1 l1.length c1] rfl ml_ ?_; (with_reducible refine (lustrumref05_Union.calls kj5 _ _ l0 _ _ l1 t532 _ ?side1 ?side2 ?side3 ?side4 A12.out).mono ?_); (case side1 => exact cr_ (Kd.C_below HR0.out HB.out)); (case side2 => exact HC0.out); (case side3 => exact cr_ (Kd.C_below HR1.out HB.out)); (case side4 => exact HC1.out); rintro e w43 ⟨v533, rfl, ho0, hb⟩; refine ⟨_, rfl, ?_⟩; have n0_ := Aside0.mk (Kd.R_below (hrR_ HO531.out) hb); have n1_ := Aside0.mk (Kd.V_lower (Kd.V_mono (ok' := fun k_ => some k_ ≠ (v530 : Value).ownBlock) ho0 (fun k_ hk_ => (Kd.fresh' (Kd.R_lt (hrR_ HO531.out)) k_ hk_))) (below_size hb_)); have n2_ := Aside0.mk (below_step hb_ hb); clear HO531; clear HB; have HO531 := n0_; have HO534 := n1_; have HB := n2_; clear n0_ n1_ n2_; (try clear hb); (try clear hb2); (try clear hk); (try clear hi); (try clear ho0); obtain ⟨Ao44, co44, eo44⟩ := Kd.R_slice HO531.out; subst eo44; obtain ⟨Ao45, co45, eo45⟩ := Kd.V_slice HO534.out; subst eo45) | ((with_reducible refine gate_callee (f := 21) rfl ?_); refine goesL_ (some 26) rfl rfl Try.func21 (by kernel_rfl) rfl #[.slice Ao44 t529.length co44, .slice Ao45 t532.length co45] rfl ml_ ?_; (with_reducible refine (lustrumref04_Same.calls kj5 _ _ t529 _ _ t532 false _ ?side1 ?side2 ?side3 ?side4 A13.out).mono ?_); (case side1 => exact cr_ (Kd.R_reads' HO531.out).2.2); (case side2 => exact (Kd.R_reads' HO531.out).2.1); (case side3 => exact cr_ (Kd.V_reads' HO534.out).2.2); (case side4 => exact (Kd.V_reads' HO534.out).2.1); rintro e w' ⟨rfl, ⟨nd, rfl⟩⟩; refine ⟨_, rfl, ?_⟩)); go_meet
      case rel => exact ⟨_, (true), rf_, H', ⟨by have := HJ5.out; first | omega | exact Nat.le_refl _⟩, ⟨hb_⟩⟩
    case rest =>
     clear HC10; (try clear c1); (try clear c2); (try clear p2); (try clear c3); (try clear c8); (try clear c8b0); (try clear c8b1); (try clear c9); (try clear c10); (try clear c14); (try clear c16); (try clear c18); (try clear c21); (try clear c34); (try clear c37); (try clear p2); obtain ⟨kq, x47_9, rfl, HA, HJ9, HB⟩ := hcut
     cases kq with
     | zero => exact absurd HA.out (by simp [lustrumlaw05_SetsIs.j1])
     | succ kj9 =>
      have H := HA.out; clear HA; simp only [lustrumlaw05_SetsIs.j1] at H
      by_cases c46 : x47_9 = true
      ·subst c46
       (have H1 : (some false) = some r := by rw [if_pos rfl] at H; exact H); clear H; have H := H1; clear H1; obtain rfl := Option.some.inj H; go_wp2; go_ret; exact ⟨re_, hb_⟩
      ·replace c46 := Bool.eq_false_iff.mpr c46
       subst c46; (have H1 : (if t528 = true then ((sets_Shift.f kj9 l0 a2).bind fun t550 => ((lustrumref05_Shift.f kj9 l0 a2).bind fun t553 => ((lustrumref04_Same.f kj9 t550 t553).bind fun t556 => (if t556 = true then ((sets_Grow.f kj9 l0 a2).bind fun t557 => ((lustrumref05_Grow.f kj9 l0 a2).bind fun t560 => ((lustrumref04_Same.f kj9 t557 t560).bind fun t563 => (if t563 = true then ((sets_Clip.f kj9 l0 a2 a3).bind fun t564 => ((lustrumref05_Clip.f kj9 l0 a2 a3).bind fun t567 => ((lustrumref04_Same.f kj9 t564 t567).bind fun t570 => (if t570 = true then ((sets_Wide.f kj9 l0).bind fun t571 => ((lustrumref05_Wide.f kj9 l0).bind fun t572 => (some (t571 == t572)))) else (some false))))) else (some false))))) else (some false))))) else (some false)) = some r := by rw [if_neg (show ¬ (false = true) by decide)] at H; exact H); clear H; have H := H1; clear H1
       by_cases c47 : t528 = true
       ·subst c47
        (have H1 : ((sets_Shift.f kj9 l0 a2).bind fun t550 => ((lustrumref05_Shift.f kj9 l0 a2).bind fun t553 => ((lustrumref04_Same.f kj9 t550 t553).bind fun t556 => (if t556 = true then ((sets_Grow.f kj9 l0 a2).bind fun t557 => ((lustrumref05_Grow.f kj9 l0 a2).bind fun t560 => ((lustrumref04_Same.f kj9 t557 t560).bind fun t563 => (if t563 = true then ((sets_Clip.f kj9 l0 a2 a3).bind fun t564 => ((lustrumref05_Clip.f kj9 l0 a2 a3).bind fun t567 => ((lustrumref04_Same.f kj9 t564 t567).bind fun t570 => (if t570 = true then ((sets_Wide.f kj9 l0).bind fun t571 => ((lustrumref05_Wide.f kj9 l0).bind fun t572 => (some (t571 == t572)))) else (some false))))) else (some false))))) else (some false))))) = some r := by rw [if_pos rfl] at H; exact H); clear H; have H := H1; clear H1; replace H := Option.bind_eq_some_iff.mp H; obtain ⟨t550, A480, H⟩ := H; replace H : ((lustrumref05_Shift.f kj9 l0 a2).bind fun t553 => ((lustrumref04_Same.f kj9 t550 t553).bind fun t556 => (if t556 = true then ((sets_Grow.f kj9 l0 a2).bind fun t557 => ((lustrumref05_Grow.f kj9 l0 a2).bind fun t560 => ((lustrumref04_Same.f kj9 t557 t560).bind fun t563 => (if t563 = true then ((sets_Clip.f kj9 l0 a2 a3).bind fun t564 => ((lustrumref05_Clip.f kj9 l0 a2 a3).bind fun t567 => ((lustrumref04_Same.f kj9 t564 t567).bind fun t570 => (if t570 = true then ((sets_Wide.f kj9 l0).bind fun t571 => ((lustrumref05_Wide.f kj9 l0).bind fun t572 => (some (t571 == t572)))) else (some false))))) else (some false))))) else (some false)))) = some r := H; have A48 := Aside0.mk A480; clear A480; replace H := Option.bind_eq_some_iff.mp H; obtain ⟨t553, A490, H⟩ := H; replace H : ((lustrumref04_Same.f kj9 t550 t553).bind fun t556 => (if t556 = true then ((sets_Grow.f kj9 l0 a2).bind fun t557 => ((lustrumref05_Grow.f kj9 l0 a2).bind fun t560 => ((lustrumref04_Same.f kj9 t557 t560).bind fun t563 => (if t563 = true then ((sets_Clip.f kj9 l0 a2 a3).bind fun t564 => ((lustrumref05_Clip.f kj9 l0 a2 a3).bind fun t567 => ((lustrumref04_Same.f kj9 t564 t567).bind fun t570 => (if t570 = true then ((sets_Wide.f kj9 l0).bind fun t571 => ((lustrumref05_Wide.f kj9 l0).bind fun t572 => (some (t571 == t572)))) else (some false))))) else (some false))))) else (some false))) = some r := H; have A49 := Aside0.mk A490; clear A490; replace H := Option.bind_eq_some_iff.mp H; obtain ⟨t556, A500, H⟩ := H; replace H : (if t556 = true then ((sets_Grow.f kj9 l0 a2).bind fun t557 => ((lustrumref05_Grow.f kj9 l0 a2).bind fun t560 => ((lustrumref04_Same.f kj9 t557 t560).bind fun t563 => (if t563 = true then ((sets_Clip.f kj9 l0 a2 a3).bind fun t564 => ((lustrumref05_Clip.f kj9 l0 a2 a3).bind fun t567 => ((lustrumref04_Same.f kj9 t564 t567).bind fun t570 => (if t570 = true then ((sets_Wide.f kj9 l0).bind fun t571 => ((lustrumref05_Wide.f kj9 l0).bind fun t572 => (some (t571 == t572)))) else (some false))))) else (some false))))) else (some false)) = some r := H; have A50 := Aside0.mk A500; clear A500
        by_cases c51 : t556 = true
        ·subst c51
         (have H1 : ((sets_Grow.f kj9 l0 a2).bind fun t557 => ((lustrumref05_Grow.f kj9 l0 a2).bind fun t560 => ((lustrumref04_Same.f kj9 t557 t560).bind fun t563 => (if t563 = true then ((sets_Clip.f kj9 l0 a2 a3).bind fun t564 => ((lustrumref05_Clip.f kj9 l0 a2 a3).bind fun t567 => ((lustrumref04_Same.f kj9 t564 t567).bind fun t570 => (if t570 = true then ((sets_Wide.f kj9 l0).bind fun t571 => ((lustrumref05_Wide.f kj9 l0).bind fun t572 => (some (t571 == t572)))) else (some false))))) else (some false))))) = some r := by rw [if_pos rfl] at H; exact H); clear H; have H := H1; clear H1; replace H := Option.bind_eq_some_iff.mp H; obtain ⟨t557, A520, H⟩ := H; replace H : ((lustrumref05_Grow.f kj9 l0 a2).bind fun t560 => ((lustrumref04_Same.f kj9 t557 t560).bind fun t563 => (if t563 = true then ((sets_Clip.f kj9 l0 a2 a3).bind fun t564 => ((lustrumref05_Clip.f kj9 l0 a2 a3).bind fun t567 => ((lustrumref04_Same.f kj9 t564 t567).bind fun t570 => (if t570 = true then ((sets_Wide.f kj9 l0).bind fun t571 => ((lustrumref05_Wide.f kj9 l0).bind fun t572 => (some (t571 == t572)))) else (some false))))) else (some false)))) = some r := H; have A52 := Aside0.mk A520; clear A520; replace H := Option.bind_eq_some_iff.mp H; obtain ⟨t560, A530, H⟩ := H; replace H : ((lustrumref04_Same.f kj9 t557 t560).bind fun t563 => (if t563 = true then ((sets_Clip.f kj9 l0 a2 a3).bind fun t564 => ((lustrumref05_Clip.f kj9 l0 a2 a3).bind fun t567 => ((lustrumref04_Same.f kj9 t564 t567).bind fun t570 => (if t570 = true then ((sets_Wide.f kj9 l0).bind fun t571 => ((lustrumref05_Wide.f kj9 l0).bind fun t572 => (some (t571 == t572)))) else (some false))))) else (some false))) = some r := H; have A53 := Aside0.mk A530; clear A530; replace H := Option.bind_eq_some_iff.mp H; obtain ⟨t563, A540, H⟩ := H; replace H : (if t563 = true then ((sets_Clip.f kj9 l0 a2 a3).bind fun t564 => ((lustrumref05_Clip.f kj9 l0 a2 a3).bind fun t567 => ((lustrumref04_Same.f kj9 t564 t567).bind fun t570 => (if t570 = true then ((sets_Wide.f kj9 l0).bind fun t571 => ((lustrumref05_Wide.f kj9 l0).bind fun t572 => (some (t571 == t572)))) else (some false))))) else (some false)) = some r := H; have A54 := Aside0.mk A540; clear A540
         by_cases c55 : t563 = true
         ·subst c55
          (have H1 : ((sets_Clip.f kj9 l0 a2 a3).bind fun t564 => ((lustrumref05_Clip.f kj9 l0 a2 a3).bind fun t567 => ((lustrumref04_Same.f kj9 t564 t567).bind fun t570 => (if t570 = true then ((sets_Wide.f kj9 l0).bind fun t571 => ((lustrumref05_Wide.f kj9 l0).bind fun t572 => (some (t571 == t572)))) else (some false))))) = some r := by rw [if_pos rfl] at H; exact H); clear H; have H := H1; clear H1; replace H := Option.bind_eq_some_iff.mp H; obtain ⟨t564, A560, H⟩ := H; replace H : ((lustrumref05_Clip.f kj9 l0 a2 a3).bind fun t567 => ((lustrumref04_Same.f kj9 t564 t567).bind fun t570 => (if t570 = true then ((sets_Wide.f kj9 l0).bind fun t571 => ((lustrumref05_Wide.f kj9 l0).bind fun t572 => (some (t571 == t572)))) else (some false)))) = some r := H; have A56 := Aside0.mk A560; clear A560; replace H := Option.bind_eq_some_iff.mp H; obtain ⟨t567, A570, H⟩ := H; replace H : ((lustrumref04_Same.f kj9 t564 t567).bind fun t570 => (if t570 = true then ((sets_Wide.f kj9 l0).bind fun t571 => ((lustrumref05_Wide.f kj9 l0).bind fun t572 => (some (t571 == t572)))) else (some false))) = some r := H; have A57 := Aside0.mk A570; clear A570; replace H := Option.bind_eq_some_iff.mp H; obtain ⟨t570, A580, H⟩ := H; replace H : (if t570 = true then ((sets_Wide.f kj9 l0).bind fun t571 => ((lustrumref05_Wide.f kj9 l0).bind fun t572 => (some (t571 == t572)))) else (some false)) = some r := H; have A58 := Aside0.mk A580; clear A580
          by_cases c59 : t570 = true
          ·subst c59
           (have H1 : ((sets_Wide.f kj9 l0).bind fun t571 => ((lustrumref05_Wide.f kj9 l0).bind fun t572 => (some (t571 == t572)))) = some r := by rw [if_pos rfl] at H; exact H); clear H; have H := H1; clear H1; replace H := Option.bind_eq_some_iff.mp H; obtain ⟨t571, A600, H⟩ := H; replace H : ((lustrumref05_Wide.f kj9 l0).bind fun t572 => (some (t571 == t572))) = some r := H; have A60 := Aside0.mk A600; clear A600; replace H := Option.bind_eq_some_iff.mp H; obtain ⟨t572, A610, H⟩ := H; replace H : (some (t571 == t572)) = some r := H; have A61 := Aside0.mk A610; clear A610; obtain rfl := Option.some.inj H; go_wp2_with (first | (go_at_call 40; (with_reducible refine (sets_Shift.calls kj9 _ _ l0 a2 t550 _ ?side1 ?side2 A48.out).mono ?_); (case side1 => exact cr_ (Kd.C_below HR0.out HB.out)); (case side2 => exact HC0.out); rintro e w62 ⟨v551, rfl, ho0, hb⟩; have n0_ := Aside0.mk (Kd.R_lower ho0 (below_size hb_)); have n1_ := Aside0.mk (below_step hb_ hb); clear HB; have HO552 := n0_; have HB := n1_; clear n0_ n1_; (try clear hb); (try clear hb2); (try clear hk); (try clear hi); (try clear ho0)) | (go_at_call 41; (with_reducible refine (lustrumref05_Shift.calls kj9 (fun k_ => k_ < w.heap.size) _ _ l0 a2 t553 _ ?side1 A49.out).mono ?_); (case side1 => exact Kd.V_mk HC0.out (Kd.F_below (Kd.C_F k25_heap HR0.out) hb_)); rintro e w63 ⟨v554, rfl, ho0, hb⟩; have n0_ := Aside0.mk (Kd.R_below (hrR_ HO552.out) hb); have n1_ := Aside0.mk (Kd.V_lower (Kd.V_mono (ok' := fun k_ => some k_ ≠ (v551 : Value).ownBlock) ho0 (fun k_ hk_ => Or.elim hk_ (fun hs_ => fun e_ => Nat.not_le.2 hs_ (Kd.R_base HO552.out k_ e_.symm)) (fun hn_ => (Kd.fresh' (Kd.R_lt (hrR_ HO552.out)) k_ hn_)))) (below_size hb_)); have n2_ := Aside0.mk (below_step hb_ hb); clear HO552; clear HB; have HO552 := n0_; have HO555 := n1_; have HB := n2_; clear n0_ n1_ n2_; (try clear hb); (try clear hb2); (try clear hk); (try clear hi); (try clear ho0); obtain ⟨Ao64, co64, eo64⟩ := Kd.R_slice HO552.out; subst eo64; obtain ⟨Ao65, co65, eo65⟩ := Kd.V_slice HO555.out; subst eo65) | (go_at_call 21; (with_reducible refine (lustrumref04_Same.calls kj9 _ _ t550 _ _ t553 true _ ?side1 ?side2 ?side3 ?side4 A50.out).mono ?_); (case side1 => exact cr_ (Kd.R_reads' HO552.out).2.2); (case side2 => exact (Kd.R_reads' HO552.out).2.1); (case side3 => exact cr_ (Kd.V_reads' HO555.out).2.2); (case side4 => exact (Kd.V_reads' HO555.out).2.1); rintro e w' ⟨rfl, ⟨nd, rfl⟩⟩) | (go_at_call 42; (with_reducible refine (sets_Grow.calls kj9 _ _ l0 a2 t557 _ ?side1 ?side2 A52.out).mono ?_); (case side1 => exact cr_ (Kd.C_below HR0.out hb_)); (case side2 => exact HC0.out); rintro e w66 ⟨v558, rfl, ho0, hb⟩; have n0_ := Aside0.mk (Kd.R_elder' (hrR_ HO552.out) (Kd.R_base ho0) hb); have n1_ := Aside0.mk (Kd.V_elder' (hrV_ HO555.out) (Kd.R_base ho0) hb); have n2_ := Aside0.mk (Kd.R_lower (Kd.R_new' ho0 (Kd.R_lt (hrR_ HO552.out))) (below_size hb_)); have n3_ := Aside0.mk (below_step hb_ hb); clear HO552; clear HO555; clear HB; have HO552 := n0_; have HO555 := n1_; have HO559 := n2_; have HB := n3_; clear n0_ n1_ n2_ n3_; (try clear hb); (try clear hb2); (try clear hk); (try clear hi); (try clear ho0)) | (go_at_call 43; (with_reducible refine (lustrumref05_Grow.calls kj9 (fun k_ => k_ < w.heap.size) _ _ l0 a2 t560 _ ?side1 A53.out).mono ?_); (case side1 => exact Kd.V_mk HC0.out (Kd.F_below (Kd.C_F k25_heap HR0.out) hb_)); rintro e w67 ⟨v561, rfl, ho0, hb⟩; have n0_ := Aside0.mk (Kd.R_below (hrR_ HO552.out) hb); have n1_ := Aside0.mk (Kd.V_below (hrV_ HO555.out) hb); have n2_ := Aside0.mk (Kd.R_below (hrR_ HO559.out) hb); have n3_ := Aside0.mk (Kd.V_lower (Kd.V_mono (ok' := fun k_ => some k_ ≠ (.slice Ao64 t550.length co64 : Value).ownBlock ∧ some k_ ≠ (v558 : Value).ownBlock) ho0 (fun k_ hk_ => ⟨Or.elim hk_ (fun hs_ => fun e_ => Nat.not_le.2 hs_ (Kd.R_base HO552.out k_ e_.symm)) (fun hn_ => (Kd.fresh' (Kd.R_lt (hrR_ HO552.out)) k_ hn_)), Or.elim hk_ (fun hs_ => fun e_ => Nat.not_le.2 hs_ (Kd.R_base HO559.out k_ e_.symm)) (fun hn_ => (Kd.fresh' (Kd.R_lt (hrR_ HO559.out)) k_ hn_))⟩)) (below_size hb_)); have n4_ := Aside0.mk (below_step hb_ hb); clear HO552; clear HO555; clear HO559; clear HB; have HO552 := n0_; have HO555 := n1_; have HO559 := n2_; have HO562 := n3_; have HB := n4_; clear n0_ n1_ n2_ n3_ n4_; (try clear hb); (try clear hb2); (try clear hk); (try clear hi); (try clear ho0); obtain ⟨Ao68, co68, eo68⟩ := Kd.R_slice HO559.out; subst eo68; obtain ⟨Ao69, co69, eo69⟩ := Kd.V_slice HO562.out; subst eo69) | (go_at_call 21; (with_reducible refine (lustrumref04_Same.calls kj9 _ _ t557 _ _ t560 true _ ?side1 ?side2 ?side3 ?side4 A54.out).mono ?_); (case side1 => exact cr_ (Kd.R_reads' HO559.out).2.2); (case side2 => exact (Kd.R_reads' HO559.out).2.1); (case side3 => exact cr_ (Kd.V_reads' HO562.out).2.2); (case side4 => exact (Kd.V_reads' HO562.out).2.1); rintro e w' ⟨rfl, ⟨nd, rfl⟩⟩) | (go_at_call 44; (with_reducible refine (sets_Clip.calls kj9 _ _ l0 a2 a3 t564 _ ?side1 ?side2 A56.out).mono ?_); (case side1 => exact cr_ (Kd.C_below HR0.out hb_)); (case side2 => exact HC0.out); rintro e w70 ⟨v565, rfl, ho0, hb⟩; have n0_ := Aside0.mk (Kd.R_elder' (hrR_ HO552.out) (Kd.R_base ho0) hb); have n1_ := Aside0.mk (Kd.V_elder' (hrV_ HO555.out) (Kd.R_base ho0) hb); have n2_ := Aside0.mk (Kd.R_elder' (hrR_ HO559.out) (Kd.R_base ho0) hb); have n3_ := Aside0.mk (Kd.V_elder' (hrV_ HO562.out) (Kd.R_base ho0) hb); have n4_ := Aside0.mk (Kd.R_lower (Kd.R_new' (Kd.R_new' ho0 (Kd.R_lt (hrR_ HO552.out))) (Kd.R_lt (hrR_ HO559.out))) (below_size hb_)); have n5_ := Aside0.mk (below_step hb_ hb); clear HO552; clear HO555; clear HO559; clear HO562; clear HB; have HO552 := n0_; have HO555 := n1_; have HO559 := n2_; have HO562 := n3_; have HO566 := n4_; have HB := n5_; clear n0_ n1_ n2_ n3_ n4_ n5_; (try clear hb); (try clear hb2); (try clear hk); (try clear hi); (try clear ho0)) | (go_at_call 45; (with_reducible refine (lustrumref05_Clip.calls kj9 _ _ l0 a2 a3 t567 _ ?side1 ?side2 A57.out).mono ?_); (case side1 => exact cr_ (Kd.C_below HR0.out HB.out)); (case side2 => exact HC0.out); rintro e w71 ⟨v568, rfl, ho0, hb⟩; have n0_ := Aside0.mk (Kd.R_elder' (hrR_ HO552.out) (Kd.R_base ho0) hb); have n1_ := Aside0.mk (Kd.V_elder' (hrV_ HO555.out) (Kd.R_base ho0) hb); have n2_ := Aside0.mk (Kd.R_elder' (hrR_ HO559.out) (Kd.R_base ho0) hb); have n3_ := Aside0.mk (Kd.V_elder' (hrV_ HO562.out) (Kd.R_base ho0) hb); have n4_ := Aside0.mk (Kd.R_elder' (hrR_ HO566.out) (Kd.R_base ho0) hb); have n5_ := Aside0.mk (Kd.R_lower (Kd.R_new' (Kd.R_new' (Kd.R_new' ho0 (Kd.R_lt (hrR_ HO552.out))) (Kd.R_lt (hrR_ HO559.out))) (Kd.R_lt (hrR_ HO566.out))) (below_size hb_)); have n6_ := Aside0.mk (below_step hb_ hb); clear HO552; clear HO555; clear HO559; clear HO562; clear HO566; clear HB; have HO552 := n0_; have HO555 := n1_; have HO559 := n2_; have HO562 := n3_; have HO566 := n4_; have HO569 := n5_; have HB := n6_; clear n0_ n1_ n2_ n3_ n4_ n5_ n6_; (try clear hb); (try clear hb2); (try clear hk); (try clear hi); (try clear ho0); obtain ⟨Ao72, co72, eo72⟩ := Kd.R_slice HO566.out; subst eo72; obtain ⟨Ao73, co73, eo73⟩ := Kd.R_slice HO569.out; subst eo73) | (go_at_call 21; (with_reducible refine (lustrumref04_Same.calls kj9 _ _ t564 _ _ t567 true _ ?side1 ?side2 ?side3 ?side4 A58.out).mono ?_); (case side1 => exact cr_ (Kd.R_reads' HO566.out).2.2); (case side2 => exact (Kd.R_reads' HO566.out).2.1); (case side3 => exact cr_ (Kd.R_reads' HO569.out).2.2); (case side4 => exact (Kd.R_reads' HO569.out).2.1); rintro e w' ⟨rfl, ⟨nd, rfl⟩⟩) | (go_at_call 17; (with_reducible refine (sets_Wide.calls kj9 _ _ l0 t571 _ ?side1 ?side2 A60.out).mono ?_); (case side1 => exact cr_ (Kd.C_below HR0.out hb_)); (case side2 => exact HC0.out); rintro e w74 ⟨rfl, hb⟩; have n0_ := Aside0.mk (Kd.R_below (hrR_ HO552.out) hb); have n1_ := Aside0.mk (Kd.V_below (hrV_ HO555.out) hb); have n2_ := Aside0.mk (Kd.R_below (hrR_ HO559.out) hb); have n3_ := Aside0.mk (Kd.V_below (hrV_ HO562.out) hb); have n4_ := Aside0.mk (Kd.R_below (hrR_ HO566.out) hb); have n5_ := Aside0.mk (Kd.R_below (hrR_ HO569.out) hb); have n6_ := Aside0.mk (below_step hb_ hb); clear HO552; clear HO555; clear HO559; clear HO562; clear HO566; clear HO569; clear HB; have HO552 := n0_; have HO555 := n1_; have HO559 := n2_; have HO562 := n3_; have HO566 := n4_; have HO569 := n5_; have HB := n6_; clear n0_ n1_ n2_ n3_ n4_ n5_ n6_; (try clear hb); (try clear hb2); (try clear hk); (try clear hi)) | (go_at_call 46; (with_reducible refine (lustrumref05_Wide.calls kj9 _ _ l0 t572 _ ?side1 ?side2 A61.out).mono ?_); (case side1 => exact cr_ (Kd.C_below HR0.out HB.out)); (case side2 => exact HC0.out); rintro e w75 ⟨rfl, hb⟩; have n0_ := Aside0.mk (Kd.R_below (hrR_ HO552.out) hb); have n1_ := Aside0.mk (Kd.V_below (hrV_ HO555.out) hb); have n2_ := Aside0.mk (Kd.R_below (hrR_ HO559.out) hb); have n3_ := Aside0.mk (Kd.V_below (hrV_ HO562.out) hb); have n4_ := Aside0.mk (Kd.R_below (hrR_ HO566.out) hb); have n5_ := Aside0.mk (Kd.R_below (hrR_ HO569.out) hb); have n6_ := Aside0.mk (below_step hb_ hb); clear HO552; clear HO555; clear HO559; clear HO562; clear HO566; clear HO569; clear HB; have HO552 := n0_; have HO555 := n1_; have HO559 := n2_; have HO562 := n3_; have HO566 := n4_; have HO569 := n5_; have HB := n6_; clear n0_ n1_ n2_ n3_ n4_ n5_ n6_; (try clear hb); (try clear hb2); (try clear hk); (try clear hi)))
           go_ret; exact ⟨re_, hb_⟩
          ·replace c59 := Bool.eq_false_iff.mpr c59
           subst c59; (have H1 : (some false) = some r := by rw [if_neg (show ¬ (false = true) by decide)] at H; exact H); clear H; have H := H1; clear H1; obtain rfl := Option.some.inj H; go_wp2_with (first | (go_at_call 40; (with_reducible refine (sets_Shift.calls kj9 _ _ l0 a2 t550 _ ?side1 ?side2 A48.out).mono ?_); (case side1 => exact cr_ (Kd.C_below HR0.out HB.out)); (case side2 => exact HC0.out); rintro e w76 ⟨v551, rfl, ho0, hb⟩; have n0_ := Aside0.mk (Kd.R_lower ho0 (below_size hb_)); have n1_ := Aside0.mk (below_step hb_ hb); clear HB; have HO552 := n0_; have HB := n1_; clear n0_ n1_; (try clear hb); (try clear hb2); (try clear hk); (try clear hi); (try clear ho0)) | (go_at_call 41; (with_reducible refine (lustrumref05_Shift.calls kj9 (fun k_ => k_ < w.heap.size) _ _ l0 a2 t553 _ ?side1 A49.out).mono ?_); (case side1 => exact Kd.V_mk HC0.out (Kd.F_below (Kd.C_F k25_heap HR0.out) hb_)); rintro e w77 ⟨v554, rfl, ho0, hb⟩; have n0_ := Aside0.mk (Kd.R_below (hrR_ HO552.out) hb); have n1_ := Aside0.mk (Kd.V_lower (Kd.V_mono (ok' := fun k_ => some k_ ≠ (v551 : Value).ownBlock) ho0 (fun k_ hk_ => Or.elim hk_ (fun hs_ => fun e_ => Nat.not_le.2 hs_ (Kd.R_base HO552.out k_ e_.symm)) (fun hn_ => (Kd.fresh' (Kd.R_lt (hrR_ HO552.out)) k_ hn_)))) (below_size hb_)); have n2_ := Aside0.mk (below_step hb_ hb); clear HO552; clear HB; have HO552 := n0_; have HO555 := n1_; have HB := n2_; clear n0_ n1_ n2_; (try clear hb); (try clear hb2); (try clear hk); (try clear hi); (try clear ho0); obtain ⟨Ao78, co78, eo78⟩ := Kd.R_slice HO552.out; subst eo78; obtain ⟨Ao79, co79, eo79⟩ := Kd.V_slice HO555.out; subst eo79) | (go_at_call 21; (with_reducible refine (lustrumref04_Same.calls kj9 _ _ t550 _ _ t553 true _ ?side1 ?side2 ?side3 ?side4 A50.out).mono ?_); (case side1 => exact cr_ (Kd.R_reads' HO552.out).2.2); (case side2 => exact (Kd.R_reads' HO552.out).2.1); (case side3 => exact cr_ (Kd.V_reads' HO555.out).2.2); (case side4 => exact (Kd.V_reads' HO555.out).2.1); rintro e w' ⟨rfl, ⟨nd, rfl⟩⟩) | (go_at_call 42; (with_reducible refine (sets_Grow.calls kj9 _ _ l0 a2 t557 _ ?side1 ?side2 A52.out).mono ?_); (case side1 => exact cr_ (Kd.C_below HR0.out hb_)); (case side2 => exact HC0.out); rintro e w80 ⟨v558, rfl, ho0, hb⟩; have n0_ := Aside0.mk (Kd.R_elder' (hrR_ HO552.out) (Kd.R_base ho0) hb); have n1_ := Aside0.mk (Kd.V_elder' (hrV_ HO555.out) (Kd.R_base ho0) hb); have n2_ := Aside0.mk (Kd.R_lower (Kd.R_new' ho0 (Kd.R_lt (hrR_ HO552.out))) (below_size hb_)); have n3_ := Aside0.mk (below_step hb_ hb); clear HO552; clear HO555; clear HB; have HO552 := n0_; have HO555 := n1_; have HO559 := n2_; have HB := n3_; clear n0_ n1_ n2_ n3_; (try clear hb); (try clear hb2); (try clear hk); (try clear hi); (try clear ho0)) | (go_at_call 43; (with_reducible refine (lustrumref05_Grow.calls kj9 (fun k_ => k_ < w.heap.size) _ _ l0 a2 t560 _ ?side1 A53.out).mono ?_); (case side1 => exact Kd.V_mk HC0.out (Kd.F_below (Kd.C_F k25_heap HR0.out) hb_)); rintro e w81 ⟨v561, rfl, ho0, hb⟩; have n0_ := Aside0.mk (Kd.R_below (hrR_ HO552.out) hb); have n1_ := Aside0.mk (Kd.V_below (hrV_ HO555.out) hb); have n2_ := Aside0.mk (Kd.R_below (hrR_ HO559.out) hb); have n3_ := Aside0.mk (Kd.V_lower (Kd.V_mono (ok' := fun k_ => some k_ ≠ (.slice Ao78 t550.length co78 : Value).ownBlock ∧ some k_ ≠ (v558 : Value).ownBlock) ho0 (fun k_ hk_ => ⟨Or.elim hk_ (fun hs_ => fun e_ => Nat.not_le.2 hs_ (Kd.R_base HO552.out k_ e_.symm)) (fun hn_ => (Kd.fresh' (Kd.R_lt (hrR_ HO552.out)) k_ hn_)), Or.elim hk_ (fun hs_ => fun e_ => Nat.not_le.2 hs_ (Kd.R_base HO559.out k_ e_.symm)) (fun hn_ => (Kd.fresh' (Kd.R_lt (hrR_ HO559.out)) k_ hn_))⟩)) (below_size hb_)); have n4_ := Aside0.mk (below_step hb_ hb); clear HO552; clear HO555; clear HO559; clear HB; have HO552 := n0_; have HO555 := n1_; have HO559 := n2_; have HO562 := n3_; have HB := n4_; clear n0_ n1_ n2_ n3_ n4_; (try clear hb); (try clear hb2); (try clear hk); (try clear hi); (try clear ho0); obtain ⟨Ao82, co82, eo82⟩ := Kd.R_slice HO559.out; subst eo82; obtain ⟨Ao83, co83, eo83⟩ := Kd.V_slice HO562.out; subst eo83) | (go_at_call 21; (with_reducible refine (lustrumref04_Same.calls kj9 _ _ t557 _ _ t560 true _ ?side1 ?side2 ?side3 ?side4 A54.out).mono ?_); (case side1 => exact cr_ (Kd.R_reads' HO559.out).2.2); (case side2 => exact (Kd.R_reads' HO559.out).2.1); (case side3 => exact cr_ (Kd.V_reads' HO562.out).2.2); (case side4 => exact (Kd.V_reads' HO562.out).2.1); rintro e w' ⟨rfl, ⟨nd, rfl⟩⟩) | (go_at_call 44; (with_reducible refine (sets_Clip.calls kj9 _ _ l0 a2 a3 t564 _ ?side1 ?side2 A56.out).mono ?_); (case side1 => exact cr_ (Kd.C_below HR0.out hb_)); (case side2 => exact HC0.out); rintro e w84 ⟨v565, rfl, ho0, hb⟩; have n0_ := Aside0.mk (Kd.R_elder' (hrR_ HO552.out) (Kd.R_base ho0) hb); have n1_ := Aside0.mk (Kd.V_elder' (hrV_ HO555.out) (Kd.R_base ho0) hb); have n2_ := Aside0.mk (Kd.R_elder' (hrR_ HO559.out) (Kd.R_base ho0) hb); have n3_ := Aside0.mk (Kd.V_elder' (hrV_ HO562.out) (Kd.R_base ho0) hb); have n4_ := Aside0.mk (Kd.R_lower (Kd.R_new' (Kd.R_new' ho0 (Kd.R_lt (hrR_ HO552.out))) (Kd.R_lt (hrR_ HO559.out))) (below_size hb_)); have n5_ := Aside0.mk (below_step hb_ hb); clear HO552; clear HO555; clear HO559; clear HO562; clear HB; have HO552 := n0_; have HO555 := n1_; have HO559 := n2_; have HO562 := n3_; have HO566 := n4_; have HB := n5_; clear n0_ n1_ n2_ n3_ n4_ n5_; (try clear hb); (try clear hb2); (try clear hk); (try clear hi); (try clear ho0)) | (go_at_call 45; (with_reducible refine (lustrumref05_Clip.calls kj9 _ _ l0 a2 a3 t567 _ ?side1 ?side2 A57.out).mono ?_); (case side1 => exact cr_ (Kd.C_below HR0.out HB.out)); (case side2 => exact HC0.out); rintro e w85 ⟨v568, rfl, ho0, hb⟩; have n0_ := Aside0.mk (Kd.R_elder' (hrR_ HO552.out) (Kd.R_base ho0) hb); have n1_ := Aside0.mk (Kd.V_elder' (hrV_ HO555.out) (Kd.R_base ho0) hb); have n2_ := Aside0.mk (Kd.R_elder' (hrR_ HO559.out) (Kd.R_base ho0) hb); have n3_ := Aside0.mk (Kd.V_elder' (hrV_ HO562.out) (Kd.R_base ho0) hb); have n4_ := Aside0.mk (Kd.R_elder' (hrR_ HO566.out) (Kd.R_base ho0) hb); have n5_ := Aside0.mk (Kd.R_lower (Kd.R_new' (Kd.R_new' (Kd.R_new' ho0 (Kd.R_lt (hrR_ HO552.out))) (Kd.R_lt (hrR_ HO559.out))) (Kd.R_lt (hrR_ HO566.out))) (below_size hb_)); have n6_ := Aside0.mk (below_step hb_ hb); clear HO552; clear HO555; clear HO559; clear HO562; clear HO566; clear HB; have HO552 := n0_; have HO555 := n1_; have HO559 := n2_; have HO562 := n3_; have HO566 := n4_; have HO569 := n5_; have HB := n6_; clear n0_ n1_ n2_ n3_ n4_ n5_ n6_; (try clear hb); (try clear hb2); (try clear hk); (try clear hi); (try clear ho0); obtain ⟨Ao86, co86, eo86⟩ := Kd.R_slice HO566.out; subst eo86; obtain ⟨Ao87, co87, eo87⟩ := Kd.R_slice HO569.out; subst eo87) | (go_at_call 21; (with_reducible refine (lustrumref04_Same.calls kj9 _ _ t564 _ _ t567 false _ ?side1 ?side2 ?side3 ?side4 A58.out).mono ?_); (case side1 => exact cr_ (Kd.R_reads' HO566.out).2.2); (case side2 => exact (Kd.R_reads' HO566.out).2.1); (case side3 => exact cr_ (Kd.R_reads' HO569.out).2.2); (case side4 => exact (Kd.R_reads' HO569.out).2.1); rintro e w' ⟨rfl, ⟨nd, rfl⟩⟩))
           go_ret; exact ⟨re_, hb_⟩
         ·replace c55 := Bool.eq_false_iff.mpr c55
          subst c55; (have H1 : (some false) = some r := by rw [if_neg (show ¬ (false = true) by decide)] at H; exact H); clear H; have H := H1; clear H1; obtain rfl := Option.some.inj H; go_wp2_with (first | (go_at_call 40; (with_reducible refine (sets_Shift.calls kj9 _ _ l0 a2 t550 _ ?side1 ?side2 A48.out).mono ?_); (case side1 => exact cr_ (Kd.C_below HR0.out HB.out)); (case side2 => exact HC0.out); rintro e w88 ⟨v551, rfl, ho0, hb⟩; have n0_ := Aside0.mk (Kd.R_lower ho0 (below_size hb_)); have n1_ := Aside0.mk (below_step hb_ hb); clear HB; have HO552 := n0_; have HB := n1_; clear n0_ n1_; (try clear hb); (try clear hb2); (try clear hk); (try clear hi); (try clear ho0)) | (go_at_call 41; (with_reducible refine (lustrumref05_Shift.calls kj9 (fun k_ => k_ < w.heap.size) _ _ l0 a2 t553 _ ?side1 A49.out).mono ?_); (case side1 => exact Kd.V_mk HC0.out (Kd.F_below (Kd.C_F k25_heap HR0.out) hb_)); rintro e w89 ⟨v554, rfl, ho0, hb⟩; have n0_ := Aside0.mk (Kd.R_below (hrR_ HO552.out) hb); have n1_ := Aside0.mk (Kd.V_lower (Kd.V_mono (ok' := fun k_ => some k_ ≠ (v551 : Value).ownBlock) ho0 (fun k_ hk_ => Or.elim hk_ (fun hs_ => fun e_ => Nat.not_le.2 hs_ (Kd.R_base HO552.out k_ e_.symm)) (fun hn_ => (Kd.fresh' (Kd.R_lt (hrR_ HO552.out)) k_ hn_)))) (below_size hb_)); have n2_ := Aside0.mk (below_step hb_ hb); clear HO552; clear HB; have HO552 := n0_; have HO555 := n1_; have HB := n2_; clear n0_ n1_ n2_; (try clear hb); (try clear hb2); (try clear hk); (try clear hi); (try clear ho0); obtain ⟨Ao90, co90, eo90⟩ := Kd.R_slice HO552.out; subst eo90; obtain ⟨Ao91, co91, eo91⟩ := Kd.V_slice HO555.out; subst eo91) | (go_at_call 21; (with_reducible refine (lustrumref04_Same.calls kj9 _ _ t550 _ _ t553 true _ ?side1 ?side2 ?side3 ?side4 A50.out).mono ?_); (case side1 => exact cr_ (Kd.R_reads' HO552.out).2.2); (case side2 => exact (Kd.R_reads' HO552.out).2.1); (case side3 => exact cr_ (Kd.V_reads' HO555.out).2.2); (case side4 => exact (Kd.V_reads' HO555.out).2.1); rintro e w' ⟨rfl, ⟨nd, rfl⟩⟩) | (go_at_call 42; (with_reducible refine (sets_Grow.calls kj9 _ _ l0 a2 t557 _ ?side1 ?side2 A52.out).mono ?_); (case side1 => exact cr_ (Kd.C_below HR0.out hb_)); (case side2 => exact HC0.out); rintro e w92 ⟨v558, rfl, ho0, hb⟩; have n0_ := Aside0.mk (Kd.R_elder' (hrR_ HO552.out) (Kd.R_base ho0) hb); have n1_ := Aside0.mk (Kd.V_elder' (hrV_ HO555.out) (Kd.R_base ho0) hb); have n2_ := Aside0.mk (Kd.R_lower (Kd.R_new' ho0 (Kd.R_lt (hrR_ HO552.out))) (below_size hb_)); have n3_ := Aside0.mk (below_step hb_ hb); clear HO552; clear HO555; clear HB; have HO552 := n0_; have HO555 := n1_; have HO559 := n2_; have HB := n3_; clear n0_ n1_ n2_ n3_; (try clear hb); (try clear hb2); (try clear hk); (try clear hi); (try clear ho0)) | (go_at_call 43; (with_reducible refine (lustrumref05_Grow.calls kj9 (fun k_ => k_ < w.heap.size) _ _ l0 a2 t560 _ ?side1 A53.out).mono ?_); (case side1 => exact Kd.V_mk HC0.out (Kd.F_below (Kd.C_F k25_heap HR0.out) hb_)); rintro e w93 ⟨v561, rfl, ho0, hb⟩; have n0_ := Aside0.mk (Kd.R_below (hrR_ HO552.out) hb); have n1_ := Aside0.mk (Kd.V_below (hrV_ HO555.out) hb); have n2_ := Aside0.mk (Kd.R_below (hrR_ HO559.out) hb); have n3_ := Aside0.mk (Kd.V_lower (Kd.V_mono (ok' := fun k_ => some k_ ≠ (.slice Ao90 t550.length co90 : Value).ownBlock ∧ some k_ ≠ (v558 : Value).ownBlock) ho0 (fun k_ hk_ => ⟨Or.elim hk_ (fun hs_ => fun e_ => Nat.not_le.2 hs_ (Kd.R_base HO552.out k_ e_.symm)) (fun hn_ => (Kd.fresh' (Kd.R_lt (hrR_ HO552.out)) k_ hn_)), Or.elim hk_ (fun hs_ => fun e_ => Nat.not_le.2 hs_ (Kd.R_base HO559.out k_ e_.symm)) (fun hn_ => (Kd.fresh' (Kd.R_lt (hrR_ HO559.out)) k_ hn_))⟩)) (below_size hb_)); have n4_ := Aside0.mk (below_step hb_ hb); clear HO552; clear HO555; clear HO559; clear HB; have HO552 := n0_; have HO555 := n1_; have HO559 := n2_; have HO562 := n3_; have HB := n4_; clear n0_ n1_ n2_ n3_ n4_; (try clear hb); (try clear hb2); (try clear hk); (try clear hi); (try clear ho0); obtain ⟨Ao94, co94, eo94⟩ := Kd.R_slice HO559.out; subst eo94; obtain ⟨Ao95, co95, eo95⟩ := Kd.V_slice HO562.out; subst eo95) | (go_at_call 21; (with_reducible refine (lustrumref04_Same.calls kj9 _ _ t557 _ _ t560 false _ ?side1 ?side2 ?side3 ?side4 A54.out).mono ?_); (case side1 => exact cr_ (Kd.R_reads' HO559.out).2.2); (case side2 => exact (Kd.R_reads' HO559.out).2.1); (case side3 => exact cr_ (Kd.V_reads' HO562.out).2.2); (case side4 => exact (Kd.V_reads' HO562.out).2.1); rintro e w' ⟨rfl, ⟨nd, rfl⟩⟩))
          go_ret; exact ⟨re_, hb_⟩
        ·replace c51 := Bool.eq_false_iff.mpr c51
         subst c51; (have H1 : (some false) = some r := by rw [if_neg (show ¬ (false = true) by decide)] at H; exact H); clear H; have H := H1; clear H1; obtain rfl := Option.some.inj H; go_wp2_with (first | (go_at_call 40; (with_reducible refine (sets_Shift.calls kj9 _ _ l0 a2 t550 _ ?side1 ?side2 A48.out).mono ?_); (case side1 => exact cr_ (Kd.C_below HR0.out HB.out)); (case side2 => exact HC0.out); rintro e w96 ⟨v551, rfl, ho0, hb⟩; have n0_ := Aside0.mk (Kd.R_lower ho0 (below_size hb_)); have n1_ := Aside0.mk (below_step hb_ hb); clear HB; have HO552 := n0_; have HB := n1_; clear n0_ n1_; (try clear hb); (try clear hb2); (try clear hk); (try clear hi); (try clear ho0)) | (go_at_call 41; (with_reducible refine (lustrumref05_Shift.calls kj9 (fun k_ => k_ < w.heap.size) _ _ l0 a2 t553 _ ?side1 A49.out).mono ?_); (case side1 => exact Kd.V_mk HC0.out (Kd.F_below (Kd.C_F k25_heap HR0.out) hb_)); rintro e w97 ⟨v554, rfl, ho0, hb⟩; have n0_ := Aside0.mk (Kd.R_below (hrR_ HO552.out) hb); have n1_ := Aside0.mk (Kd.V_lower (Kd.V_mono (ok' := fun k_ => some k_ ≠ (v551 : Value).ownBlock) ho0 (fun k_ hk_ => Or.elim hk_ (fun hs_ => fun e_ => Nat.not_le.2 hs_ (Kd.R_base HO552.out k_ e_.symm)) (fun hn_ => (Kd.fresh' (Kd.R_lt (hrR_ HO552.out)) k_ hn_)))) (below_size hb_)); have n2_ := Aside0.mk (below_step hb_ hb); clear HO552; clear HB; have HO552 := n0_; have HO555 := n1_; have HB := n2_; clear n0_ n1_ n2_; (try clear hb); (try clear hb2); (try clear hk); (try clear hi); (try clear ho0); obtain ⟨Ao98, co98, eo98⟩ := Kd.R_slice HO552.out; subst eo98; obtain ⟨Ao99, co99, eo99⟩ := Kd.V_slice HO555.out; subst eo99) | (go_at_call 21; (with_reducible refine (lustrumref04_Same.calls kj9 _ _ t550 _ _ t553 false _ ?side1 ?side2 ?side3 ?side4 A50.out).mono ?_); (case side1 => exact cr_ (Kd.R_reads' HO552.out).2.2); (case side2 => exact (Kd.R_reads' HO552.out).2.1); (case side3 => exact cr_ (Kd.V_reads' HO555.out).2.2); (case side4 => exact (Kd.V_reads' HO555.out).2.1); rintro e w' ⟨rfl, ⟨nd, rfl⟩⟩)); go_ret; exact ⟨re_, hb_⟩
       ·replace c47 := Bool.eq_false_iff.mpr c47
        subst c47; (have H1 : (some false) = some r := by rw [if_neg (show ¬ (false = true) by decide)] at H; exact H); clear H; have H := H1; clear H1; obtain rfl := Option.some.inj H; go_wp2; go_ret; exact ⟨re_, hb_⟩
theorem w64 {x : Int} (h1 : -9223372036854775808 ≤ x) (h2 : x ≤ 9223372036854775807) : wrap64 x = x := by unfold wrap64; omega
theorem at_rd (p : List S25) (r : S25) (t : List S25) : rd_T25 (p ++ r :: t) (p.length : Int) = r := by simp [rd_T25]
theorem at_lt {α : Type} (p : List α) (r : α) (t : List α) : (p.length : Int) < ((p ++ r :: t).length : Int) := by simp; omega
theorem at_end {α : Type} (p : List α) : ¬ (p.length : Int) < ((p ++ []).length : Int) := by simp
theorem at_0 {α : Type} (p : List α) : 0 ≤ (p.length : Int) := Int.natCast_nonneg _
theorem at_next {α : Type} {p : List α} {r : α} {t : List α} (h : (p ++ r :: t).length ≤ 4611686018427387904) : wrap64 ((p.length : Int) + 1) = ((p ++ [r]).length : Int) := by
  simp at h
  rw [w64 (by omega) (by omega)]
  simp
theorem at_app {α : Type} (p : List α) (r : α) (t : List α) : p ++ r :: t = (p ++ [r]) ++ t := by simp
theorem Ev.ift {α : Type} {c : Prop} [Decidable c] {g f : Nat → Option α} {r : α} (hc : c) (h : Ev g r) : Ev (fun k => if c then g k else f k) r := Ev.congr (fun k => if_pos hc) h
theorem Ev.iff_ {α : Type} {c : Prop} [Decidable c] {g f : Nat → Option α} {r : α} (hc : ¬ c) (h : Ev f r) : Ev (fun k => if c then g k else f k) r := Ev.congr (fun k => if_neg hc) h
theorem Ev.bnow {α β : Type} {a : Option α} {f : Nat → α → Option β} {x : α} {r : β} (h : a = some x) (k : Ev (fun n => f n x) r) : Ev (fun n => a.bind (f n)) r := Ev.congr (fun n => by rw [h]; rfl) k
theorem Ev.eq {α : Type} {g : Nat → Option α} {r q : α} (h : Ev g r) (e : r = q) : Ev g q := e ▸ h
theorem Sane_l0 : ∀ (t p : List S25) (last : Int), (p ++ t).length ≤ 4611686018427387904 → -lim - 2 ≤ last → last ≤ lim →
    ∃ b, Ev (fun k => runs_Sane.l0 k last (p ++ t) ((p ++ t).length : Int) (p.length : Int)) b ∧ (b = true ↔ saneF last t)
  | [], p, last, _, _, _ => ⟨true, Ev.step (f := fun _ => some true) (fun k => by simp only [runs_Sane.l0]; rw [if_neg (at_end p)]) (Ev.now true), by simp [saneF]⟩
  | r :: t, p, last, hn, h1, h2 => by
    have e : ∀ k, runs_Sane.l0 (k + 1) last (p ++ r :: t) ((p ++ r :: t).length : Int) (p.length : Int) = (if r.f0 > r.f1 then some false else if r.f0 < last + 2 then some false else if r.f1 > 1099511627776 then some false else runs_Sane.l0 k r.f1 (p ++ r :: t) ((p ++ r :: t).length : Int) ((p ++ [r]).length : Int)) := fun k => by
      simp only [runs_Sane.l0]
      rw [if_pos (at_lt p r t), if_pos (at_0 p), if_pos (at_lt p r t), at_rd, at_next hn, w64 (by unfold lim at h1; omega) (by unfold lim at h2; omega)]
    by_cases c1 : r.f0 > r.f1
    · exact ⟨false, Ev.step (f := fun _ => some false) (fun k => by rw [e, if_pos c1]) (Ev.now _), by simp [saneF]; omega⟩
    by_cases c2 : r.f0 < last + 2
    · exact ⟨false, Ev.step (f := fun _ => some false) (fun k => by rw [e, if_neg c1, if_pos c2]) (Ev.now _), by simp [saneF]; omega⟩
    by_cases c3 : r.f1 > 1099511627776
    · exact ⟨false, Ev.step (f := fun _ => some false) (fun k => by rw [e, if_neg c1, if_neg c2, if_pos c3]) (Ev.now _), by simp [saneF, lim]; omega⟩
    obtain ⟨b, hb, hs⟩ := Sane_l0 t (p ++ [r]) r.f1 (by rw [← at_app]; exact hn) (by omega) (by unfold lim; omega)
    rw [← at_app] at hb
    refine ⟨b, Ev.step (fun k => by rw [e, if_neg c1, if_neg c2, if_neg c3]) hb, ?_⟩
    rw [hs, saneF]
    unfold lim
    exact ⟨fun h => ⟨by omega, by omega, by omega, h⟩, fun h => h.2.2.2⟩
theorem Sane_f (l : List S25) (hn : l.length ≤ 4611686018427387904) : ∃ b, Ev (fun k => runs_Sane.f k l) b ∧ (b = true ↔ sane l) := by
  obtain ⟨b, hb, hs⟩ := Sane_l0 l [] (-lim - 2) (by simpa using hn) (by omega) (by unfold lim; omega)
  exact ⟨b, hb, hs⟩
theorem Make_f {l : List S25} (hn : l.length < 4398046511104) : Ev (fun _ => runs_Make.f l) (norm l) := ⟨0, fun _ _ => by unfold runs_Make.f; rw [if_pos hn]⟩
theorem sknown_f (l : List S25) (hn : l.length < 4398046511104) : Ev (fun k => sets_known.f k l) (norm l) := by
  obtain ⟨b, hb, hs⟩ := Sane_f l (by omega)
  refine Ev.bind hb ?_
  cases b with
  | true => exact Ev.congr (fun k => by rw [if_pos rfl, norm_of_sane (hs.1 rfl)]) (Ev.now (norm l))
  | false => exact Ev.congr (f := fun k => (runs_Make.f l).bind fun t => some t) (fun k => by rw [if_neg (by simp)]) (Ev.bind (Make_f hn) (Ev.now _))
theorem ins_len : ∀ (s : List S25) (x : S25), (ins x s).length ≤ s.length + 1
  | [], x => by unfold ins; simp
  | q :: t, x => by
    unfold ins
    split
    · have := ins_len t x; simp; omega
    · split
      · simp
      · have := ins_len t ⟨min x.f0 q.f0, max x.f1 q.f1⟩; simp; omega
theorem fold_len : ∀ (l s : List S25), (l.foldl step s).length ≤ s.length + l.length
  | [], s => by simp
  | r :: l, s => by
    have h1 := fold_len l (step s r)
    have h2 : (step s r).length ≤ s.length + 1 := by unfold step; split; exact ins_len _ _; omega
    simp; omega
theorem norm_len (l : List S25) : (norm l).length ≤ l.length := by have := fold_len l []; simpa [norm] using this
theorem mx_max (a b : Int) : mx a b = max a b := by unfold mx; omega
theorem mn_min (a b : Int) : mn a b = min a b := by unfold mn; omega
theorem Same_l0 : ∀ (t u p q : List S25), (p ++ t).length ≤ 4611686018427387904 → p.length = q.length → t.length = u.length →
    ∃ b, Ev (fun k => lustrumref04_Same.l0 k (p ++ t) (q ++ u) (p.length : Int)) b ∧ (b = true ↔ t = u)
  | [], [], p, q, _, _, _ => ⟨true, Ev.step (f := fun _ => some true) (fun k => by simp only [lustrumref04_Same.l0]; rw [if_neg (at_end p)]) (Ev.now _), by simp⟩
  | [], y :: u, _, _, _, _, h => by simp at h
  | x :: t, [], _, _, _, _, h => by simp at h
  | x :: t, y :: u, p, q, hn, hl, h => by
    by_cases c : x.f0 = y.f0 ∧ x.f1 = y.f1
    · obtain ⟨b, hb, hs⟩ := Same_l0 t u (p ++ [x]) (q ++ [y]) (by rw [← at_app]; exact hn) (by simp [hl]) (by simpa using h)
      rw [← at_app, ← at_app] at hb
      refine ⟨b, Ev.step (fun k => ?_) hb, ?_⟩
      · simp only [lustrumref04_Same.l0]
        rw [if_pos (at_lt p x t), if_pos (at_0 p), if_pos (by rw [hl]; exact at_lt q y u), at_rd, show rd_T25 (q ++ y :: u) (p.length : Int) = y by rw [hl]; exact at_rd q y u, if_neg (by simp [c.1, c.2]), at_next hn]
      · rw [hs, show x = y from S25.ext2 c.1 c.2]; simp
    · refine ⟨false, Ev.step (f := fun _ => some false) (fun k => ?_) (Ev.now _), ?_⟩
      · simp only [lustrumref04_Same.l0]
        rw [if_pos (at_lt p x t), if_pos (at_0 p), if_pos (by rw [hl]; exact at_lt q y u), at_rd, show rd_T25 (q ++ y :: u) (p.length : Int) = y by rw [hl]; exact at_rd q y u, if_pos]
        by_cases h0 : x.f0 = y.f0
        · simp [h0]; exact fun h1 => c ⟨h0, h1⟩
        · simp [h0]
      · constructor
        · intro h; simp at h
        · intro h
          obtain ⟨rfl, _⟩ := List.cons.inj h
          exact absurd ⟨rfl, rfl⟩ c
theorem Same_f (s t : List S25) (hn : s.length ≤ 4611686018427387904) : ∃ b, Ev (fun k => lustrumref04_Same.f k s t) b ∧ (b = true ↔ s = t) := by
  by_cases c : s.length = t.length
  · obtain ⟨b, hb, hs⟩ := Same_l0 s t [] [] (by simpa using hn) rfl c
    exact ⟨b, Ev.congr (fun k => by unfold lustrumref04_Same.f; rw [if_pos (by rw [c])]; rfl) hb, hs⟩
  · exact ⟨false, Ev.congr (fun k => by unfold lustrumref04_Same.f; rw [if_neg (by omega)]) (Ev.now _), by simp; intro h; exact c (by rw [h])⟩
theorem Same_t {s t : List S25} (hn : s.length ≤ 4611686018427387904) (h : s = t) : Ev (fun k => lustrumref04_Same.f k s t) true := by
  obtain ⟨b, hb, hs⟩ := Same_f s t hn
  rwa [hs.2 h] at hb
def endsAt (p : List S25) (b : Int) : Prop := (p = [] ∧ b = -lim - 2) ∨ ∃ q s, p = q ++ [s] ∧ b = s.f1 ∧ -lim ≤ b
theorem rSane_l0 : ∀ (t p : List S25) (b : Int), (p ++ t).length ≤ 4611686018427387904 → endsAt p b → b ≤ lim →
    ∃ r, Ev (fun k => lustrumref04_Sane.l0 k (p ++ t) (p.length : Int)) r ∧ (r = true ↔ saneF b t)
  | [], p, b, _, _, _ => ⟨true, Ev.step (f := fun _ => some true) (fun k => by simp only [lustrumref04_Sane.l0]; rw [if_neg (at_end p)]) (Ev.now true), by simp [saneF]⟩
  | x :: t, p, b, hn, he, hb => by
    have hlen : p.length + 1 ≤ 4611686018427387904 := by simp at hn; omega
    have e : ∀ k, lustrumref04_Sane.l0 (k + 1) (p ++ x :: t) (p.length : Int) = (if x.f0 > x.f1 then some false else if x.f0 < -1099511627776 then some false else if x.f1 > 1099511627776 then some false else if p ≠ [] ∧ x.f0 - 1 ≤ b then some false else lustrumref04_Sane.l0 k (p ++ x :: t) ((p ++ [x]).length : Int)) := fun k => by
      simp only [lustrumref04_Sane.l0]
      rw [if_pos (at_lt p x t), if_pos (at_0 p), at_rd, at_next hn]
      by_cases c1 : x.f0 > x.f1
      · rw [if_pos c1, if_pos c1]
      rw [if_neg c1, if_neg c1]
      by_cases c2 : x.f0 < -1099511627776
      · rw [if_pos c2, if_pos c2]
      rw [if_neg c2, if_neg c2]
      by_cases c3 : x.f1 > 1099511627776
      · rw [if_pos c3, if_pos c3]
      rw [if_neg c3, if_neg c3]
      rcases he with ⟨rfl, rfl⟩ | ⟨q, s, rfl, rfl, hs⟩
      · rw [if_neg (by simp), if_neg (by simp)]
      · have hql : (q ++ [s]).length = q.length + 1 := by simp
        rw [if_pos (by omega), w64 (by omega) (by omega), show (((q ++ [s]).length : Nat) : Int) - 1 = (q.length : Int) by omega, if_pos (by omega), if_pos (by simp; omega), w64 (by omega) (by omega),
          show rd_T25 (q ++ [s] ++ x :: t) (q.length : Int) = s by rw [List.append_assoc]; exact at_rd q s _]
        by_cases c4 : x.f0 - 1 ≤ s.f1
        · rw [if_pos c4, if_pos ⟨by simp, c4⟩]
        · rw [if_neg c4, if_neg (fun h => c4 h.2)]
    have hb2 : p = [] ∨ -lim ≤ b := by rcases he with ⟨h, _⟩ | ⟨_, _, _, _, h⟩; exact .inl h; exact .inr h
    have hb3 : p = [] → b = -lim - 2 := fun h => by rcases he with ⟨_, h⟩ | ⟨q, s, h', _⟩; exact h; rw [h] at h'; simp at h'
    by_cases c1 : x.f0 > x.f1
    · exact ⟨false, Ev.step (f := fun _ => some false) (fun k => by rw [e, if_pos c1]) (Ev.now _), by simp [saneF]; omega⟩
    by_cases c2 : x.f0 < -1099511627776
    · exact ⟨false, Ev.step (f := fun _ => some false) (fun k => by rw [e, if_neg c1, if_pos c2]) (Ev.now _), by simp [saneF]; unfold lim at *; intro h; rcases hb2 with h2 | h2; have := hb3 h2; omega; omega⟩
    by_cases c3 : x.f1 > 1099511627776
    · exact ⟨false, Ev.step (f := fun _ => some false) (fun k => by rw [e, if_neg c1, if_neg c2, if_pos c3]) (Ev.now _), by simp [saneF, lim]; omega⟩
    by_cases c4 : p ≠ [] ∧ x.f0 - 1 ≤ b
    · exact ⟨false, Ev.step (f := fun _ => some false) (fun k => by rw [e, if_neg c1, if_neg c2, if_neg c3, if_pos c4]) (Ev.now _), by simp [saneF]; omega⟩
    obtain ⟨r, hr, hs⟩ := rSane_l0 t (p ++ [x]) x.f1 (by rw [← at_app]; exact hn) (.inr ⟨p, x, rfl, rfl, by unfold lim; omega⟩) (by unfold lim; omega)
    rw [← at_app] at hr
    refine ⟨r, Ev.step (fun k => by rw [e, if_neg c1, if_neg c2, if_neg c3, if_neg c4]) hr, ?_⟩
    rw [hs, saneF]
    unfold lim at *
    refine ⟨fun h => ⟨?_, by omega, by omega, h⟩, fun h => h.2.2.2⟩
    by_cases hp : p = []
    · have := hb3 hp; omega
    · have : ¬ x.f0 - 1 ≤ b := fun h' => c4 ⟨hp, h'⟩
      omega
theorem rSane_f (l : List S25) (hn : l.length ≤ 4611686018427387904) : ∃ b, Ev (fun k => lustrumref04_Sane.f k l) b ∧ (b = true ↔ sane l) :=
  rSane_l0 l [] (-lim - 2) (by simpa using hn) (.inl ⟨rfl, rfl⟩) (by unfold lim; omega)
theorem put_after (x : S25) (hx1 : -lim ≤ x.f0) (hx2 : x.f0 ≤ x.f1) (hx3 : x.f1 ≤ lim) : ∀ (t p B A : List S25), (p ++ t).length < 4398046511104 → B.length + A.length + t.length < 4398046511104 → (∀ q, q ∈ t → x.f1 + 1 < q.f0 ∧ q.f0 ≤ q.f1) →
    Ev (fun k => lustrumref04_put.l0 k (p ++ t) B A (p.length : Int) x.f0 x.f1) (B ++ [x] ++ A ++ t)
  | [], p, B, A, hn, hl, _ => by
    refine Ev.step (f := fun _ => some (B ++ [x] ++ A ++ [])) (fun k => ?_) (Ev.now _)
    simp only [lustrumref04_put.l0]
    simp at hl
    rw [if_neg (at_end p), if_pos (by omega), Option.bind_some, if_pos (by simp; omega)]
    simp
  | q :: t, p, B, A, hn, hl, h => by
    obtain ⟨h1, h2⟩ := h q List.mem_cons_self
    have ih := put_after x hx1 hx2 hx3 t (p ++ [q]) B (A ++ [q]) (by rw [← at_app]; exact hn) (by simp at hl ⊢; omega) (fun r hr => h r (List.mem_cons_of_mem _ hr))
    rw [← at_app] at ih
    refine Ev.step (fun k => ?_) (show Ev _ (B ++ [x] ++ A ++ q :: t) by rw [show B ++ [x] ++ A ++ q :: t = B ++ [x] ++ (A ++ [q]) ++ t by simp]; exact ih)
    unfold lim at hx1 hx3
    simp only [lustrumref04_put.l0]
    rw [if_pos (at_lt p q t), if_pos (at_0 p), at_rd, at_next (show (p ++ q :: t).length ≤ _ by omega), w64 (x := x.f0 - 1) (by omega) (by omega), w64 (x := x.f1 + 1) (by omega) (by omega), if_neg (by omega), if_pos (by omega), if_pos (by simp at hl; omega)]
theorem saneF_all : ∀ {a : Int} {l : List S25}, saneF a l → ∀ q, q ∈ l → a + 2 ≤ q.f0 ∧ q.f0 ≤ q.f1 ∧ q.f1 ≤ lim
  | _, [], _, q, h => by simp at h
  | a, r :: t, ⟨h1, h2, h3, h4⟩, q, hq => by
    rcases List.mem_cons.1 hq with rfl | hq
    · exact ⟨h1, h2, h3⟩
    · have := saneF_all h4 q hq; omega
theorem put_l0 : ∀ (t p B : List S25) (x : S25) (a : Int), -lim ≤ x.f0 → x.f0 ≤ x.f1 → x.f1 ≤ lim → (p ++ t).length < 4398046511104 → B.length + t.length < 4398046511104 → saneF a t → -lim - 2 ≤ a →
    Ev (fun k => lustrumref04_put.l0 k (p ++ t) B [] (p.length : Int) x.f0 x.f1) (B ++ ins x t)
  | [], p, B, x, a, hx1, hx2, hx3, hn, hl, _, _ => by
    have h := put_after x hx1 hx2 hx3 [] p B [] hn (by simpa using hl) (fun q h => by simp at h)
    simpa [ins] using h
  | q :: t, p, B, x, a, hx1, hx2, hx3, hn, hl, ⟨s1, s2, s3, s4⟩, ha => by
    unfold ins
    by_cases c1 : q.f1 < x.f0 - 1
    · rw [if_pos c1]
      have ih := put_l0 t (p ++ [q]) (B ++ [q]) x q.f1 hx1 hx2 hx3 (by rw [← at_app]; exact hn) (by simp at hl ⊢; omega) s4 (by omega)
      rw [← at_app] at ih
      refine Ev.step (fun k => ?_) (show Ev _ (B ++ q :: ins x t) by rw [show B ++ q :: ins x t = (B ++ [q]) ++ ins x t by simp]; exact ih)
      unfold lim at hx1 hx3
      simp only [lustrumref04_put.l0]
      rw [if_pos (at_lt p q t), if_pos (at_0 p), at_rd, at_next (show (p ++ q :: t).length ≤ _ by omega), w64 (x := x.f0 - 1) (by omega) (by omega), if_pos (by omega), if_pos (by simp at hl; omega)]
    · rw [if_neg c1]
      by_cases c2 : x.f1 + 1 < q.f0
      · rw [if_pos c2]
        have h := put_after x hx1 hx2 hx3 (q :: t) p B [] hn (by simpa using hl) (fun r hr => by
          rcases List.mem_cons.1 hr with rfl | hr
          · exact ⟨c2, s2⟩
          · have := saneF_all s4 r hr; omega)
        simpa using h
      · rw [if_neg c2]
        have ih := put_l0 t (p ++ [q]) B ⟨min x.f0 q.f0, max x.f1 q.f1⟩ q.f1 (by simp only; omega) (by simp only; omega) (by simp only; omega) (by rw [← at_app]; exact hn) (by simp at hl ⊢; omega) s4 (by omega)
        rw [← at_app] at ih
        refine Ev.step (fun k => ?_) ih
        unfold lim at hx1 hx3
        simp only [lustrumref04_put.l0]
        rw [if_pos (at_lt p q t), if_pos (at_0 p), at_rd, at_next (show (p ++ q :: t).length ≤ _ by omega), w64 (x := x.f0 - 1) (by omega) (by omega), w64 (x := x.f1 + 1) (by omega) (by omega), if_neg (by omega), if_neg (by omega), mn_min, mx_max]
theorem put_f {s : List S25} (hs : sane s) (hn : s.length < 4398046511104) (lo hi : Int) : Ev (fun k => lustrumref04_put.f k s lo hi) (step s ⟨lo, hi⟩) := by
  unfold step clamp lustrumref04_put.f
  simp only [mx_max, mn_min]
  by_cases c : max lo (-lim) ≤ min hi lim
  · have h := put_l0 s [] [] ⟨max lo (-lim), min hi lim⟩ (-lim - 2) (by simp only; omega) c (by simp only; omega) (by simpa using hn) (by simpa using hn) hs (Int.le_refl _)
    rw [if_pos c]
    unfold lim at c
    refine Ev.congr (fun k => ?_) h
    rw [if_neg (by omega)]
    rfl
  · rw [if_neg c]
    unfold lim at c
    exact Ev.congr (fun k => by rw [if_pos (by omega)]) (Ev.now _)
theorem step_len (s : List S25) (r : S25) : (step s r).length ≤ s.length + 1 := by unfold step; split; exact ins_len _ _; omega
theorem rMake_l0 : ∀ (t p s : List S25), (p ++ t).length < 4398046511104 → s.length + t.length < 4398046511104 → sane s →
    Ev (fun k => lustrumref04_Make.l0 k (p ++ t) s (p.length : Int)) (t.foldl step s)
  | [], p, s, _, _, _ => Ev.step (f := fun _ => some s) (fun k => by simp only [lustrumref04_Make.l0]; rw [if_neg (at_end p)]) (Ev.now _)
  | r :: t, p, s, hn, hl, hs => by
    have ih := rMake_l0 t (p ++ [r]) (step s r) (by rw [← at_app]; exact hn) (by have := step_len s r; simp at hl; omega) (step_sane hs r)
    rw [← at_app] at ih
    refine Ev.step (fun k => ?_) (Ev.bind (f := fun k t284 => lustrumref04_Make.l0 k (p ++ r :: t) t284 ((p ++ [r]).length : Int)) (put_f hs (by simp at hl; omega) r.f0 r.f1) ih)
    simp only [lustrumref04_Make.l0]
    rw [if_pos (at_lt p r t), if_pos (at_0 p), at_rd, at_next (show (p ++ r :: t).length ≤ _ by omega)]
theorem rMake_f (l : List S25) (hn : l.length < 4398046511104) : Ev (fun k => lustrumref04_Make.f k l) (norm l) :=
  rMake_l0 l [] [] (by simpa using hn) (by simpa using hn) trivial
theorem As_f (l : List S25) (hn : l.length < 4398046511104) : Ev (fun k => lustrumref04_As.f k l) (norm l) := by
  obtain ⟨b, hb, hs⟩ := rSane_f l (by omega)
  refine Ev.bind hb ?_
  cases b with
  | true => exact Ev.congr (fun k => by rw [if_pos rfl, norm_of_sane (hs.1 rfl)]) (Ev.now (norm l))
  | false => exact Ev.congr (f := fun k => (lustrumref04_Make.f k l).bind fun t => some t) (fun k => by rw [if_neg (by simp)]) (Ev.bind (rMake_f l hn) (Ev.now _))
def IsSet (m : List S25) (p : Int → Prop) : Prop := sane m ∧ ∀ n, mem m n ↔ -lim ≤ n ∧ n ≤ lim ∧ p n
theorem IsSet.eq {m m' : List S25} {p q : Int → Prop} (h : IsSet m p) (h' : IsSet m' q) (e : ∀ n, -lim ≤ n → n ≤ lim → (p n ↔ q n)) : m = m' :=
  same h.1 h'.1 fun n => by
    rw [h.2, h'.2]
    exact ⟨fun ⟨a, b, c⟩ => ⟨a, b, (e n a b).1 c⟩, fun ⟨a, b, c⟩ => ⟨a, b, (e n a b).2 c⟩⟩
theorem IsSet.congr {m : List S25} {p q : Int → Prop} (h : IsSet m p) (e : ∀ n, -lim ≤ n → n ≤ lim → (p n ↔ q n)) : IsSet m q :=
  ⟨h.1, fun n => by rw [h.2]; exact ⟨fun ⟨a, b, c⟩ => ⟨a, b, (e n a b).1 c⟩, fun ⟨a, b, c⟩ => ⟨a, b, (e n a b).2 c⟩⟩⟩
theorem isSet_norm (l : List S25) : IsSet (norm l) (mem l) := ⟨norm_sane l, norm_mem l⟩
theorem isSet_nil : IsSet [] (fun _ => False) := ⟨trivial, fun n => by simp [mem_nil]⟩
theorem mem_one (r : S25) (n : Int) : mem [r] n ↔ r.f0 ≤ n ∧ n ≤ r.f1 := by rw [mem_cons]; simp [mem_nil]
theorem saneF_app : ∀ {u : List S25} {a c : Int} {v : List S25}, saneF a u → (∀ x, x ∈ u → x.f1 ≤ c) → a ≤ c → saneF c v → saneF a (u ++ v)
  | [], a, c, v, _, _, hc, hv => saneF_le hv hc
  | x :: u, a, c, v, ⟨h1, h2, h3, h4⟩, hu, hc, hv => ⟨h1, h2, h3, saneF_app h4 (fun y hy => hu y (List.mem_cons_of_mem _ hy)) (hu x List.mem_cons_self) hv⟩
def both (r q : S25) : S25 := ⟨max r.f0 q.f0, min r.f1 q.f1⟩
def meet2 : List S25 → List S25 → List S25
  | [], _ => []
  | _ :: _, [] => []
  | r :: s, q :: t => (if (both r q).f0 ≤ (both r q).f1 then [both r q] else []) ++ (if r.f1 < q.f1 then meet2 s (q :: t) else meet2 (r :: s) t)
termination_by s t => s.length + t.length
theorem meet2_nil (s : List S25) : meet2 s [] = [] := by cases s <;> simp [meet2]
theorem meet2_cons (r : S25) (s : List S25) (q : S25) (t : List S25) : meet2 (r :: s) (q :: t) = (if (both r q).f0 ≤ (both r q).f1 then [both r q] else []) ++ (if r.f1 < q.f1 then meet2 s (q :: t) else meet2 (r :: s) t) := by rw [meet2]
theorem meet2_len : ∀ (m : Nat) (s t : List S25), s.length + t.length = m → (meet2 s t).length ≤ s.length + t.length
  | _, [], t, _ => by simp [meet2]
  | _, s, [], _ => by simp [meet2_nil]
  | m + 1, r :: s, q :: t, e => by
    simp only [List.length_cons] at e
    rw [meet2_cons, List.length_append]
    have h1 : (if (both r q).f0 ≤ (both r q).f1 then [both r q] else []).length ≤ 1 := by split <;> simp
    by_cases c : r.f1 < q.f1
    · rw [if_pos c]
      have := meet2_len m s (q :: t) (by simp only [List.length_cons]; omega)
      simp only [List.length_cons] at this ⊢
      omega
    · rw [if_neg c]
      have := meet2_len m (r :: s) t (by simp only [List.length_cons]; omega)
      simp only [List.length_cons] at this ⊢
      omega
theorem meet2_sane : ∀ (m : Nat) (s t : List S25) (a b : Int), s.length + t.length = m → saneF a s → saneF b t → saneF (max a b) (meet2 s t)
  | _, [], t, _, _, _, _, _ => by simp [meet2, saneF]
  | _, s, [], _, _, _, _, _ => by simp [meet2_nil, saneF]
  | m + 1, r :: s, q :: t, a, b, e, hs, ht => by
    simp only [List.length_cons] at e
    obtain ⟨r1, r2, r3, r4⟩ := hs
    obtain ⟨q1, q2, q3, q4⟩ := ht
    have ht : saneF (if r.f1 < q.f1 then max r.f1 b else max a q.f1) (if r.f1 < q.f1 then meet2 s (q :: t) else meet2 (r :: s) t) := by
      split
      · exact meet2_sane m s (q :: t) _ _ (by simp only [List.length_cons]; omega) r4 ⟨q1, q2, q3, q4⟩
      · exact meet2_sane m (r :: s) t _ _ (by simp only [List.length_cons]; omega) ⟨r1, r2, r3, r4⟩ q4
    rw [meet2_cons]
    by_cases c : (both r q).f0 ≤ (both r q).f1
    · rw [if_pos c]
      simp only [both] at c
      refine ⟨by simp only [both]; omega, by simp only [both]; exact c, by simp only [both]; omega, saneF_le ht ?_⟩
      simp only [both]
      split <;> omega
    · rw [if_neg c, List.nil_append]
      refine saneF_le ht ?_
      split <;> omega
theorem meet2_mem : ∀ (m : Nat) (s t : List S25) (a b : Int), s.length + t.length = m → saneF a s → saneF b t → ∀ n, mem (meet2 s t) n ↔ mem s n ∧ mem t n
  | _, [], t, _, _, _, _, _, n => by simp [meet2, mem_nil]
  | _, s, [], _, _, _, _, _, n => by simp [meet2_nil, mem_nil]
  | m + 1, r :: s, q :: t, a, b, e, hs, ht, n => by
    simp only [List.length_cons] at e
    have hs0 := hs; have ht0 := ht
    obtain ⟨r1, r2, r3, r4⟩ := hs
    obtain ⟨q1, q2, q3, q4⟩ := ht
    have ho : mem (if (both r q).f0 ≤ (both r q).f1 then [both r q] else []) n ↔ (r.f0 ≤ n ∧ n ≤ r.f1) ∧ q.f0 ≤ n ∧ n ≤ q.f1 := by
      by_cases c : (both r q).f0 ≤ (both r q).f1
      · rw [if_pos c, mem_one]; simp only [both]; omega
      · rw [if_neg c]; simp only [both] at c; constructor
        · exact fun h => absurd h (mem_nil _)
        · intro h; omega
    rw [meet2_cons, mem_append, ho]
    by_cases c : r.f1 < q.f1
    · rw [if_pos c, meet2_mem m s (q :: t) _ _ (by simp only [List.length_cons]; omega) r4 ht0 n, mem_cons, mem_cons]
      have h1 : mem t n → q.f1 + 2 ≤ n := fun h => (saneF_mem q4 h).1
      constructor
      · rintro (h | h)
        · exact ⟨.inl h.1, .inl h.2⟩
        · exact ⟨.inr h.1, h.2⟩
      · rintro ⟨h | h, h'⟩
        · rcases h' with h' | h'
          · exact .inl ⟨h, h'⟩
          · have := h1 h'; omega
        · exact .inr ⟨h, h'⟩
    · rw [if_neg c, meet2_mem m (r :: s) t _ _ (by simp only [List.length_cons]; omega) hs0 q4 n, mem_cons, mem_cons]
      have h1 : mem s n → r.f1 + 2 ≤ n := fun h => (saneF_mem r4 h).1
      constructor
      · rintro (h | h)
        · exact ⟨.inl h.1, .inl h.2⟩
        · exact ⟨h.1, .inr h.2⟩
      · rintro ⟨h, h' | h'⟩
        · rcases h with h | h
          · exact .inl ⟨h, h'⟩
          · have := h1 h; omega
        · exact .inr ⟨h, h'⟩
theorem Meet_l0 : ∀ (m : Nat) (s t p q acc : List S25), s.length + t.length = m → (p ++ s).length < 4398046511104 → (q ++ t).length < 4398046511104 → acc.length + s.length + t.length < 8796093022208 →
    Ev (fun k => sets_Meet.l0 k (p ++ s) (q ++ t) acc (p.length : Int) (q.length : Int)) (acc ++ meet2 s t)
  | _, [], t, p, q, acc, _, _, _, _ => by
    refine Ev.step (f := fun k => sets_Meet.j1 k (p ++ []) (q ++ t) acc (p.length : Int) (q.length : Int) false) (fun k => by rw [sets_Meet.l0, if_neg (at_end p)]) ?_
    refine Ev.step (f := fun _ => some (acc ++ meet2 [] t)) (fun k => by rw [sets_Meet.j1, if_neg (by simp)]; simp [meet2]) (Ev.now _)
  | _, r :: s, [], p, q, acc, _, _, _, _ => by
    refine Ev.step (f := fun k => sets_Meet.j1 k (p ++ r :: s) (q ++ []) acc (p.length : Int) (q.length : Int) false) (fun k => by rw [sets_Meet.l0, if_pos (at_lt p r s), decide_eq_false (at_end q)]) ?_
    refine Ev.step (f := fun _ => some (acc ++ meet2 (r :: s) [])) (fun k => by rw [sets_Meet.j1, if_neg (by simp)]; simp [meet2_nil]) (Ev.now _)
  | m + 1, r :: s, x :: t, p, q, acc, e, h1, h2, h3 => by
    simp only [List.length_cons] at e h3
    refine Ev.step (f := fun k => sets_Meet.j1 k (p ++ r :: s) (q ++ x :: t) acc (p.length : Int) (q.length : Int) true) (fun k => by rw [sets_Meet.l0, if_pos (at_lt p r s), decide_eq_true (at_lt q x t)]) ?_
    have hn1 := at_next (p := p) (r := r) (t := s) (by omega)
    have hn2 := at_next (p := q) (r := x) (t := t) (by omega)
    have hgo : ∀ acc' : List S25, acc'.length + (s.length + 1) + (t.length + 1) ≤ acc.length + (s.length + 1) + (t.length + 1) + 1 →
        Ev (fun k => if (r.f1) < (x.f1) then sets_Meet.l0 k (p ++ r :: s) (q ++ x :: t) acc' (wrap64 ((p.length : Int) + 1)) (q.length : Int) else sets_Meet.l0 k (p ++ r :: s) (q ++ x :: t) acc' (p.length : Int) (wrap64 ((q.length : Int) + 1)))
          (acc' ++ (if r.f1 < x.f1 then meet2 s (x :: t) else meet2 (r :: s) t)) := fun acc' ha => by
      by_cases c : r.f1 < x.f1
      · rw [if_pos c]
        refine Ev.ift c ?_
        rw [hn1]
        have := Meet_l0 m s (x :: t) (p ++ [r]) q acc' (by simp only [List.length_cons]; omega) (by rw [← at_app]; exact h1) h2 (by simp only [List.length_cons]; omega)
        rw [← at_app] at this
        exact this
      · rw [if_neg c]
        refine Ev.iff_ c ?_
        rw [hn2]
        have := Meet_l0 m (r :: s) t p (q ++ [x]) acc' (by simp only [List.length_cons]; omega) h1 (by rw [← at_app]; exact h2) (by simp only [List.length_cons]; omega)
        rw [← at_app] at this
        exact this
    rw [meet2_cons]
    by_cases c : (both r x).f0 ≤ (both r x).f1
    · rw [if_pos c, ← List.append_assoc]
      refine Ev.step (fun k => ?_) (hgo (acc ++ [both r x]) (by rw [List.length_append, List.length_singleton]; omega))
      rw [sets_Meet.j1, if_pos rfl, if_pos (at_0 p), if_pos (at_lt p r s), if_pos (at_0 q), if_pos (at_lt q x t), at_rd, at_rd, mx_max, mn_min, if_pos (show max r.f0 x.f0 ≤ min r.f1 x.f1 from c), if_pos (by omega)]
      rfl
    · rw [if_neg c, List.nil_append]
      refine Ev.step (fun k => ?_) (hgo acc (by omega))
      rw [sets_Meet.j1, if_pos rfl, if_pos (at_0 p), if_pos (at_lt p r s), if_pos (at_0 q), if_pos (at_lt q x t), at_rd, at_rd, mx_max, mn_min, if_neg (show ¬ max r.f0 x.f0 ≤ min r.f1 x.f1 from c)]
theorem Meet_f (a b : List S25) (h : a.length + b.length < 4398046511104) : ∃ m, Ev (fun k => sets_Meet.f k a b) m ∧ IsSet m (fun n => mem a n ∧ mem b n) ∧ m.length ≤ a.length + b.length := by
  have h1 := norm_len a
  have h2 := norm_len b
  refine ⟨meet2 (norm a) (norm b), Ev.bind (sknown_f a (by omega)) (Ev.bind (sknown_f b (by omega)) ?_), ⟨?_, fun n => ?_⟩, ?_⟩
  · have := Meet_l0 _ (norm a) (norm b) [] [] [] rfl (by simp; omega) (by simp; omega) (by simp; omega)
    simpa using this
  · have := meet2_sane _ (norm a) (norm b) _ _ rfl (norm_sane a) (norm_sane b)
    rw [Int.max_self] at this
    exact this
  · rw [meet2_mem _ (norm a) (norm b) _ _ rfl (norm_sane a) (norm_sane b), norm_mem, norm_mem]
    exact ⟨fun ⟨⟨u, v, x⟩, _, _, y⟩ => ⟨u, v, x, y⟩, fun ⟨u, v, x, y⟩ => ⟨⟨u, v, x⟩, u, v, y⟩⟩
  · have := meet2_len _ (norm a) (norm b) rfl
    omega
def gaps : Int → List S25 → List S25
  | x, [] => if x ≤ lim then [⟨x, lim⟩] else []
  | x, r :: t => if x < r.f0 then ⟨x, r.f0 - 1⟩ :: gaps (r.f1 + 1) t else gaps (r.f1 + 1) t
theorem gaps_sane : ∀ (s : List S25) (x : Int), saneF (x - 2) s → saneF (x - 2) (gaps x s)
  | [], x, _ => by
    unfold gaps
    split
    · exact ⟨by simp only; omega, by assumption, Int.le_refl _, trivial⟩
    · trivial
  | r :: t, x, ⟨h1, h2, h3, h4⟩ => by
    unfold gaps
    have ih := gaps_sane t (r.f1 + 1) (saneF_le h4 (by omega))
    split
    · exact ⟨by simp only; omega, by simp only; omega, by simp only; omega, saneF_le ih (by simp only; omega)⟩
    · exact saneF_le ih (by omega)
theorem gaps_mem : ∀ (s : List S25) (x : Int), saneF (x - 2) s → ∀ n, mem (gaps x s) n ↔ x ≤ n ∧ n ≤ lim ∧ ¬ mem s n
  | [], x, _, n => by
    unfold gaps
    split
    · rw [mem_one]; simp [mem_nil]
    · simp only [mem_nil]
      constructor
      · exact fun h => h.elim
      · rintro ⟨h1, h2, _⟩; omega
  | r :: t, x, ⟨h1, h2, h3, h4⟩, n => by
    have hs : saneF (r.f1 + 1 - 2) t := saneF_le h4 (by omega)
    have ih := gaps_mem t (r.f1 + 1) hs n
    have ht : mem t n → r.f1 + 2 ≤ n := fun h => (saneF_mem h4 h).1
    unfold gaps
    split
    · rw [mem_cons, mem_cons, ih]
      simp only
      constructor
      · rintro (h | ⟨u, v, z⟩)
        · exact ⟨by omega, by omega, fun h' => h'.elim (fun h' => by omega) (fun h' => by have := ht h'; omega)⟩
        · exact ⟨by omega, v, fun h' => h'.elim (fun h' => by omega) z⟩
      · rintro ⟨u, v, z⟩
        by_cases c : n < r.f0
        · exact .inl (by omega)
        · refine .inr ⟨?_, v, fun h' => z (.inr h')⟩
          have : ¬ (r.f0 ≤ n ∧ n ≤ r.f1) := fun h' => z (.inl h')
          omega
    · rw [mem_cons, ih]
      constructor
      · rintro ⟨u, v, z⟩
        exact ⟨by omega, v, fun h' => h'.elim (fun h' => by omega) z⟩
      · rintro ⟨u, v, z⟩
        refine ⟨?_, v, fun h' => z (.inr h')⟩
        have : ¬ (r.f0 ≤ n ∧ n ≤ r.f1) := fun h' => z (.inl h')
        omega
theorem gaps_len : ∀ (s : List S25) (x : Int), (gaps x s).length ≤ s.length + 1
  | [], x => by unfold gaps; split <;> simp
  | r :: t, x => by
    have := gaps_len t (r.f1 + 1)
    unfold gaps
    split <;> simp only [List.length_cons] <;> omega
theorem Minus_l0 (a : List S25) (z : List S25) : ∀ (t p acc : List S25) (x b : Int), saneF b t → -lim ≤ x → x ≤ lim + 1 → -lim - 2 ≤ b → (p ++ t).length < 4398046511104 → acc.length + t.length < 4398046511104 → acc ++ gaps x t = z → (∀ m, Ev (fun k => sets_Meet.f k a z) m →
    Ev (fun k => sets_Minus.l0 k a acc x (p ++ t) ((p ++ t).length : Int) (p.length : Int)) m)
  | [], p, acc, x, b, _, h1, h2, _, h3, h4, hz, m, hm => by
    simp only [List.length_nil] at h4
    by_cases c : x ≤ lim
    · simp only [gaps, if_pos c] at hz
      refine Ev.step (f := fun k => (sets_Meet.f k a z).bind fun t => some t) (fun k => ?_) (Ev.bind hm (Ev.now _))
      rw [sets_Minus.l0, if_neg (at_end p), if_pos (by unfold lim at c; omega), if_pos (by omega), ← hz]
      rfl
    · simp only [gaps, if_neg c, List.append_nil] at hz
      refine Ev.step (f := fun k => (sets_Meet.f k a z).bind fun t => some t) (fun k => ?_) (Ev.bind hm (Ev.now _))
      rw [sets_Minus.l0, if_neg (at_end p), if_neg (by unfold lim at c; omega), ← hz]
  | r :: t, p, acc, x, b, ⟨r1, r2, r3, r4⟩, h1, h2, h0, h3, h4, hz, m, hm => by
    simp only [List.length_cons] at h4
    have hn := at_next (p := p) (r := r) (t := t) (by omega)
    have w1 : wrap64 (r.f1 + 1) = r.f1 + 1 := w64 (by unfold lim at *; omega) (by unfold lim at *; omega)
    have w2 : wrap64 (r.f0 - 1) = r.f0 - 1 := w64 (by unfold lim at *; omega) (by unfold lim at *; omega)
    by_cases c : x < r.f0
    · simp only [gaps, if_pos c] at hz
      have := Minus_l0 a z t (p ++ [r]) (acc ++ [⟨x, r.f0 - 1⟩]) (r.f1 + 1) r.f1 r4 (by omega) (by omega) (by omega) (by rw [← at_app]; exact h3) (by rw [List.length_append, List.length_singleton]; omega) (by rw [← hz]; simp) m hm
      rw [← at_app] at this
      refine Ev.step (fun k => ?_) this
      rw [sets_Minus.l0, if_pos (at_lt p r t), if_pos (at_0 p), if_pos (at_lt p r t), at_rd, if_pos c, if_pos (by omega), w1, w2, hn]
    · simp only [gaps, if_neg c] at hz
      have := Minus_l0 a z t (p ++ [r]) acc (r.f1 + 1) r.f1 r4 (by omega) (by omega) (by omega) (by rw [← at_app]; exact h3) (by omega) hz m hm
      rw [← at_app] at this
      refine Ev.step (fun k => ?_) this
      rw [sets_Minus.l0, if_pos (at_lt p r t), if_pos (at_0 p), if_pos (at_lt p r t), at_rd, if_neg c, w1, hn]
theorem Minus_f (a b : List S25) (h : a.length + b.length < 4398046511100) : ∃ m, Ev (fun k => sets_Minus.f k a b) m ∧ IsSet m (fun n => mem a n ∧ ¬ mem b n) ∧ m.length ≤ a.length + b.length + 1 := by
  have h2 := norm_len b
  have hl := gaps_len (norm b) (-lim)
  have hs := gaps_sane (norm b) (-lim) (norm_sane b)
  obtain ⟨m, hm, hi, hk⟩ := Meet_f a (gaps (-lim) (norm b)) (by omega)
  refine ⟨m, Ev.bind (sknown_f b (by omega)) ?_, hi.congr fun n h3 h4 => ?_, by omega⟩
  · have := Minus_l0 a _ (norm b) [] [] (-lim) _ (norm_sane b) (Int.le_refl _) (by unfold lim; omega) (Int.le_refl _) (by simp; omega) (by simp; omega) rfl m (by simpa using hm)
    simp only [List.nil_append, List.length_nil] at this
    exact this
  · rw [gaps_mem _ _ (norm_sane b), norm_mem]
    constructor
    · rintro ⟨u, _, _, v⟩
      exact ⟨u, fun hb => v ⟨h3, h4, hb⟩⟩
    · rintro ⟨u, v⟩
      exact ⟨u, h3, h4, fun hb => v hb.2.2⟩
def shifted (lo hi : Int) (r : S25) : S25 := ⟨r.f0 + lo, r.f1 + hi⟩
theorem saneF_bounds {a : Int} {l : List S25} (h : saneF a l) (ha : -lim - 2 ≤ a) : ∀ r, r ∈ l → -lim ≤ r.f0 ∧ r.f0 ≤ lim ∧ -lim ≤ r.f1 ∧ r.f1 ≤ lim := fun r hr => by
  obtain ⟨h1, h2, h3⟩ := saneF_all h r hr
  omega
theorem moved_l0 (lo hi : Int) (h1 : -2199023255552 ≤ lo) (h2 : lo ≤ 2199023255552) (h3 : -2199023255552 ≤ hi) (h4 : hi ≤ 2199023255552) : ∀ (t p acc : List S25), (∀ r, r ∈ t → -lim ≤ r.f0 ∧ r.f0 ≤ lim ∧ -lim ≤ r.f1 ∧ r.f1 ≤ lim) → (p ++ t).length < 4398046511104 → acc.length + t.length < 4398046511104 →
    Ev (fun k => sets_moved.l0 k lo hi acc (p ++ t) ((p ++ t).length : Int) (p.length : Int)) (norm (acc ++ t.map (shifted lo hi)))
  | [], p, acc, _, _, hl => by
    simp only [List.length_nil] at hl
    refine Ev.step (f := fun k => (runs_Make.f acc).bind fun t => some t) (fun k => by rw [sets_moved.l0, if_neg (at_end p)]) ?_
    simp only [List.map_nil, List.append_nil]
    exact Ev.bind (Make_f (by omega)) (Ev.now _)
  | r :: t, p, acc, hb, hn, hl => by
    simp only [List.length_cons] at hl
    obtain ⟨b1, b2, b3, b4⟩ := hb r List.mem_cons_self
    have h := moved_l0 lo hi h1 h2 h3 h4 t (p ++ [r]) (acc ++ [shifted lo hi r]) (fun q hq => hb q (List.mem_cons_of_mem _ hq)) (by rw [← at_app]; exact hn) (by rw [List.length_append, List.length_singleton]; omega)
    rw [← at_app] at h
    refine Ev.eq (Ev.step (fun k => ?_) h) (by simp)
    rw [sets_moved.l0, if_pos (at_lt p r t), if_pos (at_0 p), if_pos (at_lt p r t), if_pos (by omega), at_rd, at_next (p := p) (r := r) (t := t) (by omega), w64 (by unfold lim at *; omega) (by unfold lim at *; omega), w64 (by unfold lim at *; omega) (by unfold lim at *; omega)]
    rfl
theorem moved_f (l : List S25) (lo hi : Int) (h1 : -2199023255552 ≤ lo) (h2 : lo ≤ 2199023255552) (h3 : -2199023255552 ≤ hi) (h4 : hi ≤ 2199023255552) (hn : l.length < 4398046511104) :
    Ev (fun k => sets_moved.f k l lo hi) (norm ((norm l).map (shifted lo hi))) := by
  have hl := norm_len l
  refine Ev.bind (sknown_f l hn) ?_
  have := moved_l0 lo hi h1 h2 h3 h4 (norm l) [] [] (saneF_bounds (norm_sane l) (Int.le_refl _)) (by simp; omega) (by simp; omega)
  simpa using this
theorem mem_shift (l : List S25) (k n : Int) : mem (l.map (shifted k k)) n ↔ mem l (n - k) := by
  constructor
  · rintro ⟨r, hr, h1, h2⟩
    obtain ⟨q, hq, rfl⟩ := List.mem_map.1 hr
    simp only [shifted] at h1 h2
    exact ⟨q, hq, by omega, by omega⟩
  · rintro ⟨q, hq, h1, h2⟩
    exact ⟨_, List.mem_map.2 ⟨q, hq, rfl⟩, by simp only [shifted]; omega, by simp only [shifted]; omega⟩
theorem mem_grow {l : List S25} (hs : ∀ r, r ∈ l → r.f0 ≤ r.f1) (k n : Int) (hk : 0 ≤ k) : mem (l.map (shifted (-k) k)) n ↔ ∃ x, mem l x ∧ x - k ≤ n ∧ n ≤ x + k := by
  constructor
  · rintro ⟨r, hr, h1, h2⟩
    obtain ⟨q, hq, rfl⟩ := List.mem_map.1 hr
    simp only [shifted] at h1 h2
    have := hs q hq
    exact ⟨max q.f0 (min q.f1 n), ⟨q, hq, by omega, by omega⟩, by omega, by omega⟩
  · rintro ⟨x, ⟨q, hq, h1, h2⟩, h3, h4⟩
    exact ⟨_, List.mem_map.2 ⟨q, hq, rfl⟩, by simp only [shifted]; omega, by simp only [shifted]; omega⟩
theorem norm_runs (l : List S25) : ∀ r, r ∈ norm l → r.f0 ≤ r.f1 := fun r hr => (saneF_all (norm_sane l) r hr).2.1
theorem shift_far {l : List S25} {k : Int} (hk : k > 2199023255552 ∨ k < -2199023255552) : IsSet [] (fun n => mem (norm l) (n - k)) :=
  isSet_nil.congr fun n h1 h2 => ⟨fun h => h.elim, fun h => by have := sane_mem (norm_sane l) h; unfold lim at *; omega⟩
theorem map_len (l : List S25) (f : S25 → S25) : (norm ((norm l).map f)).length ≤ l.length := by
  have h1 := norm_len ((norm l).map f)
  have h2 := norm_len l
  rw [List.length_map] at h1
  omega
theorem Shift_f (l : List S25) (k : Int) (hn : l.length < 4398046511104) : ∃ m, Ev (fun i => sets_Shift.f i l k) m ∧ IsSet m (fun n => mem (norm l) (n - k)) ∧ m.length ≤ l.length := by
  by_cases c1 : k > 2199023255552
  · exact ⟨[], Ev.ift c1 (Ev.now _), shift_far (.inl c1), by simp⟩
  by_cases c2 : k < -2199023255552
  · exact ⟨[], Ev.iff_ c1 (Ev.ift c2 (Ev.now _)), shift_far (.inr c2), by simp⟩
  refine ⟨_, Ev.iff_ c1 (Ev.iff_ c2 (Ev.bind (moved_f l k k (by omega) (by omega) (by omega) (by omega) hn) (Ev.now _))), ?_, map_len _ _⟩
  exact (isSet_norm _).congr fun n _ _ => mem_shift _ _ _
def near (k : Int) : Int := max 0 (min k 2199023255552)
theorem grown (l : List S25) (k : Int) : IsSet (norm ((norm l).map (shifted (-(near k)) (near k)))) (fun n => ∃ x, mem (norm l) x ∧ x - near k ≤ n ∧ n ≤ x + near k) :=
  (isSet_norm _).congr fun n _ _ => mem_grow (norm_runs l) _ _ (by unfold near; omega)
theorem Grow_f (l : List S25) (k : Int) (hn : l.length < 4398046511104) : ∃ m, Ev (fun i => sets_Grow.f i l k) m ∧ IsSet m (fun n => ∃ x, mem (norm l) x ∧ x - near k ≤ n ∧ n ≤ x + near k) ∧ m.length ≤ l.length := by
  refine ⟨_, ?_, grown l k, map_len _ _⟩
  have h : mx 0 (mn k 2199023255552) = near k := by rw [mx_max, mn_min]; rfl
  refine Ev.congr (f := fun i => (sets_moved.f i l (-(near k)) (near k)).bind fun t => some t) (fun i => by rw [sets_Grow.f, h]) ?_
  exact Ev.bind (moved_f l _ _ (by unfold near; omega) (by unfold near; omega) (by unfold near; omega) (by unfold near; omega) hn) (Ev.now _)
theorem Clip_f (l : List S25) (lo hi : Int) (hn : l.length < 4398046511100) : ∃ m, Ev (fun i => sets_Clip.f i l lo hi) m ∧ IsSet m (fun n => mem l n ∧ lo ≤ n ∧ n ≤ hi) ∧ m.length ≤ l.length + 1 := by
  obtain ⟨m, h1, h2, h3⟩ := Meet_f l [⟨lo, hi⟩] (by simp; omega)
  refine ⟨m, Ev.bind h1 (Ev.now _), h2.congr fun n _ _ => ?_, by simpa using h3⟩
  rw [mem_one]
theorem Union_f (a b : List S25) (h : a.length + b.length < 4398046511104) : Ev (fun _ => sets_Union.f a b) (norm (a ++ b)) := ⟨0, fun _ _ => by unfold sets_Union.f; rw [if_pos h]⟩
theorem Wide_f (l : List S25) (hn : l.length < 4398046511104) : Ev (fun i => sets_Wide.f i l) (decide (((norm l).length : Int) > 400)) := Ev.bind (sknown_f l hn) (Ev.now _)
theorem rUnion_f (a b : List S25) (h : a.length + b.length < 4398046511104) : Ev (fun k => lustrumref05_Union.f k a b) (norm (a ++ b)) := by
  refine Ev.bnow rfl (Ev.ift (by simp; omega) (Ev.bnow rfl (Ev.ift (by simp; omega) ?_)))
  exact Ev.bind (rMake_f _ (by simp; omega)) (Ev.now _)
def row (r : S25) (t : List S25) : List S25 := t.flatMap fun q => if (both r q).f0 ≤ (both r q).f1 then [both r q] else []
def pairs (s t : List S25) : List S25 := s.flatMap fun r => row r t
theorem row_sane (r : S25) (hr : r.f1 ≤ lim) : ∀ (t : List S25) (a b : Int), a + 2 ≤ r.f0 → saneF b t → saneF (max a b) (row r t) ∧ ∀ x, x ∈ row r t → x.f1 ≤ r.f1
  | [], _, _, _, _ => ⟨trivial, fun x hx => by simp [row] at hx⟩
  | q :: t, a, b, ha, ⟨q1, q2, q3, q4⟩ => by
    obtain ⟨h1, h2⟩ := row_sane r hr t a q.f1 ha q4
    have e : row r (q :: t) = (if (both r q).f0 ≤ (both r q).f1 then [both r q] else []) ++ row r t := by simp [row]
    rw [e]
    by_cases c : (both r q).f0 ≤ (both r q).f1
    · rw [if_pos c]
      simp only [both] at c
      by_cases c2 : q.f1 ≤ r.f1
      · refine ⟨⟨by simp only [both]; omega, by simp only [both]; exact c, by simp only [both]; omega, saneF_le h1 (by simp only [both]; omega)⟩, fun x hx => ?_⟩
        rcases List.mem_cons.1 hx with rfl | hx
        · simp only [both]; omega
        · exact h2 x hx
      · have hno : row r t = [] := by
          unfold row
          rw [List.flatMap_eq_nil_iff]
          intro x hx
          have := (saneF_all q4 x hx).1
          rw [if_neg (by simp only [both]; omega)]
        rw [hno]
        refine ⟨⟨by simp only [both]; omega, by simp only [both]; exact c, by simp only [both]; omega, trivial⟩, fun x hx => ?_⟩
        obtain rfl : x = both r q := by simpa using hx
        simp only [both]; omega
    · rw [if_neg c, List.nil_append]
      exact ⟨saneF_le h1 (by omega), h2⟩
theorem pairs_sane : ∀ (s t : List S25) (a b : Int), saneF a s → saneF b t → saneF (max a b) (pairs s t)
  | [], _, _, _, _, _ => by simp [pairs, saneF]
  | r :: s, t, a, b, ⟨r1, r2, r3, r4⟩, ht => by
    obtain ⟨h1, h2⟩ := row_sane r r3 t a b r1 ht
    have h3 := pairs_sane s t r.f1 b r4 ht
    have e : pairs (r :: s) t = row r t ++ pairs s t := by simp [pairs]
    rw [e]
    exact saneF_app h1 (c := max r.f1 b) (fun x hx => by have := h2 x hx; omega) (by omega) h3
theorem pairs_mem (s t : List S25) (n : Int) : mem (pairs s t) n ↔ mem s n ∧ mem t n := by
  constructor
  · rintro ⟨x, hx, h1, h2⟩
    obtain ⟨r, hr, hx⟩ := List.mem_flatMap.1 hx
    obtain ⟨q, hq, hx⟩ := List.mem_flatMap.1 hx
    by_cases c : (both r q).f0 ≤ (both r q).f1
    · rw [if_pos c] at hx
      obtain rfl : x = both r q := by simpa using hx
      simp only [both] at h1 h2
      exact ⟨⟨r, hr, by omega, by omega⟩, ⟨q, hq, by omega, by omega⟩⟩
    · rw [if_neg c] at hx; simp at hx
  · rintro ⟨⟨r, hr, h1, h2⟩, q, hq, h3, h4⟩
    refine ⟨both r q, List.mem_flatMap.2 ⟨r, hr, List.mem_flatMap.2 ⟨q, hq, ?_⟩⟩, by simp only [both]; omega, by simp only [both]; omega⟩
    rw [if_pos (by simp only [both]; omega)]
    simp
theorem rMeet_l1 (s : List S25) (r : S25) (p : List S25) (u : List S25) (z : List S25) (hp : (p ++ r :: s).length < 4398046511104) : ∀ (t q acc : List S25), (q ++ t).length < 4398046511104 → acc.length + t.length < 8796093022208 →
    Ev (fun k => lustrumref05_Meet.l0 k (p ++ r :: s) (q ++ t) (acc ++ row r t) ((p ++ [r]).length : Int)) z → Ev (fun k => lustrumref05_Meet.l1 k (p ++ r :: s) (q ++ t) acc (p.length : Int) (q.length : Int)) z
  | [], q, acc, _, _, h => by
    simp only [row, List.flatMap_nil, List.append_nil] at h
    refine Ev.step (fun k => ?_) (by simpa using h)
    rw [lustrumref05_Meet.l1, if_neg (at_end q), at_next (p := p) (r := r) (t := s) (by omega)]
    simp
  | x :: t, q, acc, hq, hl, h => by
    simp only [List.length_cons] at hl
    have e : row r (x :: t) = (if (both r x).f0 ≤ (both r x).f1 then [both r x] else []) ++ row r t := by simp [row]
    rw [e, ← List.append_assoc] at h
    by_cases c : (both r x).f0 ≤ (both r x).f1
    · rw [if_pos c] at h
      have := rMeet_l1 s r p u z hp t (q ++ [x]) (acc ++ [both r x]) (by rw [← at_app]; exact hq) (by rw [List.length_append, List.length_singleton]; omega) (by rw [← at_app]; exact h)
      rw [← at_app] at this
      refine Ev.step (fun k => ?_) this
      rw [lustrumref05_Meet.l1, if_pos (at_lt q x t), if_pos (at_0 p), if_pos (at_lt p r s), if_pos (at_0 q), at_rd, at_rd, mx_max, mn_min, if_pos (show max r.f0 x.f0 ≤ min r.f1 x.f1 from c), if_pos (by omega), at_next (p := q) (r := x) (t := t) (by omega)]
      rfl
    · rw [if_neg c, List.append_nil] at h
      have := rMeet_l1 s r p u z hp t (q ++ [x]) acc (by rw [← at_app]; exact hq) (by omega) (by rw [← at_app]; exact h)
      rw [← at_app] at this
      refine Ev.step (fun k => ?_) this
      rw [lustrumref05_Meet.l1, if_pos (at_lt q x t), if_pos (at_0 p), if_pos (at_lt p r s), if_pos (at_0 q), at_rd, at_rd, mx_max, mn_min, if_neg (show ¬ max r.f0 x.f0 ≤ min r.f1 x.f1 from c), at_next (p := q) (r := x) (t := t) (by omega)]
theorem row_len (r : S25) : ∀ t : List S25, (row r t).length ≤ t.length
  | [] => by simp [row]
  | q :: t => by
    have := row_len r t
    have e : row r (q :: t) = (if (both r q).f0 ≤ (both r q).f1 then [both r q] else []) ++ row r t := by simp [row]
    rw [e, List.length_append, List.length_cons]
    by_cases c : (both r q).f0 ≤ (both r q).f1
    · rw [if_pos c, List.length_singleton]; omega
    · rw [if_neg c, List.length_nil]; omega
theorem rMeet_l0 (t : List S25) (ht : t.length < 4398046511104) : ∀ (s p acc : List S25), (p ++ s).length < 4398046511104 → acc.length + s.length * t.length < 4398046511104 →
    Ev (fun k => lustrumref05_Meet.l0 k (p ++ s) t acc (p.length : Int)) (acc ++ pairs s t)
  | [], p, acc, _, _ => by
    refine Ev.step (f := fun _ => some (acc ++ pairs [] t)) (fun k => ?_) (Ev.now _)
    rw [lustrumref05_Meet.l0, if_neg (at_end p)]
    simp [pairs]
  | r :: s, p, acc, hp, hl => by
    have hr := row_len r t
    simp only [List.length_cons, Nat.succ_mul] at hl
    have h := rMeet_l0 t ht s (p ++ [r]) (acc ++ row r t) (by rw [← at_app]; exact hp) (by rw [List.length_append]; omega)
    rw [← at_app] at h
    have e : pairs (r :: s) t = row r t ++ pairs s t := by simp [pairs]
    rw [e, ← List.append_assoc]
    have h2 := rMeet_l1 s r p t _ hp t [] acc (by simpa using ht) (by omega) (by simpa using h)
    refine Ev.step (fun k => ?_) (by simpa using h2)
    rw [lustrumref05_Meet.l0, if_pos (at_lt p r s)]
theorem rMeet_f (a b : List S25) (h1 : a.length * b.length < 4398046511104) (h2 : a.length < 4398046511104) (h3 : b.length < 4398046511104) : ∃ m, Ev (fun k => lustrumref05_Meet.f k a b) m ∧ IsSet m (fun n => mem a n ∧ mem b n) := by
  have n1 := norm_len a
  have n2 := norm_len b
  have n3 : (norm a).length * (norm b).length ≤ a.length * b.length := Nat.mul_le_mul n1 n2
  refine ⟨pairs (norm a) (norm b), Ev.bind (As_f a h2) (Ev.bind (As_f b h3) ?_), ?_, fun n => ?_⟩
  · have := rMeet_l0 (norm b) (by omega) (norm a) [] [] (by simp; omega) (by simp; omega)
    simpa using this
  · have := pairs_sane (norm a) (norm b) _ _ (norm_sane a) (norm_sane b)
    rw [Int.max_self] at this
    exact this
  · rw [pairs_mem, norm_mem, norm_mem]
    exact ⟨fun ⟨⟨u, v, x⟩, _, _, y⟩ => ⟨u, v, x, y⟩, fun ⟨u, v, x, y⟩ => ⟨⟨u, v, x⟩, u, v, y⟩⟩
theorem rrest_l0 : ∀ (t p acc : List S25) (x b : Int), saneF b t → -lim ≤ x → x ≤ lim + 1 → -lim - 2 ≤ b → (p ++ t).length < 4398046511104 → acc.length + t.length < 4398046511104 →
    Ev (fun k => lustrumref05_rest.l0 k (p ++ t) acc x (p.length : Int)) (acc ++ gaps x t)
  | [], p, acc, x, b, _, h1, h2, _, h3, h4 => by
    simp only [List.length_nil] at h4
    refine Ev.step (f := fun _ => some (acc ++ gaps x [])) (fun k => ?_) (Ev.now _)
    by_cases c : x ≤ lim
    · rw [lustrumref05_rest.l0, if_neg (at_end p), if_pos (by unfold lim at c; omega), if_pos (by omega), gaps, if_pos c]; rfl
    · rw [lustrumref05_rest.l0, if_neg (at_end p), if_neg (by unfold lim at c; omega), gaps, if_neg c, List.append_nil]
  | r :: t, p, acc, x, b, ⟨r1, r2, r3, r4⟩, h1, h2, h0, h3, h4 => by
    simp only [List.length_cons] at h4
    have w1 : wrap64 (r.f1 + 1) = r.f1 + 1 := w64 (by unfold lim at *; omega) (by unfold lim at *; omega)
    have w2 : wrap64 (r.f0 - 1) = r.f0 - 1 := w64 (by unfold lim at *; omega) (by unfold lim at *; omega)
    by_cases c : x < r.f0
    · have := rrest_l0 t (p ++ [r]) (acc ++ [⟨x, r.f0 - 1⟩]) (r.f1 + 1) r.f1 r4 (by omega) (by omega) (by omega) (by rw [← at_app]; exact h3) (by rw [List.length_append, List.length_singleton]; omega)
      rw [← at_app] at this
      refine Ev.eq (Ev.step (fun k => ?_) this) (by rw [gaps, if_pos c]; simp)
      rw [lustrumref05_rest.l0, if_pos (at_lt p r t), if_pos (at_0 p), at_rd, if_pos (by omega), if_pos (by omega), w1, w2, at_next (p := p) (r := r) (t := t) (by omega)]
    · have := rrest_l0 t (p ++ [r]) acc (r.f1 + 1) r.f1 r4 (by omega) (by omega) (by omega) (by rw [← at_app]; exact h3) (by omega)
      rw [← at_app] at this
      refine Ev.eq (Ev.step (fun k => ?_) this) (by rw [gaps, if_neg c])
      rw [lustrumref05_rest.l0, if_pos (at_lt p r t), if_pos (at_0 p), at_rd, if_neg (by omega), w1, at_next (p := p) (r := r) (t := t) (by omega)]
theorem rMinus_f (a b : List S25) (h1 : a.length * (b.length + 1) < 4398046511104) (h2 : a.length < 4398046511104) (h3 : b.length < 4398046511000) : ∃ m, Ev (fun k => lustrumref05_Minus.f k a b) m ∧ IsSet m (fun n => mem a n ∧ ¬ mem b n) := by
  have n2 := norm_len b
  have hl := gaps_len (norm b) (-lim)
  have n3 : a.length * (gaps (-lim) (norm b)).length ≤ a.length * (b.length + 1) := Nat.mul_le_mul_left _ (by omega)
  obtain ⟨m, hm, hi⟩ := rMeet_f a (gaps (-lim) (norm b)) (by omega) h2 (by omega)
  have hr : Ev (fun k => lustrumref05_rest.f k b) (gaps (-lim) (norm b)) := by
    refine Ev.bind (As_f b (by omega)) ?_
    have := rrest_l0 (norm b) [] [] (-lim) _ (norm_sane b) (Int.le_refl _) (by unfold lim; omega) (Int.le_refl _) (by simp; omega) (by simp; omega)
    simp only [List.nil_append, List.length_nil] at this
    exact this
  refine ⟨m, Ev.bind hr (Ev.bind hm (Ev.now _)), hi.congr fun n h4 h5 => ?_⟩
  rw [gaps_mem _ _ (norm_sane b), norm_mem]
  constructor
  · rintro ⟨u, _, _, v⟩
    exact ⟨u, fun hb => v ⟨h4, h5, hb⟩⟩
  · rintro ⟨u, v⟩
    exact ⟨u, h4, h5, fun hb => v hb.2.2⟩
theorem rShift_l0 (k : Int) (h1 : -2199023255552 ≤ k) (h2 : k ≤ 2199023255552) : ∀ (t p acc : List S25), (∀ r, r ∈ t → -lim ≤ r.f0 ∧ r.f0 ≤ lim ∧ -lim ≤ r.f1 ∧ r.f1 ≤ lim) → (p ++ t).length < 4398046511104 → acc.length + t.length < 4398046511104 →
    Ev (fun i => lustrumref05_Shift.l0 i k (p ++ t) acc (p.length : Int)) (norm (acc ++ t.map (shifted k k)))
  | [], p, acc, _, _, hl => by
    simp only [List.length_nil] at hl
    refine Ev.step (f := fun i => (lustrumref04_Make.f i acc).bind fun t => some t) (fun i => by rw [lustrumref05_Shift.l0, if_neg (at_end p)]) ?_
    simp only [List.map_nil, List.append_nil]
    exact Ev.bind (rMake_f _ (by omega)) (Ev.now _)
  | r :: t, p, acc, hb, hn, hl => by
    simp only [List.length_cons] at hl
    obtain ⟨b1, b2, b3, b4⟩ := hb r List.mem_cons_self
    have h := rShift_l0 k h1 h2 t (p ++ [r]) (acc ++ [shifted k k r]) (fun q hq => hb q (List.mem_cons_of_mem _ hq)) (by rw [← at_app]; exact hn) (by rw [List.length_append, List.length_singleton]; omega)
    rw [← at_app] at h
    refine Ev.eq (Ev.step (fun i => ?_) h) (by simp)
    rw [lustrumref05_Shift.l0, if_pos (at_lt p r t), if_pos (at_0 p), if_pos (by omega), at_rd, at_next (p := p) (r := r) (t := t) (by omega), w64 (by unfold lim at *; omega) (by unfold lim at *; omega), w64 (by unfold lim at *; omega) (by unfold lim at *; omega)]
    rfl
theorem rShift_f (l : List S25) (k : Int) (hn : l.length < 4398046511104) : ∃ m, Ev (fun i => lustrumref05_Shift.f i l k) m ∧ IsSet m (fun n => mem (norm l) (n - k)) := by
  have hl := norm_len l
  by_cases c1 : k > 2199023255552
  · exact ⟨[], Ev.ift c1 (Ev.step (f := fun _ => some []) (fun i => by rw [lustrumref05_Shift.j0, if_pos rfl]) (Ev.now _)), shift_far (.inl c1)⟩
  by_cases c2 : k < -2199023255552
  · exact ⟨[], Ev.iff_ c1 (Ev.step (f := fun _ => some []) (fun i => by rw [lustrumref05_Shift.j0, if_pos (decide_eq_true c2)]) (Ev.now _)), shift_far (.inr c2)⟩
  refine ⟨norm ((norm l).map (shifted k k)), Ev.iff_ c1 (Ev.step (fun i => by rw [lustrumref05_Shift.j0, if_neg (by simpa using c2)]) (Ev.bind (As_f l hn) ?_)), ?_⟩
  · have := rShift_l0 k (by omega) (by omega) (norm l) [] [] (saneF_bounds (norm_sane l) (Int.le_refl _)) (by simp; omega) (by simp; omega)
    simpa using this
  exact (isSet_norm _).congr fun n _ _ => mem_shift _ _ _
theorem rGrow_l0 (k : Int) (h1 : 0 ≤ k) (h2 : k ≤ 2199023255552) : ∀ (t p acc : List S25), (∀ r, r ∈ t → -lim ≤ r.f0 ∧ r.f0 ≤ lim ∧ -lim ≤ r.f1 ∧ r.f1 ≤ lim) → (p ++ t).length < 4398046511104 → acc.length + t.length < 4398046511104 →
    Ev (fun i => lustrumref05_Grow.l0 i (p ++ t) k acc (p.length : Int)) (norm (acc ++ t.map (shifted (-k) k)))
  | [], p, acc, _, _, hl => by
    simp only [List.length_nil] at hl
    refine Ev.step (f := fun i => (lustrumref04_Make.f i acc).bind fun t => some t) (fun i => by rw [lustrumref05_Grow.l0, if_neg (at_end p)]) ?_
    simp only [List.map_nil, List.append_nil]
    exact Ev.bind (rMake_f _ (by omega)) (Ev.now _)
  | r :: t, p, acc, hb, hn, hl => by
    simp only [List.length_cons] at hl
    obtain ⟨b1, b2, b3, b4⟩ := hb r List.mem_cons_self
    have h := rGrow_l0 k h1 h2 t (p ++ [r]) (acc ++ [shifted (-k) k r]) (fun q hq => hb q (List.mem_cons_of_mem _ hq)) (by rw [← at_app]; exact hn) (by rw [List.length_append, List.length_singleton]; omega)
    rw [← at_app] at h
    refine Ev.eq (Ev.step (fun i => ?_) h) (by simp)
    rw [lustrumref05_Grow.l0, if_pos (at_lt p r t), if_pos (at_0 p), if_pos (by omega), at_rd, at_next (p := p) (r := r) (t := t) (by omega), w64 (by unfold lim at *; omega) (by unfold lim at *; omega), w64 (by unfold lim at *; omega) (by unfold lim at *; omega)]
    rfl
theorem rGrow_f (l : List S25) (k : Int) (hn : l.length < 4398046511104) : ∃ m, Ev (fun i => lustrumref05_Grow.f i l k) m ∧ IsSet m (fun n => ∃ x, mem (norm l) x ∧ x - near k ≤ n ∧ n ≤ x + near k) := by
  have hl := norm_len l
  refine ⟨_, ?_, grown l k⟩
  have h : mn (mx k 0) 2199023255552 = near k := by rw [mx_max, mn_min]; unfold near; omega
  refine Ev.bind (As_f l hn) ?_
  rw [h]
  have := rGrow_l0 (near k) (by unfold near; omega) (by unfold near; omega) (norm l) [] [] (saneF_bounds (norm_sane l) (Int.le_refl _)) (by simp; omega) (by simp; omega)
  simpa using this
theorem rClip_f (l : List S25) (lo hi : Int) (hn : l.length < 4398046511100) : ∃ m, Ev (fun i => lustrumref05_Clip.f i l lo hi) m ∧ IsSet m (fun n => mem l n ∧ lo ≤ n ∧ n ≤ hi) := by
  obtain ⟨m, h1, h2⟩ := rMeet_f l [⟨lo, hi⟩] (by simp; omega) (by omega) (by simp)
  refine ⟨m, Ev.bind h1 (Ev.now _), h2.congr fun n _ _ => ?_⟩
  rw [mem_one]
theorem rWide_f (l : List S25) (hn : l.length < 4398046511104) : Ev (fun i => lustrumref05_Wide.f i l) (decide (((norm l).length : Int) > 400)) := Ev.bind (As_f l hn) (Ev.now _)
theorem awake5 : Ev (fun k => lustrumlaw05_awake.f k) true := Ev.of lustrumlaw05_awake.mono (k := 12) (by decide +kernel)
theorem Ev.sameT {s t : List S25} {r : Bool} {f : Nat → Bool → Option Bool} (hn : s.length ≤ 4611686018427387904) (h : s = t) (k : Ev (fun n => f n true) r) : Ev (fun n => (lustrumref04_Same.f n s t).bind (f n)) r := Ev.bind (Same_t hn h) k
theorem SetsIs_t (a b : List S25) (k n : Int) : Ev (fun i => lustrumlaw05_SetsIs.f i a b k n) true := by
  refine Ev.bind awake5 ?_
  have hj : ∀ c, (c = false → a.length ≤ 40 ∧ b.length ≤ 40) → Ev (fun i => lustrumlaw05_SetsIs.j0 i a b k n true c) true := fun c hc => by
    refine Ev.step (fun i => by rw [lustrumlaw05_SetsIs.j0]) ?_
    cases c with
    | true => exact Ev.ift rfl (Ev.now _)
    | false =>
      obtain ⟨h1, h2⟩ := hc rfl
      have hm : a.length * b.length ≤ 40 * 40 := Nat.mul_le_mul h1 h2
      have hm2 : a.length * (b.length + 1) ≤ 40 * 41 := Nat.mul_le_mul h1 (by omega)
      obtain ⟨m, m1, m2, m3⟩ := Meet_f a b (by omega)
      obtain ⟨m', m1', m2'⟩ := rMeet_f a b (by omega) (by omega) (by omega)
      obtain rfl := m2.eq m2' (fun _ _ _ => Iff.rfl)
      obtain ⟨d, d1, d2, d3⟩ := Minus_f a b (by omega)
      obtain ⟨d', d1', d2'⟩ := rMinus_f a b (by omega) (by omega) (by omega)
      obtain rfl := d2.eq d2' (fun _ _ _ => Iff.rfl)
      obtain ⟨s, s1, s2, s3⟩ := Shift_f a k (by omega)
      obtain ⟨s', s1', s2'⟩ := rShift_f a k (by omega)
      obtain rfl := s2.eq s2' (fun _ _ _ => Iff.rfl)
      obtain ⟨g, g1, g2, g3⟩ := Grow_f a k (by omega)
      obtain ⟨g', g1', g2'⟩ := rGrow_f a k (by omega)
      obtain rfl := g2.eq g2' (fun _ _ _ => Iff.rfl)
      obtain ⟨c, c1, c2, c3⟩ := Clip_f a k n (by omega)
      obtain ⟨c', c1', c2'⟩ := rClip_f a k n (by omega)
      obtain rfl := c2.eq c2' (fun _ _ _ => Iff.rfl)
      have lu := norm_len (a ++ b)
      rw [List.length_append] at lu
      have fin : Ev (fun i => lustrumlaw05_SetsIs.j1 i a k n true false) true := by
        refine Ev.step (fun i => by rw [lustrumlaw05_SetsIs.j1]) ?_
        exact Ev.iff_ (by simp) (Ev.ift rfl (Ev.bind s1 (Ev.bind s1' (Ev.sameT (by omega) rfl (Ev.ift rfl (Ev.bind g1 (Ev.bind g1' (Ev.sameT (by omega) rfl (Ev.ift rfl (Ev.bind c1 (Ev.bind c1' (Ev.sameT (by omega) rfl (Ev.ift rfl (Ev.bind (Wide_f a (by omega)) (Ev.bind (rWide_f a (by omega)) (Ev.eq (Ev.now _) (by simp)))))))))))))))))
      refine Ev.iff_ (by simp) (Ev.bind (Union_f a b (by omega)) (Ev.bind (rUnion_f a b (by omega)) (Ev.sameT (by omega) rfl (Ev.ift rfl (Ev.bind m1 (Ev.bind m1' (Ev.sameT (by omega) rfl (Ev.ift rfl (Ev.bind d1 (Ev.bind d1' (Ev.sameT (by omega) rfl fin)))))))))))
  by_cases c : a.length ≤ 40
  · refine Ev.iff_ (by omega) (hj _ fun h => ⟨c, ?_⟩)
    have := of_decide_eq_false h
    omega
  · exact Ev.ift (by omega) (hj true (by simp))
end Go.Proofs.Ytkbcmjejfbbcpaa.A