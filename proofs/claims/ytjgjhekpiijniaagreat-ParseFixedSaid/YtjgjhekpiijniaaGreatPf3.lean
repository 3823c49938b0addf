/- Walks of functions, and plain facts about what they compute. No conditions. -/
import Derived.Test.YtjgjhekpiijniaaGreatPf2
set_option linter.unusedVariables false
set_option linter.unusedSimpArgs false
namespace Go.Proofs.YtjgjhekpiijniaaGreat.A
open Go.RowKit Go.Proofs.YtjgjhekpiijniaaGreatW.PrintWords Go.Proofs.YtjgjhekpiijniaaGreatW.PrintLast Go.Proofs.YtjgjhekpiijniaaGreatW.PrintMore
attribute [local go_sem] max2_int min2_int max_two min_two max_three min_three max_four min_four
def canon_sink.T4 : Bool × List (List Nat × List Nat) := (true, [([], []), ([], []), ([1], [1]), ([0, 2], [0, 2]), ([3], [3]), ([4], [4]), ([4], [4]), ([5, 6, 4], [4, 5, 6]), ([7, 4], [4, 7]), ([8, 4, 4], [4, 8]), ([4], [4]), ([4], [4]), ([10, 11, 4], [4, 10, 11]), ([12, 4], [4, 12]), ([13, 9, 4], [4, 13]), ([9, 14, 4], [4, 9, 14]), ([4, 15], [4, 15])])
def canon_sink.B4 : List Nat := [0, 0, 2, 7, 15, 31, 31, 127, 255, 511, 31, 31, 3103, 7199, 16383, 32767, 65535]
theorem canon_sink.tab4 : rtab .any (opsOf Tryz.f53 4) = canon_sink.T4 := by kernel_rfl
theorem canon_sink.bits4 : waitsOk canon_sink.T4.2 canon_sink.B4 = true := by kernel_rfl
def canon_sink.T8 : Bool × List (List Nat × List Nat) := (true, [([], []), ([], []), ([], []), ([], []), ([], []), ([], []), ([4, 5], [4, 5]), ([6], [6]), ([], []), ([], []), ([8, 9], [8, 9]), ([10], [10]), ([0, 1, 0, 1, 4, 5, 6, 7, 11], [0, 1]), ([12, 7, 0, 1, 4, 5, 6, 7, 11], [7, 12]), ([2, 3, 0, 1, 2, 3, 4, 5, 6, 7, 8, 9, 10, 11, 12, 13], [2, 3]), ([14, 11, 13, 0, 1, 2, 3, 4, 5, 6, 7, 8, 9, 10, 11, 12, 13], [11, 14])])
def canon_sink.B8 : List Nat := [0, 0, 0, 0, 0, 0, 48, 112, 0, 0, 768, 1792, 4083, 8179, 16383, 32767]
theorem canon_sink.tab8 : rtab .any (opsOf Tryz.f53 8) = canon_sink.T8 := by kernel_rfl
theorem canon_sink.bits8 : waitsOk canon_sink.T8.2 canon_sink.B8 = true := by kernel_rfl
set_option maxHeartbeats 8000000 in
set_option maxRecDepth 100000 in
theorem canon_sink.calls (k : Nat) (P0_ : Nat → Prop) (u9000_ : Value) (l0 : List KE) (a1 : Int) (r : List KE) (w0 w : World) (hB : Below w0.heap.size w0 w) (ho0 : Kd.R kKE 83 w w0.heap.size P0_ u9000_ l0) (h : canon_sink.f k l0 a1 = some r) :
  Calls Tryz.prog 53 #[u9000_, .int .i64 a1] w fun e w' => e = .returned (.tuple #[]) ∧ Kd.R kKE 83 w' w0.heap.size (fun k_ => (P0_ k_ ∨ w.heap.size ≤ k_)) u9000_ r ∧ Below w0.heap.size w0 w' ∧ Kept w w' (fun k_ => P0_ k_) := by
 have HO0 := A_ (show Kd.R kKE 83 w w0.heap.size (fun k_ => (P0_ k_ ∨ w.heap.size ≤ k_)) u9000_ l0 from Kd.R_mono ho0 (fun k_ hk => (.inl hk))); have HK := A_ (Kept.refl w (fun k_ => P0_ k_)); have HW0 := A_ hB.size; have HB := A_ hB; clear hB; have H : (canon_sink.l0 k l0 a1) = some r := h; clear h; have H' := A_ H; clear H; go_enter Tryz.func53, Tryz.ntmps53; go_wp2; go_loopg [1] k (fun kq v1 w' => ∃ (x0_1 : List KE) (x1_1 : Int), v1 = .int .i64 x1_1 ∧ Aside0 (canon_sink.l0 kq x0_1 x1_1 = some r) ∧ Aside0 (kq ≤ k) ∧ Aside0 (Kd.R kKE 83 w' w0.heap.size (fun k_ => (P0_ k_ ∨ w.heap.size ≤ k_)) u9000_ x0_1) ∧ Aside0 (Kept w w' (fun k_ => P0_ k_)) ∧ Aside0 (Below w0.heap.size w0 w'))
 case atStart => exact ⟨(l0), (a1), rf_, H', ⟨Nat.le_refl _⟩, ⟨fxR_ HO0.out⟩, ⟨hk_⟩, ⟨hs_⟩⟩
 case round =>
  clear H'; (try clear p2); obtain ⟨x0_1, x1_1, rfl, HA, HK1, HO_0, HK, HB⟩ := hrel
  cases gk with
  | zero => exact absurd HA.out (by simp [canon_sink.l0])
  | succ k1 =>
   have H := HA.out; clear HA; simp only [canon_sink.l0] at H; obtain ⟨y101, hy101⟩ : ∃ y_ : List Int, y_ = (([wrap64 ((wrap64 (2 * x1_1)) + 1), wrap64 ((wrap64 (2 * x1_1)) + 2)] : List Int)) := ⟨_, rfl⟩; (replace H : (canon_sink.l1 k1 x0_1 x1_1 x1_1 y101 (y101.length : Int) 0) = some r := by first | (rw [hy101]; with_reducible exact H) | (have H2_ := (Option.bind_some _ _).symm.trans H; rw [hy101]; with_reducible exact H2_) | (have H2_ := (Option.bind_some _ _).symm.trans H; with_reducible exact H2_) | with_reducible exact H | (rw [hy101]; exact H) | exact H); have Ny101 := A_ hy101; clear hy101; have H' := A_ H; clear H; go_wp2_with (first | (refine gD 14 ?_; refine Kd.R_lit (Kd.int .i64) _ 3 ?hg (N := 14) ?hd (xs := ([wrap64 ((wrap64 (2 * x1_1)) + 1), wrap64 ((wrap64 (2 * x1_1)) + 2)] : List Int)) (inner := [.int .i64 (wrap64 ((wrap64 (2 * x1_1)) + 1)), .int .i64 (wrap64 ((wrap64 (2 * x1_1)) + 2))]) (ok := fun _ => True) (okp := fun _ => True) ?hr ?hp (fun _ hk => hk) trivial (Below.refl _ _) (Nat.le_refl _) (by simp) ?_; (case hd => rfl); (case hg => rfl); (case hr => first | (go_simp; done) | (go_simp; rfl)); (case hp => exact (Reps.one (show Kd.M (Kd.int .i64) _ _ _ (wrap64 ((wrap64 (2 * x1_1)) + 1)) [.int .i64 (wrap64 ((wrap64 (2 * x1_1)) + 1))] from rfl) (Reps.one (show Kd.M (Kd.int .i64) _ _ _ (wrap64 ((wrap64 (2 * x1_1)) + 2)) [.int .i64 (wrap64 ((wrap64 (2 * x1_1)) + 2))] from rfl) (Reps.none _ _)))); intro v102 w3 ho4 hb hg_ hnew_; clear hg_ hnew_; (first | rw [← Ny101.out] at ho4 | (simp only [Int.reduceToNat] at ho4; rw [← Ny101.out] at ho4)); replace HO_0 := A_ (Kd.R_below h0_ hb); have HO103 := A_ (Kd.R_lower (Kd.R_newM (M := fun k_ => (P0_ k_ ∨ w.heap.size ≤ k_)) ho4 (by first | exact HK.out.1 | exact (show Kept w _ (fun k_ => P0_ k_) from by repeat (first | (with_reducible first | exact HK.out | apply Kept.alloc | apply Kept.drewN | apply Kept.drew) | exact HK.out)).1) (fun k_ h_ => .inr h_)) (below_size hs_)); replace HK := A_ (Kept.below (S := (fun k_ => P0_ k_)) hk_ hb); replace HB := bs_ hb; clear hb ho4; obtain ⟨Ao5, co5, eo5⟩ := Kd.R_slice HO103.out; subst eo5)); go_loopg [4, 16] k1 (fun kq v4 v16 w' => ∃ (x4_2 : Int) (x16_2 : Int), v4 = .int .i64 x4_2 ∧ v16 = .int .i64 x16_2 ∧ Aside0 (canon_sink.l1 kq x0_1 x1_1 x4_2 y101 (y101.length : Int) x16_2 = some r) ∧ Aside0 (kq ≤ k1) ∧ Aside0 (Kd.R kKE 83 w' w0.heap.size (fun k_ => (P0_ k_ ∨ w.heap.size ≤ k_)) u9000_ x0_1) ∧ Aside0 (Kd.R (Kd.int .i64) 3 w' w0.heap.size (fun k_ => (P0_ k_ ∨ w.heap.size ≤ k_)) (.slice Ao5 y101.length co5) y101) ∧ Aside0 (Kept w w' (fun k_ => P0_ k_)) ∧ Aside0 (Below w0.heap.size w0 w'))
   case atStart => exact ⟨(x1_1), (0), rf_, rf_, H', ⟨Nat.le_refl _⟩, ⟨h0_⟩, ⟨by (with_reducible repeat (first | apply Kd.R_alloc | apply Kd.R_drewN | apply Kd.R_drew)); exact Kd.R_mono HO103.out (fun _ hk => hk.1)⟩, ⟨hk_⟩, ⟨hs_⟩⟩
   case round =>
    clear H'; (try clear p2); (try clear p2); obtain ⟨x4_2, x16_2, rfl, rfl, HA, HK2, HO_0, HO_14, HK, HB⟩ := hrel
    cases gk with
    | zero => exact absurd HA.out (by simp [canon_sink.l1])
    | succ k2 =>
     have H := HA.out; clear HA; simp only [canon_sink.l1] at H
     by_cases c6 : x16_2 < (y101.length : Int)
     ·rw [if_pos c6] at H
      have c6b0 := decide_eq_true c6; clear c6
      by_cases c7 : 0 ≤ x16_2
      ·rw [if_pos c7] at H
       have c7b0 := decide_eq_true c7; clear c7
       by_cases c8 : x16_2 < (y101.length : Int)
       ·rw [if_pos c8] at H
        have c8b0 := decide_eq_true c8; clear c8
        by_cases c9 : (rd y101 x16_2) < (x0_1.length : Int)
        ·rw [if_pos c9] at H
         have c9b0 := decide_eq_true c9; clear c9
         by_cases c10 : 0 ≤ (rd y101 x16_2)
         ·rw [if_pos c10] at H
          have c10b0 := decide_eq_true c10; clear c10; obtain ⟨t110, A11, H⟩ := bi_ H
          by_cases c12 : 0 ≤ x4_2
          ·rw [if_pos c12] at H
           have c12b0 := decide_eq_true c12; clear c12
           by_cases c13 : x4_2 < (x0_1.length : Int)
           ·rw [if_pos c13] at H
            have c13b0 := decide_eq_true c13; clear c13; obtain ⟨t112, A14, H⟩ := bi_ H
            by_cases c15 : (Op.bytesLess t110.toList t112.toList) = true
            ·rw [if_pos c15] at H
             have c15b0 : (Op.bytesLess t110.toList t112.toList) = true := c15; clear c15; have H' := A_ H; clear H; have p108 : 0 ≤ (x16_2 : Int) := od_; have q108 : x16_2 < (y101.length : Int) := od_; obtain ⟨ad108, e108, hx108_0⟩ := Kd.at_int (Kd.R_reads' HO_14.out).2.2 x16_2 p108 q108
             cases e108
             replace p108 := eq_true p108; replace q108 := eq_true q108; (try go_wp2); replace HO_0 := A_ (Kd.R_drew HO_0.out); replace HO_14 := A_ (Kd.R_drew HO_14.out); replace HK := A_ (Kept.drew HK.out); replace HB := A_ (below_drew1 HB.out); obtain ⟨Ao17, co17, eo17⟩ := Kd.R_slice HO_0.out; (first | subst eo17 | (injection eo17 with f1_ f2_ f3_; have f4_ := f1_.symm; have f5_ := f3_.symm; clear f1_ f2_ f3_; subst f4_; subst f5_)); have p109 : 0 ≤ ((rd y101 x16_2) : Int) := od_; have q109 : (rd y101 x16_2) < (x0_1.length : Int) := od_; obtain ⟨ad109, e109, hx109_0⟩ := at_KE (Kd.R_reads' HO_0.out).2.2 (rd y101 x16_2) p109 q109
             cases e109
             replace p109 := eq_true p109; replace q109 := eq_true q109; have p111 : 0 ≤ (x4_2 : Int) := od_; have q111 : x4_2 < (x0_1.length : Int) := od_; obtain ⟨ad111, e111, hx111_0⟩ := at_KE (Kd.R_reads' HO_0.out).2.2 x4_2 p111 q111; obtain rfl : ad109 = ad111 := (by injection e111); replace p111 := eq_true p111; replace q111 := eq_true q111; refine start_ (n := 17) (S := fun w' => w'.cell? (ad109.add ((rd y101 x16_2)).toNat) = some (encK (rdOf zKE x0_1 (rd y101 x16_2))) ∧ w'.cell? (ad109.add (x4_2).toNat) = some (encK (rdOf zKE x0_1 x4_2))) (ds := []) (ab 17 0) (by kernel_rfl) rfl rfl ⟨hx109_0, hx111_0⟩ (fun hHeld => ?_); refine with_tabW canon_sink.tab4 canon_sink.bits4 (fun HT_ HW_ => ?_); generalize wr.drew = w16 at HO_0 HO_14 HK HB hx109_0 hx111_0 hHeld ⊢; refine pA 0 20 17 1 ?_; refine pA 1 21 17 3 ?_; refine pA 2 22 17 7 ?_; refine pA 3 23 17 15 ?_; refine pA 4 24 17 31 ?_; refine pA 5 25 17 63 ?_; refine pA 6 26 17 127 ?_; refine pA 7 27 17 255 ?_; refine pA 10 30 17 1279 ?_; refine pA 11 31 17 3327 ?_; refine pA 12 32 17 7423 ?_; refine tB 8 28 17 7679 ?_; refine tB 13 33 17 15871 ?_; refine oA 9 (some 29) 17 16383 fun K hK => ?_; refine goesI_ (v := cellsK (rdOf zKE x0_1 (rd y101 x16_2))) Tryz.func148 (by kernel_rfl) rfl (by rfl) rfl rfl rfl (method_key (rdOf zKE x0_1 (rd y101 x16_2)) _) ?_; (with_reducible refine (canon_element_key.calls (rdOf zKE x0_1 (rd y101 x16_2)) t110 _ A11.out).mono ?_); rintro e w18 ⟨rfl, hb⟩; have HS0_ := (hb.cell (World.block_lt_of_cell? _ _ (hHeld.1))).trans (hHeld.1); have HS1_ := (hb.cell (World.block_lt_of_cell? _ _ (hHeld.2))).trans (hHeld.2); refine ⟨_, rfl, ?_⟩; replace HO_0 := A_ (Kd.R_below h0_ hb); replace HO_14 := A_ (Kd.R_below (fxR_ HO_14.out) hb); replace HK := A_ (Kept.below (S := (fun k_ => P0_ k_)) hk_ hb); replace HB := bs_ hb; (try clear hb); refine hK.out _ _ ⟨HS0_, HS1_⟩ (fun hHeld => ?_); clear hK K; refine nA ?_; refine oA 14 (some 34) 17 32767 fun K hK => ?_; refine goesI_ (v := cellsK (rdOf zKE x0_1 x4_2)) Tryz.func148 (by kernel_rfl) rfl (by rfl) rfl rfl rfl (method_key (rdOf zKE x0_1 x4_2) _) ?_; (with_reducible refine (canon_element_key.calls (rdOf zKE x0_1 x4_2) t112 _ A14.out).mono ?_); rintro e w19 ⟨rfl, hb⟩; have HS0_ := (hb.cell (World.block_lt_of_cell? _ _ (hHeld.1))).trans (hHeld.1); have HS1_ := (hb.cell (World.block_lt_of_cell? _ _ (hHeld.2))).trans (hHeld.2); refine ⟨_, rfl, ?_⟩; replace HO_0 := A_ (Kd.R_below h0_ hb); replace HO_14 := A_ (Kd.R_below (fxR_ HO_14.out) hb); replace HK := A_ (Kept.below (S := (fun k_ => P0_ k_)) hk_ hb); replace HB := bs_ hb; (try clear hb); refine hK.out _ _ ⟨HS0_, HS1_⟩ (fun hHeld => ?_); clear hK K; refine nA ?_; refine pA 15 35 17 65535 ?_; refine pA 16 36 17 131071 ?_; refine done_ (done_of HT_.out (by kernel_rfl)) ?_; (try go_wp2); go_roundg k2
             case measure => have := HK1.out; have := HK2.out; omega
             case rel => exact ⟨(rd y101 x16_2), (wrap64 (x16_2 + 1)), rf_, rf_, H', ⟨by have := HK1.out; have := HK2.out; omega⟩, ⟨h0_⟩, ⟨fxR_ HO_14.out⟩, ⟨hk_⟩, ⟨hs_⟩⟩
            ·rw [if_neg c15] at H
             (have c15b0 : (Op.bytesLess t110.toList t112.toList) = false := by simpa using c15); clear c15; have H' := A_ H; clear H; have p108 : 0 ≤ (x16_2 : Int) := od_; have q108 : x16_2 < (y101.length : Int) := od_; obtain ⟨ad108, e108, hx108_0⟩ := Kd.at_int (Kd.R_reads' HO_14.out).2.2 x16_2 p108 q108
             cases e108
             replace p108 := eq_true p108; replace q108 := eq_true q108; (try go_wp2); replace HO_0 := A_ (Kd.R_drew HO_0.out); replace HO_14 := A_ (Kd.R_drew HO_14.out); replace HK := A_ (Kept.drew HK.out); replace HB := A_ (below_drew1 HB.out); obtain ⟨Ao21, co21, eo21⟩ := Kd.R_slice HO_0.out; (first | subst eo21 | (injection eo21 with f1_ f2_ f3_; have f4_ := f1_.symm; have f5_ := f3_.symm; clear f1_ f2_ f3_; subst f4_; subst f5_)); have p109 : 0 ≤ ((rd y101 x16_2) : Int) := od_; have q109 : (rd y101 x16_2) < (x0_1.length : Int) := od_; obtain ⟨ad109, e109, hx109_0⟩ := at_KE (Kd.R_reads' HO_0.out).2.2 (rd y101 x16_2) p109 q109
             cases e109
             replace p109 := eq_true p109; replace q109 := eq_true q109; have p111 : 0 ≤ (x4_2 : Int) := od_; have q111 : x4_2 < (x0_1.length : Int) := od_; obtain ⟨ad111, e111, hx111_0⟩ := at_KE (Kd.R_reads' HO_0.out).2.2 x4_2 p111 q111; obtain rfl : ad109 = ad111 := (by injection e111); replace p111 := eq_true p111; replace q111 := eq_true q111; refine start_ (n := 17) (S := fun w' => w'.cell? (ad109.add ((rd y101 x16_2)).toNat) = some (encK (rdOf zKE x0_1 (rd y101 x16_2))) ∧ w'.cell? (ad109.add (x4_2).toNat) = some (encK (rdOf zKE x0_1 x4_2))) (ds := []) (ab 17 0) (by kernel_rfl) rfl rfl ⟨hx109_0, hx111_0⟩ (fun hHeld => ?_); refine with_tabW canon_sink.tab4 canon_sink.bits4 (fun HT_ HW_ => ?_); generalize wr.drew = w20 at HO_0 HO_14 HK HB hx109_0 hx111_0 hHeld ⊢; refine pA 0 20 17 1 ?_; refine pA 1 21 17 3 ?_; refine pA 2 22 17 7 ?_; refine pA 3 23 17 15 ?_; refine pA 4 24 17 31 ?_; refine pA 5 25 17 63 ?_; refine pA 6 26 17 127 ?_; refine pA 7 27 17 255 ?_; refine pA 10 30 17 1279 ?_; refine pA 11 31 17 3327 ?_; refine pA 12 32 17 7423 ?_; refine tB 8 28 17 7679 ?_; refine tB 13 33 17 15871 ?_; refine oA 9 (some 29) 17 16383 fun K hK => ?_; refine goesI_ (v := cellsK (rdOf zKE x0_1 (rd y101 x16_2))) Tryz.func148 (by kernel_rfl) rfl (by rfl) rfl rfl rfl (method_key (rdOf zKE x0_1 (rd y101 x16_2)) _) ?_; (with_reducible refine (canon_element_key.calls (rdOf zKE x0_1 (rd y101 x16_2)) t110 _ A11.out).mono ?_); rintro e w22 ⟨rfl, hb⟩; have HS0_ := (hb.cell (World.block_lt_of_cell? _ _ (hHeld.1))).trans (hHeld.1); have HS1_ := (hb.cell (World.block_lt_of_cell? _ _ (hHeld.2))).trans (hHeld.2); refine ⟨_, rfl, ?_⟩; replace HO_0 := A_ (Kd.R_below h0_ hb); replace HO_14 := A_ (Kd.R_below (fxR_ HO_14.out) hb); replace HK := A_ (Kept.below (S := (fun k_ => P0_ k_)) hk_ hb); replace HB := bs_ hb; (try clear hb); refine hK.out _ _ ⟨HS0_, HS1_⟩ (fun hHeld => ?_); clear hK K; refine nA ?_; refine oA 14 (some 34) 17 32767 fun K hK => ?_; refine goesI_ (v := cellsK (rdOf zKE x0_1 x4_2)) Tryz.func148 (by kernel_rfl) rfl (by rfl) rfl rfl rfl (method_key (rdOf zKE x0_1 x4_2) _) ?_; (with_reducible refine (canon_element_key.calls (rdOf zKE x0_1 x4_2) t112 _ A14.out).mono ?_); rintro e w23 ⟨rfl, hb⟩; have HS0_ := (hb.cell (World.block_lt_of_cell? _ _ (hHeld.1))).trans (hHeld.1); have HS1_ := (hb.cell (World.block_lt_of_cell? _ _ (hHeld.2))).trans (hHeld.2); refine ⟨_, rfl, ?_⟩; replace HO_0 := A_ (Kd.R_below h0_ hb); replace HO_14 := A_ (Kd.R_below (fxR_ HO_14.out) hb); replace HK := A_ (Kept.below (S := (fun k_ => P0_ k_)) hk_ hb); replace HB := bs_ hb; (try clear hb); refine hK.out _ _ ⟨HS0_, HS1_⟩ (fun hHeld => ?_); clear hK K; refine nA ?_; refine pA 15 35 17 65535 ?_; refine pA 16 36 17 131071 ?_; refine done_ (done_of HT_.out (by kernel_rfl)) ?_; (try go_wp2); go_roundg k2
             case measure => have := HK1.out; have := HK2.out; omega
             case rel => exact ⟨(x4_2), (wrap64 (x16_2 + 1)), rf_, rf_, H', ⟨by have := HK1.out; have := HK2.out; omega⟩, ⟨h0_⟩, ⟨fxR_ HO_14.out⟩, ⟨hk_⟩, ⟨hs_⟩⟩
           ·rw [if_neg c13] at H
            exact absurd H (by simp)
          ·rw [if_neg c12] at H
           exact absurd H (by simp)
         ·rw [if_neg c10] at H
          exact absurd H (by simp)
        ·rw [if_neg c9] at H
         have c9b0 := decide_eq_false c9; clear c9; have H' := A_ H; clear H; have p108 : 0 ≤ (x16_2 : Int) := od_; have q108 : x16_2 < (y101.length : Int) := od_; obtain ⟨ad108, e108, hx108_0⟩ := Kd.at_int (Kd.R_reads' HO_14.out).2.2 x16_2 p108 q108
         cases e108
         replace p108 := eq_true p108; replace q108 := eq_true q108; (try go_wp2); replace HO_0 := A_ (Kd.R_drew HO_0.out); replace HO_14 := A_ (Kd.R_drew HO_14.out); replace HK := A_ (Kept.drew HK.out); replace HB := A_ (below_drew1 HB.out); obtain ⟨Ao25, co25, eo25⟩ := Kd.R_slice HO_0.out; (first | subst eo25 | (injection eo25 with f1_ f2_ f3_; have f4_ := f1_.symm; have f5_ := f3_.symm; clear f1_ f2_ f3_; subst f4_; subst f5_)); refine start_ (n := 17) (S := fun w' => True) (ds := []) (ab 17 0) (by kernel_rfl) rfl rfl trivial (fun hHeld => ?_); refine with_tabW canon_sink.tab4 canon_sink.bits4 (fun HT_ HW_ => ?_); generalize wr.drew = w24 at HO_0 HO_14 HK HB hHeld ⊢; refine pA 0 20 17 1 ?_; refine pA 1 21 17 3 ?_; refine pA 2 22 17 7 ?_; refine pA 3 23 17 15 ?_; refine pA 4 24 17 31 ?_; refine uA 5 25 17 63 ?_; refine uA 6 26 17 127 ?_; refine uA 7 27 17 255 ?_; refine uA 8 28 17 511 ?_; refine uA 9 29 17 1023 ?_; refine uA 10 30 17 2047 ?_; refine uA 11 31 17 4095 ?_; refine uA 12 32 17 8191 ?_; refine uA 13 33 17 16383 ?_; refine uA 14 34 17 32767 ?_; refine uA 15 35 17 65535 ?_; refine pA 16 36 17 131071 ?_; refine done_ (done_of HT_.out (by kernel_rfl)) ?_; (try go_wp2); go_roundg k2
         case measure => have := HK1.out; have := HK2.out; omega
         case rel => exact ⟨(x4_2), (wrap64 (x16_2 + 1)), rf_, rf_, H', ⟨by have := HK1.out; have := HK2.out; omega⟩, ⟨h0_⟩, ⟨fxR_ HO_14.out⟩, ⟨hk_⟩, ⟨hs_⟩⟩
       ·rw [if_neg c8] at H
        exact absurd H (by simp)
      ·rw [if_neg c7] at H
       exact absurd H (by simp)
     ·rw [if_neg c6] at H
      have c6b0 := decide_eq_false c6; clear c6
      by_cases c26 : x4_2 = x1_1
      ·rw [if_pos c26] at H
       have c26b0 : (x4_2 == x1_1) = true := beq_iff_eq.mpr c26; have c26b1 : (x4_2 != x1_1) = false := bne_eq_false_iff_eq.mpr c26; clear c26; obtain rfl := Option.some.inj H; go_wp2
       first | go_end0 | ((try simp only [Exit.inBlock, Exit.then]); refine bodyPost_ret (results_none rfl _ _ _) rfl ?_)
       exact ⟨re_, h0_, hs_, hk_⟩
      ·rw [if_neg c26] at H
       have c26b0 : (x4_2 == x1_1) = false := beq_eq_false_iff_ne.mpr c26; have c26b1 : (x4_2 != x1_1) = true := bne_iff_ne.mpr c26
       by_cases c27 : 0 ≤ x4_2
       ·rw [if_pos c27] at H
        have c27b0 := decide_eq_true c27; clear c27
        by_cases c28 : x4_2 < (x0_1.length : Int)
        ·rw [if_pos c28] at H
         have c28b0 := decide_eq_true c28; clear c28
         by_cases c29 : 0 ≤ x1_1
         ·rw [if_pos c29] at H
          have c29b0 := decide_eq_true c29; clear c29
          by_cases c30 : x1_1 < (x0_1.length : Int)
          ·rw [if_pos c30] at H
           have c30b0 := decide_eq_true c30; clear c30; obtain ⟨y106, hy106⟩ : ∃ y_ : List KE, y_ = (x0_1.set (x1_1 : Int).toNat (rdOf zKE x0_1 x4_2)) := ⟨_, rfl⟩; (replace H : (canon_sink.l0 k2 (y106.set (x4_2 : Int).toNat (rdOf zKE x0_1 x1_1)) x4_2) = some r := by first | (rw [hy106]; with_reducible exact H) | (have H2_ := (Option.bind_some _ _).symm.trans H; rw [hy106]; with_reducible exact H2_) | (have H2_ := (Option.bind_some _ _).symm.trans H; with_reducible exact H2_) | with_reducible exact H | (rw [hy106]; exact H) | exact H); have Ny106 := A_ hy106; clear hy106; obtain ⟨y107, hy107⟩ : ∃ y_ : List KE, y_ = (y106.set (x4_2 : Int).toNat (rdOf zKE x0_1 x1_1)) := ⟨_, rfl⟩; (replace H : (canon_sink.l0 k2 y107 x4_2) = some r := by first | (rw [hy107]; with_reducible exact H) | (have H2_ := (Option.bind_some _ _).symm.trans H; rw [hy107]; with_reducible exact H2_) | (have H2_ := (Option.bind_some _ _).symm.trans H; with_reducible exact H2_) | with_reducible exact H | (rw [hy107]; exact H) | exact H); have Ny107 := A_ hy107; clear hy107; have H' := A_ H; clear H; (try go_wp2); replace HO_0 := A_ (Kd.R_drew HO_0.out); replace HO_14 := A_ (Kd.R_drew HO_14.out); replace HK := A_ (Kept.drew HK.out); replace HB := A_ (below_drew1 HB.out); obtain ⟨Ao34, co34, eo34⟩ := Kd.R_slice HO_0.out; (first | subst eo34 | (injection eo34 with f1_ f2_ f3_; have f4_ := f1_.symm; have f5_ := f3_.symm; clear f1_ f2_ f3_; subst f4_; subst f5_)); have p104 : 0 ≤ (x4_2 : Int) := od_; have q104 : x4_2 < (x0_1.length : Int) := od_; obtain ⟨ad104, e104, hx104_0⟩ := at_KE (Kd.R_reads' HO_0.out).2.2 x4_2 p104 q104
           cases e104
           replace p104 := eq_true p104; replace q104 := eq_true q104; have p105 : 0 ≤ (x1_1 : Int) := od_; have q105 : x1_1 < (x0_1.length : Int) := od_; obtain ⟨ad105, e105, hx105_0⟩ := at_KE (Kd.R_reads' HO_0.out).2.2 x1_1 p105 q105; obtain rfl : ad104 = ad105 := (by injection e105); replace p105 := eq_true p105; replace q105 := eq_true q105; have p31 : 0 ≤ (x1_1 : Int) := od_; have q31 : (x1_1 : Int) < ((x0_1.length : Int) : Int) := od_; obtain ⟨go31, co31, eo31, gb31, gl31, cl31, HG31⟩ := Kd.R_form HO_0.out (by omega); (first | cases eo31 | (injection eo31 with ea_ en_ ec_; (first | subst ea_ | (injection ea_ with ea_; subst ea_)); subst ec_; clear en_)); have GB31 := A_ gb31; have GG31 := A_ HG31; clear gb31 gl31 HG31; have HMgo31 := A_ (show (P0_ go31 ∨ w.heap.size ≤ go31) from (HO_0.out.1 _ rfl)); (first | simp only [add_plain] at hx104_0 | skip); (first | simp only [add_plain] at hx105_0 | skip); obtain ⟨hx31_0, hf31_0⟩ := Kd.R_celln zKE HO_0.out (x1_1 : Int) p31 q31; replace p31 := eq_true p31; replace q31 := eq_true q31; have HP35 := Kd.R_putn HO_0.out (x1_1 : Int) (rdOf zKE x0_1 x4_2); rw [← Ny106.out] at HP35; have HQ35 := A_ HP35; clear HP35; have p32 : 0 ≤ (x4_2 : Int) := od_; have q32 : (x4_2 : Int) < ((x0_1.length : Int) : Int) := od_; obtain ⟨hx32_0, hf32_0⟩ := Kd.R_celln zKE HQ35.out (x4_2 : Int) p32 q32; replace p32 := eq_true p32; replace q32 := eq_true q32; have HP36 := Kd.R_putn HQ35.out (x4_2 : Int) (rdOf zKE x0_1 x1_1); rw [← Ny107.out] at HP36; have HQ36 := A_ HP36; clear HP36; refine start_ (n := 16) (S := fun w' => w'.cell? ⟨go31, (x4_2).toNat, none⟩ = some (encK (rdOf zKE x0_1 x4_2)) ∧ w'.cell? ⟨go31, (x1_1).toNat, none⟩ = some (encK (rdOf zKE x0_1 x1_1))) (ds := [13, 15]) (ab 16 0) (by kernel_rfl) rfl rfl ⟨hx104_0, hx105_0⟩ (fun hHeld => ?_); refine with_tabW canon_sink.tab8 canon_sink.bits8 (fun HT_ HW_ => ?_); generalize wr.drew = w33 at HO_0 HO_14 HK HB GG31 HQ35 HQ36 hf31_0 hf32_0 hx104_0 hx105_0 hx31_0 hx32_0 hHeld ⊢; refine pA 0 42 16 1 ?_; refine pA 1 43 16 3 ?_; refine pA 2 44 16 7 ?_; refine pA 3 45 16 15 ?_; refine pA 4 46 16 31 ?_; refine pA 5 47 16 63 ?_; refine pA 6 48 16 127 ?_; refine pA 8 50 16 383 ?_; refine pA 9 51 16 895 ?_; refine pA 10 52 16 1919 ?_; refine tB 7 49 16 2047 ?_; refine tB 11 53 16 4095 ?_; refine pA 12 54 16 8191 ?_; refine last_ (i := 13) (N := none) (ab 16 16383) rfl rfl (one_of HT_.out (by kernel_rfl)) (by decide) (fun K hK => ?_); refine sA ?_; refine hK.out _ _ ?_; clear hK K; refine pA 14 55 16 32767 ?_; refine last_ (i := 15) (N := none) (ab 16 65535) rfl rfl (one_of HT_.out (by kernel_rfl)) (by decide) (fun K hK => ?_); refine sA ?_; refine hK.out _ _ ?_; clear hK K; refine done_ (done_of HT_.out (by kernel_rfl)) ?_; (try go_wp2); go_roundg k2
           case measure => have := HK1.out; have := HK2.out; omega
           case rel => exact ⟨(y107), (x4_2), rf_, H', ⟨by have := HK1.out; have := HK2.out; omega⟩, ⟨fxR_ HQ36.out⟩, ⟨by repeat (first | (with_reducible first | exact HK.out | apply Kept.alloc | apply Kept.drewN | apply Kept.drew | refine Kept.setCell ?_ HMgo31.out _ | refine Kept.setCell ?_ HMgo31.out _) | exact HK.out)⟩, ⟨hs_⟩⟩
          ·rw [if_neg c30] at H
           exact absurd H (by simp)
         ·rw [if_neg c29] at H
          exact absurd H (by simp)
        ·rw [if_neg c28] at H
         exact absurd H (by simp)
       ·rw [if_neg c27] at H
        exact absurd H (by simp)
set_option maxHeartbeats 8000000 in
set_option maxRecDepth 100000 in
theorem canonK_rising.calls (k : Nat) (P0_ : Nat → Prop) (u9000_ : Value) (l0 : List KE) (r : List KE) (w0 w : World) (hB : Below w0.heap.size w0 w) (ho0 : Kd.R kKE 83 w w0.heap.size P0_ u9000_ l0) (h : canonK_rising.f k l0 = some r) :
  Calls Tryz.prog 32 #[u9000_] w fun e w' => ∃ v0_ : Value, e = .returned (v0_) ∧ Kd.R kND 27 w' w0.heap.size (fun k_ => (P0_ k_ ∨ w.heap.size ≤ k_)) v0_ r ∧ Below w0.heap.size w0 w' ∧ Kept w w' (fun k_ => P0_ k_) := by
 have HO0 := A_ (show Kd.R kKE 83 w w0.heap.size (fun k_ => (P0_ k_ ∨ w.heap.size ≤ k_)) u9000_ l0 from Kd.R_mono ho0 (fun k_ hk => (.inl hk))); have HK := A_ (Kept.refl w (fun k_ => P0_ k_)); have HW0 := A_ hB.size; have HB := A_ hB; clear hB; have H : (canonK_rising.l0 k l0 (wrap64 ((wrap64 ((l0.length : Int) / 2)) - 1))) = some r := h; clear h; have H' := A_ H; clear H; obtain ⟨Ao2, co2, eo2⟩ := Kd.R_slice HO0.out; subst eo2; go_enter Tryz.func32, Tryz.ntmps32; go_wp2; go_loopg [3] k (fun kq v3 w' => ∃ (x0_1 : List KE) (x3_1 : Int), v3 = .int .i64 x3_1 ∧ Aside0 (canonK_rising.l0 kq x0_1 x3_1 = some r) ∧ Aside0 (kq ≤ k) ∧ Aside0 (Kd.R kKE 83 w' w0.heap.size (fun k_ => (P0_ k_ ∨ w.heap.size ≤ k_)) (.slice Ao2 l0.length co2) x0_1) ∧ Aside0 (Kept w w' (fun k_ => P0_ k_)) ∧ Aside0 (Below w0.heap.size w0 w'))
 case atStart => exact ⟨(l0), (wrap64 ((wrap64 ((l0.length : Int) / 2)) - 1)), rf_, H', ⟨Nat.le_refl _⟩, ⟨fxR_ HO0.out⟩, ⟨hk_⟩, ⟨hs_⟩⟩
 case round =>
  clear H'; (try clear p2); obtain ⟨x0_1, x3_1, rfl, HA, HK1, HO_0, HK, HB⟩ := hrel; have hl0_1 := (Kd.R_reads' HO_0.out).1; rw [hl0_1] at HO_0; (try simp only [hl0_1])
  cases gk with
  | zero => exact absurd HA.out (by simp [canonK_rising.l0])
  | succ k1 =>
   have H := HA.out; clear HA; simp only [canonK_rising.l0] at H
   by_cases c3 : x3_1 ≥ 0
   ·rw [if_pos c3] at H
    have c3b0 := decide_eq_true c3; clear c3; obtain ⟨t113, A4, H⟩ := bi_ H; have H' := A_ H; clear H; go_wp2_with (first | (refine gC 53 ?_; refine gL 17 Tryz.func53 #[.slice Ao2 x0_1.length co2, .int .i64 x3_1] ?_; (with_reducible refine (canon_sink.calls k1 (fun k_ => some k_ = (.slice Ao2 x0_1.length co2 : Value).ownBlock) (.slice Ao2 x0_1.length co2) x0_1 x3_1 t113 w0 _ ?side1 ?side2 A4.out).mono ?_); (case side1 => repeat (first | (with_reducible first | exact HB.out | apply below_alloc | apply pw_below_drewN | apply below_drew1) | exact HB.out)); (case side2 => exact Kd.R_tight rfl HO_0.out); rintro e w5 ⟨rfl, hy0, hb, hkp⟩; refine ⟨_, rfl, ?_⟩; replace HK := A_ (Kept.then_ (S := (fun k_ => P0_ k_)) hk_ hkp (fun k_ hs_ => (fun e_ => (HO_0.out.1 k_ e_.symm)) hs_)); replace HO_0 := A_ (Kd.R_reok rfl hy0 (fun k_ e_ => HO_0.out.1 k_ e_)); replace HB := A_ (hb); (try clear hb); (try clear hkp); (try clear hy0))); (try simp only [← hl0_1]); go_roundg k1
    case measure => have := HK1.out; omega
    case rel => exact ⟨(t113), (wrap64 (x3_1 - 1)), rf_, H', ⟨by have := HK1.out; omega⟩, ⟨by (try simp only [hl0_1]); (with_reducible repeat (first | apply Kd.R_alloc | apply Kd.R_drewN | apply Kd.R_drew)); exact HO_0.out⟩, ⟨hk_⟩, ⟨hs_⟩⟩
   ·rw [if_neg c3] at H
    have c3b0 := decide_eq_false c3; clear c3; have H' := A_ H; clear H; go_wp2; go_loopg [0, 4, 5] k1 (fun kq v0 v4 v5 w' => ∃ (x0_2 : List KE) (x4_2 : List KE) (x5_2 : ByteArray), v5 = .string x5_2 ∧ Aside0 (canonK_rising.l1 kq x0_2 x4_2 x5_2 = some r) ∧ Aside0 (kq ≤ k1) ∧ Aside0 (Kd.R kKE 83 w' w0.heap.size (fun k_ => (P0_ k_ ∨ w.heap.size ≤ k_) ∧ nv_ k_ v4) v0 x0_2) ∧ Aside0 (Kd.R kND 27 w' w0.heap.size (fun k_ => (P0_ k_ ∨ w.heap.size ≤ k_) ∧ nv_ k_ v0) v4 x4_2) ∧ Aside0 (Kept w w' (fun k_ => P0_ k_)) ∧ Aside0 (Below w0.heap.size w0 w'))
    case atStart => exact ⟨(x0_1), (([] : List KE)), ((⟨#[]⟩ : ByteArray)), rf_, H', ⟨Nat.le_refl _⟩, ⟨by (try simp only [hl0_1]); (with_reducible repeat (first | apply Kd.R_alloc | apply Kd.R_drewN | apply Kd.R_drew)); exact Kd.R_mono HO_0.out (fun _ hk => ⟨hk, (by simp [Value.ownBlock])⟩)⟩, ⟨by (try simp only [hl0_1]); first | exact Kd.R_nil _ _ _ _ _ | exact Kd.N_nil _ _ _ _ _ | exact Kd.V_nil _ _ _ _ _ | exact Kd.Q_nil _ _ _ _ _ | exact Kd.S_nil _ _ _ _ _⟩, ⟨hk_⟩, ⟨hs_⟩⟩
    case round =>
     clear H'; (try clear p2); (try clear c3); (try clear c3b0); (try clear p2); obtain ⟨x0_2, x4_2, x5_2, rfl, HA, HK2, HO_0, HO_4, HK, HB⟩ := hrel
     cases gk with
     | zero => exact absurd HA.out (by simp [canonK_rising.l1])
     | succ k2 =>
      have H := HA.out; clear HA; simp only [canonK_rising.l1] at H
      by_cases c6 : (x0_2.length : Int) > 0
      ·rw [if_pos c6] at H
       have c6b0 := decide_eq_true c6; have c6b1 : decide (0 < x0_2.length) = true := decide_eq_true (by omega); clear c6
       by_cases c7 : 0 < (x0_2.length : Int)
       ·rw [if_pos c7] at H
        have c7b0 := decide_eq_true c7; have c7b1 : decide (0 < x0_2.length) = true := decide_eq_true (by omega); clear c7; obtain ⟨t115, A8, H⟩ := bi_ H
        by_cases c9 : t115.toList = x5_2.toList
        ·rw [if_pos c9] at H
         have c9b0 : (t115.toList == x5_2.toList) = true := beq_iff_eq.mpr c9; have c9b1 : (t115.toList != x5_2.toList) = false := bne_eq_false_iff_eq.mpr c9; clear c9; obtain ⟨ji10, hji10⟩ : ∃ j_ : Int, (wrap64 ((x0_2.length : Int) - 1)) = j_ := ⟨_, rfl⟩; (replace H : (if 0 ≤ (ji10) then (if (ji10) < (x0_2.length : Int) then (if (ji10) ≤ (x0_2.length : Int) then ((canon_sink.f k2 ((x0_2.set (0 : Int).toNat (rdOf zKE x0_2 (ji10))).take ((ji10) : Int).toNat) 0).bind fun t121 => (canonK_rising.l1 k2 t121 x4_2 x5_2)) else (none)) else (none)) else (none)) = some r := by first | (rw [hji10] at H; exact H) | (simp only [hji10] at H ⊢; exact H)); (try rw [hji10] at A8); have hji10w : (IntKind.i64.wrap ((x0_2.length : Int) - 1)) = ji10 := (i64_w _).trans hji10
         by_cases c11 : 0 ≤ (ji10)
         ·rw [if_pos c11] at H
          have c11b0 := decide_eq_true c11; clear c11
          by_cases c12 : (ji10) < (x0_2.length : Int)
          ·rw [if_pos c12] at H
           have c12b0 := decide_eq_true c12; clear c12; obtain ⟨y117, hy117⟩ : ∃ y_ : List KE, y_ = (x0_2.set (0 : Int).toNat (rdOf zKE x0_2 (ji10))) := ⟨_, rfl⟩; (replace H : (if (ji10) ≤ (x0_2.length : Int) then ((canon_sink.f k2 (y117.take ((ji10) : Int).toNat) 0).bind fun t121 => (canonK_rising.l1 k2 t121 x4_2 x5_2)) else (none)) = some r := by first | (rw [hy117]; with_reducible exact H) | (have H2_ := (Option.bind_some _ _).symm.trans H; rw [hy117]; with_reducible exact H2_) | (have H2_ := (Option.bind_some _ _).symm.trans H; with_reducible exact H2_) | with_reducible exact H | (rw [hy117]; exact H) | exact H); have Ny117 := A_ hy117; clear hy117
           by_cases c14 : (ji10) ≤ (x0_2.length : Int)
           ·rw [if_pos c14] at H
            have c14b0 := eq_true c14; have c14b1 := decide_eq_true c14; clear c14; obtain ⟨y118, hy118⟩ : ∃ y_ : List KE, y_ = (y117.take ((ji10) : Int).toNat) := ⟨_, rfl⟩; (replace H : ((canon_sink.f k2 y118 0).bind fun t121 => (canonK_rising.l1 k2 t121 x4_2 x5_2)) = some r := by first | (rw [hy118]; with_reducible exact H) | (have H2_ := (Option.bind_some _ _).symm.trans H; rw [hy118]; with_reducible exact H2_) | (have H2_ := (Option.bind_some _ _).symm.trans H; with_reducible exact H2_) | with_reducible exact H | (rw [hy118]; exact H) | exact H); have Ny118 := A_ hy118; clear hy118; obtain ⟨t121, A15, H⟩ := bi_ H; have H' := A_ H; clear H; obtain ⟨Ao16, co16, eo16⟩ := Kd.R_slice HO_0.out; subst eo16; have p114 : 0 ≤ (0 : Int) := (by omega); have q114 : 0 < (x0_2.length : Int) := od_; obtain ⟨ad114, e114, hx114_0⟩ := at_KE (Kd.R_reads' HO_0.out).2.2 0 p114 q114
            cases e114
            have qi114 : (0 < x0_2.length) = True := eq_true (by omega); (try rw [show ((0 : Int)).toNat = 0 from rfl] at hx114_0); (try rw [Addr.add_zero'] at hx114_0); replace p114 := eq_true p114; replace q114 := eq_true q114; go_wp2_with (first | ((with_reducible refine gate_inv (name := "lustrum/canon.key") rfl ?_); refine goesLI_ (v := cellsK (rdOf zKE x0_2 0)) (some 24) rfl rfl Tryz.func148 (by kernel_rfl) rfl rfl rfl (method_key (rdOf zKE x0_2 0) _) ?_; (with_reducible refine (canon_element_key.calls (rdOf zKE x0_2 0) t115 _ A8.out).mono ?_); rintro e w17 ⟨rfl, hb⟩; refine ⟨_, rfl, ?_⟩; replace HO_0 := A_ (Kd.R_below h0_ hb); replace HO_4 := A_ (Kd.R_below (fxR_ HO_4.out) hb); replace HK := A_ (Kept.below (S := (fun k_ => P0_ k_)) hk_ hb); replace HB := bs_ hb; (try clear hb); have p116 : 0 ≤ ((ji10) : Int) := od_; have q116 : (ji10) < (x0_2.length : Int) := od_; obtain ⟨ad116, e116, hx116_0⟩ := at_KE (Kd.R_reads' HO_0.out).2.2 (ji10) p116 q116; obtain rfl : ad114 = ad116 := (by injection e116); replace p116 := eq_true p116; replace q116 := eq_true q116; have p13 : 0 ≤ (0 : Int) := (by omega); have q13 : (0 : Int) < ((x0_2.length : Int) : Int) := od_; have qi13 : (0 < x0_2.length) = True := eq_true (by omega); obtain ⟨go13, co13, eo13, gb13, gl13, cl13, HG13⟩ := Kd.R_form HO_0.out (by omega); (first | cases eo13 | (injection eo13 with ea_ en_ ec_; (first | subst ea_ | (injection ea_ with ea_; subst ea_)); subst ec_; clear en_)); have GB13 := A_ gb13; have GG13 := A_ HG13; clear gb13 gl13 HG13; have HMgo13 := A_ (show (P0_ go13 ∨ w.heap.size ≤ go13) from (HO_0.out.1 _ rfl).1); (first | simp only [add_plain] at hx114_0 | skip); (first | simp only [add_plain] at hx116_0 | skip); obtain ⟨hx13_0, hf13_0⟩ := Kd.R_celln zKE HO_0.out (0 : Int) p13 q13; (try rw [show ((0 : Int)).toNat = 0 from rfl] at hx13_0); (try simp only [Nat.reduceMul, Nat.zero_mul, Nat.zero_add, Nat.reduceAdd] at hx13_0); (try rw [show ((0 : Int)).toNat = 0 from rfl] at hf13_0); (try simp only [Nat.reduceMul, Nat.zero_mul, Nat.zero_add, Nat.reduceAdd] at hf13_0); replace p13 := eq_true p13; replace q13 := eq_true q13; obtain ⟨hy18_, hz18_⟩ := Kd.R_celln zKE HO_0.out (0 : Int) (by omega) od_; (try simp only [Int.reduceToNat, Int.toNat_zero, Int.toNat_ofNat, Nat.reduceMul, Nat.zero_mul, Nat.zero_add] at hy18_ hz18_); (try rw [show ((0 : Int)).toNat = 0 from rfl] at hy18_); (try rw [show ((0 : Int)).toNat = 0 from rfl] at hz18_); have HP18 := Kd.R_putg HO_0.out (0 : Int) (rdOf zKE x0_2 (ji10))) | ((with_reducible refine gate_store (t := 83) (p := 43) rfl ?_); refine store_event (t := 83) (p := 43) (v := ?vo_w19) (w1 := (w17.setCell ⟨go13, (0 : Int).toNat, none⟩ (encK (rdOf zKE x0_2 (ji10))))) ?hg ?ho ?hn ?hr ?_; (case ho => rfl); (case hg => rfl); (case hn => rfl); (case hr => first | (go_simp; done) | (go_simp; rfl)); intro w19 hw; have hg : w17.grownBy w19 (some go13) := (by rw [hw]; exact HP18.2); have hp_ : Kd.R kKE 83 w19 w0.heap.size (fun k_ => (P0_ k_ ∨ w.heap.size ≤ k_) ∧ nv_ k_ u4) (.slice (some ⟨go13, 0, none⟩) x0_2.length co16) y117 := (by rw [hw, Ny117.out]; exact HP18.1); clear HP18; replace HO_4 := A_ (Kd.R_after (v := (.slice (some ⟨go13, 0, none⟩) x0_2.length co16)) (v1 := (.slice (some ⟨go13, 0, none⟩) x0_2.length co16)) (ok := (fun k_ => (P0_ k_ ∨ w.heap.size ≤ k_))) (fxR_ HO_4.out) hg (.inl rfl)); replace HB := A_ ((by rw [hw]; exact below_set (HB.out) GB13.out : Below w0.heap.size w0 w19)); replace HK := A_ (Kept.of_grown (S := (fun k_ => P0_ k_)) hg hk_ (fun k_ e_ => (HO_0.out.1 k_ e_).1)); replace HO_0 := A_ (hp_); clear hg hw hp_; have ly117 : y117.length = x0_2.length := (by rw [Ny117.out, List.length_set]); have q20 : ((ji10) : Int) ≤ ((x0_2.length : Int) : Int) := od_; obtain ⟨i020, hi020, _, hsz20, _⟩ := info_parts info83; have hcut20 := cut_to (P := Tryz.prog) 61 83 .i64 Tryz.underlying61 hi020 (some ⟨go13, 0, none⟩) x0_2.length co16 (ji10) od_ q20 (Kd.R_reads' HO_0.out).2.1; have hr20 := Kd.R_take (m := ((ji10) : Int).toNat) HO_0.out (by omega); have hy20 : y118.length = ((ji10) : Int).toNat := (by rw [Ny118.out, List.length_take]; omega); rw [← Ny118.out] at hr20; rw [← hy20] at hr20 hcut20; clear hy20 hi020 hsz20 HO_0; have HO120 := A_ hr20; clear hr20; replace q20 := eq_true q20) | (refine gC 53 ?_; refine gL 50 Tryz.func53 #[.slice (some ⟨go13, 0, none⟩) y118.length co16, .int .i64 0] ?_; (with_reducible refine (canon_sink.calls k2 (fun k_ => some k_ = (.slice (some ⟨go13, 0, none⟩) y118.length co16 : Value).ownBlock) (.slice (some ⟨go13, 0, none⟩) y118.length co16) y118 0 t121 w0 _ ?side1 ?side2 A15.out).mono ?_); (case side1 => repeat (first | (with_reducible first | exact HB.out | apply below_alloc | apply pw_below_drewN | apply below_drew1) | exact HB.out)); (case side2 => exact Kd.R_tight rfl HO120.out); rintro e w21 ⟨rfl, hy0, hb, hkp⟩; refine ⟨_, rfl, ?_⟩; replace HO_4 := A_ (Kd.R_mono (ok' := fun k_ => (P0_ k_ ∨ w.heap.size ≤ k_) ∧ nv_ k_ (.slice (some ⟨go13, 0, none⟩) y118.length co16)) (Kd.R_keptB (HO_4.out) hkp (fun k_ hk_ hs_ => (hk_.2) hs_)) (fun k_ hk_ => ⟨hk_.1.1, hk_.1.2⟩)); replace HK := A_ (Kept.then_ (S := (fun k_ => P0_ k_)) hk_ hkp (fun k_ hs_ => (fun e_ => (HO120.out.1 k_ e_.symm).1) hs_)); replace HO120 := A_ (Kd.R_reok rfl hy0 (fun k_ e_ => HO120.out.1 k_ e_)); replace HB := A_ (hb); (try clear hb); (try clear hkp); (try clear hy0)))
            go_roundg k2
            case measure => have := HK1.out; have := HK2.out; omega
            case rel => exact ⟨(t121), (x4_2), (x5_2), rf_, H', ⟨by have := HK1.out; have := HK2.out; omega⟩, ⟨by (try simp only [hl0_1]); (with_reducible repeat (first | apply Kd.R_alloc | apply Kd.R_drewN | apply Kd.R_drew)); exact HO120.out⟩, ⟨by (try simp only [hl0_1]); (with_reducible repeat (first | apply Kd.R_alloc | apply Kd.R_drewN | apply Kd.R_drew)); exact HO_4.out⟩, ⟨hk_⟩, ⟨hs_⟩⟩
           ·rw [if_neg c14] at H
            exact absurd H (by simp)
          ·rw [if_neg c12] at H
           exact absurd H (by simp)
         ·rw [if_neg c11] at H
          exact absurd H (by simp)
        ·rw [if_neg c9] at H
         have c9b0 : (t115.toList == x5_2.toList) = false := beq_eq_false_iff_ne.mpr c9; have c9b1 : (t115.toList != x5_2.toList) = true := bne_iff_ne.mpr c9
         by_cases c22 : x4_2.length < 1466015503701
         ·rw [if_pos c22] at H
          have LMc22 := A_ c22; clear c22; obtain ⟨y123, hy123⟩ : ∃ y_ : List KE, y_ = (x4_2 ++ [rdOf zKE x0_2 0]) := ⟨_, rfl⟩; (replace H : (if 0 ≤ (wrap64 ((x0_2.length : Int) - 1)) then (if (wrap64 ((x0_2.length : Int) - 1)) < (x0_2.length : Int) then (if (wrap64 ((x0_2.length : Int) - 1)) ≤ (x0_2.length : Int) then ((canon_sink.f k2 ((x0_2.set (0 : Int).toNat (rdOf zKE x0_2 (wrap64 ((x0_2.length : Int) - 1)))).take ((wrap64 ((x0_2.length : Int) - 1)) : Int).toNat) 0).bind fun t131 => (canonK_rising.l1 k2 t131 y123 t115)) else (none)) else (none)) else (none)) = some r := by first | (rw [hy123]; with_reducible exact H) | (have H2_ := (Option.bind_some _ _).symm.trans H; rw [hy123]; with_reducible exact H2_) | (have H2_ := (Option.bind_some _ _).symm.trans H; with_reducible exact H2_) | with_reducible exact H | (rw [hy123]; exact H) | exact H); have Ny123 := A_ hy123; clear hy123; obtain ⟨ji23, hji23⟩ : ∃ j_ : Int, (wrap64 ((x0_2.length : Int) - 1)) = j_ := ⟨_, rfl⟩; (replace H : (if 0 ≤ (ji23) then (if (ji23) < (x0_2.length : Int) then (if (ji23) ≤ (x0_2.length : Int) then ((canon_sink.f k2 ((x0_2.set (0 : Int).toNat (rdOf zKE x0_2 (ji23))).take ((ji23) : Int).toNat) 0).bind fun t131 => (canonK_rising.l1 k2 t131 y123 t115)) else (none)) else (none)) else (none)) = some r := by first | (rw [hji23] at H; exact H) | (simp only [hji23] at H ⊢; exact H)); (try rw [hji23] at A8); have hji23w : (IntKind.i64.wrap ((x0_2.length : Int) - 1)) = ji23 := (i64_w _).trans hji23
          by_cases c24 : 0 ≤ (ji23)
          ·rw [if_pos c24] at H
           have c24b0 := decide_eq_true c24; clear c24
           by_cases c25 : (ji23) < (x0_2.length : Int)
           ·rw [if_pos c25] at H
            have c25b0 := decide_eq_true c25; clear c25; obtain ⟨y127, hy127⟩ : ∃ y_ : List KE, y_ = (x0_2.set (0 : Int).toNat (rdOf zKE x0_2 (ji23))) := ⟨_, rfl⟩; (replace H : (if (ji23) ≤ (x0_2.length : Int) then ((canon_sink.f k2 (y127.take ((ji23) : Int).toNat) 0).bind fun t131 => (canonK_rising.l1 k2 t131 y123 t115)) else (none)) = some r := by first | (rw [hy127]; with_reducible exact H) | (have H2_ := (Option.bind_some _ _).symm.trans H; rw [hy127]; with_reducible exact H2_) | (have H2_ := (Option.bind_some _ _).symm.trans H; with_reducible exact H2_) | with_reducible exact H | (rw [hy127]; exact H) | exact H); have Ny127 := A_ hy127; clear hy127
            by_cases c27 : (ji23) ≤ (x0_2.length : Int)
            ·rw [if_pos c27] at H
             have c27b0 := eq_true c27; have c27b1 := decide_eq_true c27; clear c27; obtain ⟨y128, hy128⟩ : ∃ y_ : List KE, y_ = (y127.take ((ji23) : Int).toNat) := ⟨_, rfl⟩; (replace H : ((canon_sink.f k2 y128 0).bind fun t131 => (canonK_rising.l1 k2 t131 y123 t115)) = some r := by first | (rw [hy128]; with_reducible exact H) | (have H2_ := (Option.bind_some _ _).symm.trans H; rw [hy128]; with_reducible exact H2_) | (have H2_ := (Option.bind_some _ _).symm.trans H; with_reducible exact H2_) | with_reducible exact H | (rw [hy128]; exact H) | exact H); have Ny128 := A_ hy128; clear hy128; obtain ⟨t131, A28, H⟩ := bi_ H; have H' := A_ H; clear H; obtain ⟨Ao29, co29, eo29⟩ := Kd.R_slice HO_0.out; subst eo29; have p114 : 0 ≤ (0 : Int) := (by omega); have q114 : 0 < (x0_2.length : Int) := od_; obtain ⟨ad114, e114, hx114_0⟩ := at_KE (Kd.R_reads' HO_0.out).2.2 0 p114 q114
             cases e114
             have qi114 : (0 < x0_2.length) = True := eq_true (by omega); (try rw [show ((0 : Int)).toNat = 0 from rfl] at hx114_0); (try rw [Addr.add_zero'] at hx114_0); replace p114 := eq_true p114; replace q114 := eq_true q114; go_wp2_with (first | ((with_reducible refine gate_inv (name := "lustrum/canon.key") rfl ?_); refine goesLI_ (v := cellsK (rdOf zKE x0_2 0)) (some 24) rfl rfl Tryz.func148 (by kernel_rfl) rfl rfl rfl (method_key (rdOf zKE x0_2 0) _) ?_; (with_reducible refine (canon_element_key.calls (rdOf zKE x0_2 0) t115 _ A8.out).mono ?_); rintro e w30 ⟨rfl, hb⟩; refine ⟨_, rfl, ?_⟩; replace HO_0 := A_ (Kd.R_below h0_ hb); replace HO_4 := A_ (Kd.R_below (fxR_ HO_4.out) hb); replace HK := A_ (Kept.below (S := (fun k_ => P0_ k_)) hk_ hb); replace HB := bs_ hb; (try clear hb); have p122 : 0 ≤ (0 : Int) := (by omega); have q122 : 0 < (x0_2.length : Int) := od_; obtain ⟨ad122, e122, hx122_0⟩ := at_KE (Kd.R_reads' HO_0.out).2.2 0 p122 q122; obtain rfl : ad114 = ad122 := (by injection e122); have qi122 : (0 < x0_2.length) = True := eq_true (by omega); (try rw [show ((0 : Int)).toNat = 0 from rfl] at hx122_0); (try rw [Addr.add_zero'] at hx122_0); replace p122 := eq_true p122; replace q122 := eq_true q122) | ((with_reducible refine gate_inv (name := "lustrum/canon.node") rfl ?_); refine goesLI_ (v := cellsK (rdOf zKE x0_2 0)) (some 32) rfl rfl Tryz.func149 (by kernel_rfl) rfl rfl rfl (method_node (rdOf zKE x0_2 0) _) ?_; (with_reducible refine (canon_element_node.calls (rdOf zKE x0_2 0) _).mono ?_); rintro e w30n ⟨rfl, hb⟩; refine ⟨_, rfl, ?_⟩; replace HO_0 := A_ (Kd.R_below h0_ hb); replace HO_4 := A_ (Kd.R_below (fxR_ HO_4.out) hb); replace HK := A_ (Kept.below (S := (fun k_ => P0_ k_)) hk_ hb); replace HB := bs_ hb; (try clear hb)) | ((with_reducible refine gate_builtin (b := .append) (xs := #[.tmp 28, .tmp 33]) rfl ?_); at_builtin; refine Kd.R_append kND (w0 := w0) w0.heap.size rfl (.tmp 28) (.tmp 33) 25 27 (.agg #[(.int .i64 0), (.int .i64 0), (.string ⟨#[]⟩), (.string ⟨#[]⟩), (.string ⟨#[]⟩), (.bool false), (.bool false), (.slice none 0 0)]) 96 rfl Tryz.underlying25 info27 rfl (by decide) (by omega) u4 x4_2 (rdOf zKE x0_2 0) (cellsN (rdOf zKE x0_2 0)) (fun k_ => (P0_ k_ ∨ w.heap.size ≤ k_) ∧ nv_ k_ (.slice (some ad114) x0_2.length co29)) (fun _ => False) rfl rfl ?aP (fun _ hk => hk.elim) ?aF ?aO ?aB ?aS ?aL ?_; (case aP => exact rfl); (case aB => exact hs_); (case aF => exact (fun k_ hk => ⟨(.inr (Nat.le_trans (by first | exact HK.out.1 | exact (show Kept w _ (fun k_ => P0_ k_) from by repeat (first | (with_reducible first | exact HK.out | apply Kept.alloc | apply Kept.drewN | apply Kept.drew) | exact HK.out)).1) hk)), Kd.fresh' (Kd.R_lt h0_) k_ hk⟩)); (case aO => exact (fxR_ HO_4.out)); (case aS => exact (below_size hs_)); (case aL => have := LMc22.out; omega); intro v124 w31 ho hb hg hat; rw [← Ny123.out] at ho; replace HO_0 := A_ (Kd.R_after (ok := (fun k_ => (P0_ k_ ∨ w.heap.size ≤ k_))) h0_ hg hat); replace HB := A_ (hb); replace HK := A_ (Kept.of_grown (S := (fun k_ => P0_ k_)) hg hk_ (fun k_ e_ => (HO_4.out.1 k_ e_).1)); have HO125 := A_ (ho); clear HO_4; clear ho hb hg hat; have p126 : 0 ≤ ((ji23) : Int) := od_; have q126 : (ji23) < (x0_2.length : Int) := od_; obtain ⟨ad126, e126, hx126_0⟩ := at_KE (Kd.R_reads' HO_0.out).2.2 (ji23) p126 q126; obtain rfl : ad114 = ad126 := (by injection e126); replace p126 := eq_true p126; replace q126 := eq_true q126; have p26 : 0 ≤ (0 : Int) := (by omega); have q26 : (0 : Int) < ((x0_2.length : Int) : Int) := od_; have qi26 : (0 < x0_2.length) = True := eq_true (by omega); obtain ⟨go26, co26, eo26, gb26, gl26, cl26, HG26⟩ := Kd.R_form HO_0.out (by omega); (first | cases eo26 | (injection eo26 with ea_ en_ ec_; (first | subst ea_ | (injection ea_ with ea_; subst ea_)); subst ec_; clear en_)); have GB26 := A_ gb26; have GG26 := A_ HG26; clear gb26 gl26 HG26; have HMgo26 := A_ (show (P0_ go26 ∨ w.heap.size ≤ go26) from (HO_0.out.1 _ rfl).1); (first | simp only [add_plain] at hx114_0 | skip); (first | simp only [add_plain] at hx122_0 | skip); (first | simp only [add_plain] at hx126_0 | skip); obtain ⟨hx26_0, hf26_0⟩ := Kd.R_celln zKE HO_0.out (0 : Int) p26 q26; (try rw [show ((0 : Int)).toNat = 0 from rfl] at hx26_0); (try simp only [Nat.reduceMul, Nat.zero_mul, Nat.zero_add, Nat.reduceAdd] at hx26_0); (try rw [show ((0 : Int)).toNat = 0 from rfl] at hf26_0); (try simp only [Nat.reduceMul, Nat.zero_mul, Nat.zero_add, Nat.reduceAdd] at hf26_0); replace p26 := eq_true p26; replace q26 := eq_true q26; obtain ⟨hy32_, hz32_⟩ := Kd.R_celln zKE HO_0.out (0 : Int) (by omega) od_; (try simp only [Int.reduceToNat, Int.toNat_zero, Int.toNat_ofNat, Nat.reduceMul, Nat.zero_mul, Nat.zero_add] at hy32_ hz32_); (try rw [show ((0 : Int)).toNat = 0 from rfl] at hy32_); (try rw [show ((0 : Int)).toNat = 0 from rfl] at hz32_); have HP32 := Kd.R_putg HO_0.out (0 : Int) (rdOf zKE x0_2 (ji23))) | ((with_reducible refine gate_store (t := 83) (p := 43) rfl ?_); refine store_event (t := 83) (p := 43) (v := ?vo_w33) (w1 := (w31.setCell ⟨go26, (0 : Int).toNat, none⟩ (encK (rdOf zKE x0_2 (ji23))))) ?hg ?ho ?hn ?hr ?_; (case ho => rfl); (case hg => rfl); (case hn => rfl); (case hr => first | (go_simp; done) | (go_simp; rfl)); intro w33 hw; have hg : w31.grownBy w33 (some go26) := (by rw [hw]; exact HP32.2); have hp_ : Kd.R kKE 83 w33 w0.heap.size (fun k_ => (P0_ k_ ∨ w.heap.size ≤ k_) ∧ nv_ k_ v124) (.slice (some ⟨go26, 0, none⟩) x0_2.length co29) y127 := (by rw [hw, Ny127.out]; exact HP32.1); clear HP32; replace HO125 := A_ (Kd.R_after (v := (.slice (some ⟨go26, 0, none⟩) x0_2.length co29)) (v1 := (.slice (some ⟨go26, 0, none⟩) x0_2.length co29)) (ok := (fun k_ => (P0_ k_ ∨ w.heap.size ≤ k_))) (fxR_ HO125.out) hg (.inl rfl)); replace HB := A_ ((by rw [hw]; exact below_set (HB.out) GB26.out : Below w0.heap.size w0 w33)); replace HK := A_ (Kept.of_grown (S := (fun k_ => P0_ k_)) hg hk_ (fun k_ e_ => (HO_0.out.1 k_ e_).1)); replace HO_0 := A_ (hp_); clear hg hw hp_; have ly127 : y127.length = x0_2.length := (by rw [Ny127.out, List.length_set]); have q34 : ((ji23) : Int) ≤ ((x0_2.length : Int) : Int) := od_; obtain ⟨i034, hi034, _, hsz34, _⟩ := info_parts info83; have hcut34 := cut_to (P := Tryz.prog) 61 83 .i64 Tryz.underlying61 hi034 (some ⟨go26, 0, none⟩) x0_2.length co29 (ji23) od_ q34 (Kd.R_reads' HO_0.out).2.1; have hr34 := Kd.R_take (m := ((ji23) : Int).toNat) HO_0.out (by omega); have hy34 : y128.length = ((ji23) : Int).toNat := (by rw [Ny128.out, List.length_take]; omega); rw [← Ny128.out] at hr34; rw [← hy34] at hr34 hcut34; clear hy34 hi034 hsz34 HO_0; have HO130 := A_ hr34; clear hr34; replace q34 := eq_true q34) | (refine gC 53 ?_; refine gL 50 Tryz.func53 #[.slice (some ⟨go26, 0, none⟩) y128.length co29, .int .i64 0] ?_; (with_reducible refine (canon_sink.calls k2 (fun k_ => some k_ = (.slice (some ⟨go26, 0, none⟩) y128.length co29 : Value).ownBlock) (.slice (some ⟨go26, 0, none⟩) y128.length co29) y128 0 t131 w0 _ ?side1 ?side2 A28.out).mono ?_); (case side1 => repeat (first | (with_reducible first | exact HB.out | apply below_alloc | apply pw_below_drewN | apply below_drew1) | exact HB.out)); (case side2 => exact Kd.R_tight rfl HO130.out); rintro e w35 ⟨rfl, hy0, hb, hkp⟩; refine ⟨_, rfl, ?_⟩; replace HO125 := A_ (Kd.R_mono (ok' := fun k_ => (P0_ k_ ∨ w.heap.size ≤ k_) ∧ nv_ k_ (.slice (some ⟨go26, 0, none⟩) y128.length co29)) (Kd.R_keptB (HO125.out) hkp (fun k_ hk_ hs_ => (hk_.2) hs_)) (fun k_ hk_ => ⟨hk_.1.1, hk_.1.2⟩)); replace HK := A_ (Kept.then_ (S := (fun k_ => P0_ k_)) hk_ hkp (fun k_ hs_ => (fun e_ => (HO130.out.1 k_ e_.symm).1) hs_)); replace HO130 := A_ (Kd.R_reok rfl hy0 (fun k_ e_ => HO130.out.1 k_ e_)); replace HB := A_ (hb); (try clear hb); (try clear hkp); (try clear hy0)))
             go_roundg k2
             case measure => have := HK1.out; have := HK2.out; omega
             case rel => exact ⟨(t131), (y123), (t115), rf_, H', ⟨by have := HK1.out; have := HK2.out; omega⟩, ⟨by (try simp only [hl0_1]); (with_reducible repeat (first | apply Kd.R_alloc | apply Kd.R_drewN | apply Kd.R_drew)); exact HO130.out⟩, ⟨by (try simp only [hl0_1]); (with_reducible repeat (first | apply Kd.R_alloc | apply Kd.R_drewN | apply Kd.R_drew)); exact HO125.out⟩, ⟨hk_⟩, ⟨hs_⟩⟩
            ·rw [if_neg c27] at H
             exact absurd H (by simp)
           ·rw [if_neg c25] at H
            exact absurd H (by simp)
          ·rw [if_neg c24] at H
           exact absurd H (by simp)
         ·rw [if_neg c22] at H
          exact absurd H (by simp)
       ·rw [if_neg c7] at H
        exact absurd H (by simp)
      ·rw [if_neg c6] at H
       have c6b0 := decide_eq_false c6; have c6b9 := c6b0; (try simp only [hl0_1] at c6b9); (try simp only [hl137_7] at c6b9); have c6b1 : decide (0 < x0_2.length) = false := decide_eq_false (by omega); clear c6; obtain rfl := Option.some.inj H; obtain ⟨Ao36, co36, eo36⟩ := Kd.R_slice HO_0.out; subst eo36; go_wp2; go_ret; exact ⟨_, by first | rfl | (simp [errW_none, errW_some] <;> rfl) | (simp [*, errW_none, errW_some] <;> rfl), by (with_reducible repeat (first | apply Kd.R_alloc | apply Kd.R_drewN | apply Kd.R_drew)); exact Kd.R_mono HO_4.out (fun _ hk => hk.1), hs_, hk_⟩
end Go.Proofs.YtjgjhekpiijniaaGreat.A
namespace Go.Proofs.YtjgjhekpiijniaaGreat.A
open Go.RowKit Go.Proofs.YtjgjhekpiijniaaGreatW.PrintWords Go.Proofs.YtjgjhekpiijniaaGreatW.PrintLast Go.Proofs.YtjgjhekpiijniaaGreatW.PrintMore
attribute [local go_sem] max2_int min2_int max_two min_two max_three min_three max_four min_four
attribute [local go_sem] isSome_setCell
set_option maxHeartbeats 8000000 in
set_option maxRecDepth 100000 in
theorem canon_flat.calls (wb : World) (P0_ : Nat → Prop) (k : Nat) : ∀ (a0_0 a0_1 : Int) (a0_2 a0_3 a0_4 : ByteArray) (a0_5 a0_6 : Bool) (A0_7 : Option Addr) (c0_7 : Nat) (l0_7 : List (S27)) (r : List S27) (w : World) (hf0_7 : Kd.F k27 wb P0_ A0_7 l0_7.length l0_7) (hwb : Below wb.heap.size wb w) (hc0_7 : l0_7.length ≤ c0_7) (h : canon_flat.f k a0_0 a0_1 a0_2 a0_3 a0_4 a0_5 a0_6 l0_7 = some r),
  Calls Tryz.prog 33 #[.agg #[.int .i64 a0_0, .int .i64 a0_1, .string a0_2, .string a0_3, .string a0_4, .bool a0_5, .bool a0_6, .slice A0_7 l0_7.length c0_7]] w fun e w' => ∃ (v0_ : Value) (le_ : List KE), e = .returned (v0_) ∧ Kd.R kKE 83 w' w.heap.size (fun _ => True) v0_ le_ ∧ OkE wb P0_ le_ r ∧ Below w.heap.size w w' := by
 induction k using Nat.strongRecOn with
 | _ k ih =>
 intro a0_0 a0_1 a0_2 a0_3 a0_4 a0_5 a0_6 A0_7 c0_7 l0_7 r w hf0_7 hwb hc0_7 h
 cases k with
 | zero => exact absurd h (by simp [canon_flat.f])
 | succ k =>
 simp only [canon_flat.f] at h; have hu27 := Tryz.underlying27; have HF0_7 := A_ hf0_7; have HWB := A_ hwb; have HR0_7 := A_ (Kd.C_below (Kd.F_now hf0_7) hwb); have HC0_7 := A_ hc0_7; clear hf0_7 hwb hc0_7; have HB := A_ (Below.refl w.heap.size w); have H : (if a0_0 = 2 then (canon_flat.l0 k ([] : List S27) l0_7 (l0_7.length : Int) 0) else ((print_Text.f k a0_0 a0_1 a0_2 a0_3 a0_4 a0_5 a0_6 l0_7).bind fun t133 => (some (([(⟨a0_0, ⟨a0_1, a0_2, a0_3, a0_4⟩, a0_5, a0_6, l0_7⟩ : S27)] : List S27))))) = some r := h; clear h
 by_cases c2 : a0_0 = 2
 ·rw [if_pos c2] at H
  have c2b0 : (a0_0 == 2) = true := beq_iff_eq.mpr c2; have c2b1 : (a0_0 != 2) = false := bne_eq_false_iff_eq.mpr c2; clear c2; have H' := A_ H; clear H; go_enter Tryz.func33, Tryz.ntmps33; go_wp2_with (first | (refine gx_ w 1 (n8_ a0_0 a0_1 a0_2 a0_3 a0_4 a0_5 a0_6 (.slice A0_7 l0_7.length c0_7)) 27 ?_; clear HB; intro gb132 w3 BK132 GE132 HB; have GW132 := GE132; have Z4 := bz8_ BK132)); go_loopg [3, 18] k (fun kq v3 v18 w' => ∃ (x3_1 : List S27) (x18_1 : Int) (lx_1 : List KE), v18 = .int .i64 x18_1 ∧ Aside0 (canon_flat.l0 kq x3_1 l0_7 (l0_7.length : Int) x18_1 = some r) ∧ Aside0 (kq ≤ k) ∧ Aside0 (OkE wb P0_ lx_1 x3_1) ∧ Aside0 (Kd.R kKE 83 w' w.heap.size (fun _ => True) v3 lx_1) ∧ Aside0 (w'.heap[gb132]? = some (.cells #[.int .i64 a0_0, .int .i64 a0_1, .string a0_2, .string a0_3, .string a0_4, .bool a0_5, .bool a0_6, (.slice A0_7 l0_7.length c0_7)] 27 (0, 0))) ∧ Aside0 (Below w.heap.size w w'))
  case atStart => exact ⟨(([] : List S27)), (0), ([] : List KE), rf_, H', ⟨Nat.le_refl _⟩, ⟨OkE.nil _ _⟩, ⟨by first | exact Kd.R_nil _ _ _ _ _ | exact Kd.N_nil _ _ _ _ _ | exact Kd.V_nil _ _ _ _ _ | exact Kd.Q_nil _ _ _ _ _ | exact Kd.S_nil _ _ _ _ _⟩, ⟨bl_ BK132.out⟩, ⟨hs_⟩⟩
  case round =>
   clear H'; (try clear c2); (try clear c2b0); (try clear c2b1); (try clear p2); (try clear Z4); obtain ⟨x3_1, x18_1, lx_1, rfl, HA, HK1, HE_3, HO_3, BK132, HB⟩ := hrel
   cases gk with
   | zero => exact absurd HA.out (by simp [canon_flat.l0])
   | succ k1 =>
    have H := HA.out; clear HA; simp only [canon_flat.l0] at H
    by_cases c5 : x18_1 < (l0_7.length : Int)
    ·rw [if_pos c5] at H
     have c5b0 := decide_eq_true c5; clear c5
     by_cases c6 : 0 ≤ x18_1
     ·rw [if_pos c6] at H
      have c6b0 := decide_eq_true c6; clear c6
      by_cases c7 : x18_1 < (l0_7.length : Int)
      ·rw [if_pos c7] at H
       have c7b0 := decide_eq_true c7; clear c7; obtain ⟨t139, A8, H⟩ := bi_ H
       by_cases c9 : x3_1.length + t139.length < 8796093022208
       ·rw [if_pos c9] at H
        have LMc9 := A_ c9; clear c9; obtain ⟨y142, hy142⟩ : ∃ y_ : List S27, y_ = (x3_1 ++ t139) := ⟨_, rfl⟩; (replace H : (canon_flat.l0 k1 y142 l0_7 (l0_7.length : Int) (wrap64 (x18_1 + 1))) = some r := by first | (rw [hy142]; with_reducible exact H) | (have H2_ := (Option.bind_some _ _).symm.trans H; rw [hy142]; with_reducible exact H2_) | (have H2_ := (Option.bind_some _ _).symm.trans H; with_reducible exact H2_) | with_reducible exact H | (rw [hy142]; exact H) | exact H); have Ny142 := A_ hy142; clear hy142; have H' := A_ H; clear H; have p137 : 0 ≤ (x18_1 : Int) := od_; have q137 : x18_1 < (l0_7.length : Int) := od_; obtain ⟨ad137, A137_7, c137_7, e137, hx137_0, hx137_1, hx137_2, hx137_3, hx137_4, hx137_5, hx137_6, hx137_7, hl137_7, hi137_7⟩ := at_T27F HF0_7.out (below_step HWB.out HB.out) x18_1 p137 q137
        cases e137
        have HR137_7 := A_ hi137_7; have HC137_7 := A_ hl137_7; clear hi137_7 hl137_7; replace p137 := eq_true p137; replace q137 := eq_true q137; go_wp2_with (first | (refine gD 5 ?_; refine bxe_ 5 z8_ 27 ?_; intro gb138 hg w10 hbox hb; replace HO_3 := A_ (Kd.R_below (fxR_ HO_3.out) hb); have BK138 := A_ (hbox); have GW138 := gs_ w hg; have GE138 := gs_ w hg; replace HB := bs_ hb; have NB132_138 := nl_ BK132 hg; have NB138_132 := ng_ BK132 hg; replace BK132 := bb_ BK132 hb; clear hb hbox hg; have hnb11 := NB138_132.out; have hnc11 := NB132_138.out; have Z12 := bz8_ BK138) | (refine gC 33 ?_; refine gL 24 Tryz.func33 #[.agg #[.int .i64 ((rd_T27 l0_7 x18_1).f0), .int .i64 ((rd_T27 l0_7 x18_1).f1.f0), .string ((rd_T27 l0_7 x18_1).f1.f1), .string ((rd_T27 l0_7 x18_1).f1.f2), .string ((rd_T27 l0_7 x18_1).f1.f3), .bool ((rd_T27 l0_7 x18_1).f2), .bool ((rd_T27 l0_7 x18_1).f3), .slice A137_7 ((rd_T27 l0_7 x18_1).f4).length c137_7]] ?_; (with_reducible refine (ih k1 (by have := HK1.out; omega) ((rd_T27 l0_7 x18_1).f0) ((rd_T27 l0_7 x18_1).f1.f0) ((rd_T27 l0_7 x18_1).f1.f1) ((rd_T27 l0_7 x18_1).f1.f2) ((rd_T27 l0_7 x18_1).f1.f3) ((rd_T27 l0_7 x18_1).f2) ((rd_T27 l0_7 x18_1).f3) _ _ ((rd_T27 l0_7 x18_1).f4) t139 _ ?side1 ?sideB ?side2 A8.out).mono ?_); (case side1 => exact HR137_7.out); (case sideB => exact below_step HWB.out hs_); (case side2 => exact HC137_7.out); rintro e w13 ⟨v140, l139, rfl, ho0, he0, hb⟩; refine ⟨_, rfl, ?_⟩; have HO141 := A_ (Kd.R_lower (Kd.R_new' ho0 (Kd.R_lt (by (with_reducible repeat (first | apply Kd.R_alloc | apply Kd.R_drewN | apply Kd.R_drew)); exact (Kd.R_mono (Kd.R_far (p := ⟨gb138, 7, none⟩) (Kd.R_far (p := ⟨gb138, 6, none⟩) (Kd.R_far (p := ⟨gb138, 5, none⟩) (Kd.R_far (p := ⟨gb138, 4, none⟩) (Kd.R_far (p := ⟨gb138, 3, none⟩) (Kd.R_far (p := ⟨gb138, 2, none⟩) (Kd.R_far (p := ⟨gb138, 1, none⟩) (Kd.R_far (p := ⟨gb138, 0, none⟩) (Kd.R_types HO_3.out BK138.out (by decide)) (fun _ hk => hk.2) (.int .i64 ((rd_T27 l0_7 x18_1).f0))) (fun _ hk => hk.2) (.int .i64 ((rd_T27 l0_7 x18_1).f1.f0))) (fun _ hk => hk.2) (.string ((rd_T27 l0_7 x18_1).f1.f1))) (fun _ hk => hk.2) (.string ((rd_T27 l0_7 x18_1).f1.f2))) (fun _ hk => hk.2) (.string ((rd_T27 l0_7 x18_1).f1.f3))) (fun _ hk => hk.2) (.bool ((rd_T27 l0_7 x18_1).f2))) (fun _ hk => hk.2) (.bool ((rd_T27 l0_7 x18_1).f3))) (fun _ hk => hk.2) (.slice A137_7 ((rd_T27 l0_7 x18_1).f4).length c137_7)) (fun _ h_ => h_.1))))) (below_size hs_)); replace HO_3 := A_ (Kd.R_elder' (by (with_reducible repeat (first | apply Kd.R_alloc | apply Kd.R_drewN | apply Kd.R_drew)); exact (Kd.R_mono (Kd.R_far (p := ⟨gb138, 7, none⟩) (Kd.R_far (p := ⟨gb138, 6, none⟩) (Kd.R_far (p := ⟨gb138, 5, none⟩) (Kd.R_far (p := ⟨gb138, 4, none⟩) (Kd.R_far (p := ⟨gb138, 3, none⟩) (Kd.R_far (p := ⟨gb138, 2, none⟩) (Kd.R_far (p := ⟨gb138, 1, none⟩) (Kd.R_far (p := ⟨gb138, 0, none⟩) (Kd.R_types HO_3.out BK138.out (by decide)) (fun _ hk => hk.2) (.int .i64 ((rd_T27 l0_7 x18_1).f0))) (fun _ hk => hk.2) (.int .i64 ((rd_T27 l0_7 x18_1).f1.f0))) (fun _ hk => hk.2) (.string ((rd_T27 l0_7 x18_1).f1.f1))) (fun _ hk => hk.2) (.string ((rd_T27 l0_7 x18_1).f1.f2))) (fun _ hk => hk.2) (.string ((rd_T27 l0_7 x18_1).f1.f3))) (fun _ hk => hk.2) (.bool ((rd_T27 l0_7 x18_1).f2))) (fun _ hk => hk.2) (.bool ((rd_T27 l0_7 x18_1).f3))) (fun _ hk => hk.2) (.slice A137_7 ((rd_T27 l0_7 x18_1).f4).length c137_7)) (fun _ h_ => h_.1))) (Kd.R_base ho0) hb); replace BK132 := A_ (blk_below (g := gb132) (o := .cells (n8_ a0_0 a0_1 a0_2 a0_3 a0_4 a0_5 a0_6 (.slice (some ad137) l0_7.length c0_7)) 27 (0, 0)) (pf_ NB132_138 BK132) hb); replace BK138 := bp_ BK138 (.cells #[.int .i64 ((rd_T27 l0_7 x18_1).f0), .int .i64 ((rd_T27 l0_7 x18_1).f1.f0), .string ((rd_T27 l0_7 x18_1).f1.f1), .string ((rd_T27 l0_7 x18_1).f1.f2), .string ((rd_T27 l0_7 x18_1).f1.f3), .bool ((rd_T27 l0_7 x18_1).f2), .bool ((rd_T27 l0_7 x18_1).f3), .slice A137_7 ((rd_T27 l0_7 x18_1).f4).length c137_7] 27 (0, 0)) hb; replace HB := bs_ hb; (try clear hb); (try clear hk); (try clear ho0); have HE139 := A_ he0; clear he0; obtain ⟨Ao15, co15, eo15⟩ := Kd.R_slice HO141.out; subst eo15) | ((with_reducible refine gate_builtin (b := .append) (xs := #[.tmp 22, .tmp 24]) rfl ?_); at_builtin; refine Kd.R_append_rows kKE (w0 := w) w.heap.size rfl (.tmp 22) (.tmp 24) 61 83 (.nilIface) 16 rfl Tryz.underlying61 info83 rfl (by decide) (by omega) u3 lx_1 l139 _ _ _ (fun k_ => nv_ k_ (.slice Ao15 l139.length co15)) (fun _ => False) rfl rfl ?aO ?aR (fun _ _ h => h) (fun _ h => h.elim) ?aF ?aB ?aS ?aL ?_; (case aR => repeat (first | exact (Kd.R_reads' HO141.out).2.2 | (with_reducible refine Kd.C_alloc ?_ _) | (with_reducible refine Kd.C_drewN ?_ _) | (with_reducible refine Kd.C_drew ?_))); (case aB => exact hs_); (case aF => exact (fun k_ hk => Kd.fresh' (Kd.R_lt (fxR_ HO141.out)) k_ hk)); (case aO => exact (by (with_reducible repeat (first | apply Kd.R_alloc | apply Kd.R_drewN | apply Kd.R_drew)); exact Kd.R_mono HO_3.out (fun _ hk => hk.2))); (case aS => exact (below_size hs_)); (case aL => have := LMc9.out; have := OkE.len HE_3.out; have := OkE.len HE139.out; omega); intro v143 w14 ho hb hg hat; replace BK132 := A_ (blk_grown (g := gb132) (o := .cells (n8_ a0_0 a0_1 a0_2 a0_3 a0_4 a0_5 a0_6 (.slice (some ad137) l0_7.length c0_7)) 27 (0, 0)) (bl_ BK132.out) hg (Kd.R_ne HO_3.out BK132.out (by decide))); replace BK138 := A_ (blk_grown (g := gb138) (o := .cells #[.int .i64 ((rd_T27 l0_7 x18_1).f0), .int .i64 ((rd_T27 l0_7 x18_1).f1.f0), .string ((rd_T27 l0_7 x18_1).f1.f1), .string ((rd_T27 l0_7 x18_1).f1.f2), .string ((rd_T27 l0_7 x18_1).f1.f3), .bool ((rd_T27 l0_7 x18_1).f2), .bool ((rd_T27 l0_7 x18_1).f3), .slice A137_7 ((rd_T27 l0_7 x18_1).f4).length c137_7] 27 (0, 0)) (bl_ BK138.out) hg (Kd.R_ne HO_3.out BK138.out (by decide))); replace HO141 := A_ (Kd.R_after (ok := (fun _ => True)) (fxR_ HO141.out) hg hat); replace HB := A_ (hb); have HO144 := A_ (ho); clear HO_3; clear ho hb hg hat))
        go_roundg k1
        case measure => have := HK1.out; omega
        case rel => exact ⟨(y142), (wrap64 (x18_1 + 1)), (lx_1 ++ l139), rf_, H', ⟨by have := HK1.out; omega⟩, ⟨by rw [Ny142.out]; exact OkE.append HE_3.out HE139.out⟩, ⟨by (with_reducible repeat (first | apply Kd.R_alloc | apply Kd.R_drewN | apply Kd.R_drew)); exact Kd.R_mono HO144.out (fun _ hk => trivial)⟩, ⟨bl_ BK132.out⟩, ⟨hs_⟩⟩
       ·rw [if_neg c9] at H
        exact absurd H (by simp)
      ·rw [if_neg c7] at H
       exact absurd H (by simp)
     ·rw [if_neg c6] at H
      exact absurd H (by simp)
    ·rw [if_neg c5] at H
     have c5b0 := decide_eq_false c5; have c5b9 := c5b0; (try simp only [hl0_1] at c5b9); (try simp only [hl137_7] at c5b9); clear c5; obtain rfl := Option.some.inj H; go_wp2; go_ret; exact ⟨_, by first | rfl | (simp [errW_none, errW_some] <;> rfl) | (simp [*, errW_none, errW_some] <;> rfl), lx_1, fxR_ HO_3.out, HE_3.out, hs_⟩
 ·rw [if_neg c2] at H
  have c2b0 : (a0_0 == 2) = false := beq_eq_false_iff_ne.mpr c2; have c2b1 : (a0_0 != 2) = true := bne_iff_ne.mpr c2; obtain ⟨t133, A16, H⟩ := bi_ H; obtain ⟨y134, hy134⟩ : ∃ y_ : List S27, y_ = (([(⟨a0_0, ⟨a0_1, a0_2, a0_3, a0_4⟩, a0_5, a0_6, l0_7⟩ : S27)] : List S27)) := ⟨_, rfl⟩; (replace H : (some y134) = some r := by first | (rw [hy134]; with_reducible exact H) | (have H2_ := (Option.bind_some _ _).symm.trans H; rw [hy134]; with_reducible exact H2_) | (have H2_ := (Option.bind_some _ _).symm.trans H; with_reducible exact H2_) | with_reducible exact H | (rw [hy134]; exact H) | exact H); have Ny134 := A_ hy134; clear hy134; obtain rfl := Option.some.inj H; go_enter Tryz.func33, Tryz.ntmps33; (try go_wp2_with (first | (refine gx_ w 1 (n8_ a0_0 a0_1 a0_2 a0_3 a0_4 a0_5 a0_6 (.slice A0_7 l0_7.length c0_7)) 27 ?_; clear HB; intro gb132 w17 BK132 GE132 HB; have GW132 := GE132; have Z18 := bz8_ BK132))); replace BK132 := A_ (blk_drew BK132.out); replace HB := A_ (below_drew1 HB.out); refine start_ (n := 7) (S := fun w' => C8 w' gb132 (.int .i64 a0_0) (.int .i64 a0_1) (.string a0_2) (.string a0_3) (.string a0_4) (.bool a0_5) (.bool a0_6) (.slice A0_7 l0_7.length c0_7)) (ds := []) (ab 7 0) (by kernel_rfl) rfl rfl (cq8_ BK132) (fun hHeld => ?_); generalize w17.drew = w19 at BK132 HB hHeld ⊢; refine take_ (i := 0) (N := some 9) (v := ?_) (a' := ?_) (ab 7 1) rfl rfl (by kernel_rfl) (fun _ _ _ h => h) (Or.inl ⟨by rfl, ?_⟩) hHeld ?_ ?_; rotate_left
  ·rintro w' ⟨s0, s1, s2, s3, s4, s5, s6, s7⟩
   go_simp; (with_reducible rfl)
  rotate_left
  ·simp only [Act.put, List.setIfInBounds_toArray, List.set_cons_zero, List.set_cons_succ, i64_w, i32_w]
   rfl
  refine take_ (i := 1) (N := some 10) (v := ?_) (a' := ?_) (ab 7 3) rfl rfl (by kernel_rfl) (fun _ _ _ h => h) (Or.inl ⟨by rfl, ?_⟩) hHeld ?_ ?_; rotate_left
  ·rintro w' ⟨s0, s1, s2, s3, s4, s5, s6, s7⟩
   go_simp; (with_reducible rfl)
  rotate_left
  ·simp only [Act.put, List.setIfInBounds_toArray, List.set_cons_zero, List.set_cons_succ, i64_w, i32_w]
   rfl
  refine one_ (i := 2) (N := some 11) (ab 7 7) rfl rfl (by kernel_rfl) (by decide) (fun K hK => ?_); refine gS Tryz.func13 #[.agg (n8_ a0_0 a0_1 a0_2 a0_3 a0_4 a0_5 a0_6 (.slice A0_7 l0_7.length c0_7))] ?_; (with_reducible refine (print_Text.calls k a0_0 a0_1 a0_2 a0_3 a0_4 a0_5 a0_6 _ _ l0_7 t133 _ ?side1 ?side2 A16.out).mono ?_)
  (case side1 => repeat (first | exact (Kd.C_below HR0_7.out HB.out) | (with_reducible refine Kd.C_alloc ?_ _) | (with_reducible refine Kd.C_drewN ?_ _) | (with_reducible refine Kd.C_drew ?_)))
  (case side2 => exact HC0_7.out)
  rintro e w20 ⟨rfl, hb⟩; refine ⟨_, rfl, ?_⟩; replace BK132 := bb_ BK132 hb; replace HB := bs_ hb; (try clear hb); refine hK.out _ _ (cq8_ BK132) (fun hHeld => ?_); clear hK K; refine nA ?_; refine pure_ (i := 3) (N := some 12) (v := ?_) (a' := ?_) (ab 7 15) rfl rfl (by kernel_rfl) (fun _ _ _ h => h) (Or.inl ⟨by rfl, ?_⟩) ?_ ?_; rotate_left
  ·intro w'
   go_simp; (with_reducible rfl)
  rotate_left
  ·simp only [Act.put, List.setIfInBounds_toArray, List.set_cons_zero, List.set_cons_succ, i64_w, i32_w]
   rfl
  refine pure_ (i := 4) (N := some 13) (v := ?_) (a' := ?_) (ab 7 31) rfl rfl (by kernel_rfl) (fun _ _ _ h => h) (Or.inl ⟨by rfl, ?_⟩) ?_ ?_; rotate_left
  ·intro w'
   go_simp; (with_reducible rfl)
  rotate_left
  ·simp only [Act.put, List.setIfInBounds_toArray, List.set_cons_zero, List.set_cons_succ, i64_w, i32_w]
   rfl
  refine one_ (i := 5) (N := some 14) (ab 7 63) rfl rfl (by kernel_rfl) (by decide) (fun K hK => ?_); refine Kd.R_lit_step kKE _ 83 ?hg (N := 14) ?hd (xs := ([(⟨(⟨a0_0, ⟨a0_1, a0_2, a0_3, a0_4⟩, a0_5, a0_6, l0_7⟩ : S27), A0_7, c0_7⟩ : KE)] : List KE)) (inner := [.iface 86 (.agg #[.int .i64 a0_0, .int .i64 a0_1, .string a0_2, .string a0_3, .string a0_4, .bool a0_5, .bool a0_6, .slice A0_7 l0_7.length c0_7, .string t133])]) (ok := fun _ => True) (okp := fun _ => True) ?hr ?hp (fun _ hk => hk) trivial (Below.refl _ _) (Nat.le_refl _) (by simp) ?_; (case hd => rfl); (case hg => rfl); (case hr => first | (go_simp; done) | (go_simp; rfl)); (case hp => exact (Reps.one (show Kd.M kKE _ _ _ (⟨(⟨a0_0, ⟨a0_1, a0_2, a0_3, a0_4⟩, a0_5, a0_6, l0_7⟩ : S27), A0_7, c0_7⟩ : KE) [.iface 86 (.agg #[.int .i64 a0_0, .int .i64 a0_1, .string a0_2, .string a0_3, .string a0_4, .bool a0_5, .bool a0_6, .slice A0_7 l0_7.length c0_7, .string t133])] from by show _ = [encK _]; simp only [encK, cellsK]; rw [tyT_is A16.out]) (Reps.none _ _))); intro v135 w21 ho22 hb hg_ hnew_; clear hg_ hnew_; have HO136 := A_ (Kd.R_lower ho22 (below_size hs_)); replace BK132 := bb_ BK132 hb; replace HB := bs_ hb; clear hb ho22; refine hK.out _ _ (cq8_ BK132) (fun hHeld => ?_); clear hK K; refine nA ?_; refine pure_ (i := 6) (N := some 2) (v := ?_) (a' := ?_) (ab 7 127) rfl rfl (by kernel_rfl) (fun _ _ _ h => h) (Or.inl ⟨by rfl, ?_⟩) ?_ ?_; rotate_left
  ·intro w'
   go_simp; (with_reducible rfl)
  rotate_left
  ·simp only [Act.put, List.setIfInBounds_toArray, List.set_cons_zero, List.set_cons_succ, i64_w, i32_w]
   rfl
  refine done_ (by kernel_rfl) ?_; (try go_wp2); go_ret; rename_i d_ heq_; obtain rfl : d_ = 14 := (Option.some.inj heq_).symm; exact ⟨_, by first | rfl | (simp [errW_none, errW_some] <;> rfl) | (simp [*, errW_none, errW_some] <;> rfl), [(⟨(⟨a0_0, ⟨a0_1, a0_2, a0_3, a0_4⟩, a0_5, a0_6, l0_7⟩ : S27), A0_7, c0_7⟩ : KE)], fxR_ HO136.out, by rw [Ny134.out]; exact OkE.one (⟨(⟨a0_0, ⟨a0_1, a0_2, a0_3, a0_4⟩, a0_5, a0_6, l0_7⟩ : S27), A0_7, c0_7⟩ : KE) HC0_7.out HF0_7.out, hs_⟩
theorem N_of_ND {W w' : World} {P ok : Nat → Prop} {v : Value} {l : List KE} {r : List S27} (ho : Kd.R kND 27 w' W.heap.size ok v l) (hE : OkE W P l r) (hb : Below W.heap.size W w') : Kd.N k27 27 w' W.heap.size (fun k_ => (P k_ ∨ W.heap.size ≤ k_)) v r := by
  have hbase := Kd.R_base ho
  obtain ⟨_, rows, hl, hR, hf⟩ := Kd.R_N ho
  refine ⟨fun k hk => .inr (hbase k hk), rows, by rw [hl, ← hE.1, List.length_map], hR, fun j n c hn hc => ?_⟩
  rw [← hE.1, List.getElem?_map] at hn
  obtain ⟨x, hx, rfl⟩ := Option.map_eq_some_iff.mp hn
  have hcs : c = cellsN x := Foot.now (hf j x c hx hc)
  rw [hcs]
  obtain ⟨hc0, hF⟩ := hE.2 x (List.mem_of_getElem? hx)
  refine k27_mkF w' _ x.nd hc0 (Kd.F_mono (Kd.F_below (Kd.F_bound hF) hb) (fun k hk => ⟨.inl hk.1, fun e => ?_⟩))
  have h1 := hbase k e.symm
  have h2 := hk.2
  omega
theorem zK_Q (W : World) (P : Nat → Prop) : zKE.nd.f4.length ≤ zKE.c ∧ Kd.F k27 W P zKE.A zKE.nd.f4.length zKE.nd.f4 := ⟨Nat.le_refl _, Kd.F_nil _ _ _⟩
theorem risingN.calls (k : Nat) (P0_ : Nat → Prop) (W w : World) (u : Value) (l : List KE) (t r : List S27) (hb : Below W.heap.size W w) (ho : Kd.R kKE 83 w W.heap.size (fun _ => True) u l) (hE : OkE W P0_ l t) (h : risingN k t = some r) :
    Calls Tryz.prog 32 #[u] w fun e w' => ∃ v0_ : Value, e = .returned v0_ ∧ Kd.N k27 27 w' W.heap.size (fun k_ => (P0_ k_ ∨ W.heap.size ≤ k_)) v0_ r ∧ Below W.heap.size W w' := by
  rw [← hE.1] at h
  obtain ⟨r', h1, h2, h3⟩ := rising_of (Q := fun x => x.nd.f4.length ≤ x.c ∧ Kd.F k27 W P0_ x.A x.nd.f4.length x.nd.f4) (zK_Q W P0_) h hE.2
  refine (canonK_rising.calls k (fun _ => True) u l r' W w hb ho h1).mono ?_
  rintro e w' ⟨v0, rfl, hR, hb', _⟩
  exact ⟨v0, rfl, N_of_ND hR ⟨h2, h3⟩ hb', hb'⟩
set_option maxHeartbeats 8000000 in
set_option maxRecDepth 100000 in
theorem canon_Canon.calls (k : Nat) (a0_0 a0_1 : Int) (a0_2 a0_3 a0_4 : ByteArray) (a0_5 a0_6 : Bool) (P0_7_ : Nat → Prop) (A0_7 : Option Addr) (c0_7 : Nat) (l0_7 : List (S27)) (r1 r2 : Int) (r3 r4 r5 : ByteArray) (r6 r7 : Bool) (r8 : List (S27)) (w : World) (hs0_7 : Kd.V k27 27 w w.heap.size (fun k_ => P0_7_ k_) (.slice A0_7 l0_7.length c0_7) l0_7) (h : canon_Canon.f k a0_0 a0_1 a0_2 a0_3 a0_4 a0_5 a0_6 l0_7 = some (r1, r2, r3, r4, r5, r6, r7, r8)) :
  Calls Tryz.prog 14 #[.agg #[.int .i64 a0_0, .int .i64 a0_1, .string a0_2, .string a0_3, .string a0_4, .bool a0_5, .bool a0_6, .slice A0_7 l0_7.length c0_7]] w fun e w' => ∃ v7_ : Value, e = .returned (.agg #[.int .i64 r1, .int .i64 r2, .string r3, .string r4, .string r5, .bool r6, .bool r7, v7_]) ∧ Kd.V k27 27 w' w.heap.size (fun k_ => (P0_7_ k_ ∨ w.heap.size ≤ k_)) v7_ r8 ∧ Below w.heap.size w w' := by
 have hu27 := Tryz.underlying27; have HO0_7 := A_ (show Kd.V k27 27 w w.heap.size (fun k_ => (P0_7_ k_ ∨ w.heap.size ≤ k_)) (.slice A0_7 l0_7.length c0_7) l0_7 from Kd.V_mono hs0_7 (fun k_ hk => .inl hk)); have HB := A_ (Below.refl w.heap.size w); have H : ((tree_Sane.f k a0_0 a0_1 a0_2 a0_3 a0_4 a0_5 a0_6 l0_7).bind fun t214 => (if t214 = true then (if a0_0 = 2 then ((canon_rising.f k a0_0 a0_1 a0_2 a0_3 a0_4 a0_5 a0_6 l0_7).bind fun t218 => (if (t218.length : Int) = 1 then (if 0 < (t218.length : Int) then (some ((rd_T27 t218 0).f0, (rd_T27 t218 0).f1.f0, (rd_T27 t218 0).f1.f1, (rd_T27 t218 0).f1.f2, (rd_T27 t218 0).f1.f3, (rd_T27 t218 0).f2, (rd_T27 t218 0).f3, (rd_T27 t218 0).f4)) else (none)) else ((tree_OneOf.f t218).bind fun bt222 => (some (bt222.1, bt222.2.1, bt222.2.2.1, bt222.2.2.2.1, bt222.2.2.2.2.1, bt222.2.2.2.2.2.1, bt222.2.2.2.2.2.2.1, bt222.2.2.2.2.2.2.2))))) else ((slices_Clone.f l0_7).bind fun t215 => (some (a0_0, a0_1, a0_2, a0_3, a0_4, a0_5, a0_6, t215)))) else (some (0, 0, (⟨#[]⟩ : ByteArray), (⟨#[]⟩ : ByteArray), (⟨#[]⟩ : ByteArray), false, false, ([] : List (S27)))))) = some (r1, r2, r3, r4, r5, r6, r7, r8) := h; clear h; obtain ⟨t214, A2, H⟩ := bi_ H
 by_cases c3 : t214 = true
 ·subst c3
  (have H1 : (if a0_0 = 2 then ((canon_rising.f k a0_0 a0_1 a0_2 a0_3 a0_4 a0_5 a0_6 l0_7).bind fun t218 => (if (t218.length : Int) = 1 then (if 0 < (t218.length : Int) then (some ((rd_T27 t218 0).f0, (rd_T27 t218 0).f1.f0, (rd_T27 t218 0).f1.f1, (rd_T27 t218 0).f1.f2, (rd_T27 t218 0).f1.f3, (rd_T27 t218 0).f2, (rd_T27 t218 0).f3, (rd_T27 t218 0).f4)) else (none)) else ((tree_OneOf.f t218).bind fun bt222 => (some (bt222.1, bt222.2.1, bt222.2.2.1, bt222.2.2.2.1, bt222.2.2.2.2.1, bt222.2.2.2.2.2.1, bt222.2.2.2.2.2.2.1, bt222.2.2.2.2.2.2.2))))) else ((slices_Clone.f l0_7).bind fun t215 => (some (a0_0, a0_1, a0_2, a0_3, a0_4, a0_5, a0_6, t215)))) = some (r1, r2, r3, r4, r5, r6, r7, r8) := by rw [if_pos rfl] at H; exact H); clear H; have H := H1; clear H1
  by_cases c4 : a0_0 = 2
  ·rw [if_pos c4] at H
   have c4b0 : (a0_0 == 2) = true := beq_iff_eq.mpr c4; have c4b1 : (a0_0 != 2) = false := bne_eq_false_iff_eq.mpr c4; clear c4; obtain ⟨t218, A5, H⟩ := bi_ H
   by_cases c6 : (t218.length : Int) = 1
   ·rw [if_pos c6] at H
    have c6b0 : ((t218.length : Int) == 1) = true := beq_iff_eq.mpr c6; have c6b1 : ((t218.length : Int) != 1) = false := bne_eq_false_iff_eq.mpr c6; clear c6
    by_cases c7 : 0 < (t218.length : Int)
    ·rw [if_pos c7] at H
     have c7b0 := decide_eq_true c7; have c7b1 : decide (0 < t218.length) = true := decide_eq_true (by omega); clear c7; simp only [Option.some.injEq, Prod.mk.injEq] at H; obtain ⟨rfl, rfl, rfl, rfl, rfl, rfl, rfl, rfl⟩ := H; go_enter Tryz.func14, Tryz.ntmps14; go_wp2_with (first | (refine gD 1 ?_; refine bxe_ 1 (n8_ a0_0 a0_1 a0_2 a0_3 a0_4 a0_5 a0_6 (.slice A0_7 l0_7.length c0_7)) 27 ?_; intro gb212 hg w8 hbox hb; replace HO0_7 := eV_ HO0_7 hg hb; have BK212 := A_ (hbox); have GW212 := gs_ w hg; have GE212 := gs_ w hg; replace HB := bs_ hb; clear hb hbox hg) | (refine gD 2 ?_; refine bxe_ 2 z8_ 27 ?_; intro gb213 hg w9 hbox hb; replace HO0_7 := eV_ HO0_7 hg hb; have BK213 := A_ (hbox); have GW213 := gs_ w hg; have GE213 := gs_ w hg; replace HB := bs_ hb; have NB212_213 := nl_ BK212 hg; have NB213_212 := ng_ BK212 hg; replace BK212 := bb_ BK212 hb; clear hb hbox hg; have hnb10 := NB212_213.out; have hnc10 := NB213_212.out; have Z11 := bz8_ BK212) | (refine gC 12 ?_; refine gL 5 Tryz.func12 #[.agg (n8_ a0_0 a0_1 a0_2 a0_3 a0_4 a0_5 a0_6 (.slice A0_7 l0_7.length c0_7))] ?_; (with_reducible refine (tree_Sane.calls k a0_0 a0_1 a0_2 a0_3 a0_4 a0_5 a0_6 _ _ l0_7 true _ ?side1 ?side2 A2.out).mono ?_); (case side1 => exact cr_ (Kd.V_reads' HO0_7.out).2.2); (case side2 => exact (Kd.V_reads' HO0_7.out).2.1); rintro e w12 ⟨rfl, hb⟩; refine ⟨_, rfl, ?_⟩; replace HO0_7 := bV_ HO0_7 hb; replace BK212 := bb_ BK212 hb; replace BK213 := bb_ BK213 hb; replace HB := bs_ hb; (try clear hb); have Z13 := bz8_ BK212) | (refine gC 33 ?_; obtain ⟨tF_, AF0_, AR0_⟩ := Option.bind_eq_some_iff.mp (show (canon_flat.f k a0_0 a0_1 a0_2 a0_3 a0_4 a0_5 a0_6 l0_7).bind (fun t => risingN k t) = some t218 from A5.out); have AR_ := A_ AR0_; clear AR0_; have hF_ := Kd.V_F HO0_7.out; refine gL 17 Tryz.func33 #[.agg (n8_ a0_0 a0_1 a0_2 a0_3 a0_4 a0_5 a0_6 (.slice A0_7 l0_7.length c0_7))] ?_; (with_reducible refine (canon_flat.calls _ (fun k_ => (((P0_7_ k_ ∨ w.heap.size ≤ k_) ∧ k_ ≠ gb212) ∧ k_ ≠ gb213)) k a0_0 a0_1 a0_2 a0_3 a0_4 a0_5 a0_6 _ _ l0_7 tF_ _ hF_ ?sideW ?sideC AF0_).mono ?_); (case sideW => exact Below.refl _ _); (case sideC => exact (Kd.V_at HO0_7.out).2.1); clear hF_; rintro e w14f ⟨v17_, l17_, rfl, ho17_, he17_, hb17_⟩; refine ⟨_, rfl, ?_⟩; have HO17_ := A_ ho17_; have HE17_ := A_ he17_; have HB17_ := A_ hb17_; clear ho17_ he17_ hb17_) | (refine gC 32 ?_; refine gL 18 Tryz.func32 #[v17_] ?_; (with_reducible refine (risingN.calls k (fun k_ => (((P0_7_ k_ ∨ w.heap.size ≤ k_) ∧ k_ ≠ gb212) ∧ k_ ≠ gb213)) _ _ v17_ l17_ tF_ t218 ?sideB ?sideR HE17_.out AR_.out).mono ?_); (case sideB => repeat (first | (with_reducible first | exact HB17_.out | apply below_alloc | apply pw_below_drewN | apply below_drew1) | exact HB17_.out)); (case sideR => (with_reducible repeat (first | apply Kd.R_alloc | apply Kd.R_drewN | apply Kd.R_drew)); exact HO17_.out); rintro e w14 ⟨v219, rfl, ho0, hb⟩; refine ⟨_, rfl, ?_⟩; replace HO0_7 := dV_ HO0_7 ho0 hb; have HO220 := A_ (Kd.N_lower (Kd.N_mono (ok' := fun k_ => (P0_7_ k_ ∨ w.heap.size ≤ k_) ∧ k_ ≠ gb212 ∧ k_ ≠ gb213) ho0 (fun k_ hk_ => ⟨hk_.elim (·.1.1) (fun hn_ => (.inr (Nat.le_trans (below_size hs_) hn_))), hk_.elim (·.1.2) (fb_ BK212 k_), hk_.elim (·.2) (fb_ BK213 k_)⟩)) (below_size hs_)); replace BK212 := bb_ BK212 hb; replace BK213 := bb_ BK213 hb; replace HB := bs_ hb; (try clear hb); (try clear ho0); obtain ⟨Ao15, co15, eo15⟩ := Kd.N_slice HO220.out; subst eo15; have p221 : 0 ≤ (0 : Int) := (by omega); have q221 : 0 < (t218.length : Int) := od_; obtain ⟨ad221, A221_7, c221_7, e221, hx221_0, hx221_1, hx221_2, hx221_3, hx221_4, hx221_5, hx221_6, hx221_7, hl221_7, hi221_7⟩ := at_T27 (Kd.N_reads' HO220.out).2.2 0 p221 q221; cases e221; obtain ⟨ce221, hce221, hMe221, hcc221⟩ := Kd.N_get HO220.out z27 0 p221 (by first | exact q221 | exact od_ | (have e_ := (Kd.N_reads' HO220.out).1; omega)); obtain ⟨ua221_7, uc221_7, rfl, ul221_7, ge221_7⟩ := k27_openF hMe221; have hv221_7 := hcc221 7 _ rfl; rw [add_field _ _ 7 (by omega)] at hv221_7; replace hv221_7 := Option.some.inj (hv221_7.symm.trans hx221_7); injection hv221_7 with hva_ hvn_ hvc_; rw [hva_] at ge221_7; rw [hvc_] at ul221_7; have HL221_7 := A_ (show Kd.V k27 27 _ w.heap.size _ _ ((rd_T27 t218 0).f4) from Kd.V_mk ul221_7 ge221_7); clear hva_ hvn_ hvc_ ge221_7 ul221_7; clear hcc221 hce221; have qi221 : (0 < t218.length) = True := eq_true (by omega); replace hx221_0 := ai_ hx221_0; replace hx221_1 := ai_ hx221_1; replace hx221_2 := ai_ hx221_2; replace hx221_3 := ai_ hx221_3; replace hx221_4 := ai_ hx221_4; replace hx221_5 := ai_ hx221_5; replace hx221_6 := ai_ hx221_6; replace hx221_7 := ai_ hx221_7; have HR221_7 := A_ hi221_7; have HC221_7 := A_ hl221_7; clear hi221_7 hl221_7; replace p221 := eq_true p221; replace q221 := eq_true q221; have Z16 := bz8_ BK213))
     refine bodyPost_ret (results_cell_row rfl _ _ gb213 27 #[.int .i64 ((rd_T27 t218 0).f0), .int .i64 ((rd_T27 t218 0).f1.f0), .string ((rd_T27 t218 0).f1.f1), .string ((rd_T27 t218 0).f1.f2), .string ((rd_T27 t218 0).f1.f3), .bool ((rd_T27 t218 0).f2), .bool ((rd_T27 t218 0).f3), .slice A221_7 ((rd_T27 t218 0).f4).length c221_7] (0, 0) _ rfl (pb_ BK213.out) Tryz.underlying27 rfl (by kernel_rfl)) rfl ?_; exact ⟨_, by first | rfl | (simp [errW_none, errW_some] <;> rfl) | (simp [*, errW_none, errW_some] <;> rfl), by (with_reducible repeat (first | apply Kd.V_alloc | apply Kd.V_drewN | apply Kd.V_drew)); exact Kd.V_mono (Kd.V_far (p := ⟨gb213, 7, none⟩) (Kd.V_far (p := ⟨gb213, 6, none⟩) (Kd.V_far (p := ⟨gb213, 5, none⟩) (Kd.V_far (p := ⟨gb213, 4, none⟩) (Kd.V_far (p := ⟨gb213, 3, none⟩) (Kd.V_far (p := ⟨gb213, 2, none⟩) (Kd.V_far (p := ⟨gb213, 1, none⟩) (Kd.V_far (p := ⟨gb213, 0, none⟩) (Kd.V_mono HL221_7.out (fun k_ hk => (⟨hk, hk.1.2.2⟩ : _ ∧ k_ ≠ gb213))) (fun _ hk => hk.2) (.int .i64 ((rd_T27 t218 0).f0))) (fun _ hk => hk.2) (.int .i64 ((rd_T27 t218 0).f1.f0))) (fun _ hk => hk.2) (.string ((rd_T27 t218 0).f1.f1))) (fun _ hk => hk.2) (.string ((rd_T27 t218 0).f1.f2))) (fun _ hk => hk.2) (.string ((rd_T27 t218 0).f1.f3))) (fun _ hk => hk.2) (.bool ((rd_T27 t218 0).f2))) (fun _ hk => hk.2) (.bool ((rd_T27 t218 0).f3))) (fun _ hk => hk.2) (.slice A221_7 ((rd_T27 t218 0).f4).length c221_7)) (fun _ hk => hk.1.1.1), hs_⟩
    ·rw [if_neg c7] at H
     exact absurd H (by simp)
   ·rw [if_neg c6] at H
    have c6b0 : ((t218.length : Int) == 1) = false := beq_eq_false_iff_ne.mpr c6; have c6b1 : ((t218.length : Int) != 1) = true := bne_iff_ne.mpr c6; obtain ⟨⟨t222, t223, t224, t225, t226, t227, t228, t229⟩, A17, H⟩ := bi_ H; simp only [Option.some.injEq, Prod.mk.injEq] at H; obtain ⟨rfl, rfl, rfl, rfl, rfl, rfl, rfl, rfl⟩ := H; go_enter Tryz.func14, Tryz.ntmps14; go_wp2_with (first | (refine gD 1 ?_; refine bxe_ 1 (n8_ a0_0 a0_1 a0_2 a0_3 a0_4 a0_5 a0_6 (.slice A0_7 l0_7.length c0_7)) 27 ?_; intro gb212 hg w18 hbox hb; replace HO0_7 := eV_ HO0_7 hg hb; have BK212 := A_ (hbox); have GW212 := gs_ w hg; have GE212 := gs_ w hg; replace HB := bs_ hb; clear hb hbox hg) | (refine gD 2 ?_; refine bxe_ 2 z8_ 27 ?_; intro gb213 hg w19 hbox hb; replace HO0_7 := eV_ HO0_7 hg hb; have BK213 := A_ (hbox); have GW213 := gs_ w hg; have GE213 := gs_ w hg; replace HB := bs_ hb; have NB212_213 := nl_ BK212 hg; have NB213_212 := ng_ BK212 hg; replace BK212 := bb_ BK212 hb; clear hb hbox hg; have hnb20 := NB212_213.out; have hnc20 := NB213_212.out; have Z21 := bz8_ BK212) | (refine gC 12 ?_; refine gL 5 Tryz.func12 #[.agg (n8_ a0_0 a0_1 a0_2 a0_3 a0_4 a0_5 a0_6 (.slice A0_7 l0_7.length c0_7))] ?_; (with_reducible refine (tree_Sane.calls k a0_0 a0_1 a0_2 a0_3 a0_4 a0_5 a0_6 _ _ l0_7 true _ ?side1 ?side2 A2.out).mono ?_); (case side1 => exact cr_ (Kd.V_reads' HO0_7.out).2.2); (case side2 => exact (Kd.V_reads' HO0_7.out).2.1); rintro e w22 ⟨rfl, hb⟩; refine ⟨_, rfl, ?_⟩; replace HO0_7 := bV_ HO0_7 hb; replace BK212 := bb_ BK212 hb; replace BK213 := bb_ BK213 hb; replace HB := bs_ hb; (try clear hb); have Z23 := bz8_ BK212) | (refine gC 33 ?_; obtain ⟨tF_, AF0_, AR0_⟩ := Option.bind_eq_some_iff.mp (show (canon_flat.f k a0_0 a0_1 a0_2 a0_3 a0_4 a0_5 a0_6 l0_7).bind (fun t => risingN k t) = some t218 from A5.out); have AR_ := A_ AR0_; clear AR0_; have hF_ := Kd.V_F HO0_7.out; refine gL 17 Tryz.func33 #[.agg (n8_ a0_0 a0_1 a0_2 a0_3 a0_4 a0_5 a0_6 (.slice A0_7 l0_7.length c0_7))] ?_; (with_reducible refine (canon_flat.calls _ (fun k_ => (((P0_7_ k_ ∨ w.heap.size ≤ k_) ∧ k_ ≠ gb212) ∧ k_ ≠ gb213)) k a0_0 a0_1 a0_2 a0_3 a0_4 a0_5 a0_6 _ _ l0_7 tF_ _ hF_ ?sideW ?sideC AF0_).mono ?_); (case sideW => exact Below.refl _ _); (case sideC => exact (Kd.V_at HO0_7.out).2.1); clear hF_; rintro e w14f ⟨v17_, l17_, rfl, ho17_, he17_, hb17_⟩; refine ⟨_, rfl, ?_⟩; have HO17_ := A_ ho17_; have HE17_ := A_ he17_; have HB17_ := A_ hb17_; clear ho17_ he17_ hb17_) | (refine gC 32 ?_; refine gL 18 Tryz.func32 #[v17_] ?_; (with_reducible refine (risingN.calls k (fun k_ => (((P0_7_ k_ ∨ w.heap.size ≤ k_) ∧ k_ ≠ gb212) ∧ k_ ≠ gb213)) _ _ v17_ l17_ tF_ t218 ?sideB ?sideR HE17_.out AR_.out).mono ?_); (case sideB => repeat (first | (with_reducible first | exact HB17_.out | apply below_alloc | apply pw_below_drewN | apply below_drew1) | exact HB17_.out)); (case sideR => (with_reducible repeat (first | apply Kd.R_alloc | apply Kd.R_drewN | apply Kd.R_drew)); exact HO17_.out); rintro e w24 ⟨v219, rfl, ho0, hb⟩; refine ⟨_, rfl, ?_⟩; replace HO0_7 := dV_ HO0_7 ho0 hb; have HO220 := A_ (Kd.N_lower (Kd.N_mono (ok' := fun k_ => (P0_7_ k_ ∨ w.heap.size ≤ k_) ∧ k_ ≠ gb212 ∧ k_ ≠ gb213) ho0 (fun k_ hk_ => ⟨hk_.elim (·.1.1) (fun hn_ => (.inr (Nat.le_trans (below_size hs_) hn_))), hk_.elim (·.1.2) (fb_ BK212 k_), hk_.elim (·.2) (fb_ BK213 k_)⟩)) (below_size hs_)); replace BK212 := bb_ BK212 hb; replace BK213 := bb_ BK213 hb; replace HB := bs_ hb; (try clear hb); (try clear ho0); obtain ⟨Ao25, co25, eo25⟩ := Kd.N_slice HO220.out; subst eo25) | (refine gC 34 ?_; refine gL 26 Tryz.func34 #[.slice Ao25 t218.length co25] ?_; (with_reducible refine (tree_OneOf.calls (fun k_ => ((P0_7_ k_ ∨ w.heap.size ≤ k_) ∧ (k_ ≠ gb212 ∧ k_ ≠ gb213))) _ _ t218 t222 t223 t224 t225 t226 t227 t228 t229 _ ?side1 A17.out).mono ?_); (case side1 => exact Kd.N_V (HO220.out)); rintro e w26 ⟨v230, rfl, ho0, hb⟩; refine ⟨_, rfl, ?_⟩; replace HO0_7 := dV_ HO0_7 ho0 hb; replace HO220 := dN_ HO220 ho0 hb; have HO231 := A_ (Kd.N_lower (Kd.N_mono (ok' := fun k_ => (P0_7_ k_ ∨ w.heap.size ≤ k_) ∧ k_ ≠ gb212 ∧ k_ ≠ gb213) ho0 (fun k_ hk_ => ⟨hk_.elim (·.1) (fun hn_ => (.inr (Nat.le_trans (below_size hs_) hn_))), hk_.elim (·.2.1) (fb_ BK212 k_), hk_.elim (·.2.2) (fb_ BK213 k_)⟩)) (below_size hs_)); replace BK212 := bb_ BK212 hb; replace BK213 := bb_ BK213 hb; replace HB := bs_ hb; (try clear hb); (try clear ho0); have Z27 := bz8_ BK213; obtain ⟨Ao28, co28, eo28⟩ := Kd.N_slice HO231.out; subst eo28))
    refine bodyPost_ret (results_cell_row rfl _ _ gb213 27 #[.int .i64 t222, .int .i64 t223, .string t224, .string t225, .string t226, .bool t227, .bool t228, .slice Ao28 t229.length co28] (0, 0) _ rfl (pb_ BK213.out) Tryz.underlying27 rfl (by kernel_rfl)) rfl ?_; exact ⟨_, by first | rfl | (simp [errW_none, errW_some] <;> rfl) | (simp [*, errW_none, errW_some] <;> rfl), Kd.N_V (by (with_reducible repeat (first | apply Kd.N_alloc | apply Kd.N_drewN | apply Kd.N_drew)); exact Kd.N_mono (Kd.N_far (p := ⟨gb213, 7, none⟩) (Kd.N_far (p := ⟨gb213, 6, none⟩) (Kd.N_far (p := ⟨gb213, 5, none⟩) (Kd.N_far (p := ⟨gb213, 4, none⟩) (Kd.N_far (p := ⟨gb213, 3, none⟩) (Kd.N_far (p := ⟨gb213, 2, none⟩) (Kd.N_far (p := ⟨gb213, 1, none⟩) (Kd.N_far (p := ⟨gb213, 0, none⟩) (Kd.N_mono HO231.out (fun k_ hk => (⟨hk, hk.2.2⟩ : _ ∧ k_ ≠ gb213))) (fun _ hk => hk.2) (.int .i64 t222)) (fun _ hk => hk.2) (.int .i64 t223)) (fun _ hk => hk.2) (.string t224)) (fun _ hk => hk.2) (.string t225)) (fun _ hk => hk.2) (.string t226)) (fun _ hk => hk.2) (.bool t227)) (fun _ hk => hk.2) (.bool t228)) (fun _ hk => hk.2) (.slice Ao28 t229.length co28)) (fun _ hk => hk.1.1)), hs_⟩
  ·rw [if_neg c4] at H
   have c4b0 : (a0_0 == 2) = false := beq_eq_false_iff_ne.mpr c4; have c4b1 : (a0_0 != 2) = true := bne_iff_ne.mpr c4; obtain ⟨t215, A29, H⟩ := bi_ H; simp only [Option.some.injEq, Prod.mk.injEq] at H; obtain ⟨rfl, rfl, rfl, rfl, rfl, rfl, rfl, rfl⟩ := H; go_enter Tryz.func14, Tryz.ntmps14; go_wp2_with (first | (refine gD 1 ?_; refine bxe_ 1 (n8_ a0_0 a0_1 a0_2 a0_3 a0_4 a0_5 a0_6 (.slice A0_7 l0_7.length c0_7)) 27 ?_; intro gb212 hg w30 hbox hb; replace HO0_7 := eV_ HO0_7 hg hb; have BK212 := A_ (hbox); have GW212 := gs_ w hg; have GE212 := gs_ w hg; replace HB := bs_ hb; clear hb hbox hg) | (refine gD 2 ?_; refine bxe_ 2 z8_ 27 ?_; intro gb213 hg w31 hbox hb; replace HO0_7 := eV_ HO0_7 hg hb; have BK213 := A_ (hbox); have GW213 := gs_ w hg; have GE213 := gs_ w hg; replace HB := bs_ hb; have NB212_213 := nl_ BK212 hg; have NB213_212 := ng_ BK212 hg; replace BK212 := bb_ BK212 hb; clear hb hbox hg; have hnb32 := NB212_213.out; have hnc32 := NB213_212.out; have Z33 := bz8_ BK212) | (refine gC 12 ?_; refine gL 5 Tryz.func12 #[.agg (n8_ a0_0 a0_1 a0_2 a0_3 a0_4 a0_5 a0_6 (.slice A0_7 l0_7.length c0_7))] ?_; (with_reducible refine (tree_Sane.calls k a0_0 a0_1 a0_2 a0_3 a0_4 a0_5 a0_6 _ _ l0_7 true _ ?side1 ?side2 A2.out).mono ?_); (case side1 => exact cr_ (Kd.V_reads' HO0_7.out).2.2); (case side2 => exact (Kd.V_reads' HO0_7.out).2.1); rintro e w34 ⟨rfl, hb⟩; refine ⟨_, rfl, ?_⟩; replace HO0_7 := bV_ HO0_7 hb; replace BK212 := bb_ BK212 hb; replace BK213 := bb_ BK213 hb; replace HB := bs_ hb; (try clear hb); have Z35 := bz8_ BK212) | (refine gC 31 ?_; refine gL 13 Tryz.func31 #[.slice A0_7 l0_7.length c0_7] ?_; (with_reducible refine (slices_Clone.calls (fun k_ => (((P0_7_ k_ ∨ w.heap.size ≤ k_) ∧ k_ ≠ gb212) ∧ k_ ≠ gb213)) _ _ l0_7 t215 _ ?side1 A29.out).mono ?_); (case side1 => exact HO0_7.out); rintro e w36 ⟨v216, rfl, ho0, hb⟩; refine ⟨_, rfl, ?_⟩; replace HO0_7 := dV_ HO0_7 ho0 hb; have HO217 := A_ (Kd.N_lower (Kd.N_mono (ok' := fun k_ => (P0_7_ k_ ∨ w.heap.size ≤ k_) ∧ k_ ≠ gb212 ∧ k_ ≠ gb213) ho0 (fun k_ hk_ => ⟨hk_.elim (·.1.1) (fun hn_ => (.inr (Nat.le_trans (below_size hs_) hn_))), hk_.elim (·.1.2) (fb_ BK212 k_), hk_.elim (·.2) (fb_ BK213 k_)⟩)) (below_size hs_)); replace BK212 := bb_ BK212 hb; replace BK213 := bb_ BK213 hb; replace HB := bs_ hb; (try clear hb); (try clear ho0); obtain ⟨Ao37, co37, eo37⟩ := Kd.N_slice HO217.out; subst eo37; have Z38 := bz8_ BK212; have Z39 := bz8_ BK213))
   refine bodyPost_ret (results_cell_row rfl _ _ gb213 27 #[.int .i64 a0_0, .int .i64 a0_1, .string a0_2, .string a0_3, .string a0_4, .bool a0_5, .bool a0_6, .slice Ao37 t215.length co37] (0, 0) _ rfl (by (with_reducible repeat (first | refine blk_drewN ?_ _ | refine blk_drew ?_ | refine blk_alloc ?_ _)); refine blk_put (cs := (n8_ a0_0 a0_1 a0_2 a0_3 a0_4 a0_5 a0_6 (.slice none 0 0))) ?_ 7 _ rfl; (with_reducible repeat (first | refine blk_drewN ?_ _ | refine blk_drew ?_ | refine blk_alloc ?_ _)); refine blk_put (cs := (n8_ a0_0 a0_1 a0_2 a0_3 a0_4 a0_5 false (.slice none 0 0))) ?_ 6 _ rfl; (with_reducible repeat (first | refine blk_drewN ?_ _ | refine blk_drew ?_ | refine blk_alloc ?_ _)); refine blk_put (cs := (n8_ a0_0 a0_1 a0_2 a0_3 a0_4 false false (.slice none 0 0))) ?_ 5 _ rfl; (with_reducible repeat (first | refine blk_drewN ?_ _ | refine blk_drew ?_ | refine blk_alloc ?_ _)); refine blk_put (cs := (n8_ a0_0 a0_1 a0_2 a0_3 ⟨#[]⟩ false false (.slice none 0 0))) ?_ 4 _ rfl; (with_reducible repeat (first | refine blk_drewN ?_ _ | refine blk_drew ?_ | refine blk_alloc ?_ _)); refine blk_put (cs := (n8_ a0_0 a0_1 a0_2 ⟨#[]⟩ ⟨#[]⟩ false false (.slice none 0 0))) ?_ 3 _ rfl; (with_reducible repeat (first | refine blk_drewN ?_ _ | refine blk_drew ?_ | refine blk_alloc ?_ _)); refine blk_put (cs := (n8_ a0_0 a0_1 ⟨#[]⟩ ⟨#[]⟩ ⟨#[]⟩ false false (.slice none 0 0))) ?_ 2 _ rfl; (with_reducible repeat (first | refine blk_drewN ?_ _ | refine blk_drew ?_ | refine blk_alloc ?_ _)); refine blk_put (cs := (n8_ a0_0 0 ⟨#[]⟩ ⟨#[]⟩ ⟨#[]⟩ false false (.slice none 0 0))) ?_ 1 _ rfl; (with_reducible repeat (first | refine blk_drewN ?_ _ | refine blk_drew ?_ | refine blk_alloc ?_ _)); refine blk_put (cs := z8_) ?_ 0 _ rfl; (with_reducible repeat (first | refine blk_drewN ?_ _ | refine blk_drew ?_ | refine blk_alloc ?_ _)); refine blk_far ?_ NB213_212.out _; (with_reducible repeat (first | refine blk_drewN ?_ _ | refine blk_drew ?_ | refine blk_alloc ?_ _)); exact BK213.out) Tryz.underlying27 rfl (by kernel_rfl)) rfl ?_; exact ⟨_, by first | rfl | (simp [errW_none, errW_some] <;> rfl) | (simp [*, errW_none, errW_some] <;> rfl), Kd.N_V (by (with_reducible repeat (first | apply Kd.N_alloc | apply Kd.N_drewN | apply Kd.N_drew)); exact Kd.N_mono (Kd.N_far (p := ⟨gb213, 7, none⟩) (Kd.N_far (p := ⟨gb213, 6, none⟩) (Kd.N_far (p := ⟨gb213, 5, none⟩) (Kd.N_far (p := ⟨gb213, 4, none⟩) (Kd.N_far (p := ⟨gb213, 3, none⟩) (Kd.N_far (p := ⟨gb213, 2, none⟩) (Kd.N_far (p := ⟨gb213, 1, none⟩) (Kd.N_far (p := ⟨gb213, 0, none⟩) (Kd.N_far (p := ⟨gb212, 7, none⟩) (Kd.N_mono (Kd.N_mono HO217.out (fun k_ hk => (⟨hk, hk.2.1⟩ : _ ∧ k_ ≠ gb212))) (fun k_ hk => (⟨hk, hk.1.2.2⟩ : _ ∧ k_ ≠ gb213))) (fun _ hk => hk.1.2) (.slice Ao37 t215.length co37)) (fun _ hk => hk.2) (.int .i64 a0_0)) (fun _ hk => hk.2) (.int .i64 a0_1)) (fun _ hk => hk.2) (.string a0_2)) (fun _ hk => hk.2) (.string a0_3)) (fun _ hk => hk.2) (.string a0_4)) (fun _ hk => hk.2) (.bool a0_5)) (fun _ hk => hk.2) (.bool a0_6)) (fun _ hk => hk.2) (.slice Ao37 t215.length co37)) (fun _ hk => hk.1.1.1)), hs_⟩
 ·replace c3 := Bool.eq_false_iff.mpr c3
  subst c3; (have H1 : (some (0, 0, (⟨#[]⟩ : ByteArray), (⟨#[]⟩ : ByteArray), (⟨#[]⟩ : ByteArray), false, false, ([] : List (S27)))) = some (r1, r2, r3, r4, r5, r6, r7, r8) := by rw [if_neg (show ¬ (false = true) by decide)] at H; exact H); clear H; have H := H1; clear H1; simp only [Option.some.injEq, Prod.mk.injEq] at H; obtain ⟨rfl, rfl, rfl, rfl, rfl, rfl, rfl, rfl⟩ := H; go_enter Tryz.func14, Tryz.ntmps14; go_wp2_with (first | (refine gD 1 ?_; refine bxe_ 1 (n8_ a0_0 a0_1 a0_2 a0_3 a0_4 a0_5 a0_6 (.slice A0_7 l0_7.length c0_7)) 27 ?_; intro gb212 hg w40 hbox hb; replace HO0_7 := eV_ HO0_7 hg hb; have BK212 := A_ (hbox); have GW212 := gs_ w hg; have GE212 := gs_ w hg; replace HB := bs_ hb; clear hb hbox hg) | (refine gD 2 ?_; refine bxe_ 2 z8_ 27 ?_; intro gb213 hg w41 hbox hb; replace HO0_7 := eV_ HO0_7 hg hb; have BK213 := A_ (hbox); have GW213 := gs_ w hg; have GE213 := gs_ w hg; replace HB := bs_ hb; have NB212_213 := nl_ BK212 hg; have NB213_212 := ng_ BK212 hg; replace BK212 := bb_ BK212 hb; clear hb hbox hg; have hnb42 := NB212_213.out; have hnc42 := NB213_212.out; have Z43 := bz8_ BK212) | (refine gC 12 ?_; refine gL 5 Tryz.func12 #[.agg (n8_ a0_0 a0_1 a0_2 a0_3 a0_4 a0_5 a0_6 (.slice A0_7 l0_7.length c0_7))] ?_; (with_reducible refine (tree_Sane.calls k a0_0 a0_1 a0_2 a0_3 a0_4 a0_5 a0_6 _ _ l0_7 false _ ?side1 ?side2 A2.out).mono ?_); (case side1 => exact cr_ (Kd.V_reads' HO0_7.out).2.2); (case side2 => exact (Kd.V_reads' HO0_7.out).2.1); rintro e w44 ⟨rfl, hb⟩; refine ⟨_, rfl, ?_⟩; replace HO0_7 := bV_ HO0_7 hb; replace BK212 := bb_ BK212 hb; replace BK213 := bb_ BK213 hb; replace HB := bs_ hb; (try clear hb); have Z45 := bz8_ BK213))
  refine bodyPost_ret (results_cell_row rfl _ _ gb213 27 #[.int .i64 0, .int .i64 0, .string ⟨#[]⟩, .string ⟨#[]⟩, .string ⟨#[]⟩, .bool false, .bool false, .slice none 0 0] (0, 0) _ rfl (pb_ BK213.out) Tryz.underlying27 rfl (by kernel_rfl)) rfl ?_; exact ⟨_, by first | rfl | (simp [errW_none, errW_some] <;> rfl) | (simp [*, errW_none, errW_some] <;> rfl), (Kd.V_nil _ _ _ _ _), hs_⟩
def canon_Is.T1 : Bool × List (List Nat × List Nat) := (true, [([], []), ([0], [0]), ([1, 1], [1]), ([2], [2]), ([3, 2, 2], [2, 3]), ([2], [2]), ([4, 5, 4, 2], [2, 4, 5]), ([2, 6], [2, 6]), ([7, 6, 0, 1, 2, 3, 4, 5, 6, 7], [7])])
def canon_Is.B1 : List Nat := [0, 1, 3, 7, 15, 7, 63, 127, 255]
theorem canon_Is.tab1 : rtab .any (opsOf Tryz.f15 1) = canon_Is.T1 := by kernel_rfl
theorem canon_Is.bits1 : waitsOk canon_Is.T1.2 canon_Is.B1 = true := by kernel_rfl
set_option maxHeartbeats 8000000 in
set_option maxRecDepth 100000 in
theorem canon_Is.calls (k : Nat) (a0_0 a0_1 : Int) (a0_2 a0_3 a0_4 : ByteArray) (a0_5 a0_6 : Bool) (A0_7 : Option Addr) (c0_7 : Nat) (l0_7 : List (S27)) (r : Bool) (w : World) (hr0_7 : Kd.C k27 w A0_7 l0_7.length l0_7) (hc0_7 : l0_7.length ≤ c0_7) (h : canon_Is.f k a0_0 a0_1 a0_2 a0_3 a0_4 a0_5 a0_6 l0_7 = some r) :
  Calls Tryz.prog 15 #[.agg #[.int .i64 a0_0, .int .i64 a0_1, .string a0_2, .string a0_3, .string a0_4, .bool a0_5, .bool a0_6, .slice A0_7 l0_7.length c0_7]] w fun e w' => e = .returned (.bool r) ∧ Below w.heap.size w w' := by
 have hu27 := Tryz.underlying27; have HR0_7 := A_ hr0_7; have HC0_7 := A_ hc0_7; clear hr0_7 hc0_7; have HB := A_ (Below.refl w.heap.size w); have H : ((tree_Sane.f k a0_0 a0_1 a0_2 a0_3 a0_4 a0_5 a0_6 l0_7).bind fun t233 => (if t233 = true then ((canon_Canon.f k a0_0 a0_1 a0_2 a0_3 a0_4 a0_5 a0_6 l0_7).bind fun bt234 => ((tree_Same.f k bt234.1 bt234.2.1 bt234.2.2.1 bt234.2.2.2.1 bt234.2.2.2.2.1 bt234.2.2.2.2.2.1 bt234.2.2.2.2.2.2.1 bt234.2.2.2.2.2.2.2 a0_0 a0_1 a0_2 a0_3 a0_4 a0_5 a0_6 l0_7).bind fun t244 => (some t244))) else (some false))) = some r := h; clear h; obtain ⟨t233, A2, H⟩ := bi_ H
 by_cases c3 : t233 = true
 ·subst c3
  replace H := iP_ H; obtain ⟨⟨t234, t235, t236, t237, t238, t239, t240, t241⟩, A4, H⟩ := bi_ H; obtain ⟨t244, A5, H⟩ := bi_ H; obtain rfl := Option.some.inj H; go_enter Tryz.func15, Tryz.ntmps15; (try go_wp2_with (first | (refine gx_ w 1 (n8_ a0_0 a0_1 a0_2 a0_3 a0_4 a0_5 a0_6 (.slice A0_7 l0_7.length c0_7)) 27 ?_; clear HB; intro gb232 w6 BK232 GE232 HB; have GW232 := GE232))); replace BK232 := A_ (blk_drew BK232.out); replace HB := A_ (below_drew1 HB.out); refine start_ (n := 9) (S := fun w' => C8 w' gb232 (.int .i64 a0_0) (.int .i64 a0_1) (.string a0_2) (.string a0_3) (.string a0_4) (.bool a0_5) (.bool a0_6) (.slice A0_7 l0_7.length c0_7)) (ds := []) (ab 9 0) (by kernel_rfl) rfl rfl (cq8_ BK232) (fun hHeld => ?_); refine with_tabW canon_Is.tab1 canon_Is.bits1 (fun HT_ HW_ => ?_); generalize w6.drew = w7 at BK232 HB hHeld ⊢; refine tB 0 3 9 1 ?_; refine oA 1 (some 4) 9 3 fun K hK => ?_; refine gS Tryz.func12 #[.agg (n8_ a0_0 a0_1 a0_2 a0_3 a0_4 a0_5 a0_6 (.slice A0_7 l0_7.length c0_7))] ?_; (with_reducible refine (tree_Sane.calls k a0_0 a0_1 a0_2 a0_3 a0_4 a0_5 a0_6 _ _ l0_7 true _ ?side1 ?side2 A2.out).mono ?_)
  (case side1 => exact cb_ HR0_7)
  (case side2 => exact HC0_7.out)
  rintro e w8 ⟨rfl, hb⟩; refine ⟨_, rfl, ?_⟩; replace BK232 := bb_ BK232 hb; replace HB := bs_ hb; (try clear hb); refine hK.out _ _ (cq8_ BK232) (fun hHeld => ?_); clear hK K; refine nA ?_; refine pA 2 5 9 7 ?_; refine tB 3 6 9 15 ?_; refine tB 5 8 9 47 ?_; refine oA 4 (some 7) 9 63 fun K hK => ?_; refine gS Tryz.func14 #[.agg (n8_ a0_0 a0_1 a0_2 a0_3 a0_4 a0_5 a0_6 (.slice A0_7 l0_7.length c0_7))] ?_; (with_reducible refine (canon_Canon.calls k a0_0 a0_1 a0_2 a0_3 a0_4 a0_5 a0_6 (fun k_ => k_ < w.heap.size) _ _ l0_7 t234 t235 t236 t237 t238 t239 t240 t241 _ ?side1 A4.out).mono ?_)
  (case side1 => exact Kd.V_mk HC0_7.out (Kd.F_below (Kd.C_F k27_heap HR0_7.out) hs_))
  rintro e w9 ⟨v242, rfl, ho0, hb⟩; refine ⟨_, rfl, ?_⟩; have HO243 := A_ (Kd.V_lower (Kd.V_mono (ok' := fun k_ => k_ ≠ gb232) ho0 (fun k_ hk_ => Or.elim hk_ (fun hs_ => fun e_ => Nat.not_le.2 hs_ (by rw [e_]; exact GW232.out)) (fb_ BK232 k_))) (below_size hs_)); replace BK232 := bb_ BK232 hb; replace HB := bs_ hb; (try clear hb); (try clear ho0); obtain ⟨Ao10, co10, eo10⟩ := Kd.V_slice HO243.out; (first | subst eo10 | (injection eo10 with f1_ f2_ f3_; have f4_ := f1_.symm; have f5_ := f3_.symm; clear f1_ f2_ f3_; subst f4_; subst f5_)); refine hK.out _ _ (cq8_ BK232) (fun hHeld => ?_); clear hK K; refine nA ?_; refine oA 6 (some 9) 9 127 fun K hK => ?_; refine gS Tryz.func10 #[.agg (n8_ t234 t235 t236 t237 t238 t239 t240 (.slice Ao10 t241.length co10)), .agg (n8_ a0_0 a0_1 a0_2 a0_3 a0_4 a0_5 a0_6 (.slice A0_7 l0_7.length c0_7))] ?_; (with_reducible refine (tree_Same.calls k t234 t235 t236 t237 t238 t239 t240 _ _ t241 a0_0 a0_1 a0_2 a0_3 a0_4 a0_5 a0_6 _ _ l0_7 t244 _ ?side1 ?side2 ?side3 ?side4 A5.out).mono ?_)
  (case side1 => exact cr_ (Kd.V_reads' HO243.out).2.2)
  (case side2 => exact (Kd.V_reads' HO243.out).2.1)
  (case side3 => exact cb_ HR0_7)
  (case side4 => exact HC0_7.out)
  rintro e w11 ⟨rfl, hb⟩; refine ⟨_, rfl, ?_⟩; replace HO243 := bV_ HO243 hb; replace BK232 := bb_ BK232 hb; replace HB := bs_ hb; (try clear hb); refine hK.out _ _ (cq8_ BK232) (fun hHeld => ?_); clear hK K; refine nA ?_; refine pA 7 10 9 255 ?_; refine pA 8 2 9 511 ?_; refine done_ (done_of HT_.out (by kernel_rfl)) ?_; (try go_wp2); go_ret; exact ⟨re_, hs_⟩
 ·replace c3 := Bool.eq_false_iff.mpr c3
  subst c3; replace H := iN_ H; obtain rfl := Option.some.inj H; go_enter Tryz.func15, Tryz.ntmps15; (try go_wp2_with (first | (refine gx_ w 1 (n8_ a0_0 a0_1 a0_2 a0_3 a0_4 a0_5 a0_6 (.slice A0_7 l0_7.length c0_7)) 27 ?_; clear HB; intro gb232 w12 BK232 GE232 HB; have GW232 := GE232))); replace BK232 := A_ (blk_drew BK232.out); replace HB := A_ (below_drew1 HB.out); refine start_ (n := 9) (S := fun w' => C8 w' gb232 (.int .i64 a0_0) (.int .i64 a0_1) (.string a0_2) (.string a0_3) (.string a0_4) (.bool a0_5) (.bool a0_6) (.slice A0_7 l0_7.length c0_7)) (ds := []) (ab 9 0) (by kernel_rfl) rfl rfl (cq8_ BK232) (fun hHeld => ?_); refine with_tabW canon_Is.tab1 canon_Is.bits1 (fun HT_ HW_ => ?_); generalize w12.drew = w13 at BK232 HB hHeld ⊢; refine tB 0 3 9 1 ?_; refine oA 1 (some 4) 9 3 fun K hK => ?_; refine gS Tryz.func12 #[.agg (n8_ a0_0 a0_1 a0_2 a0_3 a0_4 a0_5 a0_6 (.slice A0_7 l0_7.length c0_7))] ?_; (with_reducible refine (tree_Sane.calls k a0_0 a0_1 a0_2 a0_3 a0_4 a0_5 a0_6 _ _ l0_7 false _ ?side1 ?side2 A2.out).mono ?_)
  (case side1 => exact cb_ HR0_7)
  (case side2 => exact HC0_7.out)
  rintro e w14 ⟨rfl, hb⟩; refine ⟨_, rfl, ?_⟩; replace BK232 := bb_ BK232 hb; replace HB := bs_ hb; (try clear hb); refine hK.out _ _ (cq8_ BK232) (fun hHeld => ?_); clear hK K; refine nA ?_; refine pA 2 5 9 7 ?_; refine uA 3 6 9 15 ?_; refine uA 4 7 9 31 ?_; refine uA 5 8 9 63 ?_; refine uA 6 9 9 127 ?_; refine pA 7 10 9 255 ?_; refine pA 8 2 9 511 ?_; refine done_ (done_of HT_.out (by kernel_rfl)) ?_; (try go_wp2); go_ret; exact ⟨re_, hs_⟩
set_option maxHeartbeats 8000000 in
set_option maxRecDepth 100000 in
theorem lustrumlaw13_ParseFixed.calls (k : Nat) (a0 : ByteArray) (r : Bool) (w : World) (hrT_ : r = true) (h : lustrumlaw13_ParseFixed.f k a0 = some r) :
  Calls Tryz.prog 6 #[.string a0] w fun e w' => e = .returned (.bool r) ∧ Below w.heap.size w w' := by
 have hu27 := Tryz.underlying27; have HB := A_ (Below.refl w.heap.size w); have H : ((lustrumlaw13_awake.f k).bind fun t179 => (if (a0.size : Int) > 600 then (some t179) else ((parse_Parse.f k a0).bind fun bt180 => (if bt180.2.2.2.2.2.2.2.2.2 = 0 then ((canon_Canon.f k bt180.1 bt180.2.1 bt180.2.2.1 bt180.2.2.2.1 bt180.2.2.2.2.1 bt180.2.2.2.2.2.1 bt180.2.2.2.2.2.2.1 bt180.2.2.2.2.2.2.2.1).bind fun bt194 => ((print_Text.f k bt194.1 bt194.2.1 bt194.2.2.1 bt194.2.2.2.1 bt194.2.2.2.2.1 bt194.2.2.2.2.2.1 bt194.2.2.2.2.2.2.1 bt194.2.2.2.2.2.2.2).bind fun t205 => ((parse_Parse.f k t205).bind fun bt206 => ((print_Text.f k bt180.1 bt180.2.1 bt180.2.2.1 bt180.2.2.2.1 bt180.2.2.2.2.1 bt180.2.2.2.2.2.1 bt180.2.2.2.2.2.2.1 bt180.2.2.2.2.2.2.2.1).bind fun t219 => ((parse_Parse.f k t219).bind fun bt220 => (if t179 = true then (if bt180.2.2.2.2.2.2.2.2.1 = (a0.size : Int) then ((tree_Sane.f k bt180.1 bt180.2.1 bt180.2.2.1 bt180.2.2.2.1 bt180.2.2.2.2.1 bt180.2.2.2.2.2.1 bt180.2.2.2.2.2.2.1 bt180.2.2.2.2.2.2.2.1).bind fun t233 => (if t233 = true then (if bt206.2.2.2.2.2.2.2.2.2 = 0 then ((tree_Same.f k bt206.1 bt206.2.1 bt206.2.2.1 bt206.2.2.2.1 bt206.2.2.2.2.1 bt206.2.2.2.2.2.1 bt206.2.2.2.2.2.2.1 bt206.2.2.2.2.2.2.2.1 bt194.1 bt194.2.1 bt194.2.2.1 bt194.2.2.2.1 bt194.2.2.2.2.1 bt194.2.2.2.2.2.1 bt194.2.2.2.2.2.2.1 bt194.2.2.2.2.2.2.2).bind fun t234 => (if t234 = true then ((canon_Is.f k bt206.1 bt206.2.1 bt206.2.2.1 bt206.2.2.2.1 bt206.2.2.2.2.1 bt206.2.2.2.2.2.1 bt206.2.2.2.2.2.2.1 bt206.2.2.2.2.2.2.2.1).bind fun t235 => (if t235 = true then ((canon_Canon.f k bt206.1 bt206.2.1 bt206.2.2.1 bt206.2.2.2.1 bt206.2.2.2.2.1 bt206.2.2.2.2.2.1 bt206.2.2.2.2.2.2.1 bt206.2.2.2.2.2.2.2.1).bind fun bt236 => ((print_Text.f k bt236.1 bt236.2.1 bt236.2.2.1 bt236.2.2.2.1 bt236.2.2.2.2.1 bt236.2.2.2.2.2.1 bt236.2.2.2.2.2.2.1 bt236.2.2.2.2.2.2.2).bind fun t246 => (if t246.toList = t205.toList then (if bt220.2.2.2.2.2.2.2.2.2 = 0 then ((tree_Same.f k bt220.1 bt220.2.1 bt220.2.2.1 bt220.2.2.2.1 bt220.2.2.2.2.1 bt220.2.2.2.2.2.1 bt220.2.2.2.2.2.2.1 bt220.2.2.2.2.2.2.2.1 bt180.1 bt180.2.1 bt180.2.2.1 bt180.2.2.2.1 bt180.2.2.2.2.1 bt180.2.2.2.2.2.1 bt180.2.2.2.2.2.2.1 bt180.2.2.2.2.2.2.2.1).bind fun t247 => (some t247)) else (some false)) else (some false)))) else (some false))) else (some false))) else (some false)) else (some false))) else (some false)) else (some false))))))) else (if t179 = true then ((tree_Same.f k bt180.1 bt180.2.1 bt180.2.2.1 bt180.2.2.2.1 bt180.2.2.2.2.1 bt180.2.2.2.2.2.1 bt180.2.2.2.2.2.2.1 bt180.2.2.2.2.2.2.2.1 0 0 (⟨#[]⟩ : ByteArray) (⟨#[]⟩ : ByteArray) (⟨#[]⟩ : ByteArray) false false ([] : List (S27))).bind fun t193 => (if t193 = true then (if bt180.2.2.2.2.2.2.2.2.1 ≥ 0 then (some (decide (bt180.2.2.2.2.2.2.2.2.1 ≤ (a0.size : Int)))) else (some false)) else (some false))) else (some false)))))) = some r := h; clear h; obtain ⟨t179, A2, H⟩ := bi_ H
 by_cases c3 : (a0.size : Int) > 600
 ·rw [if_pos c3] at H
  have c3b0 := decide_eq_true c3; have c3b1 : decide (600 < a0.size) = true := decide_eq_true (by omega); clear c3; obtain rfl := Option.some.inj H; clear hrT_; go_enter Tryz.func6, Tryz.ntmps6; go_wp2_with (first | ((with_reducible refine gC 7 ?_); refine goesL_ (some 15) rfl rfl Tryz.func7 (by kernel_rfl) rfl #[] rfl ml_ ?_; (with_reducible refine (lustrumlaw13_awake.calls k  t179 _ A2.out).mono ?_); rintro e w4 ⟨rfl, hb⟩; refine ⟨_, rfl, ?_⟩; replace HB := bs_ hb; (try clear hb))); go_ret; exact ⟨re_, hs_⟩
 ·rw [if_neg c3] at H
  have c3b0 := decide_eq_false c3; have c3b1 : decide (600 < a0.size) = false := decide_eq_false (by omega); clear c3; obtain ⟨⟨t180, t181, t182, t183, t184, t185, t186, t187, t190, t191⟩, A5, H⟩ := bi_ H
  by_cases c6 : t191 = 0
  ·rw [if_pos c6] at H
   have c6b0 : (t191 == 0) = true := beq_iff_eq.mpr c6; have c6b1 : (t191 != 0) = false := bne_eq_false_iff_eq.mpr c6; clear c6; obtain ⟨⟨t194, t195, t196, t197, t198, t199, t200, t201⟩, A7, H⟩ := bi_ H; obtain ⟨t205, A8, H⟩ := bi_ H; obtain ⟨⟨t206, t207, t208, t209, t210, t211, t212, t213, t216, t217⟩, A9, H⟩ := bi_ H; obtain ⟨t219, A10, H⟩ := bi_ H; obtain ⟨⟨t220, t221, t222, t223, t224, t225, t226, t227, t230, t231⟩, A11, H⟩ := bi_ H
   by_cases c12 : t179 = true
   ·subst c12
    replace H := iP_ H
    by_cases c13 : t190 = (a0.size : Int)
    ·rw [if_pos c13] at H
     have c13b0 : (t190 == (a0.size : Int)) = true := beq_iff_eq.mpr c13; have c13b1 : (t190 != (a0.size : Int)) = false := bne_eq_false_iff_eq.mpr c13; clear c13; obtain ⟨t233, A14, H⟩ := bi_ H
     by_cases c15 : t233 = true
     ·subst c15
      replace H := iP_ H
      by_cases c16 : t217 = 0
      ·rw [if_pos c16] at H
       have c16b0 : (t217 == 0) = true := beq_iff_eq.mpr c16; have c16b1 : (t217 != 0) = false := bne_eq_false_iff_eq.mpr c16; clear c16; obtain ⟨t234, A17, H⟩ := bi_ H
       by_cases c18 : t234 = true
       ·subst c18
        replace H := iP_ H; obtain ⟨t235, A19, H⟩ := bi_ H
        by_cases c20 : t235 = true
        ·subst c20
         replace H := iP_ H; obtain ⟨⟨t236, t237, t238, t239, t240, t241, t242, t243⟩, A21, H⟩ := bi_ H; obtain ⟨t246, A22, H⟩ := bi_ H
         by_cases c23 : t246.toList = t205.toList
         ·rw [if_pos c23] at H
          have c23b0 : (t246.toList == t205.toList) = true := beq_iff_eq.mpr c23; have c23b1 : (t246.toList != t205.toList) = false := bne_eq_false_iff_eq.mpr c23; clear c23
          by_cases c24 : t231 = 0
          ·rw [if_pos c24] at H
           have c24b0 : (t231 == 0) = true := beq_iff_eq.mpr c24; have c24b1 : (t231 != 0) = false := bne_eq_false_iff_eq.mpr c24; clear c24; obtain ⟨t247, A25, H⟩ := bi_ H; obtain rfl := Option.some.inj H; clear hrT_; go_enter Tryz.func6, Tryz.ntmps6; go_wp2_with (first | ((with_reducible refine gC 7 ?_); refine goesL_ (some 15) rfl rfl Tryz.func7 (by kernel_rfl) rfl #[] rfl ml_ ?_; (with_reducible refine (lustrumlaw13_awake.calls k  true _ A2.out).mono ?_); rintro e w26 ⟨rfl, hb⟩; refine ⟨_, rfl, ?_⟩; replace HB := bs_ hb; (try clear hb)) | ((with_reducible refine gC 8 ?_); refine goesL_ (some 22) rfl rfl Tryz.func8 (by kernel_rfl) rfl #[.string a0] rfl ml_ ?_; (with_reducible refine (parse_Parse.calls k a0 t180 t181 t182 t183 t184 t185 t186 t187 t190 t191 _ A5.out).mono ?_); rintro e w27 ⟨v188, rfl, ho0, hb⟩; refine ⟨_, rfl, ?_⟩; have HO189 := A_ (Kd.V_lower (Kd.V_mono (ok' := fun k_ => True) ho0 (fun k_ hk_ => trivial)) (below_size hs_)); replace HB := bs_ hb; (try clear hb); (try clear ho0)) | ((with_reducible refine gD 4 ?_); (try (refine gate_guard (by rfl) ?_; dsimp only)); refine bxe_ 4 z8_ 27 ?_; intro gb192 hg w28 hbox hb; replace HO189 := eV_ HO189 hg hb; have BK192 := A_ (hbox); have GW192 := gs_ w hg; have GE192 := gs_ w hg; replace HB := bs_ hb; clear hb hbox hg; have Z29 := bz8_ BK192; obtain ⟨Ao30, co30, eo30⟩ := Kd.V_slice HO189.out; subst eo30) | ((with_reducible refine gate_store (t := 27) (p := 4) rfl ?_); refine store_event (t := 27) (p := 4) (v := ?vo_w31) (w1 := ((((((((w28.setCell ⟨gb192, 0, none⟩ (.int .i64 t180)).setCell ⟨gb192, 1, none⟩ (.int .i64 t181)).setCell ⟨gb192, 2, none⟩ (.string t182)).setCell ⟨gb192, 3, none⟩ (.string t183)).setCell ⟨gb192, 4, none⟩ (.string t184)).setCell ⟨gb192, 5, none⟩ (.bool t185)).setCell ⟨gb192, 6, none⟩ (.bool t186)).setCell ⟨gb192, 7, none⟩ (.slice Ao30 t187.length co30))) ?hg ?ho ?hn ?hr ?_; (case ho => rfl); (case hg => rfl); (case hn => rfl); (case hr => first | (go_simp; done) | (go_simp; rfl)); intro w31 hw; replace HO189 : Aside0 (Kd.V k27 27 w31 w.heap.size (fun k_ => k_ ≠ gb192) (.slice Ao30 t187.length co30) t187) := ⟨(by rw [hw]; exact (fpV_ HO189.out))⟩; replace BK192 : Aside0 (w31.heap[gb192]? = some (.cells (n8_ t180 t181 t182 t183 t184 t185 t186 (.slice Ao30 t187.length co30)) 27 (0, 0))) := ⟨(by rw [hw]; exact (pb_ BK192.out))⟩; replace HB : Aside0 (Below w.heap.size w w31) := ⟨(by rw [hw]; exact hs_)⟩; clear hw; have Z32 := bz8_ BK192) | ((with_reducible refine gC 14 ?_); refine goesL_ (some 45) rfl rfl Tryz.func14 (by kernel_rfl) rfl #[.agg #[.int .i64 t180, .int .i64 t181, .string t182, .string t183, .string t184, .bool t185, .bool t186, .slice Ao30 t187.length co30]] rfl ml_ ?_; (with_reducible refine (canon_Canon.calls k t180 t181 t182 t183 t184 t185 t186 (fun k_ => k_ ≠ gb192) _ _ t187 t194 t195 t196 t197 t198 t199 t200 t201 _ ?side1 A7.out).mono ?_); (case side1 => exact HO189.out); rintro e w33 ⟨v202, rfl, ho0, hb⟩; refine ⟨_, rfl, ?_⟩; replace HO189 := bV_ HO189 hb; have HO203 := A_ (Kd.V_lower (Kd.V_mono (ok' := fun k_ => k_ ≠ gb192) ho0 (fun k_ hk_ => Or.elim hk_ (fun hs_ => hs_) (fb_ BK192 k_))) (below_size hs_)); replace BK192 := bb_ BK192 hb; replace HB := bs_ hb; (try clear hb); (try clear ho0)) | ((with_reducible refine gD 7 ?_); (try (refine gate_guard (by rfl) ?_; dsimp only)); refine bxe_ 7 z8_ 27 ?_; intro gb204 hg w34 hbox hb; replace HO189 := eV_ HO189 hg hb; replace HO203 := eV_ HO203 hg hb; have BK204 := A_ (hbox); have GW204 := gs_ w hg; have GE204 := gs_ w hg; replace HB := bs_ hb; have NB192_204 := nl_ BK192 hg; have NB204_192 := ng_ BK192 hg; replace BK192 := bb_ BK192 hb; clear hb hbox hg; have hnb35 := NB204_192.out; have hnc35 := NB192_204.out; have Z36 := bz8_ BK204; obtain ⟨Ao37, co37, eo37⟩ := Kd.V_slice HO203.out; subst eo37) | ((with_reducible refine gC 13 ?_); refine goesL_ (some 47) rfl rfl Tryz.func13 (by kernel_rfl) rfl #[.agg #[.int .i64 t194, .int .i64 t195, .string t196, .string t197, .string t198, .bool t199, .bool t200, .slice Ao37 t201.length co37]] rfl ml_ ?_; (with_reducible refine (print_Text.calls k t194 t195 t196 t197 t198 t199 t200 _ _ t201 t205 _ ?side1 ?side2 A8.out).mono ?_); (case side1 => refine (Kd.V_reads' (e := 27) (base := w.heap.size) (ok := fun k_ => (k_ ≠ gb192 ∧ k_ ≠ gb204)) (n := t201.length) (c := co37) ?_).2.2; exact (fxV_ HO203.out)); (case side2 => exact (Kd.V_reads' HO203.out).2.1); rintro e w38 ⟨rfl, hb⟩; refine ⟨_, rfl, ?_⟩; replace HO189 := bV_ HO189 hb; replace HO203 := bV_ HO203 hb; replace BK192 := A_ (blk_below (g := gb192) (o := .cells (n8_ t180 t181 t182 t183 t184 t185 t186 (.slice Ao30 t187.length co30)) 27 (0, 0)) (pf_ NB192_204 BK192) hb); replace BK204 := bp_ BK204 (.cells (n8_ t194 t195 t196 t197 t198 t199 t200 (.slice Ao37 t201.length co37)) 27 (0, 0)) hb; replace HB := bs_ hb; (try clear hb)) | ((with_reducible refine gC 8 ?_); refine goesL_ (some 50) rfl rfl Tryz.func8 (by kernel_rfl) rfl #[.string t205] rfl ml_ ?_; (with_reducible refine (parse_Parse.calls k t205 t206 t207 t208 t209 t210 t211 t212 t213 t216 t217 _ A9.out).mono ?_); rintro e w39 ⟨v214, rfl, ho0, hb⟩; refine ⟨_, rfl, ?_⟩; replace HO189 := bV_ HO189 hb; replace HO203 := bV_ HO203 hb; have HO215 := A_ (Kd.V_lower (Kd.V_mono (ok' := fun k_ => k_ ≠ gb192 ∧ k_ ≠ gb204) ho0 (fun k_ hk_ => ⟨(fb_ BK192 k_ hk_), (fb_ BK204 k_ hk_)⟩)) (below_size hs_)); replace BK192 := bb_ BK192 hb; replace BK204 := bb_ BK204 hb; replace HB := bs_ hb; (try clear hb); (try clear ho0)) | ((with_reducible refine gD 9 ?_); (try (refine gate_guard (by rfl) ?_; dsimp only)); refine bxe_ 9 z8_ 27 ?_; intro gb218 hg w40 hbox hb; replace HO189 := eV_ HO189 hg hb; replace HO203 := eV_ HO203 hg hb; replace HO215 := eV_ HO215 hg hb; have BK218 := A_ (hbox); have GW218 := gs_ w hg; have GE218 := gs_ w hg; replace HB := bs_ hb; have NB192_218 := nl_ BK192 hg; have NB218_192 := ng_ BK192 hg; replace BK192 := bb_ BK192 hb; have NB204_218 := nl_ BK204 hg; have NB218_204 := ng_ BK204 hg; replace BK204 := bb_ BK204 hb; clear hb hbox hg; have hnb41 := NB218_192.out; have hnc41 := NB192_218.out; have hnb42 := NB218_204.out; have hnc42 := NB204_218.out; have Z43 := bz8_ BK218; obtain ⟨Ao44, co44, eo44⟩ := Kd.V_slice HO215.out; subst eo44; have Z45 := bz8_ BK192) | ((with_reducible refine gC 13 ?_); refine goesL_ (some 56) rfl rfl Tryz.func13 (by kernel_rfl) rfl #[.agg #[.int .i64 t180, .int .i64 t181, .string t182, .string t183, .string t184, .bool t185, .bool t186, .slice Ao30 t187.length co30]] rfl ml_ ?_; (with_reducible refine (print_Text.calls k t180 t181 t182 t183 t184 t185 t186 _ _ t187 t219 _ ?side1 ?side2 A10.out).mono ?_); (case side1 => refine (Kd.V_reads' (e := 27) (base := w.heap.size) (ok := fun k_ => ((k_ ≠ gb192 ∧ k_ ≠ gb204) ∧ k_ ≠ gb218)) (n := t187.length) (c := co30) ?_).2.2; exact (fxV_ HO189.out)); (case side2 => exact (Kd.V_reads' HO189.out).2.1); rintro e w46 ⟨rfl, hb⟩; refine ⟨_, rfl, ?_⟩; replace HO189 := bV_ HO189 hb; replace HO203 := bV_ HO203 hb; replace HO215 := bV_ HO215 hb; replace BK192 := A_ (blk_below (g := gb192) (o := .cells (n8_ t180 t181 t182 t183 t184 t185 t186 (.slice Ao30 t187.length co30)) 27 (0, 0)) (pf_ NB192_218 BK192) hb); replace BK204 := A_ (blk_below (g := gb204) (o := .cells (n8_ t194 t195 t196 t197 t198 t199 t200 (.slice Ao37 t201.length co37)) 27 (0, 0)) (pf_ NB204_218 BK204) hb); replace BK218 := bp_ BK218 (.cells (n8_ t206 t207 t208 t209 t210 t211 t212 (.slice Ao44 t213.length co44)) 27 (0, 0)) hb; replace HB := bs_ hb; (try clear hb)) | ((with_reducible refine gC 8 ?_); refine goesL_ (some 57) rfl rfl Tryz.func8 (by kernel_rfl) rfl #[.string t219] rfl ml_ ?_; (with_reducible refine (parse_Parse.calls k t219 t220 t221 t222 t223 t224 t225 t226 t227 t230 t231 _ A11.out).mono ?_); rintro e w47 ⟨v228, rfl, ho0, hb⟩; refine ⟨_, rfl, ?_⟩; replace HO189 := bV_ HO189 hb; replace HO203 := bV_ HO203 hb; replace HO215 := bV_ HO215 hb; have HO229 := A_ (Kd.V_lower (Kd.V_mono (ok' := fun k_ => k_ ≠ gb192 ∧ k_ ≠ gb204 ∧ k_ ≠ gb218) ho0 (fun k_ hk_ => ⟨(fb_ BK192 k_ hk_), (fb_ BK204 k_ hk_), (fb_ BK218 k_ hk_)⟩)) (below_size hs_)); replace BK192 := bb_ BK192 hb; replace BK204 := bb_ BK204 hb; replace BK218 := bb_ BK218 hb; replace HB := bs_ hb; (try clear hb); (try clear ho0)) | ((with_reducible refine gD 12 ?_); (try (refine gate_guard (by rfl) ?_; dsimp only)); refine bxe_ 12 z8_ 27 ?_; intro gb232 hg w48 hbox hb; replace HO189 := eV_ HO189 hg hb; replace HO203 := eV_ HO203 hg hb; replace HO215 := eV_ HO215 hg hb; replace HO229 := eV_ HO229 hg hb; have BK232 := A_ (hbox); have GW232 := gs_ w hg; have GE232 := gs_ w hg; replace HB := bs_ hb; have NB192_232 := nl_ BK192 hg; have NB232_192 := ng_ BK192 hg; replace BK192 := bb_ BK192 hb; have NB204_232 := nl_ BK204 hg; have NB232_204 := ng_ BK204 hg; replace BK204 := bb_ BK204 hb; have NB218_232 := nl_ BK218 hg; have NB232_218 := ng_ BK218 hg; replace BK218 := bb_ BK218 hb; clear hb hbox hg; have hnb49 := NB232_192.out; have hnc49 := NB192_232.out; have hnb50 := NB232_204.out; have hnc50 := NB204_232.out; have hnb51 := NB232_218.out; have hnc51 := NB218_232.out; have Z52 := bz8_ BK232; obtain ⟨Ao53, co53, eo53⟩ := Kd.V_slice HO229.out; subst eo53; have Z54 := bz8_ BK192) | (go_at_call 12; (with_reducible refine (tree_Sane.calls k t180 t181 t182 t183 t184 t185 t186 _ _ t187 true _ ?side1 ?side2 A14.out).mono ?_); (case side1 => refine (Kd.V_reads' (e := 27) (base := w.heap.size) (ok := fun k_ => (((k_ ≠ gb192 ∧ k_ ≠ gb204) ∧ k_ ≠ gb218) ∧ k_ ≠ gb232)) (n := t187.length) (c := co30) ?_).2.2; exact (fxV_ HO189.out)); (case side2 => exact (Kd.V_reads' HO189.out).2.1); rintro e w55 ⟨rfl, hb⟩; replace HO189 := bV_ HO189 hb; replace HO203 := bV_ HO203 hb; replace HO215 := bV_ HO215 hb; replace HO229 := bV_ HO229 hb; replace BK192 := A_ (blk_below (g := gb192) (o := .cells (n8_ t180 t181 t182 t183 t184 t185 t186 (.slice Ao30 t187.length co30)) 27 (0, 0)) (pf_ NB192_232 BK192) hb); replace BK204 := A_ (blk_below (g := gb204) (o := .cells (n8_ t194 t195 t196 t197 t198 t199 t200 (.slice Ao37 t201.length co37)) 27 (0, 0)) (pf_ NB204_232 BK204) hb); replace BK218 := A_ (blk_below (g := gb218) (o := .cells (n8_ t206 t207 t208 t209 t210 t211 t212 (.slice Ao44 t213.length co44)) 27 (0, 0)) (pf_ NB218_232 BK218) hb); replace BK232 := bp_ BK232 (.cells (n8_ t220 t221 t222 t223 t224 t225 t226 (.slice Ao53 t227.length co53)) 27 (0, 0)) hb; replace HB := bs_ hb; (try clear hb); have Z56 := bz8_ BK218; have Z57 := bz8_ BK204) | (go_at_call 10; (with_reducible refine (tree_Same.calls k t206 t207 t208 t209 t210 t211 t212 _ _ t213 t194 t195 t196 t197 t198 t199 t200 _ _ t201 true _ ?side1 ?side2 ?side3 ?side4 A17.out).mono ?_); (case side1 => repeat (first | exact (Kd.V_reads' HO215.out).2.2 | (with_reducible refine Kd.C_alloc ?_ _) | (with_reducible refine Kd.C_drewN ?_ _) | (with_reducible refine Kd.C_drew ?_))); (case side2 => exact (Kd.V_reads' HO215.out).2.1); (case side3 => repeat (first | exact (Kd.V_reads' HO203.out).2.2 | (with_reducible refine Kd.C_alloc ?_ _) | (with_reducible refine Kd.C_drewN ?_ _) | (with_reducible refine Kd.C_drew ?_))); (case side4 => exact (Kd.V_reads' HO203.out).2.1); rintro e w58 ⟨rfl, hb⟩; replace HO189 := bV_ HO189 hb; replace HO203 := bV_ HO203 hb; replace HO215 := bV_ HO215 hb; replace HO229 := bV_ HO229 hb; replace BK192 := bb_ BK192 hb; replace BK204 := bb_ BK204 hb; replace BK218 := bb_ BK218 hb; replace BK232 := bb_ BK232 hb; replace HB := bs_ hb; (try clear hb); have Z59 := bz8_ BK218) | (go_at_call 15; (with_reducible refine (canon_Is.calls k t206 t207 t208 t209 t210 t211 t212 _ _ t213 true _ ?side1 ?side2 A19.out).mono ?_); (case side1 => repeat (first | exact (Kd.V_reads' HO215.out).2.2 | (with_reducible refine Kd.C_alloc ?_ _) | (with_reducible refine Kd.C_drewN ?_ _) | (with_reducible refine Kd.C_drew ?_))); (case side2 => exact (Kd.V_reads' HO215.out).2.1); rintro e w60 ⟨rfl, hb⟩; replace HO189 := bV_ HO189 hb; replace HO203 := bV_ HO203 hb; replace HO215 := bV_ HO215 hb; replace HO229 := bV_ HO229 hb; replace BK192 := bb_ BK192 hb; replace BK204 := bb_ BK204 hb; replace BK218 := bb_ BK218 hb; replace BK232 := bb_ BK232 hb; replace HB := bs_ hb; (try clear hb); have Z61 := bz8_ BK218) | (go_at_call 14; (with_reducible refine (canon_Canon.calls k t206 t207 t208 t209 t210 t211 t212 (fun k_ => (((k_ ≠ gb192 ∧ k_ ≠ gb204) ∧ k_ ≠ gb218) ∧ k_ ≠ gb232)) _ _ t213 t236 t237 t238 t239 t240 t241 t242 t243 _ ?side1 A21.out).mono ?_); (case side1 => exact HO215.out); rintro e w62 ⟨v244, rfl, ho0, hb⟩; replace HO189 := bV_ HO189 hb; replace HO203 := bV_ HO203 hb; replace HO215 := bV_ HO215 hb; replace HO229 := bV_ HO229 hb; have HO245 := A_ (Kd.V_lower (Kd.V_mono (ok' := fun k_ => k_ ≠ gb192 ∧ k_ ≠ gb204 ∧ k_ ≠ gb218 ∧ k_ ≠ gb232) ho0 (fun k_ hk_ => ⟨hk_.elim (·.1.1.1) (fb_ BK192 k_), hk_.elim (·.1.1.2) (fb_ BK204 k_), hk_.elim (·.1.2) (fb_ BK218 k_), hk_.elim (·.2) (fb_ BK232 k_)⟩)) (below_size hs_)); replace BK192 := bb_ BK192 hb; replace BK204 := bb_ BK204 hb; replace BK218 := bb_ BK218 hb; replace BK232 := bb_ BK232 hb; replace HB := bs_ hb; (try clear hb); (try clear ho0); obtain ⟨Ao63, co63, eo63⟩ := Kd.V_slice HO245.out; subst eo63) | (go_at_call 13; (with_reducible refine (print_Text.calls k t236 t237 t238 t239 t240 t241 t242 _ _ t243 t246 _ ?side1 ?side2 A22.out).mono ?_); (case side1 => repeat (first | exact (Kd.V_reads' HO245.out).2.2 | (with_reducible refine Kd.C_alloc ?_ _) | (with_reducible refine Kd.C_drewN ?_ _) | (with_reducible refine Kd.C_drew ?_))); (case side2 => exact (Kd.V_reads' HO245.out).2.1); rintro e w64 ⟨rfl, hb⟩; replace HO189 := bV_ HO189 hb; replace HO203 := bV_ HO203 hb; replace HO215 := bV_ HO215 hb; replace HO229 := bV_ HO229 hb; replace HO245 := bV_ HO245 hb; replace BK192 := bb_ BK192 hb; replace BK204 := bb_ BK204 hb; replace BK218 := bb_ BK218 hb; replace BK232 := bb_ BK232 hb; replace HB := bs_ hb; (try clear hb); have Z65 := bz8_ BK232; have Z66 := bz8_ BK192) | (go_at_call 10; (with_reducible refine (tree_Same.calls k t220 t221 t222 t223 t224 t225 t226 _ _ t227 t180 t181 t182 t183 t184 t185 t186 _ _ t187 t247 _ ?side1 ?side2 ?side3 ?side4 A25.out).mono ?_); (case side1 => repeat (first | exact (Kd.V_reads' HO229.out).2.2 | (with_reducible refine Kd.C_alloc ?_ _) | (with_reducible refine Kd.C_drewN ?_ _) | (with_reducible refine Kd.C_drew ?_))); (case side2 => exact (Kd.V_reads' HO229.out).2.1); (case side3 => repeat (first | exact (Kd.V_reads' HO189.out).2.2 | (with_reducible refine Kd.C_alloc ?_ _) | (with_reducible refine Kd.C_drewN ?_ _) | (with_reducible refine Kd.C_drew ?_))); (case side4 => exact (Kd.V_reads' HO189.out).2.1); rintro e w67 ⟨rfl, hb⟩; replace HO189 := bV_ HO189 hb; replace HO203 := bV_ HO203 hb; replace HO215 := bV_ HO215 hb; replace HO229 := bV_ HO229 hb; replace HO245 := bV_ HO245 hb; replace BK192 := bb_ BK192 hb; replace BK204 := bb_ BK204 hb; replace BK218 := bb_ BK218 hb; replace BK232 := bb_ BK232 hb; replace HB := bs_ hb; (try clear hb)))
           go_ret; exact ⟨re_, hs_⟩
          ·rw [if_neg c24] at H
           have c24b0 : (t231 == 0) = false := beq_eq_false_iff_ne.mpr c24; have c24b1 : (t231 != 0) = true := bne_iff_ne.mpr c24; exact absurd ((Option.some.inj H).trans hrT_) (by decide)
         ·rw [if_neg c23] at H
          have c23b0 : (t246.toList == t205.toList) = false := beq_eq_false_iff_ne.mpr c23; have c23b1 : (t246.toList != t205.toList) = true := bne_iff_ne.mpr c23; exact absurd ((Option.some.inj H).trans hrT_) (by decide)
        ·replace c20 := Bool.eq_false_iff.mpr c20
         subst c20; replace H := iN_ H; exact absurd ((Option.some.inj H).trans hrT_) (by decide)
       ·replace c18 := Bool.eq_false_iff.mpr c18
        subst c18; replace H := iN_ H; exact absurd ((Option.some.inj H).trans hrT_) (by decide)
      ·rw [if_neg c16] at H
       have c16b0 : (t217 == 0) = false := beq_eq_false_iff_ne.mpr c16; have c16b1 : (t217 != 0) = true := bne_iff_ne.mpr c16; exact absurd ((Option.some.inj H).trans hrT_) (by decide)
     ·replace c15 := Bool.eq_false_iff.mpr c15
      subst c15; replace H := iN_ H; exact absurd ((Option.some.inj H).trans hrT_) (by decide)
    ·rw [if_neg c13] at H
     have c13b0 : (t190 == (a0.size : Int)) = false := beq_eq_false_iff_ne.mpr c13; have c13b1 : (t190 != (a0.size : Int)) = true := bne_iff_ne.mpr c13; exact absurd ((Option.some.inj H).trans hrT_) (by decide)
   ·replace c12 := Bool.eq_false_iff.mpr c12
    subst c12; replace H := iN_ H; exact absurd ((Option.some.inj H).trans hrT_) (by decide)
  ·rw [if_neg c6] at H
   have c6b0 : (t191 == 0) = false := beq_eq_false_iff_ne.mpr c6; have c6b1 : (t191 != 0) = true := bne_iff_ne.mpr c6
   by_cases c330 : t179 = true
   ·subst c330
    replace H := iP_ H; obtain ⟨t193, A331, H⟩ := bi_ H
    by_cases c332 : t193 = true
    ·subst c332
     replace H := iP_ H
     by_cases c333 : t190 ≥ 0
     ·rw [if_pos c333] at H
      have c333b0 := decide_eq_true c333; clear c333; obtain rfl := Option.some.inj H; clear hrT_; go_enter Tryz.func6, Tryz.ntmps6; go_wp2_with (first | ((with_reducible refine gC 7 ?_); refine goesL_ (some 15) rfl rfl Tryz.func7 (by kernel_rfl) rfl #[] rfl ml_ ?_; (with_reducible refine (lustrumlaw13_awake.calls k  true _ A2.out).mono ?_); rintro e w334 ⟨rfl, hb⟩; refine ⟨_, rfl, ?_⟩; replace HB := bs_ hb; (try clear hb)) | ((with_reducible refine gC 8 ?_); refine goesL_ (some 22) rfl rfl Tryz.func8 (by kernel_rfl) rfl #[.string a0] rfl ml_ ?_; (with_reducible refine (parse_Parse.calls k a0 t180 t181 t182 t183 t184 t185 t186 t187 t190 t191 _ A5.out).mono ?_); rintro e w335 ⟨v188, rfl, ho0, hb⟩; refine ⟨_, rfl, ?_⟩; have HO189 := A_ (Kd.V_lower (Kd.V_mono (ok' := fun k_ => True) ho0 (fun k_ hk_ => trivial)) (below_size hs_)); replace HB := bs_ hb; (try clear hb); (try clear ho0)) | ((with_reducible refine gD 4 ?_); (try (refine gate_guard (by rfl) ?_; dsimp only)); refine bxe_ 4 z8_ 27 ?_; intro gb192 hg w336 hbox hb; replace HO189 := eV_ HO189 hg hb; have BK192 := A_ (hbox); have GW192 := gs_ w hg; have GE192 := gs_ w hg; replace HB := bs_ hb; clear hb hbox hg; have Z337 := bz8_ BK192; obtain ⟨Ao338, co338, eo338⟩ := Kd.V_slice HO189.out; subst eo338) | (go_at_call 10; (refine (tree_Same.calls k t180 t181 t182 t183 t184 t185 t186 _ _ t187 0 0 (⟨#[]⟩ : ByteArray) (⟨#[]⟩ : ByteArray) (⟨#[]⟩ : ByteArray) false false _ _ ([] : List (S27)) true _ ?side1 ?side2 ?side3 ?side4 A331.out).mono ?_); (case side1 => refine (Kd.V_reads' (e := 27) (base := w.heap.size) (ok := fun k_ => (True ∧ k_ ≠ gb192)) (n := t187.length) (c := co338) ?_).2.2; exact (fxV_ HO189.out)); (case side2 => exact (Kd.V_reads' HO189.out).2.1); (case side3 => exact Kd.C_nil _ _); (case side4 => exact Nat.le_refl _); rintro e w339 ⟨rfl, hb⟩; replace HO189 := bV_ HO189 hb; replace BK192 := bp_ BK192 (.cells (n8_ t180 t181 t182 t183 t184 t185 t186 (.slice Ao338 t187.length co338)) 27 (0, 0)) hb; replace HB := bs_ hb; (try clear hb)))
      go_ret; exact ⟨re_, hs_⟩
     ·rw [if_neg c333] at H
      have c333b0 := decide_eq_false c333; clear c333; exact absurd ((Option.some.inj H).trans hrT_) (by decide)
    ·replace c332 := Bool.eq_false_iff.mpr c332
     subst c332; replace H := iN_ H; exact absurd ((Option.some.inj H).trans hrT_) (by decide)
   ·replace c330 := Bool.eq_false_iff.mpr c330
    subst c330; replace H := iN_ H; exact absurd ((Option.some.inj H).trans hrT_) (by decide)
def Out (v : List S46) (e : S46) (m d : Nat) (R : PR) : Prop :=
  (R.x = none ∧ rt R.n = true ∧ R.m = ((m + nd R.n : Nat) : Int) ∧ m + nd R.n ≤ 64 ∧ R.d = (d : Int) ∧ d + dp R.n ≤ 8 ∧ ∃ v', R.t = v' ++ [e] ∧ v' <:+ v ∧ v'.length < v.length)
  ∨ ∃ a c, R.x = some (a, c) ∧ (∃ x, x ∈ v ++ [e] ∧ a = x.f1) ∧ c ≠ 0
def OutE (v : List S46) (e : S46) (m : Nat) (d : Int) (R : PR) : Prop :=
  (R.x = none ∧ endV R.n = true ∧ R.m = ((m + 1 : Nat) : Int) ∧ m + 1 ≤ 64 ∧ R.d = d ∧ ∃ v', R.t = v' ++ [e] ∧ v' <:+ v ∧ v'.length < v.length)
  ∨ ∃ a c, R.x = some (a, c) ∧ (∃ x, x ∈ v ++ [e] ∧ a = x.f1) ∧ c ≠ 0
def shortW (v : List S46) : Prop := ∀ x, x ∈ v → x.f2.size ≤ 4611686018427387904
theorem eNot_ne (x : S46) (c : Int) (h : c ≠ 0) : eNot x c ≠ 0 := by unfold eNot; split <;> omega
theorem cons_of (v : List S46) (e : S46) : ∃ y u, v ++ [e] = y :: u := by cases v with
  | nil => exact ⟨_, _, rfl⟩
  | cons y u => exact ⟨_, _, rfl⟩
theorem marked_any (e : S46) (he : e.f0 = 9) (p : S24) : ∀ (v : List S46) (a b : Bool), ∃ a' b' v', pMarked (v ++ [e]) p a b = some (⟨0, p, a', b', []⟩, v' ++ [e]) ∧ v' <:+ v
  | [], a, b => ⟨a, b, [], by rw [List.nil_append, pMarked, if_neg (by omega), if_neg (by omega)], List.suffix_refl _⟩
  | x :: v, a, b => by
    rw [List.cons_append, pMarked]
    by_cases c7 : x.f0 = 7
    · rw [if_pos c7]
      by_cases ca : a = false
      · rw [if_pos ca]
        obtain ⟨a', b', v', h, hs⟩ := marked_any e he p v true b
        exact ⟨a', b', v', h, hs.trans (List.suffix_cons _ _)⟩
      · rw [if_neg ca]; exact ⟨a, b, x :: v, rfl, List.suffix_refl _⟩
    · rw [if_neg c7]
      by_cases c8 : x.f0 = 8
      · rw [if_pos c8]
        by_cases cb : b = false
        · rw [if_pos cb]
          obtain ⟨a', b', v', h, hs⟩ := marked_any e he p v a true
          exact ⟨a', b', v', h, hs.trans (List.suffix_cons _ _)⟩
        · rw [if_neg cb]; exact ⟨a, b, x :: v, rfl, List.suffix_refl _⟩
      · rw [if_neg c8]; exact ⟨a, b, x :: v, rfl, List.suffix_refl _⟩
theorem endV_pt (p : S24) (a b : Bool) (h : ptV p = true) : endV ⟨0, p, a, b, []⟩ = true := by
  unfold endV
  rw [if_pos rfl]
  show (decide (([] : List S27) = []) && ptV p) = true
  rw [h]; simp
theorem endV_kz (k : Int) (h : k = 3 ∨ k = 4) : endV (kz k) = true := by
  have hb : bareV (kz k) = true := bare_mk k []
  unfold endV
  rw [hb, if_neg (show ¬ (kz k).f0 = 0 by show ¬ k = 0; omega), if_pos (show (kz k).f0 = 3 ∨ (kz k).f0 = 4 from h)]
  simp [kz]
theorem end_any (e : S46) (he : e.f0 = 9) (v : List S46) (hw : shortW v) (m : Nat) (d : Int) (hm : m ≤ 64) : ∃ R, Ev (fun k => pEnd k (m : Int) d (v ++ [e])) R ∧ OutE v e m d R := by
  cases v with
  | nil =>
    refine ⟨⟨pz, some (e.f1, eNot e 3), [e], (m : Int), d⟩, ?_, .inr ⟨_, _, rfl, ⟨e, by simp, rfl⟩, eNot_ne _ _ (by omega)⟩⟩
    unfold pEnd
    exact Ev.iff_ (by omega) (Ev.iff_ (by omega) (Ev.iff_ (by omega) (Ev.now _)))
  | cons x v =>
    have bad : ∀ c : Int, c ≠ 0 → OutE (x :: v) e m d ⟨pz, some (x.f1, eNot x c), x :: (v ++ [e]), (m : Int), d⟩ := fun c hc => .inr ⟨_, _, rfl, ⟨x, by simp, rfl⟩, eNot_ne _ _ hc⟩
    unfold pEnd
    by_cases c0 : x.f0 = 0
    · by_cases c64 : (m : Int) = 64
      · exact ⟨_, Ev.ift c0 (Ev.ift c64 (Ev.now _)), bad 6 (by omega)⟩
      · have hx := hw x (by simp)
        have hm1 : m + 1 ≤ 64 := by omega
        have hrd := read_any x.f2.data.toList (by rw [← bsize]; exact hx)
        rw [bA_mk] at hrd
        unfold pWord
        rw [up1 (by omega)]
        rcases hrd with ⟨p, hp, _, hr⟩ | ⟨_, hr⟩
        · obtain ⟨a', b', v', hM, hs⟩ := marked_any e he ⟨p.f0, p.f1, p.f2, p.f3⟩ v false false
          refine ⟨⟨⟨0, ⟨p.f0, p.f1, p.f2, p.f3⟩, a', b', []⟩, none, v' ++ [e], ((m + 1 : Nat) : Int), d⟩, Ev.ift c0 (Ev.iff_ c64 (Ev.bind hr (Ev.ift rfl (Ev.bnow hM (Ev.now _))))), .inl ⟨rfl, endV_pt _ _ _ hp, rfl, hm1, rfl, v', rfl, hs.trans (List.suffix_cons _ _), ?_⟩⟩
          have := hs.length_le
          rw [List.length_cons]; omega
        · exact ⟨⟨pz, some (x.f1, eNot x 2), x :: (v ++ [e]), ((m + 1 : Nat) : Int), d⟩, Ev.ift c0 (Ev.iff_ c64 (Ev.bind hr (Ev.iff_ (by simp) (Ev.now _)))), .inr ⟨_, _, rfl, ⟨x, by simp, rfl⟩, eNot_ne _ _ (by omega)⟩⟩
    by_cases c2 : x.f0 = 2
    · by_cases c64 : (m : Int) = 64
      · exact ⟨_, Ev.iff_ c0 (Ev.ift c2 (Ev.ift c64 (Ev.now _))), bad 6 (by omega)⟩
      · rw [up1 (by omega)]
        exact ⟨⟨kz 3, none, v ++ [e], ((m + 1 : Nat) : Int), d⟩, Ev.iff_ c0 (Ev.ift c2 (Ev.iff_ c64 (Ev.now _))), .inl ⟨rfl, endV_kz 3 (.inl rfl), rfl, by omega, rfl, v, rfl, List.suffix_cons _ _, by simp⟩⟩
    by_cases c3 : x.f0 = 3
    · by_cases c64 : (m : Int) = 64
      · exact ⟨_, Ev.iff_ c0 (Ev.iff_ c2 (Ev.ift c3 (Ev.ift c64 (Ev.now _)))), bad 6 (by omega)⟩
      · rw [up1 (by omega)]
        exact ⟨⟨kz 4, none, v ++ [e], ((m + 1 : Nat) : Int), d⟩, Ev.iff_ c0 (Ev.iff_ c2 (Ev.ift c3 (Ev.iff_ c64 (Ev.now _)))), .inl ⟨rfl, endV_kz 4 (.inr rfl), rfl, by omega, rfl, v, rfl, List.suffix_cons _ _, by simp⟩⟩
    · exact ⟨_, Ev.iff_ c0 (Ev.iff_ c2 (Ev.iff_ c3 (Ev.now _))), bad 3 (by omega)⟩
theorem nd_end {n : S27} (h : endV n = true) : nd n = 1 := by rw [nd_eq, (end_kinds h).1]; rfl
theorem dp_end0 {n : S27} (h : endV n = true) : dp n = 0 := by
  obtain ⟨h4, hk⟩ := end_kinds h
  rw [dp_eq, if_neg (by omega), h4]; rfl
theorem shortW.suf {v' v : List S46} (hw : shortW v) (h : v' <:+ v) : shortW v' := fun x hx => hw x (h.subset hx)
theorem span_any (e : S46) (he : e.f0 = 9) (v : List S46) (hw : shortW v) (m d : Nat) (hm : m ≤ 64) (hd : d ≤ 8) : ∃ R, Ev (fun k => pSpan k (m : Int) (d : Int) (v ++ [e])) R ∧ Out v e m d R := by
  obtain ⟨R, hR, hO⟩ := end_any e he v hw m d hm
  unfold pSpan
  rcases hO with ⟨hx, hn, hm', hm1, hd', v', ht, hs, hl⟩ | ⟨a, c, hx, hp, hc⟩
  · obtain ⟨n, x, t, m', d'⟩ := R
    simp only at hx hn hm' hd' ht
    subst hx; subst hm'; subst hd'; subst ht
    have h1 := nd_end hn
    have hdp := dp_end0 hn
    have done : ∀ y u, v' ++ [e] = y :: u → y.f0 ≠ 1 → ∃ R, Ev (fun k => (pEnd k (m : Int) (d : Int) (v ++ [e])).bind fun r => match r.x with
        | some _ => some r
        | none => match r.t with
          | [] => none
          | y :: u => if y.f0 = 1 then (if r.m = 64 then some ⟨r.n, some (y.f1, eNot y 6), y :: u, r.m, r.d⟩ else (pEnd k (wrap64 (r.m + 1)) r.d u).bind fun s => some ⟨⟨1, ⟨0, ⟨#[]⟩, ⟨#[]⟩, ⟨#[]⟩⟩, false, false, [r.n, s.n]⟩, s.x, s.t, s.m, s.d⟩)
            else if r.n.f0 = 0 then some ⟨r.n, none, y :: u, r.m, r.d⟩ else some ⟨r.n, some (y.f1, eNot y 3), y :: u, r.m, r.d⟩) R ∧ Out v e m d R := fun y u hyu hy => by
      rw [hyu] at hR
      have hmem : y ∈ v ++ [e] := by
        have : y ∈ v' ++ [e] := by rw [hyu]; simp
        rcases List.mem_append.1 this with h | h
        · exact List.mem_append.2 (.inl (hs.subset h))
        · exact List.mem_append.2 (.inr h)
      by_cases cn : n.f0 = 0
      · refine ⟨_, Ev.bind hR (Ev.iff_ hy (Ev.ift cn (Ev.now _))), .inl ⟨rfl, by rw [rt_eq, if_pos cn]; exact hn, by rw [h1], (show m + nd n ≤ 64 by omega), rfl, (show d + dp n ≤ 8 by omega), v', hyu.symm, hs, hl⟩⟩
      · exact ⟨_, Ev.bind hR (Ev.iff_ hy (Ev.iff_ cn (Ev.now _))), .inr ⟨_, _, rfl, ⟨y, hmem, rfl⟩, eNot_ne _ _ (by omega)⟩⟩
    cases v' with
    | nil => exact done e [] rfl (by omega)
    | cons y u =>
      by_cases cy : y.f0 = 1
      · have hmem : y ∈ v ++ [e] := List.mem_append.2 (.inl (hs.subset (by simp)))
        by_cases c64 : ((m + 1 : Nat) : Int) = 64
        · exact ⟨_, Ev.bind hR (Ev.ift cy (Ev.ift c64 (Ev.now _))), .inr ⟨_, _, rfl, ⟨y, hmem, rfl⟩, eNot_ne _ _ (by omega)⟩⟩
        · have hu : u <:+ v := (List.suffix_cons y u).trans hs
          obtain ⟨S, hS, hSO⟩ := end_any e he u (hw.suf hu) (m + 2) d (by omega)
          have hE : Ev (fun k => (pEnd k (wrap64 (((m + 1 : Nat) : Int) + 1)) (d : Int) (u ++ [e])).bind fun s => some (⟨⟨1, ⟨0, ⟨#[]⟩, ⟨#[]⟩, ⟨#[]⟩⟩, false, false, [n, s.n]⟩, s.x, s.t, s.m, s.d⟩ : PR)) ⟨⟨1, ⟨0, ⟨#[]⟩, ⟨#[]⟩, ⟨#[]⟩⟩, false, false, [n, S.n]⟩, S.x, S.t, S.m, S.d⟩ := by
            rw [up1 (by omega)]
            exact Ev.bind hS (Ev.now _)
          refine ⟨_, Ev.bind hR (Ev.ift cy (Ev.iff_ c64 hE)), ?_⟩
          rcases hSO with ⟨sx, sn, sm, sm1, sd, w', st, ss, sl⟩ | ⟨a, c, sx, ⟨x, hx, hax⟩, hc⟩
          · have s1 := nd_end sn
            have s2 := dp_end0 sn
            have hnd : nd (⟨1, ⟨0, ⟨#[]⟩, ⟨#[]⟩, ⟨#[]⟩⟩, false, false, [n, S.n]⟩ : S27) = 3 := by rw [nd, ndL, ndL, ndL, h1, s1]
            have hdp2 : dp (⟨1, ⟨0, ⟨#[]⟩, ⟨#[]⟩, ⟨#[]⟩⟩, false, false, [n, S.n]⟩ : S27) = 0 := by rw [dp, if_neg (by decide), dpL, dpL, dpL, hdp, s2]; rfl
            refine .inl ⟨sx, ?_, ?_, by rw [hnd]; omega, sd, by rw [hdp2]; omega, w', st, ss.trans hu, ?_⟩
            · rw [rt_eq, if_neg (show ¬ (1 : Int) = 0 by decide), if_pos rfl]
              show (bareV ⟨1, ⟨0, e0, e0, e0⟩, false, false, [n, S.n]⟩ && two [n, S.n]) = true
              rw [bare_mk, two, hn, sn]; rfl
            · show S.m = _
              rw [sm, hnd]
            · simp only [List.length_cons] at hl; omega
          · refine .inr ⟨a, c, sx, ⟨x, ?_, hax⟩, hc⟩
            rcases List.mem_append.1 hx with h | h
            · exact List.mem_append.2 (.inl (hu.subset h))
            · exact List.mem_append.2 (.inr h)
      · exact done y (u ++ [e]) rfl cy
  · refine ⟨R, Ev.bind hR ?_, .inr ⟨a, c, hx, hp, hc⟩⟩
    rw [hx]; exact Ev.now _
theorem rtL_app : ∀ l u : List S27, rtL (l ++ u) = (rtL l && rtL u)
  | [], u => by simp [rtL]
  | x :: l, u => by rw [List.cons_append, rtL, rtL, rtL_app l u, Bool.and_assoc]
def ExprAny (e : S46) (v : List S46) : Prop := ∀ m d : Nat, m ≤ 64 → d ≤ 8 → ∃ R, Ev (fun k => pExpr k (m : Int) (d : Int) (v ++ [e])) R ∧ Out v e m d R
def ItemsAny (e : S46) (v : List S46) : Prop := ∀ (x : S46) (acc : List S27) (m d : Nat), rtL acc = true → m + 1 + ndL acc ≤ 64 → d + 1 + dpL acc ≤ 8 →
  ∃ R, Ev (fun k => pItems k ((m + 1 + ndL acc : Nat) : Int) ((d + 1 : Nat) : Int) (x :: (v ++ [e])) acc) R ∧ Out v e m d R
theorem expr_of (e : S46) (he : e.f0 = 9) (v : List S46) (hw : shortW v) (ih : ∀ u, u.length < v.length → shortW u → ItemsAny e u) : ExprAny e v := fun m d hm hd => by
  by_cases hv : ∃ x u, v = x :: u ∧ x.f0 = 4
  · obtain ⟨x, u, rfl, h4⟩ := hv
    have mem : x ∈ (x :: u) ++ [e] := by simp
    by_cases c8 : d = 8
    · refine ⟨⟨pz, some (x.f1, eNot x 5), x :: (u ++ [e]), (m : Int), (d : Int)⟩, ?_, .inr ⟨_, _, rfl, ⟨x, mem, rfl⟩, eNot_ne _ _ (by omega)⟩⟩
      refine Ev.step (f := fun k => pList k (m : Int) (d : Int) x (u ++ [e])) (fun k => by rw [List.cons_append, pExpr, if_pos h4]) ?_
      exact Ev.step (fun k => by rw [pList, if_pos (by omega)]) (Ev.now _)
    by_cases c64 : m = 64
    · refine ⟨⟨pz, some (x.f1, eNot x 6), x :: (u ++ [e]), (m : Int), (d : Int)⟩, ?_, .inr ⟨_, _, rfl, ⟨x, mem, rfl⟩, eNot_ne _ _ (by omega)⟩⟩
      refine Ev.step (f := fun k => pList k (m : Int) (d : Int) x (u ++ [e])) (fun k => by rw [List.cons_append, pExpr, if_pos h4]) ?_
      exact Ev.step (fun k => by rw [pList, if_neg (by omega), if_pos (by omega)]) (Ev.now _)
    · obtain ⟨R, hR, hO⟩ := ih u (by simp) (hw.suf (List.suffix_cons x u)) x [] m d rfl (by simp only [ndL]; omega) (by simp only [dpL]; omega)
      simp only [ndL, Nat.add_zero] at hR
      refine ⟨R, ?_, ?_⟩
      · refine Ev.step (f := fun k => pList k (m : Int) (d : Int) x (u ++ [e])) (fun k => by rw [List.cons_append, pExpr, if_pos h4]) ?_
        exact Ev.step (fun k => by rw [pList, if_neg (by omega), if_neg (by omega), up1 (by omega), up1 (by omega)]) hR
      · rcases hO with ⟨h1, h2, h3, h5, h6, h7, v', ht, hs, hl⟩ | ⟨a, c, hx, ⟨y, hy, hay⟩, hc⟩
        · exact .inl ⟨h1, h2, h3, h5, h6, h7, v', ht, hs.trans (List.suffix_cons x u), by rw [List.length_cons]; omega⟩
        · exact .inr ⟨a, c, hx, ⟨y, by rw [List.cons_append]; exact List.mem_cons_of_mem _ hy, hay⟩, hc⟩
  · obtain ⟨R, hR, hO⟩ := span_any e he v hw m d hm hd
    refine ⟨R, ?_, hO⟩
    cases v with
    | nil => exact Ev.step (fun k => by rw [List.nil_append, pExpr, if_neg (by omega)]) hR
    | cons x u => exact Ev.step (fun k => by rw [List.cons_append, pExpr, if_neg (fun h => hv ⟨x, u, rfl, h⟩)]) hR
theorem items_of (e : S46) (he : e.f0 = 9) (v : List S46) (hw : shortW v) (hE : ExprAny e v) (ih : ∀ u, u.length < v.length → shortW u → ItemsAny e u) : ItemsAny e v := fun x acc m d hrt hm hd => by
  obtain ⟨R, hR, hO⟩ := hE (m + 1 + ndL acc) (d + 1) hm (by omega)
  have hlen := len_nd acc
  rcases hO with ⟨h1, h2, h3, h5, h6, h7, v', ht, hs, hl⟩ | ⟨a, c, hx, hp, hc⟩
  · obtain ⟨n, x', t, m', d'⟩ := R
    simp only at h1 h2 h3 h5 h6 h7 ht
    subst h1; subst h3; subst h6
    have e1 : m + 1 + ndL acc + nd n = m + 1 + ndL (acc ++ [n]) := by rw [ndL_app, ndL, ndL]; omega
    have e2 : rtL (acc ++ [n]) = true := by rw [rtL_app, hrt, rtL, h2]; rfl
    have e3 : d + 1 + dpL (acc ++ [n]) ≤ 8 := by rw [dpL_app, dpL, dpL]; omega
    have hl2 : (acc ++ [n]).length ≤ 64 := by have := len_nd (acc ++ [n]); omega
    have other : ∀ y u, v' ++ [e] = y :: u → y.f0 ≠ 6 → y.f0 ≠ 5 → ∃ R, Ev (fun k => pItems k ((m + 1 + ndL acc : Nat) : Int) ((d + 1 : Nat) : Int) (x :: (v ++ [e])) acc) R ∧ Out v e m d R := fun y u hyu c6 c5 => by
      have hmem : y ∈ v ++ [e] := by
        have : y ∈ v' ++ [e] := by rw [hyu]; simp
        rcases List.mem_append.1 this with h | h
        · exact List.mem_append.2 (.inl (hs.subset h))
        · exact List.mem_append.2 (.inr h)
      rw [ht, hyu] at hR
      exact ⟨_, Ev.step (fun k => pItems_one k _ _ x _ acc) (Ev.bind hR (Ev.ift (by omega) (Ev.iff_ c6 (Ev.iff_ c5 (Ev.now _))))), .inr ⟨_, _, rfl, ⟨y, hmem, rfl⟩, eNot_ne _ _ (by omega)⟩⟩
    cases v' with
    | nil => exact other e [] rfl (by omega) (by omega)
    | cons y u =>
      have hu : u <:+ v := (List.suffix_cons y u).trans hs
      simp only [List.length_cons] at hl
      rw [ht, List.cons_append] at hR
      by_cases c6 : y.f0 = 6
      · obtain ⟨S, hS, hSO⟩ := ih u (by omega) (hw.suf hu) y (acc ++ [n]) m d e2 (by omega) e3
        rw [← e1] at hS
        refine ⟨S, items_step hR (by omega) (.inl ⟨c6, hS⟩), ?_⟩
        rcases hSO with ⟨s1, s2, s3, s5, s6, s7, w', st, ss, sl⟩ | ⟨a, c, sx, ⟨z, hz, haz⟩, hc⟩
        · exact .inl ⟨s1, s2, s3, s5, s6, s7, w', st, ss.trans hu, by omega⟩
        · refine .inr ⟨a, c, sx, ⟨z, ?_, haz⟩, hc⟩
          rcases List.mem_append.1 hz with h | h
          · exact List.mem_append.2 (.inl (hu.subset h))
          · exact List.mem_append.2 (.inr h)
      by_cases c5 : y.f0 = 5
      · have hnd : nd (⟨2, ⟨0, e0, e0, e0⟩, false, false, acc ++ [n]⟩ : S27) = 1 + ndL (acc ++ [n]) := by rw [nd]; omega
        have hdp : dp (⟨2, ⟨0, e0, e0, e0⟩, false, false, acc ++ [n]⟩ : S27) = dpL (acc ++ [n]) + 1 := by rw [dp, if_pos rfl]
        refine ⟨⟨⟨2, ⟨0, e0, e0, e0⟩, false, false, acc ++ [n]⟩, none, u ++ [e], ((m + 1 + ndL acc + nd n : Nat) : Int), (d : Int)⟩, items_step hR (by omega) (.inr ⟨c5, ?_, by omega⟩), .inl ⟨rfl, ?_, ?_, by rw [hnd]; omega, rfl, by rw [hdp]; omega, u, rfl, hu, by omega⟩⟩
        · rw [w64 (by omega) (by omega)]
          have : ((d + 1 : Nat) : Int) - 1 = (d : Int) := by omega
          rw [this]
        · rw [rt_eq, if_neg (show ¬ (2 : Int) = 0 by decide), if_neg (show ¬ (2 : Int) = 1 by decide), if_pos rfl, bare_mk]
          show (true && (decide (acc ++ [n] ≠ []) && rtL (acc ++ [n]))) = true
          rw [e2]; simp
        · show ((m + 1 + ndL acc + nd n : Nat) : Int) = _
          rw [hnd, e1]; omega
      · exact other y (u ++ [e]) rfl c6 c5
  · refine ⟨R, Ev.step (fun k => pItems_one k _ _ x _ acc) (Ev.bind hR ?_), .inr ⟨a, c, hx, hp, hc⟩⟩
    rw [hx]; exact Ev.now _
theorem items_any (e : S46) (he : e.f0 = 9) : ∀ (M : Nat) (v : List S46), v.length ≤ M → shortW v → ItemsAny e v
  | 0, v, hl, hw => items_of e he v hw (expr_of e he v hw (fun u h _ => by omega)) (fun u h _ => by omega)
  | M + 1, v, hl, hw => items_of e he v hw (expr_of e he v hw (fun u h hu => items_any e he M u (by omega) hu)) (fun u h hu => items_any e he M u (by omega) hu)
theorem expr_any (e : S46) (he : e.f0 = 9) (v : List S46) (hw : shortW v) : ExprAny e v := expr_of e he v hw (fun u _ hu => items_any e he _ u (Nat.le_refl _) hu)
def badC : List UInt8 → Prop
  | [] => False
  | c :: r => isW c = false ∧ signB (c.toNat : Int) = false ∧ c ≠ 32 ∧ ([46, 46] : List UInt8).isPrefixOf (c :: r) = false
def okG : List It → List UInt8 → Prop
  | [], r => r = [] ∨ badC r
  | .w l :: t, r => l ≠ [] ∧ l.all isW = true ∧ noW (flatT t ++ r) ∧ okG t r
  | .s k c :: t, r => signK (c.toNat : Int) = k ∧ signB (c.toNat : Int) = true ∧ okG t r
  | .d :: t, r => okG t r
  | .b :: t, r => okG t r
theorem drop_noW : ∀ l : List UInt8, noW (l.dropWhile isW)
  | [] => trivial
  | c :: l => by
    rw [List.dropWhile_cons]
    cases h : isW c with
    | true => exact drop_noW l
    | false => exact h
theorem all_take : ∀ l : List UInt8, (l.takeWhile isW).all isW = true
  | [] => rfl
  | c :: l => by
    rw [List.takeWhile_cons]
    cases h : isW c with
    | true => simp only [if_true, List.all_cons, h, Bool.true_and]; exact all_take l
    | false => rfl
theorem split_any : ∀ (M : Nat) (l : List UInt8), l.length ≤ M → ∃ its r, okG its r ∧ l = flatT its ++ r
  | _, [], _ => ⟨[], [], .inl rfl, rfl⟩
  | 0, c :: l, h => by rw [List.length_cons] at h; omega
  | M + 1, c :: l, h => by
    rw [List.length_cons] at h
    by_cases hW : isW c = true
    · have e := List.takeWhile_append_dropWhile (p := isW) (l := c :: l)
      have ht : (c :: l).takeWhile isW = c :: l.takeWhile isW := by rw [List.takeWhile_cons, hW]; rfl
      have hd : (c :: l).dropWhile isW = l.dropWhile isW := by rw [List.dropWhile_cons, hW]; rfl
      have hlen : (l.dropWhile isW).length ≤ l.length := (List.dropWhile_suffix _).length_le
      obtain ⟨its, r, ho, hr⟩ := split_any M (l.dropWhile isW) (by omega)
      refine ⟨.w (c :: l.takeWhile isW) :: its, r, ⟨by simp, ?_, ?_, ho⟩, ?_⟩
      · rw [← ht]; exact all_take _
      · rw [← hr]; exact drop_noW l
      · rw [flatT, List.append_assoc, ← hr, ← hd, It.tx, ← ht, e]
    have hW : isW c = false := Bool.eq_false_iff.mpr hW
    by_cases hS : signB (c.toNat : Int) = true
    · obtain ⟨its, r, ho, hr⟩ := split_any M l (by omega)
      exact ⟨.s (signK (c.toNat : Int)) c :: its, r, ⟨rfl, hS, ho⟩, by rw [flatT, It.tx, hr]; rfl⟩
    have hS : signB (c.toNat : Int) = false := Bool.eq_false_iff.mpr hS
    by_cases h2 : ([46, 46] : List UInt8).isPrefixOf (c :: l) = true
    · obtain ⟨u, rfl, rfl⟩ : ∃ u, c = 46 ∧ l = 46 :: u := by
        cases l with
        | nil => simp [List.isPrefixOf] at h2
        | cons b u =>
          simp only [List.isPrefixOf, Bool.and_true, Bool.and_eq_true, beq_iff_eq] at h2
          exact ⟨u, h2.1.symm, by rw [← h2.2]⟩
      rw [List.length_cons] at h
      obtain ⟨its, r, ho, hr⟩ := split_any M u (by omega)
      exact ⟨.d :: its, r, ho, by rw [flatT, It.tx, hr]; rfl⟩
    by_cases h3 : c = 32
    · obtain ⟨its, r, ho, hr⟩ := split_any M l (by omega)
      exact ⟨.b :: its, r, ho, by rw [flatT, It.tx, hr, h3]; rfl⟩
    · exact ⟨[], c :: l, .inr ⟨hW, hS, h3, Bool.eq_false_iff.mpr h2⟩, rfl⟩
theorem lex_round (p X : List UInt8) (c : UInt8) (l : List UInt8) (hX : X = c :: l) (acc : List S46) (k : Nat) :
    lex_All.l0 (k + 1) (bA (p ++ X)) acc (p.length : Int) = (lex_word.f k (bA X)).bind fun t274 => (if t274 > 0 then (if (p.length : Int) ≤ (wrap64 ((p.length : Int) + t274)) then (if (wrap64 ((p.length : Int) + t274)) ≤ ((bA (p ++ X)).size : Int) then (if acc.length < 4398046511104 then (lex_All.l0 k (bA (p ++ X)) (acc ++ [(⟨0, (p.length : Int), (bA (p ++ X)).extract ((p.length : Int)).toNat ((wrap64 ((p.length : Int) + t274)) : Int).toNat⟩ : S46)]) (wrap64 ((p.length : Int) + t274))) else (none)) else (none)) else (none)) else (if signB (c.toNat : Int) = true then (if acc.length < 4398046511104 then (lex_All.l0 k (bA (p ++ X)) (acc ++ [(⟨signK (c.toNat : Int), (p.length : Int), (⟨#[]⟩ : ByteArray)⟩ : S46)]) (wrap64 ((p.length : Int) + 1))) else (none)) else (if ([46, 46] : List UInt8).isPrefixOf X = true then (if acc.length < 4398046511104 then (lex_All.l0 k (bA (p ++ X)) (acc ++ [(⟨2, (p.length : Int), (⟨#[]⟩ : ByteArray)⟩ : S46)]) (wrap64 ((p.length : Int) + 2))) else (none)) else (if (c.toNat : Int) = 32 then (lex_All.l0 k (bA (p ++ X)) acc (wrap64 ((p.length : Int) + 1))) else (some (([] : List S46), (p.length : Int), 1)))))) := by
  have hbt : bt (bA (p ++ X)) (p.length : Int) = (c.toNat : Int) := by rw [hX, bt_mid]
  have hsz : ((bA (p ++ X)).size : Int) = ((p ++ X).length : Nat) := by rw [bA_size]
  have hlt : (p.length : Int) < ((bA (p ++ X)).size : Int) := by rw [hsz, hX, List.length_append, List.length_cons]; omega
  have hext : (bA (p ++ X)).extract ((p.length : Int)).toNat (bA (p ++ X)).size = bA X := by rw [Int.toNat_natCast]; exact ext_end p _
  have hp := prefix_f X [46, 46]
  rw [lex_All.l0, if_pos hlt, if_pos (by omega), hbt, hext]
  simp only [lex_signs.f, Option.bind_some]
  rw [if_pos (by omega)]
  have e1 : (⟨#[46, 46]⟩ : ByteArray) = bA [46, 46] := rfl
  rw [e1, hp]
  rfl
def lexR (p : List UInt8) (acc : List S46) (its : List It) (r : List UInt8) : List S46 × Int × Int :=
  if r = [] then (acc ++ toks p.length its ++ [endT (p ++ (flatT its ++ r)).length], ((p ++ (flatT its ++ r)).length : Int), 0) else ([], ((p.length + (flatT its).length : Nat) : Int), 1)
theorem lex_g (r : List UInt8) : ∀ (its : List It) (p : List UInt8) (acc : List S46), okG its r → (p ++ (flatT its ++ r)).length ≤ 1000000 → acc.length ≤ p.length →
    Ev (fun k => lex_All.l0 k (bA (p ++ (flatT its ++ r))) acc (p.length : Int)) (lexR p acc its r)
  | [], p, acc, hok, hn, ha => by
    unfold lexR
    rw [flatT, List.nil_append] at hn ⊢
    rcases hok with rfl | hb
    · rw [if_pos rfl]
      refine Ev.step (f := fun _ => some (acc ++ toks p.length [] ++ [endT (p ++ []).length], ((p ++ []).length : Int), 0)) (fun k => ?_) (Ev.now _)
      rw [lex_All.l0, bA_size, if_neg (by simp), if_pos (by simp at hn; omega)]
      simp only [toks, List.append_nil]
      rfl
    · cases r with
      | nil => exact hb.elim
      | cons c l =>
        obtain ⟨h1, h2, h3, h4⟩ := hb
        rw [if_neg (by simp)]
        have hword := word_f (c :: l) (by rw [List.length_append] at hn; omega)
        have e1 : (c :: l).takeWhile isW = [] := take_W [] (c :: l) rfl h1
        rw [e1] at hword
        have h32 : ¬ (c.toNat : Int) = 32 := fun h => h3 (u8eq (show c.toNat = 32 by omega))
        refine Ev.step (lex_round p (c :: l) c l rfl acc) (Ev.bind hword (Ev.iff_ (by simp) (Ev.iff_ (by rw [h2]; simp) (Ev.iff_ (by rw [h4]; simp) (Ev.iff_ h32 ?_)))))
        exact Ev.eq (Ev.now _) (by simp)
  | i :: t, p, acc, hok, hn, ha => by
    rw [flatT, List.append_assoc] at hn ⊢
    have hlen : p.length + i.tx.length + (flatT t).length + r.length ≤ 1000000 := by simp only [List.length_append] at hn; omega
    have hhead : ∃ c l, i.tx ++ (flatT t ++ r) = c :: l := by
      cases i with
      | w l => obtain ⟨h1, _⟩ := hok; cases l with
        | nil => exact absurd rfl h1
        | cons c l => exact ⟨c, _, rfl⟩
      | s k c => exact ⟨c, _, rfl⟩
      | d => exact ⟨46, _, rfl⟩
      | b => exact ⟨32, _, rfl⟩
    obtain ⟨c, l, hcl⟩ := hhead
    have next : ∀ (acc' : List S46), okG t r → acc'.length ≤ p.length + i.tx.length → acc' = acc ++ i.tok p.length → Ev (fun k => lex_All.l0 k (bA (p ++ (i.tx ++ (flatT t ++ r)))) acc' ((p.length : Int) + (i.tx.length : Int))) (lexR p acc (i :: t) r) := fun acc' hr ha' e => by
      have := lex_g r t (p ++ i.tx) acc' hr (by simp only [List.length_append]; omega) (by rw [List.length_append]; exact ha')
      have e3 : ((p ++ i.tx).length : Int) = (p.length : Int) + (i.tx.length : Int) := by rw [List.length_append]; omega
      rw [e3, List.append_assoc p] at this
      refine Ev.eq this ?_
      unfold lexR
      rw [flatT, toks, e]
      by_cases h0 : r = []
      · rw [if_pos h0, if_pos h0]
        simp only [List.append_assoc, List.length_append]
      · rw [if_neg h0, if_neg h0]
        simp only [List.length_append, Nat.add_assoc]
    have W : ∀ n : Nat, n ≤ 1000000 → wrap64 ((p.length : Int) + (n : Int)) = (p.length : Int) + (n : Int) := fun n h => w64 (by omega) (by omega)
    have w1 := W 1 (by omega)
    have w2 := W 2 (by omega)
    have n1 := Aside0.mk w1
    have n2 := Aside0.mk w2
    clear w1 w2
    have hword := word_f (i.tx ++ (flatT t ++ r)) (by simp only [List.length_append]; omega)
    refine Ev.step (lex_round p _ c l hcl acc) (Ev.bind hword ?_)
    cases i with
    | w u =>
      obtain ⟨h1, h2, h3, h4⟩ := hok
      have hu := List.length_pos_iff.2 h1
      have e1 : ((It.w u).tx ++ (flatT t ++ r)).takeWhile isW = u := take_W u _ h2 h3
      rw [e1]
      rw [W u.length (by simp only [It.tx] at hlen; omega)]
      refine Ev.ift (by omega) (Ev.ift (by omega) (Ev.ift (by rw [bA_size]; simp only [It.tx, List.length_append]; omega) (Ev.ift (by simp only [It.tx] at hlen; omega) ?_)))
      have e2 : (bA (p ++ ((It.w u).tx ++ (flatT t ++ r)))).extract ((p.length : Int)).toNat ((p.length : Int) + (u.length : Int)).toNat = bA u := by
        have : ((p.length : Int) + (u.length : Int)).toNat = p.length + u.length := by omega
        rw [Int.toNat_natCast, this]
        exact ext_bA p u _
      rw [e2]
      exact next (acc ++ [⟨0, (p.length : Int), bA u⟩]) h4 (by simp only [It.tx, List.length_append, List.length_cons, List.length_nil]; omega) rfl
    | s k d =>
      obtain ⟨h1, h2, h3⟩ := hok
      injection hcl with hc _
      subst hc
      have e1 : ((It.s k d).tx ++ (flatT t ++ r)).takeWhile isW = [] := take_W [] _ rfl (sign_noW h2)
      rw [e1]
      refine Ev.iff_ (by simp) (Ev.ift h2 (Ev.ift (by omega) ?_))
      rw [h1]
      rw [show wrap64 ((p.length : Int) + 1) = (p.length : Int) + 1 from n1.out]
      exact next (acc ++ [⟨k, (p.length : Int), e0⟩]) h3 (by simp only [It.tx, List.length_append, List.length_cons, List.length_nil]; omega) rfl
    | d =>
      injection hcl with hc _
      subst hc
      have e1 : (It.d.tx ++ (flatT t ++ r)).takeWhile isW = [] := take_W [] _ rfl (show isW 46 = false by decide)
      rw [e1]
      refine Ev.iff_ (by simp) (Ev.iff_ (by decide) (Ev.ift (by simp [It.tx, List.isPrefixOf]) (Ev.ift (by omega) ?_)))
      rw [show wrap64 ((p.length : Int) + 2) = (p.length : Int) + 2 from n2.out]
      exact next (acc ++ [⟨2, (p.length : Int), e0⟩]) hok (by simp only [It.tx, List.length_append, List.length_cons, List.length_nil]; omega) rfl
    | b =>
      injection hcl with hc _
      subst hc
      have e1 : (It.b.tx ++ (flatT t ++ r)).takeWhile isW = [] := take_W [] _ rfl (show isW 32 = false by decide)
      rw [e1]
      refine Ev.iff_ (by simp) (Ev.iff_ (by decide) (Ev.iff_ (by simp [It.tx, List.isPrefixOf]) (Ev.ift (by decide) ?_)))
      rw [show wrap64 ((p.length : Int) + 1) = (p.length : Int) + 1 from n1.out]
      exact next acc hok (by simp only [It.tx, List.length_cons, List.length_nil]; omega) (by simp [It.tok])
theorem All_ok (its : List It) (h : okG its []) (hn : (flatT its).length ≤ 2000) : Ev (fun k => lex_All.f k (bA (flatT its))) (toks 0 its ++ [endT (flatT its).length], ((flatT its).length : Int), 0) := by
  have := lex_g [] its [] [] h (by simp only [List.nil_append, List.append_nil]; omega) (Nat.le_refl _)
  unfold lexR at this
  rw [if_pos rfl] at this
  simp only [List.nil_append, List.append_nil, List.length_nil] at this
  exact Ev.iff_ (by rw [bA_size]; omega) this
theorem All_bad (its : List It) (r : List UInt8) (h : okG its r) (hr : r ≠ []) (hn : (flatT its ++ r).length ≤ 2000) : Ev (fun k => lex_All.f k (bA (flatT its ++ r))) ([], ((flatT its).length : Int), 1) := by
  have := lex_g r its [] [] h (by simp only [List.nil_append]; omega) (Nat.le_refl _)
  unfold lexR at this
  rw [if_neg hr] at this
  simp only [List.nil_append, List.length_nil, Nat.zero_add] at this
  exact Ev.iff_ (by rw [bA_size]; omega) this
theorem All_long (l : List UInt8) (h : 2000 < l.length) : Ev (fun k => lex_All.f k (bA l)) ([], 2000, 7) := Ev.ift (by rw [bA_size]; omega) (Ev.now _)
theorem toks_in : ∀ (its : List It) (p : Nat) (x : S46), x ∈ toks p its → (p : Int) ≤ x.f1 ∧ x.f1 ≤ ((p + (flatT its).length : Nat) : Int) ∧ x.f2.size ≤ (flatT its).length
  | [], _, _, h => by cases h
  | i :: t, p, x, h => by
    rw [toks] at h
    rw [flatT, List.length_append]
    rcases List.mem_append.1 h with h | h
    · cases i with
      | w l => obtain rfl := List.mem_singleton.1 h; exact ⟨Int.le_refl _, by simp only; omega, by simp only [bA_size, It.tx]; omega⟩
      | s k c => obtain rfl := List.mem_singleton.1 h; exact ⟨Int.le_refl _, by simp only; omega, Nat.zero_le _⟩
      | d => obtain rfl := List.mem_singleton.1 h; exact ⟨Int.le_refl _, by simp only; omega, Nat.zero_le _⟩
      | b => cases h
    · have := toks_in t _ x h
      exact ⟨by omega, by omega, by omega⟩
def tupP (n : S27) (a e : Int) : Int × Int × ByteArray × ByteArray × ByteArray × Bool × Bool × List S27 × Int × Int := (n.f0, n.f1.f0, n.f1.f1, n.f1.f2, n.f1.f3, n.f2, n.f3, n.f4, a, e)
theorem Parse_any (l : List UInt8) : (∃ n, saneV n = true ∧ l.length ≤ 2000 ∧ Ev (fun k => parse_Parse.f k (bA l)) (tupP n (l.length : Int) 0)) ∨ ∃ a e : Int, e ≠ 0 ∧ 0 ≤ a ∧ a ≤ (l.length : Int) ∧ Ev (fun k => parse_Parse.f k (bA l)) (tupP pz a e) := by
  by_cases hlong : 2000 < l.length
  · refine .inr ⟨2000, 7, by omega, by omega, by omega, ?_⟩
    exact Ev.bind (All_long l hlong) (Ev.iff_ (by simp) (Ev.now _))
  · obtain ⟨its, r, ho, rfl⟩ := split_any _ l (Nat.le_refl _)
    by_cases hr : r = []
    · subst hr
      rw [List.append_nil] at hlong ⊢
      have hL := All_ok its ho (by omega)
      have hT := toks_in its 0
      obtain ⟨R, hR, hO⟩ := expr_any (endT (flatT its).length) rfl (toks 0 its) (fun x hx => by have := hT x hx; omega) 0 0 (by omega) (by omega)
      rcases hO with ⟨hx, hn, hm, h64, hd, h8, v', ht, hs, hl⟩ | ⟨a, c, hx, ⟨x, hxm, hax⟩, hc⟩
      · have hs' : saneV R.n = true := by
          unfold saneV
          rw [hn]
          simp only [Bool.and_true, Bool.and_eq_true, decide_eq_true_eq]
          omega
        obtain ⟨n, x, t, m, d⟩ := R
        simp only at hx ht hs'
        subst hx; subst ht
        obtain ⟨y, u, hyu⟩ := cons_of v' (endT (flatT its).length)
        rw [hyu] at hR
        by_cases hy : y.f0 = 9
        · exact .inl ⟨n, hs', by omega, Ev.bind hL (Ev.ift rfl (Ev.bind hR (Ev.ift hy (Ev.now _))))⟩
        · have hym : y ∈ v' := by
            have : y ∈ v' ++ [endT (flatT its).length] := by rw [hyu]; simp
            rcases List.mem_append.1 this with h | h
            · exact h
            · obtain rfl := List.mem_singleton.1 h; exact absurd rfl hy
          have := hT y (hs.subset hym)
          refine .inr ⟨y.f1, 3, by omega, by omega, by omega, Ev.bind hL (Ev.ift rfl (Ev.bind hR (Ev.iff_ hy (Ev.now _))))⟩
      · have hb : 0 ≤ a ∧ a ≤ ((flatT its).length : Int) := by
          rcases List.mem_append.1 hxm with h | h
          · have := hT x h; omega
          · obtain rfl := List.mem_singleton.1 h
            rw [hax]; simp [endT]
        refine .inr ⟨a, c, hc, hb.1, hb.2, Ev.bind hL (Ev.ift rfl (Ev.bind hR ?_))⟩
        rw [hx]; exact Ev.now _
    · have hL := All_bad its r ho hr (by omega)
      refine .inr ⟨((flatT its).length : Int), 1, by omega, by omega, by rw [List.length_append]; omega, ?_⟩
      exact Ev.bind hL (Ev.iff_ (by simp) (Ev.now _))
theorem cn_wf {n : S27} (hw : wfN n) (hb : nd n ≤ 1048576) : wfN (cnV n) := by
  unfold cnV
  cases hv : saneV n with
  | false => rw [if_neg (by simp)]; exact wf_leaf _ _ _ _ (by decide) (by decide) (by decide)
  | true =>
    rw [if_pos rfl]
    by_cases c : n.f0 = 2
    · rw [if_pos c]
      have hl := flV_len _ n (Nat.le_refl _)
      obtain ⟨c1, c2, c3⟩ := clV_is (flV_saneV hv)
      have hg : ∀ x, x ∈ clV (flV n) → wfN x := fun x hx => (flV_good hw hb x ((c3 x).1 hx)).1
      unfold oneV
      split
      · next h1 =>
        cases e : clV (flV n) with
        | nil => rw [e] at h1; simp at h1
        | cons x t => exact hg x (by rw [e]; simp)
      · exact .mk _ (by show 0 ≤ _; omega) (by show 0 ≤ _; omega) (by show 0 ≤ _; omega) (by show (clV (flV n)).length ≤ _; omega) hg
    · rw [if_neg c]; exact hw
theorem ndL_put (n : S27) : ∀ l : List S27, ndL (putV n l) ≤ nd n + ndL l
  | [] => by rw [putV]; simp only [ndL]; omega
  | x :: l => by
    have := ndL_put n l
    rw [putV]
    split
    · rw [ndL, ndL]; omega
    · split
      · rw [ndL, ndL]; omega
      · rw [ndL]; omega
theorem ndL_fold : ∀ l acc : List S27, ndL (l.foldl (fun acc n => putV n acc) acc) ≤ ndL l + ndL acc
  | [], acc => by rw [List.foldl_nil]; omega
  | x :: l, acc => by
    have h1 := ndL_fold l (putV x acc)
    have h2 := ndL_put x acc
    rw [List.foldl_cons, ndL]; omega
theorem ndL_cl (l : List S27) : ndL (clV l) ≤ ndL l := by have := ndL_fold l []; rw [ndL] at this; exact this
theorem ndL_fl : ∀ (m : Nat) (n : S27), nd n ≤ m → ndL (flV n) ≤ nd n ∧ (n.f0 = 2 → ndL (flV n) + 1 ≤ nd n)
  | 0, n, h => by have := nd_pos n; omega
  | m + 1, n, h => by
    have hn := nd_eq n
    rw [flV_eq]
    by_cases c : n.f0 = 2
    · rw [if_pos c]
      have : ∀ l : List S27, ndL l ≤ m → ndL (flVL l) ≤ ndL l := fun l => by
        induction l with
        | nil => intro _; rw [flVL, ndL]; omega
        | cons y l ih =>
          intro hl
          rw [ndL] at hl
          have h1 := (ndL_fl m y (by omega)).1
          have h2 := ih (by omega)
          rw [flVL, ndL_app, ndL]; omega
      have := this n.f4 (by omega)
      exact ⟨by omega, fun _ => by omega⟩
    · rw [if_neg c, ndL, ndL]
      exact ⟨by omega, fun h => absurd h c⟩
theorem endV_leaf {x : S27} (h : endV x = true) : x.f4 = [] ∧ x.f0 ≠ 2 := by
  unfold endV at h
  simp only [Bool.and_eq_true, decide_eq_true_eq] at h
  refine ⟨h.1, fun c => ?_⟩
  have h2 := h.2
  rw [if_neg (by omega), if_neg (by omega)] at h2
  exact absurd h2 (by simp)
theorem dp_end {x : S27} (h : endV x = true) : dp x = 0 := by
  obtain ⟨h1, h2⟩ := endV_leaf h
  rw [dp_eq, if_neg h2, h1, dpL]
theorem dp_leaf {x : S27} (h : rt x = true) (c : x.f0 ≠ 2) : dp x = 0 := by
  by_cases c1 : x.f0 = 1
  · obtain ⟨a, b, e, ha, hb⟩ := rte_one (.inl h) c1
    rw [dp_eq, if_neg c, e, dpL, dpL, dpL, dp_end ha, dp_end hb]; rfl
  · rw [rt_eq, if_neg c1, if_neg c] at h
    by_cases c0 : x.f0 = 0
    · rw [if_pos c0] at h; exact dp_end h
    · rw [if_neg c0] at h; exact absurd h (by simp)
theorem dpL_zero : ∀ {l : List S27}, (∀ x, x ∈ l → dp x = 0) → dpL l = 0
  | [], _ => by rw [dpL]
  | x :: l, h => by rw [dpL, h x (by simp), dpL_zero (fun y hy => h y (List.mem_cons_of_mem _ hy))]; rfl
theorem rtL_of : ∀ {l : List S27}, (∀ x, x ∈ l → rt x = true) → rtL l = true
  | [], _ => by rw [rtL]
  | x :: l, h => by rw [rtL, h x (by simp), rtL_of (fun y hy => h y (List.mem_cons_of_mem _ hy))]; rfl
theorem flVL_leaf : ∀ {l : List S27}, (∀ x, x ∈ l → x.f0 ≠ 2) → flVL l = l
  | [], _ => by rw [flVL]
  | x :: l, h => by
    rw [flVL, flVL_leaf (fun y hy => h y (List.mem_cons_of_mem _ hy)), flV_eq, if_neg (h x (by simp))]; rfl
theorem fl_ne : ∀ (m : Nat) (n : S27), nd n ≤ m → rt n = true → flV n ≠ []
  | 0, n, h, _ => by have := nd_pos n; omega
  | m + 1, n, h, hr => by
    have hn := nd_eq n
    rw [flV_eq]
    by_cases c : n.f0 = 2
    · rw [if_pos c]
      rw [rt_eq, if_neg (by omega), if_neg (by omega), if_pos c] at hr
      simp only [Bool.and_eq_true, decide_eq_true_eq] at hr
      cases e : n.f4 with
      | nil => exact absurd e hr.2.1
      | cons x l =>
        have h2 := hr.2.2
        rw [e, rtL, Bool.and_eq_true] at h2
        have h3 : ndL n.f4 = nd x + ndL l := by rw [e, ndL]
        have h4 := fl_ne m x (by omega) h2.1
        rw [flVL]
        intro h5
        exact h4 (List.append_eq_nil_iff.1 h5).1
    · rw [if_neg c]; simp
theorem clV_ne {l : List S27} (hl : ∀ x, x ∈ l → saneV x = true) (h : l ≠ []) : clV l ≠ [] := by
  obtain ⟨x, t, rfl⟩ := List.exists_cons_of_ne_nil h
  intro e
  have := ((clV_is hl).2.2 x).2 (by simp)
  rw [e] at this; simp at this
theorem clV_id {l : List S27} (hl : ∀ x, x ∈ l → saneV x = true) (h : rise l) : clV l = l :=
  rise_only _ _ (clV_is hl).1 h (clV_is hl).2.2
theorem lN_sane {l : List S27} (hs : ∀ x, x ∈ l → saneV x = true) (hc : ∀ x, x ∈ l → x.f0 ≠ 2) (hn : ndL l + 1 ≤ 64) (h0 : l ≠ []) : saneV (lN l) = true := by
  have h1 : nd (lN l) = ndL l + 1 := nd_eq _
  have h2 : dp (lN l) = 1 := by
    rw [dp_eq, if_pos (show (lN _).f0 = 2 from rfl), show (lN l).f4 = l from rfl, dpL_zero (fun x hx => dp_leaf (sane_rt (hs x hx)).2.2 (hc x hx))]
  have h3 : rt (lN l) = true := by
    rw [rt_eq, if_neg (by show ¬ (2 : Int) = 0; decide), if_neg (by show ¬ (2 : Int) = 1; decide), if_pos (show (lN l).f0 = 2 from rfl), show (lN l).f4 = l from rfl, rtL_of (fun x hx => (sane_rt (hs x hx)).2.2), show bareV (lN l) = true from bare_e _ _, decide_eq_true h0]; rfl
  unfold saneV
  rw [h1, h2, h3, decide_eq_true hn]; rfl
theorem cn_leaf {n : S27} (hs : saneV n = true) (c : n.f0 ≠ 2) : cnV n = n := by unfold cnV; rw [if_pos hs, if_neg c]
theorem cn_list {n : S27} (hs : saneV n = true) (c : n.f0 = 2) : cnV n = oneV (clV (flV n)) := by unfold cnV; rw [if_pos hs, if_pos c]
theorem fl_lN (l : List S27) (h : ∀ x, x ∈ l → x.f0 ≠ 2) : flV (lN l) = l := by
  rw [flV_eq, if_pos (show (lN _).f0 = 2 from rfl)]; exact flVL_leaf h
structure CnF (n : S27) (L : List S27) : Prop where
  sane : ∀ x, x ∈ L → saneV x = true
  leaf : ∀ x, x ∈ L → x.f0 ≠ 2
  ris : rise L
  ne : L ≠ []
  small : ndL L ≤ nd n
  one : oneV L = cnV n
theorem oneV_one {l : List S27} {x : S27} : oneV [x] = x := by unfold oneV; rw [if_pos (show [x].length = 1 from rfl)]; rfl
theorem cn_F {n : S27} (hs : saneV n = true) : CnF n (clV (flV n)) := by
  obtain ⟨s1, s2, s3⟩ := sane_rt hs
  have hf := flV_saneV hs
  obtain ⟨c1, c2, c3⟩ := clV_is hf
  have hm : ∀ x, x ∈ clV (flV n) → saneV x = true ∧ x.f0 ≠ 2 := fun x hx => flV_sane _ n (Nat.le_refl _) hs x ((c3 x).1 hx)
  refine ⟨fun x hx => (hm x hx).1, fun x hx => (hm x hx).2, c1, clV_ne hf (fl_ne _ n (Nat.le_refl _) s3), ?_, ?_⟩
  · have h1 := ndL_cl (flV n)
    have h2 := (ndL_fl _ n (Nat.le_refl _)).1
    omega
  · by_cases c : n.f0 = 2
    · exact (cn_list hs c).symm
    · rw [cn_leaf hs c, flV_eq, if_neg c]
      show oneV (putV n []) = n
      rw [putV]; exact oneV_one (l := [])
theorem cn_cases {n : S27} (hs : saneV n = true) : (cnV n ∈ clV (flV n) ∧ clV (flV n) = [cnV n]) ∨ (2 ≤ (clV (flV n)).length ∧ cnV n = lN (clV (flV n))) := by
  have h := cn_F hs
  by_cases h1 : (clV (flV n)).length = 1
  · obtain ⟨x, e⟩ := List.length_eq_one_iff.1 h1
    have : cnV n = x := by rw [← h.one, e]; exact oneV_one (l := [])
    left; rw [e, this]; exact ⟨by simp, rfl⟩
  · right
    have h2 : (clV (flV n)).length ≠ 0 := fun e => h.ne (List.length_eq_zero_iff.1 e)
    refine ⟨by omega, ?_⟩
    rw [← h.one]; unfold oneV; rw [if_neg h1]; rfl
theorem cn_nd {n : S27} (hs : saneV n = true) : nd (cnV n) ≤ nd n := by
  have h := cn_F hs
  rcases cn_cases hs with ⟨h1, _⟩ | ⟨h1, h2⟩
  · have := ndL_mem h1
    have := h.small; omega
  · rw [h2, nd_eq]
    show ndL (clV (flV n)) + 1 ≤ nd n
    by_cases c : n.f0 = 2
    · have a := ndL_cl (flV n)
      have b := (ndL_fl _ n (Nat.le_refl _)).2 c
      omega
    · exfalso
      rw [cn_leaf hs c] at h2
      exact c (by rw [h2]; rfl)
theorem cn_sane {n : S27} (hs : saneV n = true) : saneV (cnV n) = true := by
  have h := cn_F hs
  have hn := cn_nd hs
  obtain ⟨s1, s2, s3⟩ := sane_rt hs
  rcases cn_cases hs with ⟨h1, _⟩ | ⟨h1, h2⟩
  · exact h.sane _ h1
  · rw [h2] at hn ⊢
    have : nd (lN (clV (flV n))) = ndL (clV (flV n)) + 1 := nd_eq _
    exact lN_sane h.sane h.leaf (by omega) h.ne
theorem fl_cn {n : S27} (hs : saneV n = true) : flV (cnV n) = clV (flV n) := by
  have h := cn_F hs
  rcases cn_cases hs with ⟨h1, h2⟩ | ⟨h1, h2⟩
  · rw [h2, flV_eq, if_neg (h.leaf _ h1)]
  · rw [h2, fl_lN _ h.leaf]
theorem cn_cn {n : S27} (hs : saneV n = true) : cnV (cnV n) = cnV n := by
  have h := cn_F hs
  have h2 := cn_F (cn_sane hs)
  rw [← h2.one, fl_cn hs, clV_id h.sane h.ris, h.one]
theorem bare_sizes {n : S27} (h : bareV n = true) : n.f1.f1.size = 0 ∧ n.f1.f2.size = 0 ∧ n.f1.f3.size = 0 := by
  unfold bareV at h
  simp only [Bool.and_eq_true] at h
  exact ⟨empty_size h.1.1.2.1, empty_size h.1.1.2.2.1, empty_size h.1.1.2.2.2⟩
theorem end_sizes {n : S27} (h : endV n = true) : n.f1.f1.size ≤ 4 ∧ n.f1.f2.size ≤ 4 ∧ n.f1.f3.size ≤ 4 := by
  obtain ⟨_, hk⟩ := end_kinds h
  rcases hk with ⟨_, hp⟩ | ⟨_, hb⟩ | ⟨_, hb⟩
  · have := pt_sizes hp; omega
  · have := bare_sizes hb; omega
  · have := bare_sizes hb; omega
theorem end_wf {n : S27} (h : endV n = true) : wfN n := by
  have := end_sizes h
  refine .mk _ (by omega) (by omega) (by omega) (by rw [(end_kinds h).1]; simp) (fun x hx => ?_)
  rw [(end_kinds h).1] at hx; cases hx
theorem rtL_mem' : ∀ {l : List S27}, rtL l = true → ∀ x, x ∈ l → rt x = true
  | [], _, x, hx => by cases hx
  | y :: l, h, x, hx => by
    rw [rtL, Bool.and_eq_true] at h
    rcases List.mem_cons.1 hx with rfl | hx
    · exact h.1
    · exact rtL_mem' h.2 x hx
theorem rt_wf : ∀ (M : Nat) (n : S27), nd n ≤ M → nd n ≤ 1000 → rt n = true → wfN n
  | 0, n, h, _, _ => by have := nd_pos n; omega
  | M + 1, n, h, hb, hr => by
    have e := nd_eq n
    have hl := len_nd n.f4
    rcases rt_kinds hr with ⟨he, _⟩ | ⟨_, hb', x, y, h4, hx, hy, _⟩ | ⟨_, hb', _, hrt, _⟩
    · exact end_wf he
    · have := bare_sizes hb'
      refine .mk _ (by omega) (by omega) (by omega) (by omega) (fun z hz => ?_)
      rw [h4] at hz
      simp only [List.mem_cons, List.not_mem_nil, or_false] at hz
      rcases hz with rfl | rfl
      · exact end_wf hx
      · exact end_wf hy
    · have := bare_sizes hb'
      refine .mk _ (by omega) (by omega) (by omega) (by omega) (fun z hz => ?_)
      have := ndL_mem hz
      exact rt_wf M z (by omega) (by omega) (rtL_mem' hrt z hz)
theorem sane_wf {n : S27} (h : saneV n = true) : wfN n := rt_wf _ n (Nat.le_refl _) (by have := sane_rt h; omega) (sane_rt h).2.2
theorem sane_nd {n : S27} (h : saneV n = true) : nd n ≤ 1048576 := by have := sane_rt h; omega
theorem Is_t (n : S27) (hn : wfN n) (hb : nd n ≤ 1048576) : Ev (fun k => canon_Is.f k n.f0 n.f1.f0 n.f1.f1 n.f1.f2 n.f1.f3 n.f2 n.f3 n.f4) (if saneV n = true then sm (cnV n) n else false) := by
  refine Ev.bind (tSane_f n hn (by omega)) (Ev.pick ?_ (Ev.now _))
  exact Ev.bind (Canon_t n hn hb) (Ev.bind (tSame_f _ (cnV n) n (Nat.le_refl _) (cn_wf hn hb)) (Ev.now _))
theorem text_t {n : S27} (h : saneV n = true) : Ev (fun k => pTx k n) (bA (tx n)) := by
  have := pTx_f n (sane_wf h) (sane_nd h)
  rwa [txV, if_pos h] at this
theorem same_t {n : S27} (h : saneV n = true) : Ev (fun k => tSame k n n) true := Ev.eq (tSame_f _ n n (Nat.le_refl _) (sane_wf h)) (sm_refl _ _ (Nat.le_refl _))
theorem wf_pz : wfN pz := wf_leaf _ _ _ _ (by decide) (by decide) (by decide)
theorem ParseFixed_t (s : ByteArray) : Ev (fun k => lustrumlaw13_ParseFixed.f k s) true := by
  refine Ev.bind awake13 ?_
  by_cases hs : (s.size : Int) > 600
  · exact Ev.ift hs (Ev.now _)
  refine Ev.iff_ hs ?_
  have hP := Parse_any s.data.toList
  rw [bA_mk, ← bsize] at hP
  rcases hP with ⟨n, hn, _, hP⟩ | ⟨a, e, he, ha, hb, hP⟩
  · have hc := cn_sane hn
    have hC := Canon_t n (sane_wf hn) (sane_nd hn)
    have hC2 := Canon_t (cnV n) (sane_wf hc) (sane_nd hc)
    rw [cn_cn hn] at hC2
    have hI := Is_t (cnV n) (sane_wf hc) (sane_nd hc)
    rw [if_pos hc, cn_cn hn, sm_refl _ _ (Nat.le_refl _)] at hI
    have hS := tSane_f n (sane_wf hn) (by have := sane_nd hn; omega)
    rw [hn] at hS
    refine Ev.bind hP (Ev.ift rfl (Ev.bind hC (Ev.bind (text_t hc) (Ev.bind (Parse_back _ hc) (Ev.bind (text_t hn) (Ev.bind (Parse_back _ hn) ?_))))))
    refine Ev.ift rfl (Ev.ift rfl (Ev.bind hS (Ev.ift rfl (Ev.ift rfl (Ev.bind (same_t hc) (Ev.ift rfl (Ev.bind hI (Ev.ift rfl ?_))))))))
    exact Ev.bind hC2 (Ev.bind (text_t hc) (Ev.ift rfl (Ev.ift rfl (Ev.bind (same_t hn) (Ev.now _)))))
  · refine Ev.bind hP (Ev.iff_ he (Ev.ift rfl ?_))
    have hS := tSame_f _ pz pz (Nat.le_refl _) wf_pz
    rw [sm_refl _ _ (Nat.le_refl _)] at hS
    exact Ev.bind hS (Ev.ift rfl (Ev.ift ha (Ev.eq (Ev.now _) (decide_eq_true hb))))
end Go.Proofs.YtjgjhekpiijniaaGreat.A