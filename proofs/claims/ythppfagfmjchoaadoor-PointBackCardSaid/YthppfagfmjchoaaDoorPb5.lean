/- Walks of functions, and plain facts about what they compute. No conditions. -/
import Derived.Test.YthppfagfmjchoaaDoorPb4
set_option linter.unusedVariables false
set_option linter.unusedSimpArgs false
namespace Go.Proofs.YthppfagfmjchoaaDoor.A
open Go.RowKit Go.Proofs.YthppfagfmjchoaaDoorW.PrintWords Go.Proofs.YthppfagfmjchoaaDoorW.PrintLast Go.Proofs.YthppfagfmjchoaaDoorW.PrintMore
attribute [local go_sem] max2_int min2_int max_two min_two max_three min_three max_four min_four
attribute [local go_sem] isSome_setCell
set_option maxHeartbeats 8000000 in
set_option maxRecDepth 100000 in
theorem point_Set.calls (k : Nat) (a0_0 : Int) (a0_1 a0_2 a0_3 : ByteArray) (r1 : List (S42)) (r2 : Int) (w : World) (htab : TL w.heap.size w) (h : point_Set.f k a0_0 a0_1 a0_2 a0_3 = some (r1, r2)) :
  Calls Tryd.prog 14 #[.agg #[.int .i64 a0_0, .string a0_1, .string a0_2, .string a0_3]] w fun e w' => ∃ v0_ : Value, e = .returned (.tuple #[v0_, .int .i64 r2]) ∧ Kd.V k42 42 w' w.heap.size (fun k_ => (w.heap.size ≤ k_)) v0_ r1 ∧ Below w.heap.size w w' := by
 have HTAB := A_ htab; clear htab; have hu23 := Tryd.underlying23; have HB := A_ (Below.refl w.heap.size w); have H : ((point_Sane.f k a0_0 a0_1 a0_2 a0_3).bind fun t153 => (if t153 = true then ((mask_Set.f a0_1).bind fun t154 => (if a0_0 = 0 then ((point_dated.f k a0_0 a0_1 a0_2 a0_3).bind fun t157 => ((point_known.f k a0_0 t157).bind fun bt160 => (some (bt160.1, bt160.2)))) else (if a0_0 = 1 then ((point_parts.f k a0_0 a0_1 a0_2 a0_3 12).bind fun t164 => ((point_known.f k a0_0 t164).bind fun bt167 => (some (bt167.1, bt167.2)))) else (if a0_0 = 2 then ((point_parts.f k a0_0 a0_1 a0_2 a0_3 4).bind fun t171 => ((point_known.f k a0_0 t171).bind fun bt174 => (some (bt174.1, bt174.2)))) else ((point_known.f k a0_0 t154).bind fun bt178 => (some (bt178.1, bt178.2))))))) else (some (([] : List (S42)), 2)))) = some (r1, r2) := h; clear h; obtain ⟨t153, A2, H⟩ := bi_ H
 by_cases c3 : t153 = true
 ·subst c3
  (have H1 : ((mask_Set.f a0_1).bind fun t154 => (if a0_0 = 0 then ((point_dated.f k a0_0 a0_1 a0_2 a0_3).bind fun t157 => ((point_known.f k a0_0 t157).bind fun bt160 => (some (bt160.1, bt160.2)))) else (if a0_0 = 1 then ((point_parts.f k a0_0 a0_1 a0_2 a0_3 12).bind fun t164 => ((point_known.f k a0_0 t164).bind fun bt167 => (some (bt167.1, bt167.2)))) else (if a0_0 = 2 then ((point_parts.f k a0_0 a0_1 a0_2 a0_3 4).bind fun t171 => ((point_known.f k a0_0 t171).bind fun bt174 => (some (bt174.1, bt174.2)))) else ((point_known.f k a0_0 t154).bind fun bt178 => (some (bt178.1, bt178.2))))))) = some (r1, r2) := by rw [if_pos rfl] at H; exact H); clear H; have H := H1; clear H1; obtain ⟨t154, A4, H⟩ := bi_ H
  by_cases c5 : a0_0 = 0
  ·rw [if_pos c5] at H
   have c5b0 : (a0_0 == 0) = true := beq_iff_eq.mpr c5; have c5b1 : (a0_0 != 0) = false := bne_eq_false_iff_eq.mpr c5; clear c5; obtain ⟨t157, A6, H⟩ := bi_ H; obtain ⟨⟨t160, t163⟩, A7, H⟩ := bi_ H; simp only [Option.some.injEq, Prod.mk.injEq] at H; obtain ⟨rfl, rfl⟩ := H; go_enter Tryd.func14, Tryd.ntmps14; go_wp2_with (first | ((with_reducible refine gD 1 ?_); refine gx_ w 1 (n4_ a0_0 a0_1 a0_2 a0_3) 23 ?_; clear HB; intro gb152 w8 BK152 GE152 HB; have GW152 := GE152; have Z9 := bz4_ BK152) | ((with_reducible refine gC 10 ?_); refine goesL_ (some 6) rfl rfl Tryd.func10 (by kernel_rfl) rfl #[.agg #[.int .i64 a0_0, .string a0_1, .string a0_2, .string a0_3]] rfl ml_ ?_; (with_reducible refine (point_Sane.calls k a0_0 a0_1 a0_2 a0_3 true _ A2.out).mono ?_); rintro e w10 ⟨rfl, hb⟩; refine ⟨_, rfl, ?_⟩; replace BK152 := bb_ BK152 hb; replace HB := bs_ hb; (try clear hb); have Z11 := bz4_ BK152) | ((with_reducible refine gC 30 ?_); refine goesL_ (some 10) rfl rfl Tryd.func30 (by kernel_rfl) rfl #[.string a0_1] rfl ml_ ?_; (with_reducible refine (mask_Set.calls a0_1 t154 _ A4.out).mono ?_); rintro e w12 ⟨v155, rfl, ho0, hb⟩; refine ⟨_, rfl, ?_⟩; have HO156 := A_ (Kd.R_lower (Kd.R_newM (M := fun k_ => (w.heap.size ≤ k_)) ho0 (below_size hs_) (fun k_ h_ => h_)) (below_size hs_)); replace BK152 := bb_ BK152 hb; replace HB := bs_ hb; (try clear hb); (try clear ho0); have Z13 := bz4_ BK152) | ((with_reducible refine gC 31 ?_); refine goesL_ (some 16) rfl rfl Tryd.func31 (by kernel_rfl) rfl #[.agg #[.int .i64 a0_0, .string a0_1, .string a0_2, .string a0_3]] rfl ml_ ?_; (with_reducible refine (point_dated.calls k a0_0 a0_1 a0_2 a0_3 t157 _ tl_ A6.out).mono ?_); rintro e w14 ⟨v158, rfl, ho0, hb⟩; refine ⟨_, rfl, ?_⟩; have HO159 := A_ (Kd.R_lower (Kd.R_new' (Kd.R_newM (M := fun k_ => (w.heap.size ≤ k_)) ho0 (below_size hs_) (fun k_ h_ => h_)) (Kd.R_lt (fxR_ HO156.out))) (below_size hs_)); replace HO156 := A_ (Kd.R_elder' (fxR_ HO156.out) (Kd.R_base ho0) hb); replace BK152 := bb_ BK152 hb; replace HB := bs_ hb; (try clear hb); (try clear ho0); have Z15 := bz4_ BK152; obtain ⟨Ao16, co16, eo16⟩ := Kd.R_slice HO159.out; subst eo16) | ((with_reducible refine gC 33 ?_); refine goesL_ (some 28) rfl rfl Tryd.func33 (by kernel_rfl) rfl #[.int .i64 a0_0, .slice Ao16 t157.length co16] rfl ml_ ?_; (with_reducible refine (point_known.calls k a0_0 (fun k_ => some k_ = (.slice Ao16 t157.length co16 : Value).ownBlock) _ _ t157 t160 t163 _ tl_ ?side1 A7.out).mono ?_); (case side1 => exact Kd.R_V (Kd.R_tight rfl (Kd.R_types (HO159.out) BK152.out (by decide)))); rintro e w17 ⟨v161, rfl, ho0, hb⟩; refine ⟨_, rfl, ?_⟩; have HO162 := A_ (Kd.V_lower (Kd.V_mono (ok' := fun k_ => (w.heap.size ≤ k_) ∧ nv_ k_ v155 ∧ k_ ≠ gb152) ho0 (fun k_ hk_ => ⟨Or.elim hk_ (fun hs_ => ((Kd.R_types (HO159.out) BK152.out (by decide)).1 k_ hs_.symm).1.1.1) (fun hn_ => (Nat.le_trans (below_size hs_) hn_)), Or.elim hk_ (fun hs_ => ((Kd.R_types (HO159.out) BK152.out (by decide)).1 k_ hs_.symm).1.2) (fun hn_ => (Kd.fresh' (Kd.R_lt (fxR_ HO156.out)) k_ hn_)), Or.elim hk_ (fun hs_ => ((Kd.R_types (HO159.out) BK152.out (by decide)).1 k_ hs_.symm).2) (fb_ BK152 k_)⟩)) (below_size hs_)); replace HO156 := A_ (Kd.R_below (fxR_ HO156.out) hb); replace HO159 := A_ (Kd.R_below (fxR_ HO159.out) hb); replace BK152 := bb_ BK152 hb; replace HB := bs_ hb; (try clear hb); (try clear ho0)))
   go_ret2; exact ⟨_, by first | rfl | (simp [errW_none, errW_some] <;> rfl) | (simp [*, errW_none, errW_some] <;> rfl), by (with_reducible repeat (first | apply Kd.V_alloc | apply Kd.V_drewN | apply Kd.V_drew)); exact Kd.V_mono HO162.out (fun _ hk => hk.1), hs_⟩
  ·rw [if_neg c5] at H
   have c5b0 : (a0_0 == 0) = false := beq_eq_false_iff_ne.mpr c5; have c5b1 : (a0_0 != 0) = true := bne_iff_ne.mpr c5
   by_cases c18 : a0_0 = 1
   ·rw [if_pos c18] at H
    have c18b0 : (a0_0 == 1) = true := beq_iff_eq.mpr c18; have c18b1 : (a0_0 != 1) = false := bne_eq_false_iff_eq.mpr c18; clear c18; obtain ⟨t164, A19, H⟩ := bi_ H; obtain ⟨⟨t167, t170⟩, A20, H⟩ := bi_ H; simp only [Option.some.injEq, Prod.mk.injEq] at H; obtain ⟨rfl, rfl⟩ := H; go_enter Tryd.func14, Tryd.ntmps14; go_wp2_with (first | ((with_reducible refine gD 1 ?_); refine gx_ w 1 (n4_ a0_0 a0_1 a0_2 a0_3) 23 ?_; clear HB; intro gb152 w21 BK152 GE152 HB; have GW152 := GE152; have Z22 := bz4_ BK152) | ((with_reducible refine gC 10 ?_); refine goesL_ (some 6) rfl rfl Tryd.func10 (by kernel_rfl) rfl #[.agg #[.int .i64 a0_0, .string a0_1, .string a0_2, .string a0_3]] rfl ml_ ?_; (with_reducible refine (point_Sane.calls k a0_0 a0_1 a0_2 a0_3 true _ A2.out).mono ?_); rintro e w23 ⟨rfl, hb⟩; refine ⟨_, rfl, ?_⟩; replace BK152 := bb_ BK152 hb; replace HB := bs_ hb; (try clear hb); have Z24 := bz4_ BK152) | ((with_reducible refine gC 30 ?_); refine goesL_ (some 10) rfl rfl Tryd.func30 (by kernel_rfl) rfl #[.string a0_1] rfl ml_ ?_; (with_reducible refine (mask_Set.calls a0_1 t154 _ A4.out).mono ?_); rintro e w25 ⟨v155, rfl, ho0, hb⟩; refine ⟨_, rfl, ?_⟩; have HO156 := A_ (Kd.R_lower (Kd.R_newM (M := fun k_ => (w.heap.size ≤ k_)) ho0 (below_size hs_) (fun k_ h_ => h_)) (below_size hs_)); replace BK152 := bb_ BK152 hb; replace HB := bs_ hb; (try clear hb); (try clear ho0); have Z26 := bz4_ BK152) | ((with_reducible refine gC 32 ?_); refine goesL_ (some 20) rfl rfl Tryd.func32 (by kernel_rfl) rfl #[.agg #[.int .i64 a0_0, .string a0_1, .string a0_2, .string a0_3], .int .i64 12] rfl ml_ ?_; (with_reducible refine (point_parts.calls k a0_0 a0_1 a0_2 a0_3 12 t164 _ A19.out).mono ?_); rintro e w27 ⟨v165, rfl, ho0, hb⟩; refine ⟨_, rfl, ?_⟩; have HO166 := A_ (Kd.R_lower (Kd.R_new' (Kd.R_newM (M := fun k_ => (w.heap.size ≤ k_)) ho0 (below_size hs_) (fun k_ h_ => h_)) (Kd.R_lt (fxR_ HO156.out))) (below_size hs_)); replace HO156 := A_ (Kd.R_elder' (fxR_ HO156.out) (Kd.R_base ho0) hb); replace BK152 := bb_ BK152 hb; replace HB := bs_ hb; (try clear hb); (try clear ho0); have Z28 := bz4_ BK152; obtain ⟨Ao29, co29, eo29⟩ := Kd.R_slice HO166.out; subst eo29) | ((with_reducible refine gC 33 ?_); refine goesL_ (some 28) rfl rfl Tryd.func33 (by kernel_rfl) rfl #[.int .i64 a0_0, .slice Ao29 t164.length co29] rfl ml_ ?_; (with_reducible refine (point_known.calls k a0_0 (fun k_ => some k_ = (.slice Ao29 t164.length co29 : Value).ownBlock) _ _ t164 t167 t170 _ tl_ ?side1 A20.out).mono ?_); (case side1 => exact Kd.R_V (Kd.R_tight rfl (Kd.R_types (HO166.out) BK152.out (by decide)))); rintro e w30 ⟨v168, rfl, ho0, hb⟩; refine ⟨_, rfl, ?_⟩; have HO169 := A_ (Kd.V_lower (Kd.V_mono (ok' := fun k_ => (w.heap.size ≤ k_) ∧ nv_ k_ v155 ∧ k_ ≠ gb152) ho0 (fun k_ hk_ => ⟨Or.elim hk_ (fun hs_ => ((Kd.R_types (HO166.out) BK152.out (by decide)).1 k_ hs_.symm).1.1.1) (fun hn_ => (Nat.le_trans (below_size hs_) hn_)), Or.elim hk_ (fun hs_ => ((Kd.R_types (HO166.out) BK152.out (by decide)).1 k_ hs_.symm).1.2) (fun hn_ => (Kd.fresh' (Kd.R_lt (fxR_ HO156.out)) k_ hn_)), Or.elim hk_ (fun hs_ => ((Kd.R_types (HO166.out) BK152.out (by decide)).1 k_ hs_.symm).2) (fb_ BK152 k_)⟩)) (below_size hs_)); replace HO156 := A_ (Kd.R_below (fxR_ HO156.out) hb); replace HO166 := A_ (Kd.R_below (fxR_ HO166.out) hb); replace BK152 := bb_ BK152 hb; replace HB := bs_ hb; (try clear hb); (try clear ho0)))
    go_ret2; exact ⟨_, by first | rfl | (simp [errW_none, errW_some] <;> rfl) | (simp [*, errW_none, errW_some] <;> rfl), by (with_reducible repeat (first | apply Kd.V_alloc | apply Kd.V_drewN | apply Kd.V_drew)); exact Kd.V_mono HO169.out (fun _ hk => hk.1), hs_⟩
   ·rw [if_neg c18] at H
    have c18b0 : (a0_0 == 1) = false := beq_eq_false_iff_ne.mpr c18; have c18b1 : (a0_0 != 1) = true := bne_iff_ne.mpr c18
    by_cases c31 : a0_0 = 2
    ·rw [if_pos c31] at H
     have c31b0 : (a0_0 == 2) = true := beq_iff_eq.mpr c31; have c31b1 : (a0_0 != 2) = false := bne_eq_false_iff_eq.mpr c31; clear c31; obtain ⟨t171, A32, H⟩ := bi_ H; obtain ⟨⟨t174, t177⟩, A33, H⟩ := bi_ H; simp only [Option.some.injEq, Prod.mk.injEq] at H; obtain ⟨rfl, rfl⟩ := H; go_enter Tryd.func14, Tryd.ntmps14; go_wp2_with (first | ((with_reducible refine gD 1 ?_); refine gx_ w 1 (n4_ a0_0 a0_1 a0_2 a0_3) 23 ?_; clear HB; intro gb152 w34 BK152 GE152 HB; have GW152 := GE152; have Z35 := bz4_ BK152) | ((with_reducible refine gC 10 ?_); refine goesL_ (some 6) rfl rfl Tryd.func10 (by kernel_rfl) rfl #[.agg #[.int .i64 a0_0, .string a0_1, .string a0_2, .string a0_3]] rfl ml_ ?_; (with_reducible refine (point_Sane.calls k a0_0 a0_1 a0_2 a0_3 true _ A2.out).mono ?_); rintro e w36 ⟨rfl, hb⟩; refine ⟨_, rfl, ?_⟩; replace BK152 := bb_ BK152 hb; replace HB := bs_ hb; (try clear hb); have Z37 := bz4_ BK152) | ((with_reducible refine gC 30 ?_); refine goesL_ (some 10) rfl rfl Tryd.func30 (by kernel_rfl) rfl #[.string a0_1] rfl ml_ ?_; (with_reducible refine (mask_Set.calls a0_1 t154 _ A4.out).mono ?_); rintro e w38 ⟨v155, rfl, ho0, hb⟩; refine ⟨_, rfl, ?_⟩; have HO156 := A_ (Kd.R_lower (Kd.R_newM (M := fun k_ => (w.heap.size ≤ k_)) ho0 (below_size hs_) (fun k_ h_ => h_)) (below_size hs_)); replace BK152 := bb_ BK152 hb; replace HB := bs_ hb; (try clear hb); (try clear ho0); have Z39 := bz4_ BK152) | ((with_reducible refine gC 32 ?_); refine goesL_ (some 24) rfl rfl Tryd.func32 (by kernel_rfl) rfl #[.agg #[.int .i64 a0_0, .string a0_1, .string a0_2, .string a0_3], .int .i64 4] rfl ml_ ?_; (with_reducible refine (point_parts.calls k a0_0 a0_1 a0_2 a0_3 4 t171 _ A32.out).mono ?_); rintro e w40 ⟨v172, rfl, ho0, hb⟩; refine ⟨_, rfl, ?_⟩; have HO173 := A_ (Kd.R_lower (Kd.R_new' (Kd.R_newM (M := fun k_ => (w.heap.size ≤ k_)) ho0 (below_size hs_) (fun k_ h_ => h_)) (Kd.R_lt (fxR_ HO156.out))) (below_size hs_)); replace HO156 := A_ (Kd.R_elder' (fxR_ HO156.out) (Kd.R_base ho0) hb); replace BK152 := bb_ BK152 hb; replace HB := bs_ hb; (try clear hb); (try clear ho0); have Z41 := bz4_ BK152; obtain ⟨Ao42, co42, eo42⟩ := Kd.R_slice HO173.out; subst eo42) | ((with_reducible refine gC 33 ?_); refine goesL_ (some 28) rfl rfl Tryd.func33 (by kernel_rfl) rfl #[.int .i64 a0_0, .slice Ao42 t171.length co42] rfl ml_ ?_; (with_reducible refine (point_known.calls k a0_0 (fun k_ => some k_ = (.slice Ao42 t171.length co42 : Value).ownBlock) _ _ t171 t174 t177 _ tl_ ?side1 A33.out).mono ?_); (case side1 => exact Kd.R_V (Kd.R_tight rfl (Kd.R_types (HO173.out) BK152.out (by decide)))); rintro e w43 ⟨v175, rfl, ho0, hb⟩; refine ⟨_, rfl, ?_⟩; have HO176 := A_ (Kd.V_lower (Kd.V_mono (ok' := fun k_ => (w.heap.size ≤ k_) ∧ nv_ k_ v155 ∧ k_ ≠ gb152) ho0 (fun k_ hk_ => ⟨Or.elim hk_ (fun hs_ => ((Kd.R_types (HO173.out) BK152.out (by decide)).1 k_ hs_.symm).1.1.1) (fun hn_ => (Nat.le_trans (below_size hs_) hn_)), Or.elim hk_ (fun hs_ => ((Kd.R_types (HO173.out) BK152.out (by decide)).1 k_ hs_.symm).1.2) (fun hn_ => (Kd.fresh' (Kd.R_lt (fxR_ HO156.out)) k_ hn_)), Or.elim hk_ (fun hs_ => ((Kd.R_types (HO173.out) BK152.out (by decide)).1 k_ hs_.symm).2) (fb_ BK152 k_)⟩)) (below_size hs_)); replace HO156 := A_ (Kd.R_below (fxR_ HO156.out) hb); replace HO173 := A_ (Kd.R_below (fxR_ HO173.out) hb); replace BK152 := bb_ BK152 hb; replace HB := bs_ hb; (try clear hb); (try clear ho0)))
     go_ret2; exact ⟨_, by first | rfl | (simp [errW_none, errW_some] <;> rfl) | (simp [*, errW_none, errW_some] <;> rfl), by (with_reducible repeat (first | apply Kd.V_alloc | apply Kd.V_drewN | apply Kd.V_drew)); exact Kd.V_mono HO176.out (fun _ hk => hk.1), hs_⟩
    ·rw [if_neg c31] at H
     have c31b0 : (a0_0 == 2) = false := beq_eq_false_iff_ne.mpr c31; have c31b1 : (a0_0 != 2) = true := bne_iff_ne.mpr c31; obtain ⟨⟨t178, t181⟩, A44, H⟩ := bi_ H; simp only [Option.some.injEq, Prod.mk.injEq] at H; obtain ⟨rfl, rfl⟩ := H; go_enter Tryd.func14, Tryd.ntmps14; go_wp2_with (first | ((with_reducible refine gD 1 ?_); refine gx_ w 1 (n4_ a0_0 a0_1 a0_2 a0_3) 23 ?_; clear HB; intro gb152 w45 BK152 GE152 HB; have GW152 := GE152; have Z46 := bz4_ BK152) | ((with_reducible refine gC 10 ?_); refine goesL_ (some 6) rfl rfl Tryd.func10 (by kernel_rfl) rfl #[.agg #[.int .i64 a0_0, .string a0_1, .string a0_2, .string a0_3]] rfl ml_ ?_; (with_reducible refine (point_Sane.calls k a0_0 a0_1 a0_2 a0_3 true _ A2.out).mono ?_); rintro e w47 ⟨rfl, hb⟩; refine ⟨_, rfl, ?_⟩; replace BK152 := bb_ BK152 hb; replace HB := bs_ hb; (try clear hb); have Z48 := bz4_ BK152) | ((with_reducible refine gC 30 ?_); refine goesL_ (some 10) rfl rfl Tryd.func30 (by kernel_rfl) rfl #[.string a0_1] rfl ml_ ?_; (with_reducible refine (mask_Set.calls a0_1 t154 _ A4.out).mono ?_); rintro e w49 ⟨v155, rfl, ho0, hb⟩; refine ⟨_, rfl, ?_⟩; have HO156 := A_ (Kd.R_lower (Kd.R_newM (M := fun k_ => (w.heap.size ≤ k_)) ho0 (below_size hs_) (fun k_ h_ => h_)) (below_size hs_)); replace BK152 := bb_ BK152 hb; replace HB := bs_ hb; (try clear hb); (try clear ho0); have Z50 := bz4_ BK152; obtain ⟨Ao51, co51, eo51⟩ := Kd.R_slice HO156.out; subst eo51) | ((with_reducible refine gC 33 ?_); refine goesL_ (some 28) rfl rfl Tryd.func33 (by kernel_rfl) rfl #[.int .i64 a0_0, .slice Ao51 t154.length co51] rfl ml_ ?_; (with_reducible refine (point_known.calls k a0_0 (fun k_ => some k_ = (.slice Ao51 t154.length co51 : Value).ownBlock) _ _ t154 t178 t181 _ tl_ ?side1 A44.out).mono ?_); (case side1 => exact Kd.R_V (Kd.R_tight rfl (Kd.R_types (HO156.out) BK152.out (by decide)))); rintro e w52 ⟨v179, rfl, ho0, hb⟩; refine ⟨_, rfl, ?_⟩; have HO180 := A_ (Kd.V_lower (Kd.V_mono (ok' := fun k_ => (w.heap.size ≤ k_) ∧ k_ ≠ gb152) ho0 (fun k_ hk_ => ⟨Or.elim hk_ (fun hs_ => ((Kd.R_types (HO156.out) BK152.out (by decide)).1 k_ hs_.symm).1.1) (fun hn_ => (Nat.le_trans (below_size hs_) hn_)), Or.elim hk_ (fun hs_ => ((Kd.R_types (HO156.out) BK152.out (by decide)).1 k_ hs_.symm).2) (fb_ BK152 k_)⟩)) (below_size hs_)); replace HO156 := A_ (Kd.R_below (fxR_ HO156.out) hb); replace BK152 := bb_ BK152 hb; replace HB := bs_ hb; (try clear hb); (try clear ho0)))
     go_ret2; exact ⟨_, by first | rfl | (simp [errW_none, errW_some] <;> rfl) | (simp [*, errW_none, errW_some] <;> rfl), by (with_reducible repeat (first | apply Kd.V_alloc | apply Kd.V_drewN | apply Kd.V_drew)); exact Kd.V_mono HO180.out (fun _ hk => hk.1), hs_⟩
 ·replace c3 := Bool.eq_false_iff.mpr c3
  subst c3; (have H1 : (some (([] : List (S42)), 2)) = some (r1, r2) := by rw [if_neg (show ¬ (false = true) by decide)] at H; exact H); clear H; have H := H1; clear H1; simp only [Option.some.injEq, Prod.mk.injEq] at H; obtain ⟨rfl, rfl⟩ := H; go_enter Tryd.func14, Tryd.ntmps14; go_wp2_with (first | ((with_reducible refine gD 1 ?_); refine gx_ w 1 (n4_ a0_0 a0_1 a0_2 a0_3) 23 ?_; clear HB; intro gb152 w53 BK152 GE152 HB; have GW152 := GE152; have Z54 := bz4_ BK152) | ((with_reducible refine gC 10 ?_); refine goesL_ (some 6) rfl rfl Tryd.func10 (by kernel_rfl) rfl #[.agg #[.int .i64 a0_0, .string a0_1, .string a0_2, .string a0_3]] rfl ml_ ?_; (with_reducible refine (point_Sane.calls k a0_0 a0_1 a0_2 a0_3 false _ A2.out).mono ?_); rintro e w55 ⟨rfl, hb⟩; refine ⟨_, rfl, ?_⟩; replace BK152 := bb_ BK152 hb; replace HB := bs_ hb; (try clear hb))); go_ret2; exact ⟨_, by first | rfl | (simp [errW_none, errW_some] <;> rfl) | (simp [*, errW_none, errW_some] <;> rfl), Kd.V_nil _ _ _ _ _, hs_⟩
set_option maxHeartbeats 8000000 in
set_option maxRecDepth 100000 in
theorem point_Radius.calls (a0 r : Int) (w : World) (h : point_Radius.f a0 = some r) :
  Calls Tryd.prog 22 #[.int .i64 a0] w fun e w' => e = .returned (.int .i64 r) ∧ Drawn0 w w' := by
 have H : (if a0 = 0 then (some 3) else (if a0 = 3 then (some 2) else (if a0 < 0 then (some 0) else (if a0 > 5 then (some 0) else (some 1))))) = some r := h; clear h
 by_cases c2 : a0 = 0
 ·rw [if_pos c2] at H
  have c2b0 : (a0 == 0) = true := beq_iff_eq.mpr c2; have c2b1 : (a0 != 0) = false := bne_eq_false_iff_eq.mpr c2; clear c2; obtain rfl := Option.some.inj H; go_enter Tryd.func22, Tryd.ntmps22; go_wp2; go_ret; exact ⟨by first | rfl | (simp; done) | (simp [*]; done), by repeat (first | exact Drawn0.refl _ | apply Drawn0.step)⟩
 ·rw [if_neg c2] at H
  have c2b0 : (a0 == 0) = false := beq_eq_false_iff_ne.mpr c2; have c2b1 : (a0 != 0) = true := bne_iff_ne.mpr c2
  by_cases c3 : a0 = 3
  ·rw [if_pos c3] at H
   have c3b0 : (a0 == 3) = true := beq_iff_eq.mpr c3; have c3b1 : (a0 != 3) = false := bne_eq_false_iff_eq.mpr c3; clear c3; obtain rfl := Option.some.inj H; go_enter Tryd.func22, Tryd.ntmps22; go_wp2; go_ret; exact ⟨by first | rfl | (simp; done) | (simp [*]; done), by repeat (first | exact Drawn0.refl _ | apply Drawn0.step)⟩
  ·rw [if_neg c3] at H
   have c3b0 : (a0 == 3) = false := beq_eq_false_iff_ne.mpr c3; have c3b1 : (a0 != 3) = true := bne_iff_ne.mpr c3
   by_cases c4 : a0 < 0
   ·rw [if_pos c4] at H
    have c4b0 := decide_eq_true c4; clear c4; obtain rfl := Option.some.inj H; go_enter Tryd.func22, Tryd.ntmps22; go_wp2; go_ret; exact ⟨by first | rfl | (simp; done) | (simp [*]; done), by repeat (first | exact Drawn0.refl _ | apply Drawn0.step)⟩
   ·rw [if_neg c4] at H
    have c4b0 := decide_eq_false c4; clear c4
    by_cases c5 : a0 > 5
    ·rw [if_pos c5] at H
     have c5b0 := decide_eq_true c5; clear c5; obtain rfl := Option.some.inj H; go_enter Tryd.func22, Tryd.ntmps22; go_wp2; go_ret; exact ⟨by first | rfl | (simp; done) | (simp [*]; done), by repeat (first | exact Drawn0.refl _ | apply Drawn0.step)⟩
    ·rw [if_neg c5] at H
     have c5b0 := decide_eq_false c5; clear c5; obtain rfl := Option.some.inj H; go_enter Tryd.func22, Tryd.ntmps22; go_wp2; go_ret; exact ⟨by first | rfl | (simp; done) | (simp [*]; done), by repeat (first | exact Drawn0.refl _ | apply Drawn0.step)⟩
set_option maxHeartbeats 8000000 in
set_option maxRecDepth 100000 in
theorem lustrumlaw08_awake.calls (k : Nat)  (r : Bool) (w : World) (htab : TL w.heap.size w) (h : lustrumlaw08_awake.f k  = some r) :
  Calls Tryd.prog 7 #[] w fun e w' => e = .returned (.bool r) ∧ Below w.heap.size w w' := by
 have HTAB := A_ htab; clear htab; have hu23 := Tryd.underlying23; have HB := A_ (Below.refl w.heap.size w); have H : ((point_Read.f k (⟨#[49, 57, 56, 52, 115, 52]⟩ : ByteArray)).bind fun bt135 => ((point_Set.f k bt135.1 bt135.2.1 bt135.2.2.1 bt135.2.2.2.1).bind fun bt141 => ((point_Set.f k 3 (⟨#[88, 88, 88, 88]⟩ : ByteArray) (⟨#[]⟩ : ByteArray) (⟨#[]⟩ : ByteArray)).bind fun bt145 => (if bt135.2.2.2.2 = true then (if bt135.1 = 2 then (if bt135.2.1.toList = ([49, 57, 56, 52] : List UInt8) then (if bt135.2.2.1.toList = ([52] : List UInt8) then (if bt141.2 = 0 then (if (bt141.1.length : Int) = 1 then (if 0 < (bt141.1.length : Int) then (if ((rd_T42 bt141.1 0).f0) = 7939 then (if bt145.2 = 8 then ((point_Text.f k bt135.1 bt135.2.1 bt135.2.2.1 bt135.2.2.2.1).bind fun t150 => (if t150.toList = ([49, 57, 56, 52, 115, 52] : List UInt8) then ((point_Radius.f 0).bind fun t151 => (some (t151 == 3))) else (some false))) else (some false)) else (some false)) else (none)) else (some false)) else (some false)) else (some false)) else (some false)) else (some false)) else (some false))))) = some r := h; clear h; obtain ⟨⟨t135, t136, t137, t138, t139⟩, A1, H⟩ := bi_ H; obtain ⟨⟨t141, t144⟩, A2, H⟩ := bi_ H; obtain ⟨⟨t145, t148⟩, A3, H⟩ := bi_ H
 by_cases c4 : t139 = true
 ·subst c4
  replace H := iP_ H
  by_cases c5 : t135 = 2
  ·rw [if_pos c5] at H
   have c5b0 : (t135 == 2) = true := beq_iff_eq.mpr c5; have c5b1 : (t135 != 2) = false := bne_eq_false_iff_eq.mpr c5; clear c5
   by_cases c6 : t136.toList = ([49, 57, 56, 52] : List UInt8)
   ·rw [if_pos c6] at H
    have c6b0 : (t136.toList == ([49, 57, 56, 52] : List UInt8)) = true := beq_iff_eq.mpr c6; have c6b1 : (t136.toList != ([49, 57, 56, 52] : List UInt8)) = false := bne_eq_false_iff_eq.mpr c6; clear c6
    by_cases c7 : t137.toList = ([52] : List UInt8)
    ·rw [if_pos c7] at H
     have c7b0 : (t137.toList == ([52] : List UInt8)) = true := beq_iff_eq.mpr c7; have c7b1 : (t137.toList != ([52] : List UInt8)) = false := bne_eq_false_iff_eq.mpr c7; clear c7
     by_cases c8 : t144 = 0
     ·rw [if_pos c8] at H
      have c8b0 : (t144 == 0) = true := beq_iff_eq.mpr c8; have c8b1 : (t144 != 0) = false := bne_eq_false_iff_eq.mpr c8; clear c8
      by_cases c9 : (t141.length : Int) = 1
      ·rw [if_pos c9] at H
       have c9b0 : ((t141.length : Int) == 1) = true := beq_iff_eq.mpr c9; have c9b1 : ((t141.length : Int) != 1) = false := bne_eq_false_iff_eq.mpr c9; clear c9
       by_cases c10 : 0 < (t141.length : Int)
       ·rw [if_pos c10] at H
        have c10b0 := decide_eq_true c10; have c10b1 : decide (0 < t141.length) = true := decide_eq_true (by omega); clear c10
        by_cases c11 : ((rd_T42 t141 0).f0) = 7939
        ·rw [if_pos c11] at H
         have c11b0 : (((rd_T42 t141 0).f0) == 7939) = true := beq_iff_eq.mpr c11; have c11b1 : (((rd_T42 t141 0).f0) != 7939) = false := bne_eq_false_iff_eq.mpr c11; clear c11
         by_cases c12 : t148 = 8
         ·rw [if_pos c12] at H
          have c12b0 : (t148 == 8) = true := beq_iff_eq.mpr c12; have c12b1 : (t148 != 8) = false := bne_eq_false_iff_eq.mpr c12; clear c12; obtain ⟨t150, A13, H⟩ := bi_ H
          by_cases c14 : t150.toList = ([49, 57, 56, 52, 115, 52] : List UInt8)
          ·rw [if_pos c14] at H
           have c14b0 : (t150.toList == ([49, 57, 56, 52, 115, 52] : List UInt8)) = true := beq_iff_eq.mpr c14; have c14b1 : (t150.toList != ([49, 57, 56, 52, 115, 52] : List UInt8)) = false := bne_eq_false_iff_eq.mpr c14; clear c14; obtain ⟨t151, A15, H⟩ := bi_ H; obtain rfl := Option.some.inj H; go_enter Tryd.func7, Tryd.ntmps7; go_wp2_with (first | ((with_reducible refine gC 11 ?_); refine goesL_ (some 8) rfl rfl Tryd.func11 (by kernel_rfl) rfl #[.string ⟨#[49, 57, 56, 52, 115, 52]⟩] rfl ml_ ?_; (with_reducible refine (point_Read.calls k (⟨#[49, 57, 56, 52, 115, 52]⟩ : ByteArray) t135 t136 t137 t138 true _ A1.out).mono ?_); rintro e w16 ⟨rfl, hb⟩; refine ⟨_, rfl, ?_⟩; replace HB := bs_ hb; (try clear hb)) | ((with_reducible refine gD 1 ?_); (try (refine gate_guard (by rfl) ?_; dsimp only)); refine bxe_ 1 z4_ 23 ?_; intro gb140 hg w17 hbox hb; have BK140 := A_ (hbox); have GW140 := gs_ w hg; have GE140 := gs_ w hg; replace HB := bs_ hb; clear hb hbox hg; have Z18 := bz4_ BK140) | ((with_reducible refine gC 14 ?_); refine goesL_ (some 13) rfl rfl Tryd.func14 (by kernel_rfl) rfl #[.agg #[.int .i64 t135, .string t136, .string t137, .string t138]] rfl ml_ ?_; (with_reducible refine (point_Set.calls k t135 t136 t137 t138 t141 t144 _ tl_ A2.out).mono ?_); rintro e w19 ⟨v142, rfl, ho0, hb⟩; refine ⟨_, rfl, ?_⟩; have HO143 := A_ (Kd.V_lower (Kd.V_mono (ok' := fun k_ => k_ ≠ gb140) ho0 (fun k_ hk_ => (fb_ BK140 k_ hk_))) (below_size hs_)); replace BK140 := bp_ BK140 (.cells (n4_ t135 t136 t137 t138) 23 (0, 0)) hb; replace HB := bs_ hb; (try clear hb); (try clear ho0)) | ((with_reducible refine gC 14 ?_); refine goesL_ (some 18) rfl rfl Tryd.func14 (by kernel_rfl) rfl #[.agg #[.int .i64 3, .string ⟨#[88, 88, 88, 88]⟩, .string ⟨#[]⟩, .string ⟨#[]⟩]] rfl ml_ ?_; (with_reducible refine (point_Set.calls k 3 (⟨#[88, 88, 88, 88]⟩ : ByteArray) (⟨#[]⟩ : ByteArray) (⟨#[]⟩ : ByteArray) t145 t148 _ tl_ A3.out).mono ?_); rintro e w20 ⟨v146, rfl, ho0, hb⟩; refine ⟨_, rfl, ?_⟩; replace HO143 := bV_ HO143 hb; have HO147 := A_ (Kd.V_lower (Kd.V_mono (ok' := fun k_ => k_ ≠ gb140) ho0 (fun k_ hk_ => (fb_ BK140 k_ hk_))) (below_size hs_)); replace BK140 := bb_ BK140 hb; replace HB := bs_ hb; (try clear hb); (try clear ho0); have Z21 := bz4_ BK140; obtain ⟨Ao22, co22, eo22⟩ := Kd.V_slice HO143.out; subst eo22; have p149 : 0 ≤ (0 : Int) := (by omega); have q149 : 0 < (t141.length : Int) := od_; obtain ⟨ad149, e149, hx149_0, hx149_1⟩ := at_T42 (Kd.V_reads' HO143.out).2.2 0 p149 q149; cases e149; have qi149 : (0 < t141.length) = True := eq_true (by omega); replace hx149_0 := ai_ hx149_0; replace hx149_1 := ai_ hx149_1; replace p149 := eq_true p149; replace q149 := eq_true q149) | (go_at_call 9; (with_reducible refine (point_Text.calls k t135 t136 t137 t138 t150 _ A13.out).mono ?_); rintro e w23 ⟨rfl, hb⟩; replace HO143 := bV_ HO143 hb; replace HO147 := bV_ HO147 hb; replace BK140 := bb_ BK140 hb; replace HB := bs_ hb; (try clear hb)) | (go_at_call 22; (with_reducible refine (point_Radius.calls 0 t151 _ A15.out).mono ?_); rintro e w' ⟨rfl, ⟨nd, rfl⟩⟩))
           go_ret; exact ⟨re_, hs_⟩
          ·rw [if_neg c14] at H
           have c14b0 : (t150.toList == ([49, 57, 56, 52, 115, 52] : List UInt8)) = false := beq_eq_false_iff_ne.mpr c14; have c14b1 : (t150.toList != ([49, 57, 56, 52, 115, 52] : List UInt8)) = true := bne_iff_ne.mpr c14; obtain rfl := Option.some.inj H; go_enter Tryd.func7, Tryd.ntmps7; go_wp2_with (first | ((with_reducible refine gC 11 ?_); refine goesL_ (some 8) rfl rfl Tryd.func11 (by kernel_rfl) rfl #[.string ⟨#[49, 57, 56, 52, 115, 52]⟩] rfl ml_ ?_; (with_reducible refine (point_Read.calls k (⟨#[49, 57, 56, 52, 115, 52]⟩ : ByteArray) t135 t136 t137 t138 true _ A1.out).mono ?_); rintro e w24 ⟨rfl, hb⟩; refine ⟨_, rfl, ?_⟩; replace HB := bs_ hb; (try clear hb)) | ((with_reducible refine gD 1 ?_); (try (refine gate_guard (by rfl) ?_; dsimp only)); refine bxe_ 1 z4_ 23 ?_; intro gb140 hg w25 hbox hb; have BK140 := A_ (hbox); have GW140 := gs_ w hg; have GE140 := gs_ w hg; replace HB := bs_ hb; clear hb hbox hg; have Z26 := bz4_ BK140) | ((with_reducible refine gC 14 ?_); refine goesL_ (some 13) rfl rfl Tryd.func14 (by kernel_rfl) rfl #[.agg #[.int .i64 t135, .string t136, .string t137, .string t138]] rfl ml_ ?_; (with_reducible refine (point_Set.calls k t135 t136 t137 t138 t141 t144 _ tl_ A2.out).mono ?_); rintro e w27 ⟨v142, rfl, ho0, hb⟩; refine ⟨_, rfl, ?_⟩; have HO143 := A_ (Kd.V_lower (Kd.V_mono (ok' := fun k_ => k_ ≠ gb140) ho0 (fun k_ hk_ => (fb_ BK140 k_ hk_))) (below_size hs_)); replace BK140 := bp_ BK140 (.cells (n4_ t135 t136 t137 t138) 23 (0, 0)) hb; replace HB := bs_ hb; (try clear hb); (try clear ho0)) | ((with_reducible refine gC 14 ?_); refine goesL_ (some 18) rfl rfl Tryd.func14 (by kernel_rfl) rfl #[.agg #[.int .i64 3, .string ⟨#[88, 88, 88, 88]⟩, .string ⟨#[]⟩, .string ⟨#[]⟩]] rfl ml_ ?_; (with_reducible refine (point_Set.calls k 3 (⟨#[88, 88, 88, 88]⟩ : ByteArray) (⟨#[]⟩ : ByteArray) (⟨#[]⟩ : ByteArray) t145 t148 _ tl_ A3.out).mono ?_); rintro e w28 ⟨v146, rfl, ho0, hb⟩; refine ⟨_, rfl, ?_⟩; replace HO143 := bV_ HO143 hb; have HO147 := A_ (Kd.V_lower (Kd.V_mono (ok' := fun k_ => k_ ≠ gb140) ho0 (fun k_ hk_ => (fb_ BK140 k_ hk_))) (below_size hs_)); replace BK140 := bb_ BK140 hb; replace HB := bs_ hb; (try clear hb); (try clear ho0); have Z29 := bz4_ BK140; obtain ⟨Ao30, co30, eo30⟩ := Kd.V_slice HO143.out; subst eo30; have p149 : 0 ≤ (0 : Int) := (by omega); have q149 : 0 < (t141.length : Int) := od_; obtain ⟨ad149, e149, hx149_0, hx149_1⟩ := at_T42 (Kd.V_reads' HO143.out).2.2 0 p149 q149; cases e149; have qi149 : (0 < t141.length) = True := eq_true (by omega); replace hx149_0 := ai_ hx149_0; replace hx149_1 := ai_ hx149_1; replace p149 := eq_true p149; replace q149 := eq_true q149) | (go_at_call 9; (with_reducible refine (point_Text.calls k t135 t136 t137 t138 t150 _ A13.out).mono ?_); rintro e w31 ⟨rfl, hb⟩; replace HO143 := bV_ HO143 hb; replace HO147 := bV_ HO147 hb; replace BK140 := bb_ BK140 hb; replace HB := bs_ hb; (try clear hb)))
           go_ret; exact ⟨re_, hs_⟩
         ·rw [if_neg c12] at H
          have c12b0 : (t148 == 8) = false := beq_eq_false_iff_ne.mpr c12; have c12b1 : (t148 != 8) = true := bne_iff_ne.mpr c12; obtain rfl := Option.some.inj H; go_enter Tryd.func7, Tryd.ntmps7; go_wp2_with (first | ((with_reducible refine gC 11 ?_); refine goesL_ (some 8) rfl rfl Tryd.func11 (by kernel_rfl) rfl #[.string ⟨#[49, 57, 56, 52, 115, 52]⟩] rfl ml_ ?_; (with_reducible refine (point_Read.calls k (⟨#[49, 57, 56, 52, 115, 52]⟩ : ByteArray) t135 t136 t137 t138 true _ A1.out).mono ?_); rintro e w32 ⟨rfl, hb⟩; refine ⟨_, rfl, ?_⟩; replace HB := bs_ hb; (try clear hb)) | ((with_reducible refine gD 1 ?_); (try (refine gate_guard (by rfl) ?_; dsimp only)); refine bxe_ 1 z4_ 23 ?_; intro gb140 hg w33 hbox hb; have BK140 := A_ (hbox); have GW140 := gs_ w hg; have GE140 := gs_ w hg; replace HB := bs_ hb; clear hb hbox hg; have Z34 := bz4_ BK140) | ((with_reducible refine gC 14 ?_); refine goesL_ (some 13) rfl rfl Tryd.func14 (by kernel_rfl) rfl #[.agg #[.int .i64 t135, .string t136, .string t137, .string t138]] rfl ml_ ?_; (with_reducible refine (point_Set.calls k t135 t136 t137 t138 t141 t144 _ tl_ A2.out).mono ?_); rintro e w35 ⟨v142, rfl, ho0, hb⟩; refine ⟨_, rfl, ?_⟩; have HO143 := A_ (Kd.V_lower (Kd.V_mono (ok' := fun k_ => k_ ≠ gb140) ho0 (fun k_ hk_ => (fb_ BK140 k_ hk_))) (below_size hs_)); replace BK140 := bp_ BK140 (.cells (n4_ t135 t136 t137 t138) 23 (0, 0)) hb; replace HB := bs_ hb; (try clear hb); (try clear ho0)) | ((with_reducible refine gC 14 ?_); refine goesL_ (some 18) rfl rfl Tryd.func14 (by kernel_rfl) rfl #[.agg #[.int .i64 3, .string ⟨#[88, 88, 88, 88]⟩, .string ⟨#[]⟩, .string ⟨#[]⟩]] rfl ml_ ?_; (with_reducible refine (point_Set.calls k 3 (⟨#[88, 88, 88, 88]⟩ : ByteArray) (⟨#[]⟩ : ByteArray) (⟨#[]⟩ : ByteArray) t145 t148 _ tl_ A3.out).mono ?_); rintro e w36 ⟨v146, rfl, ho0, hb⟩; refine ⟨_, rfl, ?_⟩; replace HO143 := bV_ HO143 hb; have HO147 := A_ (Kd.V_lower (Kd.V_mono (ok' := fun k_ => k_ ≠ gb140) ho0 (fun k_ hk_ => (fb_ BK140 k_ hk_))) (below_size hs_)); replace BK140 := bb_ BK140 hb; replace HB := bs_ hb; (try clear hb); (try clear ho0); have Z37 := bz4_ BK140; obtain ⟨Ao38, co38, eo38⟩ := Kd.V_slice HO143.out; subst eo38; have p149 : 0 ≤ (0 : Int) := (by omega); have q149 : 0 < (t141.length : Int) := od_; obtain ⟨ad149, e149, hx149_0, hx149_1⟩ := at_T42 (Kd.V_reads' HO143.out).2.2 0 p149 q149; cases e149; have qi149 : (0 < t141.length) = True := eq_true (by omega); replace hx149_0 := ai_ hx149_0; replace hx149_1 := ai_ hx149_1; replace p149 := eq_true p149; replace q149 := eq_true q149))
          go_ret; exact ⟨re_, hs_⟩
        ·rw [if_neg c11] at H
         have c11b0 : (((rd_T42 t141 0).f0) == 7939) = false := beq_eq_false_iff_ne.mpr c11; have c11b1 : (((rd_T42 t141 0).f0) != 7939) = true := bne_iff_ne.mpr c11; obtain rfl := Option.some.inj H; go_enter Tryd.func7, Tryd.ntmps7; go_wp2_with (first | ((with_reducible refine gC 11 ?_); refine goesL_ (some 8) rfl rfl Tryd.func11 (by kernel_rfl) rfl #[.string ⟨#[49, 57, 56, 52, 115, 52]⟩] rfl ml_ ?_; (with_reducible refine (point_Read.calls k (⟨#[49, 57, 56, 52, 115, 52]⟩ : ByteArray) t135 t136 t137 t138 true _ A1.out).mono ?_); rintro e w39 ⟨rfl, hb⟩; refine ⟨_, rfl, ?_⟩; replace HB := bs_ hb; (try clear hb)) | ((with_reducible refine gD 1 ?_); (try (refine gate_guard (by rfl) ?_; dsimp only)); refine bxe_ 1 z4_ 23 ?_; intro gb140 hg w40 hbox hb; have BK140 := A_ (hbox); have GW140 := gs_ w hg; have GE140 := gs_ w hg; replace HB := bs_ hb; clear hb hbox hg; have Z41 := bz4_ BK140) | ((with_reducible refine gC 14 ?_); refine goesL_ (some 13) rfl rfl Tryd.func14 (by kernel_rfl) rfl #[.agg #[.int .i64 t135, .string t136, .string t137, .string t138]] rfl ml_ ?_; (with_reducible refine (point_Set.calls k t135 t136 t137 t138 t141 t144 _ tl_ A2.out).mono ?_); rintro e w42 ⟨v142, rfl, ho0, hb⟩; refine ⟨_, rfl, ?_⟩; have HO143 := A_ (Kd.V_lower (Kd.V_mono (ok' := fun k_ => k_ ≠ gb140) ho0 (fun k_ hk_ => (fb_ BK140 k_ hk_))) (below_size hs_)); replace BK140 := bp_ BK140 (.cells (n4_ t135 t136 t137 t138) 23 (0, 0)) hb; replace HB := bs_ hb; (try clear hb); (try clear ho0)) | ((with_reducible refine gC 14 ?_); refine goesL_ (some 18) rfl rfl Tryd.func14 (by kernel_rfl) rfl #[.agg #[.int .i64 3, .string ⟨#[88, 88, 88, 88]⟩, .string ⟨#[]⟩, .string ⟨#[]⟩]] rfl ml_ ?_; (with_reducible refine (point_Set.calls k 3 (⟨#[88, 88, 88, 88]⟩ : ByteArray) (⟨#[]⟩ : ByteArray) (⟨#[]⟩ : ByteArray) t145 t148 _ tl_ A3.out).mono ?_); rintro e w43 ⟨v146, rfl, ho0, hb⟩; refine ⟨_, rfl, ?_⟩; replace HO143 := bV_ HO143 hb; have HO147 := A_ (Kd.V_lower (Kd.V_mono (ok' := fun k_ => k_ ≠ gb140) ho0 (fun k_ hk_ => (fb_ BK140 k_ hk_))) (below_size hs_)); replace BK140 := bb_ BK140 hb; replace HB := bs_ hb; (try clear hb); (try clear ho0); have Z44 := bz4_ BK140; obtain ⟨Ao45, co45, eo45⟩ := Kd.V_slice HO143.out; subst eo45; have p149 : 0 ≤ (0 : Int) := (by omega); have q149 : 0 < (t141.length : Int) := od_; obtain ⟨ad149, e149, hx149_0, hx149_1⟩ := at_T42 (Kd.V_reads' HO143.out).2.2 0 p149 q149; cases e149; have qi149 : (0 < t141.length) = True := eq_true (by omega); replace hx149_0 := ai_ hx149_0; replace hx149_1 := ai_ hx149_1; replace p149 := eq_true p149; replace q149 := eq_true q149))
         go_ret; exact ⟨re_, hs_⟩
       ·rw [if_neg c10] at H
        exact absurd H (by simp)
      ·rw [if_neg c9] at H
       have c9b0 : ((t141.length : Int) == 1) = false := beq_eq_false_iff_ne.mpr c9; have c9b1 : ((t141.length : Int) != 1) = true := bne_iff_ne.mpr c9; obtain rfl := Option.some.inj H; go_enter Tryd.func7, Tryd.ntmps7; go_wp2_with (first | ((with_reducible refine gC 11 ?_); refine goesL_ (some 8) rfl rfl Tryd.func11 (by kernel_rfl) rfl #[.string ⟨#[49, 57, 56, 52, 115, 52]⟩] rfl ml_ ?_; (with_reducible refine (point_Read.calls k (⟨#[49, 57, 56, 52, 115, 52]⟩ : ByteArray) t135 t136 t137 t138 true _ A1.out).mono ?_); rintro e w46 ⟨rfl, hb⟩; refine ⟨_, rfl, ?_⟩; replace HB := bs_ hb; (try clear hb)) | ((with_reducible refine gD 1 ?_); (try (refine gate_guard (by rfl) ?_; dsimp only)); refine bxe_ 1 z4_ 23 ?_; intro gb140 hg w47 hbox hb; have BK140 := A_ (hbox); have GW140 := gs_ w hg; have GE140 := gs_ w hg; replace HB := bs_ hb; clear hb hbox hg; have Z48 := bz4_ BK140) | ((with_reducible refine gC 14 ?_); refine goesL_ (some 13) rfl rfl Tryd.func14 (by kernel_rfl) rfl #[.agg #[.int .i64 t135, .string t136, .string t137, .string t138]] rfl ml_ ?_; (with_reducible refine (point_Set.calls k t135 t136 t137 t138 t141 t144 _ tl_ A2.out).mono ?_); rintro e w49 ⟨v142, rfl, ho0, hb⟩; refine ⟨_, rfl, ?_⟩; have HO143 := A_ (Kd.V_lower (Kd.V_mono (ok' := fun k_ => k_ ≠ gb140) ho0 (fun k_ hk_ => (fb_ BK140 k_ hk_))) (below_size hs_)); replace BK140 := bp_ BK140 (.cells (n4_ t135 t136 t137 t138) 23 (0, 0)) hb; replace HB := bs_ hb; (try clear hb); (try clear ho0)) | ((with_reducible refine gC 14 ?_); refine goesL_ (some 18) rfl rfl Tryd.func14 (by kernel_rfl) rfl #[.agg #[.int .i64 3, .string ⟨#[88, 88, 88, 88]⟩, .string ⟨#[]⟩, .string ⟨#[]⟩]] rfl ml_ ?_; (with_reducible refine (point_Set.calls k 3 (⟨#[88, 88, 88, 88]⟩ : ByteArray) (⟨#[]⟩ : ByteArray) (⟨#[]⟩ : ByteArray) t145 t148 _ tl_ A3.out).mono ?_); rintro e w50 ⟨v146, rfl, ho0, hb⟩; refine ⟨_, rfl, ?_⟩; replace HO143 := bV_ HO143 hb; have HO147 := A_ (Kd.V_lower (Kd.V_mono (ok' := fun k_ => k_ ≠ gb140) ho0 (fun k_ hk_ => (fb_ BK140 k_ hk_))) (below_size hs_)); replace BK140 := bb_ BK140 hb; replace HB := bs_ hb; (try clear hb); (try clear ho0); have Z51 := bz4_ BK140; obtain ⟨Ao52, co52, eo52⟩ := Kd.V_slice HO143.out; subst eo52))
       go_ret; exact ⟨re_, hs_⟩
     ·rw [if_neg c8] at H
      have c8b0 : (t144 == 0) = false := beq_eq_false_iff_ne.mpr c8; have c8b1 : (t144 != 0) = true := bne_iff_ne.mpr c8; obtain rfl := Option.some.inj H; go_enter Tryd.func7, Tryd.ntmps7; go_wp2_with (first | ((with_reducible refine gC 11 ?_); refine goesL_ (some 8) rfl rfl Tryd.func11 (by kernel_rfl) rfl #[.string ⟨#[49, 57, 56, 52, 115, 52]⟩] rfl ml_ ?_; (with_reducible refine (point_Read.calls k (⟨#[49, 57, 56, 52, 115, 52]⟩ : ByteArray) t135 t136 t137 t138 true _ A1.out).mono ?_); rintro e w53 ⟨rfl, hb⟩; refine ⟨_, rfl, ?_⟩; replace HB := bs_ hb; (try clear hb)) | ((with_reducible refine gD 1 ?_); (try (refine gate_guard (by rfl) ?_; dsimp only)); refine bxe_ 1 z4_ 23 ?_; intro gb140 hg w54 hbox hb; have BK140 := A_ (hbox); have GW140 := gs_ w hg; have GE140 := gs_ w hg; replace HB := bs_ hb; clear hb hbox hg; have Z55 := bz4_ BK140) | ((with_reducible refine gC 14 ?_); refine goesL_ (some 13) rfl rfl Tryd.func14 (by kernel_rfl) rfl #[.agg #[.int .i64 t135, .string t136, .string t137, .string t138]] rfl ml_ ?_; (with_reducible refine (point_Set.calls k t135 t136 t137 t138 t141 t144 _ tl_ A2.out).mono ?_); rintro e w56 ⟨v142, rfl, ho0, hb⟩; refine ⟨_, rfl, ?_⟩; have HO143 := A_ (Kd.V_lower (Kd.V_mono (ok' := fun k_ => k_ ≠ gb140) ho0 (fun k_ hk_ => (fb_ BK140 k_ hk_))) (below_size hs_)); replace BK140 := bp_ BK140 (.cells (n4_ t135 t136 t137 t138) 23 (0, 0)) hb; replace HB := bs_ hb; (try clear hb); (try clear ho0)) | ((with_reducible refine gC 14 ?_); refine goesL_ (some 18) rfl rfl Tryd.func14 (by kernel_rfl) rfl #[.agg #[.int .i64 3, .string ⟨#[88, 88, 88, 88]⟩, .string ⟨#[]⟩, .string ⟨#[]⟩]] rfl ml_ ?_; (with_reducible refine (point_Set.calls k 3 (⟨#[88, 88, 88, 88]⟩ : ByteArray) (⟨#[]⟩ : ByteArray) (⟨#[]⟩ : ByteArray) t145 t148 _ tl_ A3.out).mono ?_); rintro e w57 ⟨v146, rfl, ho0, hb⟩; refine ⟨_, rfl, ?_⟩; replace HO143 := bV_ HO143 hb; have HO147 := A_ (Kd.V_lower (Kd.V_mono (ok' := fun k_ => k_ ≠ gb140) ho0 (fun k_ hk_ => (fb_ BK140 k_ hk_))) (below_size hs_)); replace BK140 := bb_ BK140 hb; replace HB := bs_ hb; (try clear hb); (try clear ho0); have Z58 := bz4_ BK140))
      go_ret; exact ⟨re_, hs_⟩
    ·rw [if_neg c7] at H
     have c7b0 : (t137.toList == ([52] : List UInt8)) = false := beq_eq_false_iff_ne.mpr c7; have c7b1 : (t137.toList != ([52] : List UInt8)) = true := bne_iff_ne.mpr c7; obtain rfl := Option.some.inj H; go_enter Tryd.func7, Tryd.ntmps7; go_wp2_with (first | ((with_reducible refine gC 11 ?_); refine goesL_ (some 8) rfl rfl Tryd.func11 (by kernel_rfl) rfl #[.string ⟨#[49, 57, 56, 52, 115, 52]⟩] rfl ml_ ?_; (with_reducible refine (point_Read.calls k (⟨#[49, 57, 56, 52, 115, 52]⟩ : ByteArray) t135 t136 t137 t138 true _ A1.out).mono ?_); rintro e w59 ⟨rfl, hb⟩; refine ⟨_, rfl, ?_⟩; replace HB := bs_ hb; (try clear hb)) | ((with_reducible refine gD 1 ?_); (try (refine gate_guard (by rfl) ?_; dsimp only)); refine bxe_ 1 z4_ 23 ?_; intro gb140 hg w60 hbox hb; have BK140 := A_ (hbox); have GW140 := gs_ w hg; have GE140 := gs_ w hg; replace HB := bs_ hb; clear hb hbox hg; have Z61 := bz4_ BK140) | ((with_reducible refine gC 14 ?_); refine goesL_ (some 13) rfl rfl Tryd.func14 (by kernel_rfl) rfl #[.agg #[.int .i64 t135, .string t136, .string t137, .string t138]] rfl ml_ ?_; (with_reducible refine (point_Set.calls k t135 t136 t137 t138 t141 t144 _ tl_ A2.out).mono ?_); rintro e w62 ⟨v142, rfl, ho0, hb⟩; refine ⟨_, rfl, ?_⟩; have HO143 := A_ (Kd.V_lower (Kd.V_mono (ok' := fun k_ => k_ ≠ gb140) ho0 (fun k_ hk_ => (fb_ BK140 k_ hk_))) (below_size hs_)); replace BK140 := bp_ BK140 (.cells (n4_ t135 t136 t137 t138) 23 (0, 0)) hb; replace HB := bs_ hb; (try clear hb); (try clear ho0)) | ((with_reducible refine gC 14 ?_); refine goesL_ (some 18) rfl rfl Tryd.func14 (by kernel_rfl) rfl #[.agg #[.int .i64 3, .string ⟨#[88, 88, 88, 88]⟩, .string ⟨#[]⟩, .string ⟨#[]⟩]] rfl ml_ ?_; (with_reducible refine (point_Set.calls k 3 (⟨#[88, 88, 88, 88]⟩ : ByteArray) (⟨#[]⟩ : ByteArray) (⟨#[]⟩ : ByteArray) t145 t148 _ tl_ A3.out).mono ?_); rintro e w63 ⟨v146, rfl, ho0, hb⟩; refine ⟨_, rfl, ?_⟩; replace HO143 := bV_ HO143 hb; have HO147 := A_ (Kd.V_lower (Kd.V_mono (ok' := fun k_ => k_ ≠ gb140) ho0 (fun k_ hk_ => (fb_ BK140 k_ hk_))) (below_size hs_)); replace BK140 := bb_ BK140 hb; replace HB := bs_ hb; (try clear hb); (try clear ho0); have Z64 := bz4_ BK140))
     go_ret; exact ⟨re_, hs_⟩
   ·rw [if_neg c6] at H
    have c6b0 : (t136.toList == ([49, 57, 56, 52] : List UInt8)) = false := beq_eq_false_iff_ne.mpr c6; have c6b1 : (t136.toList != ([49, 57, 56, 52] : List UInt8)) = true := bne_iff_ne.mpr c6; obtain rfl := Option.some.inj H; go_enter Tryd.func7, Tryd.ntmps7; go_wp2_with (first | ((with_reducible refine gC 11 ?_); refine goesL_ (some 8) rfl rfl Tryd.func11 (by kernel_rfl) rfl #[.string ⟨#[49, 57, 56, 52, 115, 52]⟩] rfl ml_ ?_; (with_reducible refine (point_Read.calls k (⟨#[49, 57, 56, 52, 115, 52]⟩ : ByteArray) t135 t136 t137 t138 true _ A1.out).mono ?_); rintro e w65 ⟨rfl, hb⟩; refine ⟨_, rfl, ?_⟩; replace HB := bs_ hb; (try clear hb)) | ((with_reducible refine gD 1 ?_); (try (refine gate_guard (by rfl) ?_; dsimp only)); refine bxe_ 1 z4_ 23 ?_; intro gb140 hg w66 hbox hb; have BK140 := A_ (hbox); have GW140 := gs_ w hg; have GE140 := gs_ w hg; replace HB := bs_ hb; clear hb hbox hg; have Z67 := bz4_ BK140) | ((with_reducible refine gC 14 ?_); refine goesL_ (some 13) rfl rfl Tryd.func14 (by kernel_rfl) rfl #[.agg #[.int .i64 t135, .string t136, .string t137, .string t138]] rfl ml_ ?_; (with_reducible refine (point_Set.calls k t135 t136 t137 t138 t141 t144 _ tl_ A2.out).mono ?_); rintro e w68 ⟨v142, rfl, ho0, hb⟩; refine ⟨_, rfl, ?_⟩; have HO143 := A_ (Kd.V_lower (Kd.V_mono (ok' := fun k_ => k_ ≠ gb140) ho0 (fun k_ hk_ => (fb_ BK140 k_ hk_))) (below_size hs_)); replace BK140 := bp_ BK140 (.cells (n4_ t135 t136 t137 t138) 23 (0, 0)) hb; replace HB := bs_ hb; (try clear hb); (try clear ho0)) | ((with_reducible refine gC 14 ?_); refine goesL_ (some 18) rfl rfl Tryd.func14 (by kernel_rfl) rfl #[.agg #[.int .i64 3, .string ⟨#[88, 88, 88, 88]⟩, .string ⟨#[]⟩, .string ⟨#[]⟩]] rfl ml_ ?_; (with_reducible refine (point_Set.calls k 3 (⟨#[88, 88, 88, 88]⟩ : ByteArray) (⟨#[]⟩ : ByteArray) (⟨#[]⟩ : ByteArray) t145 t148 _ tl_ A3.out).mono ?_); rintro e w69 ⟨v146, rfl, ho0, hb⟩; refine ⟨_, rfl, ?_⟩; replace HO143 := bV_ HO143 hb; have HO147 := A_ (Kd.V_lower (Kd.V_mono (ok' := fun k_ => k_ ≠ gb140) ho0 (fun k_ hk_ => (fb_ BK140 k_ hk_))) (below_size hs_)); replace BK140 := bb_ BK140 hb; replace HB := bs_ hb; (try clear hb); (try clear ho0); have Z70 := bz4_ BK140))
    go_ret; exact ⟨re_, hs_⟩
  ·rw [if_neg c5] at H
   have c5b0 : (t135 == 2) = false := beq_eq_false_iff_ne.mpr c5; have c5b1 : (t135 != 2) = true := bne_iff_ne.mpr c5; obtain rfl := Option.some.inj H; go_enter Tryd.func7, Tryd.ntmps7; go_wp2_with (first | ((with_reducible refine gC 11 ?_); refine goesL_ (some 8) rfl rfl Tryd.func11 (by kernel_rfl) rfl #[.string ⟨#[49, 57, 56, 52, 115, 52]⟩] rfl ml_ ?_; (with_reducible refine (point_Read.calls k (⟨#[49, 57, 56, 52, 115, 52]⟩ : ByteArray) t135 t136 t137 t138 true _ A1.out).mono ?_); rintro e w71 ⟨rfl, hb⟩; refine ⟨_, rfl, ?_⟩; replace HB := bs_ hb; (try clear hb)) | ((with_reducible refine gD 1 ?_); (try (refine gate_guard (by rfl) ?_; dsimp only)); refine bxe_ 1 z4_ 23 ?_; intro gb140 hg w72 hbox hb; have BK140 := A_ (hbox); have GW140 := gs_ w hg; have GE140 := gs_ w hg; replace HB := bs_ hb; clear hb hbox hg; have Z73 := bz4_ BK140) | ((with_reducible refine gC 14 ?_); refine goesL_ (some 13) rfl rfl Tryd.func14 (by kernel_rfl) rfl #[.agg #[.int .i64 t135, .string t136, .string t137, .string t138]] rfl ml_ ?_; (with_reducible refine (point_Set.calls k t135 t136 t137 t138 t141 t144 _ tl_ A2.out).mono ?_); rintro e w74 ⟨v142, rfl, ho0, hb⟩; refine ⟨_, rfl, ?_⟩; have HO143 := A_ (Kd.V_lower (Kd.V_mono (ok' := fun k_ => k_ ≠ gb140) ho0 (fun k_ hk_ => (fb_ BK140 k_ hk_))) (below_size hs_)); replace BK140 := bp_ BK140 (.cells (n4_ t135 t136 t137 t138) 23 (0, 0)) hb; replace HB := bs_ hb; (try clear hb); (try clear ho0)) | ((with_reducible refine gC 14 ?_); refine goesL_ (some 18) rfl rfl Tryd.func14 (by kernel_rfl) rfl #[.agg #[.int .i64 3, .string ⟨#[88, 88, 88, 88]⟩, .string ⟨#[]⟩, .string ⟨#[]⟩]] rfl ml_ ?_; (with_reducible refine (point_Set.calls k 3 (⟨#[88, 88, 88, 88]⟩ : ByteArray) (⟨#[]⟩ : ByteArray) (⟨#[]⟩ : ByteArray) t145 t148 _ tl_ A3.out).mono ?_); rintro e w75 ⟨v146, rfl, ho0, hb⟩; refine ⟨_, rfl, ?_⟩; replace HO143 := bV_ HO143 hb; have HO147 := A_ (Kd.V_lower (Kd.V_mono (ok' := fun k_ => k_ ≠ gb140) ho0 (fun k_ hk_ => (fb_ BK140 k_ hk_))) (below_size hs_)); replace BK140 := bb_ BK140 hb; replace HB := bs_ hb; (try clear hb); (try clear ho0); have Z76 := bz4_ BK140))
   go_ret; exact ⟨re_, hs_⟩
 ·replace c4 := Bool.eq_false_iff.mpr c4
  subst c4; replace H := iN_ H; obtain rfl := Option.some.inj H; go_enter Tryd.func7, Tryd.ntmps7; go_wp2_with (first | ((with_reducible refine gC 11 ?_); refine goesL_ (some 8) rfl rfl Tryd.func11 (by kernel_rfl) rfl #[.string ⟨#[49, 57, 56, 52, 115, 52]⟩] rfl ml_ ?_; (with_reducible refine (point_Read.calls k (⟨#[49, 57, 56, 52, 115, 52]⟩ : ByteArray) t135 t136 t137 t138 false _ A1.out).mono ?_); rintro e w77 ⟨rfl, hb⟩; refine ⟨_, rfl, ?_⟩; replace HB := bs_ hb; (try clear hb)) | ((with_reducible refine gD 1 ?_); (try (refine gate_guard (by rfl) ?_; dsimp only)); refine bxe_ 1 z4_ 23 ?_; intro gb140 hg w78 hbox hb; have BK140 := A_ (hbox); have GW140 := gs_ w hg; have GE140 := gs_ w hg; replace HB := bs_ hb; clear hb hbox hg; have Z79 := bz4_ BK140) | ((with_reducible refine gC 14 ?_); refine goesL_ (some 13) rfl rfl Tryd.func14 (by kernel_rfl) rfl #[.agg #[.int .i64 t135, .string t136, .string t137, .string t138]] rfl ml_ ?_; (with_reducible refine (point_Set.calls k t135 t136 t137 t138 t141 t144 _ tl_ A2.out).mono ?_); rintro e w80 ⟨v142, rfl, ho0, hb⟩; refine ⟨_, rfl, ?_⟩; have HO143 := A_ (Kd.V_lower (Kd.V_mono (ok' := fun k_ => k_ ≠ gb140) ho0 (fun k_ hk_ => (fb_ BK140 k_ hk_))) (below_size hs_)); replace BK140 := bp_ BK140 (.cells (n4_ t135 t136 t137 t138) 23 (0, 0)) hb; replace HB := bs_ hb; (try clear hb); (try clear ho0)) | ((with_reducible refine gC 14 ?_); refine goesL_ (some 18) rfl rfl Tryd.func14 (by kernel_rfl) rfl #[.agg #[.int .i64 3, .string ⟨#[88, 88, 88, 88]⟩, .string ⟨#[]⟩, .string ⟨#[]⟩]] rfl ml_ ?_; (with_reducible refine (point_Set.calls k 3 (⟨#[88, 88, 88, 88]⟩ : ByteArray) (⟨#[]⟩ : ByteArray) (⟨#[]⟩ : ByteArray) t145 t148 _ tl_ A3.out).mono ?_); rintro e w81 ⟨v146, rfl, ho0, hb⟩; refine ⟨_, rfl, ?_⟩; replace HO143 := bV_ HO143 hb; have HO147 := A_ (Kd.V_lower (Kd.V_mono (ok' := fun k_ => k_ ≠ gb140) ho0 (fun k_ hk_ => (fb_ BK140 k_ hk_))) (below_size hs_)); replace BK140 := bb_ BK140 hb; replace HB := bs_ hb; (try clear hb); (try clear ho0)))
  go_ret; exact ⟨re_, hs_⟩
end Go.Proofs.YthppfagfmjchoaaDoor.A
namespace Go.Proofs.YthppfagfmjchoaaDoor.A
open Go.RowKit Go.Proofs.YthppfagfmjchoaaDoorW.PrintWords Go.Proofs.YthppfagfmjchoaaDoorW.PrintLast Go.Proofs.YthppfagfmjchoaaDoorW.PrintMore
attribute [local go_sem] max2_int min2_int max_two min_two max_three min_three max_four min_four
attribute [local go_sem high] eqA23
attribute [local go_sem] isSome_setCell bne_self_eq_false beq_self_eq_true
theorem em1_ {t : Bool} {l : List UInt8} (h : ¬ (t != (l != ([] : List UInt8))) = true) : t = (!l.isEmpty) := by
  cases l with
  | nil => cases t with
    | false => rfl
    | true => exact absurd rfl h
  | cons a b => cases t with
    | true => rfl
    | false => exact absurd rfl h
theorem em2_ {l : List UInt8} (h : ¬ l = []) : l.isEmpty = false := by cases l with | nil => exact absurd rfl h | cons _ _ => rfl
theorem em3_ {l : List UInt8} (h : l = []) : l.isEmpty = true := by rw [h]; rfl
theorem em5_ {s : ByteArray} (h : (s.toList == ([] : List UInt8)) = true) : s = (⟨#[]⟩ : ByteArray) := by
  have h := beq_iff_eq.1 h
  rw [ByteArray.toList_eq] at h
  cases s with | mk a => cases a with | mk l => simp only at h; rw [show l = [] from h]
theorem em4_ {a : Int} {x y z : ByteArray} (h : (a == 0 && (x.toList == ([] : List UInt8) && (y.toList == ([] : List UInt8) && (z.toList == ([] : List UInt8))))) = true) : a = 0 ∧ x = (⟨#[]⟩ : ByteArray) ∧ y = (⟨#[]⟩ : ByteArray) ∧ z = (⟨#[]⟩ : ByteArray) := by
  rw [Bool.and_eq_true, Bool.and_eq_true, Bool.and_eq_true] at h
  exact ⟨by simpa using h.1, em5_ h.2.1, em5_ h.2.2.1, em5_ h.2.2.2⟩
set_option maxHeartbeats 8000000 in
set_option maxRecDepth 100000 in
theorem lustrumlaw08_PointBack.calls (k : Nat) (a0_0 : Int) (a0_1 a0_2 a0_3 a1 : ByteArray) (r : Bool) (w : World) (hrT_ : r = true) (htab : TL w.heap.size w) (h : lustrumlaw08_PointBack.f k a0_0 a0_1 a0_2 a0_3 a1 = some r) :
  Calls Tryd.prog 3 #[.agg #[.int .i64 a0_0, .string a0_1, .string a0_2, .string a0_3], .string a1] w fun e w' => e = .returned (.bool r) ∧ Below w.heap.size w w' := by
 have HTAB := A_ htab; clear htab; have hu23 := Tryd.underlying23; have HB := A_ (Below.refl w.heap.size w); have H : ((lustrumlaw08_awake.f k).bind fun t103 => ((lustrumlaw08_short.f a0_0 a0_1 a0_2 a0_3).bind fun t104 => (if t104 = true then (lustrumlaw08_PointBack.j0 k a1 t103 (decide ((a1.size : Int) > 40)) a0_0 a0_1 a0_2 a0_3) else (lustrumlaw08_PointBack.j0 k a1 t103 true a0_0 a0_1 a0_2 a0_3)))) = some r := h; clear h; obtain ⟨t103, A3, H⟩ := bi_ H; have HC4 := A_ H; clear H; go_enter Tryd.func3, Tryd.ntmps3; go_upto_region 2 with (first | ((with_reducible refine gD 2 ?_); (try (refine gate_guard (by rfl) ?_; dsimp only)); refine bxe_ 2 (n4_ a0_0 a0_1 a0_2 a0_3) 23 ?_; intro gb102 hg w5 hbox hb; have BK102 := A_ (hbox); have GW102 := gs_ w hg; have GE102 := gs_ w hg; replace HB := bs_ hb; clear hb hbox hg) | ((with_reducible refine gC 7 ?_); refine goesL_ (some 11) rfl rfl Tryd.func7 (by kernel_rfl) rfl #[] rfl ml_ ?_; (with_reducible refine (lustrumlaw08_awake.calls k  t103 _ tl_ A3.out).mono ?_); rintro e w6 ⟨rfl, hb⟩; refine ⟨_, rfl, ?_⟩; replace BK102 := bb_ BK102 hb; replace HB := bs_ hb; (try clear hb))); (try simp only [Act.put, List.setIfInBounds_toArray, List.set_cons_zero, List.set_cons_succ]); go_cut [19] (fun v19 wc => ∃ (kq : Nat) (x19_3 : Bool), v19 = .bool x19_3 ∧ Aside0 (lustrumlaw08_PointBack.j0 kq a1 t103 x19_3 a0_0 a0_1 a0_2 a0_3 = some r) ∧ Aside0 (kq ≤ k) ∧ Aside0 (wc.heap[gb102]? = some (.cells (n4_ a0_0 a0_1 a0_2 a0_3) 23 (0, 0))) ∧ Aside0 (Below w.heap.size w wc))
 case first =>
  have H := HC4.out; clear HC4; obtain ⟨t104, A7, H⟩ := bi_ H
  by_cases c8 : t104 = true
  ·subst c8
   replace H := iP_ H; have H' := A_ H; clear H; have Z9 := bz4_ BK102; go_wp2_with (first | ((with_reducible refine gC 8 ?_); refine goesL_ (some 13) rfl rfl Tryd.func8 (by kernel_rfl) rfl #[.agg #[.int .i64 a0_0, .string a0_1, .string a0_2, .string a0_3]] rfl ml_ ?_; (with_reducible refine (lustrumlaw08_short.calls a0_0 a0_1 a0_2 a0_3 true _ A7.out).mono ?_); rintro e w10 ⟨rfl, hb⟩; refine ⟨_, rfl, ?_⟩; replace BK102 := bb_ BK102 hb; replace HB := bs_ hb; (try clear hb))); go_meet
   case rel => exact ⟨_, (decide ((a1.size : Int) > 40)), rf_, H', ⟨by first | omega | exact Nat.le_refl _⟩, ⟨bl_ BK102.out⟩, ⟨hs_⟩⟩
  ·replace c8 := Bool.eq_false_iff.mpr c8
   subst c8; replace H := iN_ H; have H' := A_ H; clear H; have Z11 := bz4_ BK102; go_wp2_with (first | ((with_reducible refine gC 8 ?_); refine goesL_ (some 13) rfl rfl Tryd.func8 (by kernel_rfl) rfl #[.agg #[.int .i64 a0_0, .string a0_1, .string a0_2, .string a0_3]] rfl ml_ ?_; (with_reducible refine (lustrumlaw08_short.calls a0_0 a0_1 a0_2 a0_3 false _ A7.out).mono ?_); rintro e w12 ⟨rfl, hb⟩; refine ⟨_, rfl, ?_⟩; replace BK102 := bb_ BK102 hb; replace HB := bs_ hb; (try clear hb))); go_meet
   case rel => exact ⟨_, (true), rf_, H', ⟨by first | omega | exact Nat.le_refl _⟩, ⟨bl_ BK102.out⟩, ⟨hs_⟩⟩
 case rest =>
  clear HC4; (try clear p2); (try clear c3); (try clear c7); (try clear c8); (try clear Z11); (try clear Z9); obtain ⟨kq, x19_3, rfl, HA, HJ3, BK102, HB⟩ := hcut
  cases kq with
  | zero => exact absurd HA.out (by simp [lustrumlaw08_PointBack.j0])
  | succ kj3 =>
   have H := HA.out; clear HA; simp only [lustrumlaw08_PointBack.j0] at H
   by_cases c13 : x19_3 = true
   ·subst c13
    replace H := iP_ H; obtain rfl := Option.some.inj H; clear hrT_; go_wp2; go_ret; exact ⟨re_, hs_⟩
   ·replace c13 := Bool.eq_false_iff.mpr c13
    subst c13; replace H := iN_ H; obtain ⟨t105, A14, H⟩ := bi_ H; obtain ⟨t106, A15, H⟩ := bi_ H
    by_cases c16 : (t106 != (t105.toList != ([] : List UInt8))) = true
    ·rw [if_pos c16] at H
     have c16b0 : (t106 != (t105.toList != ([] : List UInt8))) = true := c16; (try (have c16b1 : decide (t106 = (t105.toList != ([] : List UInt8))) = false := by simpa using c16)); (try (have c16b2 : (t106 == (t105.toList != ([] : List UInt8))) = false := by simpa using c16)); (try (have c16b3 : ¬ (t106 = (t105.toList != ([] : List UInt8))) := by simpa using c16)); clear c16; exact absurd ((Option.some.inj H).trans hrT_) (by decide)
    ·rw [if_neg c16] at H
     obtain rfl : t106 = (!t105.toList.isEmpty) := em1_ c16
     clear c16; have HC21 := A_ H; clear H; have Z22 := bz4_ BK102; go_upto_if 29 with (first | ((with_reducible refine gC 9 ?_); refine goesL_ (some 22) rfl rfl Tryd.func9 (by kernel_rfl) rfl #[.agg #[.int .i64 a0_0, .string a0_1, .string a0_2, .string a0_3]] rfl ml_ ?_; (with_reducible refine (point_Text.calls kj3 a0_0 a0_1 a0_2 a0_3 t105 _ A14.out).mono ?_); rintro e w23 ⟨rfl, hb⟩; refine ⟨_, rfl, ?_⟩; replace BK102 := bb_ BK102 hb; replace HB := bs_ hb; (try clear hb); have Z24 := bz4_ BK102) | ((with_reducible refine gC 10 ?_); refine goesL_ (some 24) rfl rfl Tryd.func10 (by kernel_rfl) rfl #[.agg #[.int .i64 a0_0, .string a0_1, .string a0_2, .string a0_3]] rfl ml_ ?_; (with_reducible refine (point_Sane.calls kj3 a0_0 a0_1 a0_2 a0_3 _ _ A15.out).mono ?_); rintro e w25 ⟨rfl, hb⟩; refine ⟨_, rfl, ?_⟩; replace BK102 := bb_ BK102 hb; replace HB := bs_ hb; (try clear hb))); (try simp only [Act.put, List.setIfInBounds_toArray, List.set_cons_zero, List.set_cons_succ]); go_cut [] (fun wc => ∃ (kq : Nat), Aside0 (lustrumlaw08_PointBack.j1 kq a1 t103 t105 = some r) ∧ Aside0 (kq ≤ kj3) ∧ Aside0 (wc.heap[gb102]? = some (.cells (n4_ a0_0 a0_1 a0_2 a0_3) 23 (0, 0))) ∧ Aside0 (Below w.heap.size w wc))
     case first =>
      have H := HC21.out; clear HC21
      by_cases c26 : t105.toList = ([] : List UInt8)
      ·rw [if_pos c26] at H
       have c26b0 : (t105.toList == ([] : List UInt8)) = true := beq_iff_eq.mpr c26; have c26b1 : (t105.toList != ([] : List UInt8)) = false := bne_eq_false_iff_eq.mpr c26; have c26b2 : t105.toList.isEmpty = true := em3_ c26
       clear c26; (first | rw [c26b2] | (simp only [i64_w, i32_w]; rw [c26b0]) | skip); have H' := A_ H; clear H; go_wp2; go_meet
       case rel => exact ⟨_, H', ⟨by have := HJ3.out; first | omega | exact Nat.le_refl _⟩, ⟨bl_ BK102.out⟩, ⟨hs_⟩⟩
      ·rw [if_neg c26] at H
       have c26b0 : (t105.toList == ([] : List UInt8)) = false := beq_eq_false_iff_ne.mpr c26; have c26b1 : (t105.toList != ([] : List UInt8)) = true := bne_iff_ne.mpr c26; have c26b2 : t105.toList.isEmpty = false := em2_ c26
       (first | rw [c26b2] | (simp only [i64_w, i32_w]; rw [c26b0]) | skip); obtain ⟨⟨t107, t108, t109, t110, t111⟩, A27, H⟩ := bi_ H
       by_cases c28 : t111 = true
       ·subst c28
        replace H := iP_ H
        by_cases c29 : (!(t107 == a0_0) || (!(t108.toList == a0_1.toList) || (!(t109.toList == a0_2.toList) || (!(t110.toList == a0_3.toList))))) = true
        ·rw [if_pos c29] at H
         have c29b0 : (!(t107 == a0_0) || (!(t108.toList == a0_1.toList) || (!(t109.toList == a0_2.toList) || (!(t110.toList == a0_3.toList))))) = true := c29; clear c29; exact absurd ((Option.some.inj H).trans hrT_) (by decide)
        ·rw [if_neg c29] at H
         (have c29b0 : (!(t107 == a0_0) || (!(t108.toList == a0_1.toList) || (!(t109.toList == a0_2.toList) || (!(t110.toList == a0_3.toList))))) = false := by simpa using c29); clear c29; have H' := A_ H; clear H; go_wp2_with (first | ((with_reducible refine gC 11 ?_); refine goesL_ (some 32) rfl rfl Tryd.func11 (by kernel_rfl) rfl #[.string t105] rfl ml_ ?_; (with_reducible refine (point_Read.calls kj3 t105 t107 t108 t109 t110 true _ A27.out).mono ?_); rintro e w35 ⟨rfl, hb⟩; refine ⟨_, rfl, ?_⟩; replace BK102 := bb_ BK102 hb; replace HB := bs_ hb; (try clear hb)) | ((with_reducible refine gD 7 ?_); (try (refine gate_guard (by rfl) ?_; dsimp only)); refine bxe_ 7 z4_ 23 ?_; intro gb112 hg w36 hbox hb; have BK112 := A_ (hbox); have GW112 := gs_ w hg; have GE112 := gs_ w hg; replace HB := bs_ hb; have NB102_112 := nl_ BK102 hg; have NB112_102 := ng_ BK102 hg; replace BK102 := bb_ BK102 hb; clear hb hbox hg; have hnb37 := NB112_102.out; have hnc37 := NB102_112.out; have Z38 := bz4_ BK112; have Z39 := bz4_ BK102))
         go_meet
         case rel => exact ⟨_, H', ⟨by have := HJ3.out; first | omega | exact Nat.le_refl _⟩, ⟨pf_ NB102_112 BK102⟩, ⟨hs_⟩⟩
       ·replace c28 := Bool.eq_false_iff.mpr c28
        subst c28; replace H := iN_ H; exact absurd ((Option.some.inj H).trans hrT_) (by decide)
     case rest =>
      clear HC21; (try clear c1); (try clear c2); (try clear p2); (try clear c3); (try clear c4); (try clear c7); (try clear c8); (try clear c9); (try clear c10); (try clear c11); (try clear c13); (try clear c16); (try clear c16b0); (try clear c16b1); (try clear c16b2); (try clear c26); (try clear c26b0); (try clear c26b1); (try clear c28); (try clear c29); (try clear c29b0); (try clear c32); (try clear c37); (try clear c42); (try clear Z11); (try clear hcz17_0); (try clear hcz17_1); (try clear hcz17_2); (try clear hcz17_3); (try clear hcz19_0); (try clear hcz19_1); (try clear hcz19_2); (try clear hcz19_3); (try clear Z22); (try clear Z24); (try clear hcz33_0); (try clear hcz33_1); (try clear hcz33_2); (try clear hcz33_3); (try clear hcz34_0); (try clear hcz34_1); (try clear hcz34_2); (try clear hcz34_3); (try clear Z38); (try clear Z39); (try clear hcz43_0); (try clear hcz43_1); (try clear hcz43_2); (try clear hcz43_3); (try clear Z9); (try clear hfz17_0); (try clear hfz17_1); (try clear hfz17_2); (try clear hfz17_3); (try clear hfz19_0); (try clear hfz19_1); (try clear hfz19_2); (try clear hfz19_3); (try clear hfz33_0); (try clear hfz33_1); (try clear hfz33_2); (try clear hfz33_3); (try clear hfz34_0); (try clear hfz34_1); (try clear hfz34_2); (try clear hfz34_3); (try clear hfz43_0); (try clear hfz43_1); (try clear hfz43_2); (try clear hfz43_3); (try clear p2); obtain ⟨kq, HA, HJ20, BK102, HB⟩ := hcut
      cases kq with
      | zero => exact absurd HA.out (by simp [lustrumlaw08_PointBack.j1])
      | succ kj20 =>
       have H := HA.out; clear HA; simp only [lustrumlaw08_PointBack.j1] at H; obtain ⟨⟨t113, t114, t115, t116, t117⟩, A44, H⟩ := bi_ H
       by_cases c45 : t117 = true
       ·subst c45
        replace H := iP_ H
        by_cases c46 : t103 = true
        ·subst c46
         replace H := iP_ H; obtain ⟨t119, A47, H⟩ := bi_ H
         by_cases c48 : t119 = true
         ·subst c48
          replace H := iP_ H; obtain ⟨t120, A49, H⟩ := bi_ H; obtain rfl := Option.some.inj H; clear hrT_; go_wp2_with (first | ((with_reducible refine gC 11 ?_); refine goesL_ (some 44) rfl rfl Tryd.func11 (by kernel_rfl) rfl #[.string a1] rfl ml_ ?_; (with_reducible refine (point_Read.calls kj20 a1 t113 t114 t115 t116 true _ A44.out).mono ?_); rintro e w50 ⟨rfl, hb⟩; refine ⟨_, rfl, ?_⟩; replace BK102 := bb_ BK102 hb; replace HB := bs_ hb; (try clear hb)) | ((with_reducible refine gD 9 ?_); (try (refine gate_guard (by rfl) ?_; dsimp only)); refine bxe_ 9 z4_ 23 ?_; intro gb118 hg w51 hbox hb; have BK118 := A_ (hbox); have GW118 := gs_ w hg; have GE118 := gs_ w hg; replace HB := bs_ hb; have NB102_118 := nl_ BK102 hg; have NB118_102 := ng_ BK102 hg; replace BK102 := bb_ BK102 hb; clear hb hbox hg; have hnb52 := NB118_102.out; have hnc52 := NB102_118.out; have Z53 := bz4_ BK118) | (go_at_call 10; (with_reducible refine (point_Sane.calls kj20 t113 t114 t115 t116 true _ A47.out).mono ?_); rintro e w54 ⟨rfl, hb⟩; replace BK102 := A_ (blk_below (g := gb102) (o := .cells (n4_ a0_0 a0_1 a0_2 a0_3) 23 (0, 0)) (pf_ NB102_118 BK102) hb); replace BK118 := bp_ BK118 (.cells (n4_ t113 t114 t115 t116) 23 (0, 0)) hb; replace HB := bs_ hb; (try clear hb); have Z55 := bz4_ BK118) | (go_at_call 9; (with_reducible refine (point_Text.calls kj20 t113 t114 t115 t116 t120 _ A49.out).mono ?_); rintro e w56 ⟨rfl, hb⟩; replace BK102 := bb_ BK102 hb; replace BK118 := bb_ BK118 hb; replace HB := bs_ hb; (try clear hb)))
          go_ret; exact ⟨re_, hs_⟩
         ·replace c48 := Bool.eq_false_iff.mpr c48
          subst c48; replace H := iN_ H; exact absurd ((Option.some.inj H).trans hrT_) (by decide)
        ·replace c46 := Bool.eq_false_iff.mpr c46
         subst c46; replace H := iN_ H; exact absurd ((Option.some.inj H).trans hrT_) (by decide)
       ·replace c45 := Bool.eq_false_iff.mpr c45
        subst c45; replace H := iN_ H
        by_cases c66 : t103 = true
        ·subst c66
         replace H := iP_ H
         by_cases c67 : (t113 == 0 && (t114.toList == ([] : List UInt8) && (t115.toList == ([] : List UInt8) && (t116.toList == ([] : List UInt8))))) = true
         ·rw [if_pos c67] at H
          obtain ⟨rfl, rfl, rfl, rfl⟩ := em4_ c67
          clear c67
          by_cases c68 : a1.toList = ([] : List UInt8)
          ·rw [if_pos c68] at H
           have c68b0 : (a1.toList == ([] : List UInt8)) = true := beq_iff_eq.mpr c68; have c68b1 : (a1.toList != ([] : List UInt8)) = false := bne_eq_false_iff_eq.mpr c68; clear c68; obtain rfl := Option.some.inj H; clear hrT_; go_wp2_with (first | ((with_reducible refine gC 11 ?_); refine goesL_ (some 44) rfl rfl Tryd.func11 (by kernel_rfl) rfl #[.string a1] rfl ml_ ?_; (with_reducible refine (point_Read.calls kj20 a1 (0 : Int) (⟨#[]⟩ : ByteArray) (⟨#[]⟩ : ByteArray) (⟨#[]⟩ : ByteArray) false _ A44.out).mono ?_); rintro e w69 ⟨rfl, hb⟩; refine ⟨_, rfl, ?_⟩; replace BK102 := bb_ BK102 hb; replace HB := bs_ hb; (try clear hb)) | ((with_reducible refine gD 9 ?_); (try (refine gate_guard (by rfl) ?_; dsimp only)); refine bxe_ 9 z4_ 23 ?_; intro gb118 hg w70 hbox hb; have BK118 := A_ (hbox); have GW118 := gs_ w hg; have GE118 := gs_ w hg; replace HB := bs_ hb; have NB102_118 := nl_ BK102 hg; have NB118_102 := ng_ BK102 hg; replace BK102 := bb_ BK102 hb; clear hb hbox hg; have hnb71 := NB118_102.out; have hnc71 := NB102_118.out; have Z72 := bz4_ BK118)); go_ret; exact ⟨re_, hs_⟩
          ·rw [if_neg c68] at H
           have c68b0 : (a1.toList == ([] : List UInt8)) = false := beq_eq_false_iff_ne.mpr c68; have c68b1 : (a1.toList != ([] : List UInt8)) = true := bne_iff_ne.mpr c68; obtain rfl := Option.some.inj H; clear hrT_; go_wp2_with (first | ((with_reducible refine gC 11 ?_); refine goesL_ (some 44) rfl rfl Tryd.func11 (by kernel_rfl) rfl #[.string a1] rfl ml_ ?_; (with_reducible refine (point_Read.calls kj20 a1 (0 : Int) (⟨#[]⟩ : ByteArray) (⟨#[]⟩ : ByteArray) (⟨#[]⟩ : ByteArray) false _ A44.out).mono ?_); rintro e w73 ⟨rfl, hb⟩; refine ⟨_, rfl, ?_⟩; replace BK102 := bb_ BK102 hb; replace HB := bs_ hb; (try clear hb)) | ((with_reducible refine gD 9 ?_); (try (refine gate_guard (by rfl) ?_; dsimp only)); refine bxe_ 9 z4_ 23 ?_; intro gb118 hg w74 hbox hb; have BK118 := A_ (hbox); have GW118 := gs_ w hg; have GE118 := gs_ w hg; replace HB := bs_ hb; have NB102_118 := nl_ BK102 hg; have NB118_102 := ng_ BK102 hg; replace BK102 := bb_ BK102 hb; clear hb hbox hg; have hnb75 := NB118_102.out; have hnc75 := NB102_118.out; have Z76 := bz4_ BK118)); go_ret; exact ⟨re_, hs_⟩
         ·rw [if_neg c67] at H
          (have c67b0 : (t113 == 0 && (t114.toList == ([] : List UInt8) && (t115.toList == ([] : List UInt8) && (t116.toList == ([] : List UInt8))))) = false := by simpa using c67); (try (have c67b1 : decide (t113 = 0 && (t114.toList == ([] : List UInt8) && (t115.toList == ([] : List UInt8) && (t116.toList == ([] : List UInt8))))) = false := by simpa using c67)); (try (have c67b2 : (t113 == 0 && (t114.toList == ([] : List UInt8) && (t115.toList == ([] : List UInt8) && (t116.toList == ([] : List UInt8))))) = false := by simpa using c67)); (try (have c67b3 : ¬ (t113 = 0 && (t114.toList == ([] : List UInt8) && (t115.toList == ([] : List UInt8) && (t116.toList == ([] : List UInt8))))) := by simpa using c67)); clear c67; exact absurd ((Option.some.inj H).trans hrT_) (by decide)
        ·replace c66 := Bool.eq_false_iff.mpr c66
         subst c66; replace H := iN_ H; exact absurd ((Option.some.inj H).trans hrT_) (by decide)
theorem Ev.ift {α : Type} {c : Prop} [Decidable c] {g f : Nat → Option α} {r : α} (hc : c) (h : Ev g r) : Ev (fun k => if c then g k else f k) r := Ev.congr (fun k => if_pos hc) h
theorem Ev.iff_ {α : Type} {c : Prop} [Decidable c] {g f : Nat → Option α} {r : α} (hc : ¬ c) (h : Ev f r) : Ev (fun k => if c then g k else f k) r := Ev.congr (fun k => if_neg hc) h
theorem Ev.bnow {α β : Type} {a : Option α} {f : Nat → α → Option β} {x : α} {r : β} (h : a = some x) (k : Ev (fun n => f n x) r) : Ev (fun n => a.bind (f n)) r := Ev.congr (fun n => by rw [h]; rfl) k
theorem u8eq {x y : UInt8} (h : x.toNat = y.toNat) : x = y := UInt8.toNat_inj.1 h
theorem sane_all {l : List UInt8} (h : saneL l = true) : l.all okB = true ∧ l ≠ [] ∧ l.length ≤ 4 := by
  unfold saneL at h
  simp only [Bool.and_eq_true, decide_eq_true_eq] at h
  exact ⟨h.1.1, h.1.2, h.2⟩
theorem bsize (s : ByteArray) : s.size = s.data.toList.length := by simp
theorem Sane_l0 : ∀ (t p : List S42) (last : Int), (p ++ t).length ≤ 4611686018427387904 → -lim - 2 ≤ last → last ≤ lim →
    ∃ b, Ev (fun k => runs_Sane.l0 k last (p ++ t) ((p ++ t).length : Int) (p.length : Int)) b ∧ (b = true ↔ saneF last t)
  | [], p, last, _, _, _ => ⟨true, Ev.step (f := fun _ => some true) (fun k => by simp only [runs_Sane.l0]; rw [if_neg (at_end p)]) (Ev.now true), by simp [saneF]⟩
  | r :: t, p, last, hn, h1, h2 => by
    have e : ∀ k, runs_Sane.l0 (k + 1) last (p ++ r :: t) ((p ++ r :: t).length : Int) (p.length : Int) = (if r.f0 > r.f1 then some false else if r.f0 < last + 2 then some false else if r.f1 > 1099511627776 then some false else runs_Sane.l0 k r.f1 (p ++ r :: t) ((p ++ r :: t).length : Int) ((p ++ [r]).length : Int)) := fun k => by
      simp only [runs_Sane.l0]
      rw [if_pos (at_lt p r t), if_pos (at_0 p), if_pos (at_lt p r t), at_rd, at_next hn, w64 (by unfold lim at h1; omega) (by unfold lim at h2; omega)]
    by_cases c1 : r.f0 > r.f1
    · exact ⟨false, Ev.step (f := fun _ => some false) (fun k => by rw [e, if_pos c1]) (Ev.now _), by simp [saneF]; omega⟩
    by_cases c2 : r.f0 < last + 2
    · exact ⟨false, Ev.step (f := fun _ => some false) (fun k => by rw [e, if_neg c1, if_pos c2]) (Ev.now _), by simp [saneF]; omega⟩
    by_cases c3 : r.f1 > 1099511627776
    · exact ⟨false, Ev.step (f := fun _ => some false) (fun k => by rw [e, if_neg c1, if_neg c2, if_pos c3]) (Ev.now _), by simp [saneF, lim]; omega⟩
    obtain ⟨b, hb, hs⟩ := Sane_l0 t (p ++ [r]) r.f1 (by rw [← at_app]; exact hn) (by omega) (by unfold lim; omega)
    rw [← at_app] at hb
    refine ⟨b, Ev.step (fun k => by rw [e, if_neg c1, if_neg c2, if_neg c3]) hb, ?_⟩
    rw [hs, saneF]
    unfold lim
    exact ⟨fun h => ⟨by omega, by omega, by omega, h⟩, fun h => h.2.2.2⟩
theorem Sane_f (l : List S42) (hn : l.length ≤ 4611686018427387904) : ∃ b, Ev (fun k => runs_Sane.f k l) b ∧ (b = true ↔ sane l) := by
  obtain ⟨b, hb, hs⟩ := Sane_l0 l [] (-lim - 2) (by simpa using hn) (by omega) (by unfold lim; omega)
  exact ⟨b, hb, hs⟩
theorem mx_max (a b : Int) : mx a b = max a b := by unfold mx; omega
theorem mn_min (a b : Int) : mn a b = min a b := by unfold mn; omega
theorem sknown_s {l : List S42} (hs : sane l) (hn : l.length < 4398046511104) : Ev (fun k => sets_known.f k l) l := by
  obtain ⟨b, hb, h⟩ := Sane_f l (by omega)
  obtain rfl := h.2 hs
  exact Ev.bind hb (Ev.ift rfl (Ev.now _))
theorem mem_one (r : S42) (n : Int) : mem [r] n ↔ r.f0 ≤ n ∧ n ≤ r.f1 := by rw [mem_cons]; simp [mem_nil]
def both (r q : S42) : S42 := ⟨max r.f0 q.f0, min r.f1 q.f1⟩
def meet2 : List S42 → List S42 → List S42
  | [], _ => []
  | _ :: _, [] => []
  | r :: s, q :: t => (if (both r q).f0 ≤ (both r q).f1 then [both r q] else []) ++ (if r.f1 < q.f1 then meet2 s (q :: t) else meet2 (r :: s) t)
termination_by s t => s.length + t.length
theorem meet2_nil (s : List S42) : meet2 s [] = [] := by cases s <;> simp [meet2]
theorem meet2_cons (r : S42) (s : List S42) (q : S42) (t : List S42) : meet2 (r :: s) (q :: t) = (if (both r q).f0 ≤ (both r q).f1 then [both r q] else []) ++ (if r.f1 < q.f1 then meet2 s (q :: t) else meet2 (r :: s) t) := by rw [meet2]
theorem meet2_len : ∀ (m : Nat) (s t : List S42), s.length + t.length = m → (meet2 s t).length ≤ s.length + t.length
  | _, [], t, _ => by simp [meet2]
  | _, s, [], _ => by simp [meet2_nil]
  | m + 1, r :: s, q :: t, e => by
    simp only [List.length_cons] at e
    rw [meet2_cons, List.length_append]
    have h1 : (if (both r q).f0 ≤ (both r q).f1 then [both r q] else []).length ≤ 1 := by split <;> simp
    by_cases c : r.f1 < q.f1
    · rw [if_pos c]
      have := meet2_len m s (q :: t) (by simp only [List.length_cons]; omega)
      simp only [List.length_cons] at this ⊢
      omega
    · rw [if_neg c]
      have := meet2_len m (r :: s) t (by simp only [List.length_cons]; omega)
      simp only [List.length_cons] at this ⊢
      omega
theorem meet2_sane : ∀ (m : Nat) (s t : List S42) (a b : Int), s.length + t.length = m → saneF a s → saneF b t → saneF (max a b) (meet2 s t)
  | _, [], t, _, _, _, _, _ => by simp [meet2, saneF]
  | _, s, [], _, _, _, _, _ => by simp [meet2_nil, saneF]
  | m + 1, r :: s, q :: t, a, b, e, hs, ht => by
    simp only [List.length_cons] at e
    obtain ⟨r1, r2, r3, r4⟩ := hs
    obtain ⟨q1, q2, q3, q4⟩ := ht
    have ht : saneF (if r.f1 < q.f1 then max r.f1 b else max a q.f1) (if r.f1 < q.f1 then meet2 s (q :: t) else meet2 (r :: s) t) := by
      split
      · exact meet2_sane m s (q :: t) _ _ (by simp only [List.length_cons]; omega) r4 ⟨q1, q2, q3, q4⟩
      · exact meet2_sane m (r :: s) t _ _ (by simp only [List.length_cons]; omega) ⟨r1, r2, r3, r4⟩ q4
    rw [meet2_cons]
    by_cases c : (both r q).f0 ≤ (both r q).f1
    · rw [if_pos c]
      simp only [both] at c
      refine ⟨by simp only [both]; omega, by simp only [both]; exact c, by simp only [both]; omega, saneF_le ht ?_⟩
      simp only [both]
      split <;> omega
    · rw [if_neg c, List.nil_append]
      refine saneF_le ht ?_
      split <;> omega
theorem meet2_mem : ∀ (m : Nat) (s t : List S42) (a b : Int), s.length + t.length = m → saneF a s → saneF b t → ∀ n, mem (meet2 s t) n ↔ mem s n ∧ mem t n
  | _, [], t, _, _, _, _, _, n => by simp [meet2, mem_nil]
  | _, s, [], _, _, _, _, _, n => by simp [meet2_nil, mem_nil]
  | m + 1, r :: s, q :: t, a, b, e, hs, ht, n => by
    simp only [List.length_cons] at e
    have hs0 := hs; have ht0 := ht
    obtain ⟨r1, r2, r3, r4⟩ := hs
    obtain ⟨q1, q2, q3, q4⟩ := ht
    have ho : mem (if (both r q).f0 ≤ (both r q).f1 then [both r q] else []) n ↔ (r.f0 ≤ n ∧ n ≤ r.f1) ∧ q.f0 ≤ n ∧ n ≤ q.f1 := by
      by_cases c : (both r q).f0 ≤ (both r q).f1
      · rw [if_pos c, mem_one]; simp only [both]; omega
      · rw [if_neg c]; simp only [both] at c; constructor
        · exact fun h => absurd h (mem_nil _)
        · intro h; omega
    rw [meet2_cons, mem_append, ho]
    by_cases c : r.f1 < q.f1
    · rw [if_pos c, meet2_mem m s (q :: t) _ _ (by simp only [List.length_cons]; omega) r4 ht0 n, mem_cons, mem_cons]
      have h1 : mem t n → q.f1 + 2 ≤ n := fun h => (saneF_mem q4 h).1
      constructor
      · rintro (h | h)
        · exact ⟨.inl h.1, .inl h.2⟩
        · exact ⟨.inr h.1, h.2⟩
      · rintro ⟨h | h, h'⟩
        · rcases h' with h' | h'
          · exact .inl ⟨h, h'⟩
          · have := h1 h'; omega
        · exact .inr ⟨h, h'⟩
    · rw [if_neg c, meet2_mem m (r :: s) t _ _ (by simp only [List.length_cons]; omega) hs0 q4 n, mem_cons, mem_cons]
      have h1 : mem s n → r.f1 + 2 ≤ n := fun h => (saneF_mem r4 h).1
      constructor
      · rintro (h | h)
        · exact ⟨.inl h.1, .inl h.2⟩
        · exact ⟨h.1, .inr h.2⟩
      · rintro ⟨h, h' | h'⟩
        · rcases h with h | h
          · exact .inl ⟨h, h'⟩
          · have := h1 h; omega
        · exact .inr ⟨h, h'⟩
theorem Meet_l0 : ∀ (m : Nat) (s t p q acc : List S42), s.length + t.length = m → (p ++ s).length < 4398046511104 → (q ++ t).length < 4398046511104 → acc.length + s.length + t.length < 8796093022208 →
    Ev (fun k => sets_Meet.l0 k (p ++ s) (q ++ t) acc (p.length : Int) (q.length : Int)) (acc ++ meet2 s t)
  | _, [], t, p, q, acc, _, _, _, _ => by
    refine Ev.step (f := fun k => sets_Meet.j1 k (p ++ []) (q ++ t) acc (p.length : Int) (q.length : Int) false) (fun k => by rw [sets_Meet.l0, if_neg (at_end p)]) ?_
    refine Ev.step (f := fun _ => some (acc ++ meet2 [] t)) (fun k => by rw [sets_Meet.j1, if_neg (by simp)]; simp [meet2]) (Ev.now _)
  | _, r :: s, [], p, q, acc, _, _, _, _ => by
    refine Ev.step (f := fun k => sets_Meet.j1 k (p ++ r :: s) (q ++ []) acc (p.length : Int) (q.length : Int) false) (fun k => by rw [sets_Meet.l0, if_pos (at_lt p r s), decide_eq_false (at_end q)]) ?_
    refine Ev.step (f := fun _ => some (acc ++ meet2 (r :: s) [])) (fun k => by rw [sets_Meet.j1, if_neg (by simp)]; simp [meet2_nil]) (Ev.now _)
  | m + 1, r :: s, x :: t, p, q, acc, e, h1, h2, h3 => by
    simp only [List.length_cons] at e h3
    refine Ev.step (f := fun k => sets_Meet.j1 k (p ++ r :: s) (q ++ x :: t) acc (p.length : Int) (q.length : Int) true) (fun k => by rw [sets_Meet.l0, if_pos (at_lt p r s), decide_eq_true (at_lt q x t)]) ?_
    have hn1 := at_next (p := p) (r := r) (t := s) (by omega)
    have hn2 := at_next (p := q) (r := x) (t := t) (by omega)
    have hgo : ∀ acc' : List S42, acc'.length + (s.length + 1) + (t.length + 1) ≤ acc.length + (s.length + 1) + (t.length + 1) + 1 →
        Ev (fun k => if (r.f1) < (x.f1) then sets_Meet.l0 k (p ++ r :: s) (q ++ x :: t) acc' (wrap64 ((p.length : Int) + 1)) (q.length : Int) else sets_Meet.l0 k (p ++ r :: s) (q ++ x :: t) acc' (p.length : Int) (wrap64 ((q.length : Int) + 1)))
          (acc' ++ (if r.f1 < x.f1 then meet2 s (x :: t) else meet2 (r :: s) t)) := fun acc' ha => by
      by_cases c : r.f1 < x.f1
      · rw [if_pos c]
        refine Ev.ift c ?_
        rw [hn1]
        have := Meet_l0 m s (x :: t) (p ++ [r]) q acc' (by simp only [List.length_cons]; omega) (by rw [← at_app]; exact h1) h2 (by simp only [List.length_cons]; omega)
        rw [← at_app] at this
        exact this
      · rw [if_neg c]
        refine Ev.iff_ c ?_
        rw [hn2]
        have := Meet_l0 m (r :: s) t p (q ++ [x]) acc' (by simp only [List.length_cons]; omega) h1 (by rw [← at_app]; exact h2) (by simp only [List.length_cons]; omega)
        rw [← at_app] at this
        exact this
    rw [meet2_cons]
    by_cases c : (both r x).f0 ≤ (both r x).f1
    · rw [if_pos c, ← List.append_assoc]
      refine Ev.step (fun k => ?_) (hgo (acc ++ [both r x]) (by rw [List.length_append, List.length_singleton]; omega))
      rw [sets_Meet.j1, if_pos rfl, if_pos (at_0 p), if_pos (at_lt p r s), if_pos (at_0 q), if_pos (at_lt q x t), at_rd, at_rd, mx_max, mn_min, if_pos (show max r.f0 x.f0 ≤ min r.f1 x.f1 from c), if_pos (by omega)]
      rfl
    · rw [if_neg c, List.nil_append]
      refine Ev.step (fun k => ?_) (hgo acc (by omega))
      rw [sets_Meet.j1, if_pos rfl, if_pos (at_0 p), if_pos (at_lt p r s), if_pos (at_0 q), if_pos (at_lt q x t), at_rd, at_rd, mx_max, mn_min, if_neg (show ¬ max r.f0 x.f0 ≤ min r.f1 x.f1 from c)]
theorem Meet_s {a b : List S42} (ha : sane a) (hb : sane b) (h : a.length + b.length < 4398046511104) : Ev (fun k => sets_Meet.f k a b) (meet2 a b) ∧ (∀ n, mem (meet2 a b) n ↔ mem a n ∧ mem b n) ∧ sane (meet2 a b) ∧ (meet2 a b).length ≤ a.length + b.length := by
  refine ⟨Ev.bind (sknown_s ha (by omega)) (Ev.bind (sknown_s hb (by omega)) ?_), fun n => ?_, ?_, ?_⟩
  · have := Meet_l0 _ a b [] [] [] rfl (by simp; omega) (by simp; omega) (by simp; omega)
    simpa using this
  · exact meet2_mem _ a b _ _ rfl ha hb n
  · have := meet2_sane _ a b _ _ rfl ha hb
    rw [Int.max_self] at this
    exact this
  · exact meet2_len _ a b rfl
theorem setL_snoc (c : UInt8) : ∀ (l : List UInt8) (out : List S42), setL (l ++ [c]) out = (setL l out).flatMap (stepR c)
  | [], out => rfl
  | x :: l, out => by simp only [List.cons_append, setL]; exact setL_snoc c l _
theorem setL_fine (s : ByteArray) (h : saneL s.data.toList = true) : fine (setL s.data.toList [⟨0, 0⟩]) 10000 := by
  have ho := ok_of (s := s) (congrArg some h)
  have step : ∀ p, p ≤ s.size → ∃ out, setInv s p out := fun p => by
    induction p with
    | zero => exact fun _ => ⟨_, setInv_0 s⟩
    | succ p ih =>
      intro hp
      obtain ⟨out, hi⟩ := ih (by omega)
      exact ⟨_, setInv_step (by omega) (ho p (by omega)) hi⟩
  obtain ⟨out, h1, h2, h3⟩ := step s.size (Nat.le_refl _)
  have hd : setL (s.data.toList.drop s.size) out = out := by rw [List.drop_eq_nil_of_le (by rw [bsize]; exact Nat.le_refl _)]; rfl
  rw [hd] at h1
  rw [← h1]
  have h4 : s.size ≤ 4 := by rw [bsize]; exact (sane_all h).2.2
  have h10 : (10 ^ s.size : Nat) ≤ 10000 := Nat.pow_le_pow_right (n := 10) (by decide) h4
  have : ((10 ^ s.size : Nat) : Int) ≤ 10000 := Int.ofNat_le.2 h10
  exact fun q hq => by obtain ⟨a, b, c⟩ := h2 q hq; exact ⟨a, b, by omega⟩
theorem bt_list (s : ByteArray) (i : Nat) (h : i < s.data.toList.length) : bt s (i : Int) = ((s.data.toList[i]).toNat : Int) := by
  unfold bt
  rw [Int.toNat_natCast, dif_pos (by rw [bsize]; exact h)]
  simp [ByteArray.getElem_eq_getElem_data]
theorem pow_small {m n : Nat} (h : m ≤ n) (hn : n ≤ 4) : (10 ^ m : Nat) ≤ 10000 := Nat.pow_le_pow_right (n := 10) (by decide) (Nat.le_trans h hn)
def refR : List UInt8 → Nat → Bool
  | [], _ => true
  | c :: r, u => (decide (c.toNat = 88) || decide (c.toNat = 48 + u % 10)) && refR r (u / 10)
def refV (s : List UInt8) (n : Int) : Bool := saneL s && decide (0 ≤ n) && decide (n < ((10 ^ s.length : Nat) : Int)) && refR s.reverse n.toNat
def gap : Int → List S42 → Prop
  | _, [] => True
  | a, r :: t => a + 2 ≤ r.f0 ∧ r.f0 ≤ r.f1 ∧ gap r.f1 t
theorem gap_le {a b : Int} {l : List S42} (h : gap a l) (hb : b ≤ a) : gap b l := by
  cases l with
  | nil => trivial
  | cons r t => exact ⟨by have := h.1; omega, h.2.1, h.2.2⟩
theorem gap_app : ∀ {u : List S42} {a c : Int} {v : List S42}, gap a u → (∀ x, x ∈ u → x.f1 ≤ c) → a ≤ c → gap c v → gap a (u ++ v)
  | [], a, c, v, _, _, hc, hv => gap_le hv hc
  | x :: u, a, c, v, ⟨h1, h2, h3⟩, hu, hc, hv => ⟨h1, h2, gap_app h3 (fun y hy => hu y (List.mem_cons_of_mem _ hy)) (hu x List.mem_cons_self) hv⟩
theorem gap_sane : ∀ {l : List S42} {a : Int}, gap a l → (∀ x, x ∈ l → x.f1 ≤ lim) → saneF a l
  | [], _, _, _ => trivial
  | x :: l, a, ⟨h1, h2, h3⟩, h => ⟨h1, h2, h x List.mem_cons_self, gap_sane h3 (fun y hy => h y (List.mem_cons_of_mem _ hy))⟩
theorem gap_ones (c : Int) : ∀ (m : Nat) (lo a : Int), a + 2 ≤ lo * 10 + (c - 48) → gap a ((upto lo m).map (one c))
  | 0, _, _, _ => trivial
  | m + 1, lo, a, h => ⟨h, Int.le_refl _, gap_ones c m (lo + 1) _ (by simp only [one]; omega)⟩
theorem gap_step (c : UInt8) (hc : 48 ≤ c.toNat ∧ c.toNat ≤ 57 ∨ c.toNat = 88) : ∀ (l : List S42) (a : Int), gap a l → gap (10 * a + 9) (l.flatMap (stepR c))
  | [], _, _ => trivial
  | q :: l, a, ⟨h1, h2, h3⟩ => by
    rw [List.flatMap_cons]
    refine gap_app (c := 10 * q.f1 + 9) ?_ ?_ (by omega) (gap_step c hc l q.f1 h3)
    · unfold stepR
      split
      · exact ⟨by simp only; omega, by simp only; omega, trivial⟩
      · exact gap_ones (c.toNat : Int) _ q.f0 _ (by omega)
    · intro x hx
      unfold stepR at hx
      split at hx
      · obtain rfl := List.mem_singleton.1 hx
        simp only; omega
      · obtain ⟨n, hn, rfl⟩ := List.mem_map.1 hx
        have := (upto_mem _ _ _).1 hn
        simp only; omega
theorem gap_set : ∀ (r : List UInt8), (∀ c, c ∈ r → 48 ≤ c.toNat ∧ c.toNat ≤ 57 ∨ c.toNat = 88) → gap (-((10 ^ r.length : Nat) : Int) - 1) (setL r.reverse [(⟨0, 0⟩ : S42)])
  | [], _ => ⟨by decide, Int.le_refl _, trivial⟩
  | c :: r, h => by
    have ih := gap_step c (h c List.mem_cons_self) _ _ (gap_set r (fun x hx => h x (List.mem_cons_of_mem _ hx)))
    rw [List.reverse_cons, setL_snoc, List.length_cons, Nat.pow_succ]
    refine gap_le ih ?_
    rw [Int.natCast_mul]
    generalize ((10 ^ r.length : Nat) : Int) = q
    omega
theorem mem_step (c : UInt8) (hc : 48 ≤ c.toNat ∧ c.toNat ≤ 57 ∨ c.toNat = 88) (l : List S42) (n : Int) : mem (l.flatMap (stepR c)) n ↔ mem l (n / 10) ∧ (c.toNat = 88 ∨ (c.toNat : Int) = 48 + n % 10) := by
  constructor
  · rintro ⟨x, hx, h1, h2⟩
    obtain ⟨q, hq, hx⟩ := List.mem_flatMap.1 hx
    unfold stepR at hx
    by_cases h : c.toNat = 88
    · rw [if_pos h] at hx
      obtain rfl := List.mem_singleton.1 hx
      simp only at h1 h2
      exact ⟨⟨q, hq, by omega, by omega⟩, .inl h⟩
    · rw [if_neg h] at hx
      obtain ⟨m, hm, rfl⟩ := List.mem_map.1 hx
      have hm := (upto_mem _ _ _).1 hm
      simp only at h1 h2
      exact ⟨⟨q, hq, by omega, by omega⟩, .inr (by omega)⟩
  · rintro ⟨⟨q, hq, h1, h2⟩, h⟩
    by_cases h8 : c.toNat = 88
    · exact ⟨⟨q.f0 * 10, q.f1 * 10 + 9⟩, List.mem_flatMap.2 ⟨q, hq, by unfold stepR; rw [if_pos h8]; exact List.mem_singleton.2 rfl⟩, by simp only; omega, by simp only; omega⟩
    · have h9 := h.resolve_left h8
      refine ⟨⟨(n / 10) * 10 + ((c.toNat : Int) - 48), (n / 10) * 10 + ((c.toNat : Int) - 48)⟩, List.mem_flatMap.2 ⟨q, hq, ?_⟩, by simp only; omega, by simp only; omega⟩
      unfold stepR
      rw [if_neg h8]
      exact List.mem_map.2 ⟨n / 10, (upto_mem _ _ _).2 ⟨h1, by omega⟩, rfl⟩
theorem mem_set : ∀ (r : List UInt8), (∀ c, c ∈ r → 48 ≤ c.toNat ∧ c.toNat ≤ 57 ∨ c.toNat = 88) → ∀ n : Int, mem (setL r.reverse [(⟨0, 0⟩ : S42)]) n ↔ 0 ≤ n ∧ n < ((10 ^ r.length : Nat) : Int) ∧ refR r n.toNat = true
  | [], _, n => by
    rw [List.reverse_nil, setL, mem_cons]
    simp [mem_nil, refR]; omega
  | c :: r, h, n => by
    have ih := mem_set r (fun x hx => h x (List.mem_cons_of_mem _ hx)) (n / 10)
    rw [List.reverse_cons, setL_snoc, mem_step c (h c List.mem_cons_self), ih, List.length_cons, Nat.pow_succ, Int.natCast_mul, refR, Bool.and_eq_true, Bool.or_eq_true, decide_eq_true_eq, decide_eq_true_eq]
    generalize ((10 ^ r.length : Nat) : Int) = q
    constructor
    · rintro ⟨⟨h1, h2, h3⟩, h4⟩
      have e : (n / 10).toNat = n.toNat / 10 := by omega
      rw [e] at h3
      exact ⟨by omega, by show n < q * 10; omega, by omega, h3⟩
    · rintro ⟨h1, h2, h4, h3⟩
      have e : (n / 10).toNat = n.toNat / 10 := by omega
      have h2 : n < q * 10 := h2
      rw [e]
      exact ⟨⟨by omega, by omega, h3⟩, by omega⟩
theorem sane_ok {l : List UInt8} (hs : saneL l = true) : ∀ c, c ∈ l.reverse → 48 ≤ c.toNat ∧ c.toNat ≤ 57 ∨ c.toNat = 88 := fun c hc => of_decide_eq_true (List.all_eq_true.1 (sane_all hs).1 c (List.mem_reverse.1 hc))
theorem set_is (s : ByteArray) (hs : saneL s.data.toList = true) : sane (setL s.data.toList [⟨0, 0⟩]) ∧ ∀ n, mem (setL s.data.toList [⟨0, 0⟩]) n ↔ refV s.data.toList n = true := by
  have h1 := gap_set s.data.toList.reverse (sane_ok hs)
  have h2 := mem_set s.data.toList.reverse (sane_ok hs)
  have hf := setL_fine s hs
  rw [List.reverse_reverse, List.length_reverse] at h1 h2
  have hp := pow_small (m := s.data.toList.length) (n := 4) (sane_all hs).2.2 (by omega)
  refine ⟨saneF_le (gap_sane h1 (fun x hx => by have := (hf x hx).2.2; unfold lim; omega)) (by unfold lim; omega), fun n => ?_⟩
  rw [h2 n]
  unfold refV
  rw [hs, Bool.true_and, Bool.and_eq_true, Bool.and_eq_true, decide_eq_true_eq, decide_eq_true_eq, and_assoc]
def setV (s : ByteArray) : List S42 := if saneL s.data.toList = true then setL s.data.toList [⟨0, 0⟩] else []
theorem setL_len (s : ByteArray) (h : saneL s.data.toList = true) : (setL s.data.toList [⟨0, 0⟩]).length ≤ 1000000 := by
  have ho := ok_of (s := s) (congrArg some h)
  have step : ∀ p, p ≤ s.size → ∃ out, setInv s p out := fun p => by
    induction p with
    | zero => exact fun _ => ⟨_, setInv_0 s⟩
    | succ p ih =>
      intro hp
      obtain ⟨out, hi⟩ := ih (by omega)
      exact ⟨_, setInv_step (by omega) (ho p (by omega)) hi⟩
  obtain ⟨out, h1, h2, h3⟩ := step s.size (Nat.le_refl _)
  have hd : setL (s.data.toList.drop s.size) out = out := by rw [List.drop_eq_nil_of_le (by rw [bsize]; exact Nat.le_refl _)]; rfl
  rw [hd] at h1
  rw [← h1]
  have h4 : s.size ≤ 4 := by rw [bsize]; exact (sane_all h).2.2
  have hl : lenB s.size ≤ 1000000 := by
    rcases (by omega : s.size = 0 ∨ s.size = 1 ∨ s.size = 2 ∨ s.size = 3 ∨ s.size = 4) with e | e | e | e | e <;> rw [e] <;> decide
  omega
theorem refV_sane {l : List UInt8} {n : Int} (h : saneL l = false) : refV l n = false := by unfold refV; rw [h]; rfl
theorem setV_is (s : ByteArray) : sane (setV s) ∧ (setV s).length ≤ 1000000 ∧ ∀ n, mem (setV s) n ↔ refV s.data.toList n = true := by
  unfold setV
  by_cases h : saneL s.data.toList = true
  · rw [if_pos h]
    exact ⟨(set_is s h).1, setL_len s h, (set_is s h).2⟩
  · rw [if_neg h]
    refine ⟨trivial, by simp, fun n => ?_⟩
    rw [refV_sane (Bool.eq_false_iff.2 h)]
    simp [mem_nil]
def numsR (r : S42) : List Int := upto r.f0 (r.f1 + 1 - r.f0).toNat
theorem nums_l1 (s : List S42) (i lo hi R' : Int) (hh : hi ≤ 1000) {R : List Int} : ∀ (m : Nat) (x : Int) (acc : List Int), 0 ≤ x → x + m = hi + 1 ∨ (m = 0 ∧ hi < x) → acc.length + m < 17592186044416 →
    Ev (fun k => point_numbers.l0 k (acc ++ upto x m) s (s.length : Int) (wrap64 (i + 1))) R → Ev (fun k => point_numbers.l1 k acc x s (s.length : Int) i lo hi) R
  | 0, x, acc, h0, hx, hl, h => by
    refine Ev.step (f := fun k => point_numbers.l0 k acc s (s.length : Int) (wrap64 (i + 1))) (fun k => by rw [point_numbers.l1, if_neg (by omega)]) ?_
    simpa [upto] using h
  | m + 1, x, acc, h0, hx, hl, h => by
    refine Ev.step (f := fun k => point_numbers.l1 k (acc ++ [x]) (x + 1) s (s.length : Int) i lo hi) (fun k => by rw [point_numbers.l1, if_pos (by omega), if_pos (by omega), w64 (by omega) (by omega)]) ?_
    refine nums_l1 s i lo hi R' hh m (x + 1) (acc ++ [x]) (by omega) (by omega) (by rw [List.length_append, List.length_singleton]; omega) ?_
    rw [List.append_assoc, List.singleton_append]
    exact h
theorem nums_l0 : ∀ (t p : List S42) (acc : List Int), (∀ r, r ∈ t → 1 ≤ r.f0 ∧ r.f1 ≤ 31) → acc.length + 32 * t.length < 17592186044416 → (p ++ t).length ≤ 4611686018427387904 →
    Ev (fun k => point_numbers.l0 k acc (p ++ t) ((p ++ t).length : Int) (p.length : Int)) (acc ++ t.flatMap numsR)
  | [], p, acc, _, _, _ => Ev.step (f := fun _ => some (acc ++ [])) (fun k => by rw [point_numbers.l0, if_neg (at_end p), List.append_nil]) (Ev.now _)
  | r :: t, p, acc, hr, hl, hp => by
    have h1 := hr r List.mem_cons_self
    refine Ev.step (f := fun k => point_numbers.l1 k acc r.f0 (p ++ r :: t) ((p ++ r :: t).length : Int) (p.length : Int) r.f0 r.f1) (fun k => by rw [point_numbers.l0, if_pos (at_lt p r t), if_pos (at_0 p), if_pos (at_lt p r t), at_rd]) ?_
    have hm : (r.f1 + 1 - r.f0).toNat ≤ 31 := by omega
    rw [List.length_cons] at hl
    refine nums_l1 (p ++ r :: t) (p.length : Int) r.f0 r.f1 0 (by omega) (r.f1 + 1 - r.f0).toNat r.f0 acc (by omega) (by omega) (by omega) ?_
    rw [at_next hp]
    have := nums_l0 t (p ++ [r]) (acc ++ numsR r) (fun q hq => hr q (List.mem_cons_of_mem _ hq)) (by rw [List.length_append]; unfold numsR; rw [upto_len]; omega) (by rw [← at_app]; exact hp)
    rw [← at_app] at this
    rw [List.flatMap_cons, ← List.append_assoc]
    exact this
def anyV (l : List UInt8) (i : Int) : Nat → Bool
  | 0 => false
  | m + 1 => refV l i || anyV l (i + 1) m
theorem anyV_iff (l : List UInt8) : ∀ (m : Nat) (i : Int), anyV l i m = true ↔ ∃ n, i ≤ n ∧ n < i + m ∧ refV l n = true
  | 0, i => by
    simp only [anyV]
    exact ⟨fun h => absurd h (by simp), fun ⟨n, h1, h2, _⟩ => by omega⟩
  | m + 1, i => by
    rw [anyV, Bool.or_eq_true, anyV_iff l m (i + 1)]
    constructor
    · rintro (h | ⟨n, h1, h2, h3⟩)
      · exact ⟨i, by omega, by omega, h⟩
      · exact ⟨n, by omega, by omega, h3⟩
    · rintro ⟨n, h1, h2, h3⟩
      rcases (by omega : n = i ∨ i + 1 ≤ n) with rfl | h
      · exact .inl h3
      · exact .inr ⟨n, h, by omega, h3⟩
theorem numbers_f (s : ByteArray) (m : Nat) (hm : 1 ≤ m ∧ m ≤ 31) : ∃ L : List Int, Ev (fun k => point_numbers.f k s (m : Int)) L ∧ (L ≠ [] ↔ anyV s.data.toList 1 m = true) := by
  obtain ⟨h1, h2, h3⟩ := setV_is s
  have hb : sane [(⟨1, (m : Int)⟩ : S42)] := ⟨by show -lim - 2 + 2 ≤ (1 : Int); unfold lim; omega, by show (1 : Int) ≤ (m : Int); omega, by show (m : Int) ≤ lim; unfold lim; omega, trivial⟩
  obtain ⟨e1, e2, e3, e4⟩ := Meet_s h1 hb (by simp; omega)
  have hin : ∀ r, r ∈ meet2 (setV s) [(⟨1, (m : Int)⟩ : S42)] → r.f0 ≤ r.f1 ∧ 1 ≤ r.f0 ∧ r.f1 ≤ (m : Int) := fun r hr => by
    have hle : r.f0 ≤ r.f1 := by
      have : ∀ {a : Int} {l : List S42}, saneF a l → ∀ q, q ∈ l → q.f0 ≤ q.f1 := by
        intro a l
        induction l generalizing a with
        | nil => intro _ q hq; cases hq
        | cons x t ih =>
          intro h q hq
          rcases List.mem_cons.1 hq with rfl | hq
          · exact h.2.1
          · exact ih h.2.2.2 q hq
      exact this e3 r hr
    have ha := (e2 r.f0).1 ⟨r, hr, Int.le_refl _, hle⟩
    have hc := (e2 r.f1).1 ⟨r, hr, hle, Int.le_refl _⟩
    have ha := (mem_one _ _).1 ha.2
    have hc := (mem_one _ _).1 hc.2
    simp only at ha hc
    exact ⟨hle, ha.1, hc.2⟩
  refine ⟨(meet2 (setV s) [(⟨1, (m : Int)⟩ : S42)]).flatMap numsR, ?_, ?_⟩
  · refine Ev.bnow (x := setV s) rfl ?_
    refine Ev.bind (Ev.bind e1 (Ev.now _)) ?_
    have := nums_l0 (meet2 (setV s) [(⟨1, (m : Int)⟩ : S42)]) [] [] (fun r hr => ⟨(hin r hr).2.1, by have := (hin r hr).2.2; omega⟩) (by simp at e4 ⊢; omega) (by simp at e4 ⊢; omega)
    simpa using this
  · rw [anyV_iff]
    constructor
    · intro h
      obtain ⟨n, hn⟩ := List.exists_mem_of_ne_nil _ h
      obtain ⟨r, hr, hn⟩ := List.mem_flatMap.1 hn
      have hn := (upto_mem _ _ _).1 hn
      obtain ⟨a, b, c⟩ := hin r hr
      have hmem := (e2 n).1 ⟨r, hr, hn.1, by omega⟩
      exact ⟨n, by omega, by omega, (h3 n).1 hmem.1⟩
    · rintro ⟨n, ha, hc, hv⟩
      obtain ⟨r, hr, hn1, hn2⟩ := (e2 n).2 ⟨(h3 n).2 hv, (mem_one _ _).2 ⟨by simp only; omega, by simp only; omega⟩⟩
      intro he
      have : n ∈ (meet2 (setV s) [(⟨1, (m : Int)⟩ : S42)]).flatMap numsR := List.mem_flatMap.2 ⟨r, hr, (upto_mem _ _ _).2 ⟨hn1, by omega⟩⟩
      rw [he] at this
      cases this
def someV (s : ByteArray) (n : Int) (m : Nat) : Bool := decide ((s.size : Int) = n) && anyV s.data.toList 1 m
theorem some_f (s : ByteArray) (n : Int) (m : Nat) (hm : 1 ≤ m ∧ m ≤ 31) : Ev (fun k => point_some.f k s n (m : Int)) (someV s n m) := by
  unfold someV
  by_cases h : (s.size : Int) = n
  · rw [decide_eq_true h, Bool.true_and]
    refine Ev.ift h ?_
    obtain ⟨L, h1, h2⟩ := numbers_f s m hm
    refine Ev.bind h1 (Ev.eq (Ev.now _) ?_)
    cases hv : anyV s.data.toList 1 m with
    | true =>
      have := h2.2 hv
      cases L with
      | nil => exact absurd rfl this
      | cons x t => exact decide_eq_true (by simp)
    | false =>
      cases L with
      | nil => rfl
      | cons x t => exact absurd (h2.1 (by simp)) (by rw [hv]; simp)
  · rw [decide_eq_false h, Bool.false_and]
    exact Ev.iff_ h (Ev.now _)
def emptyV (s : ByteArray) : Bool := s.toList == ([] : List UInt8)
def ptV (p : S23) : Bool := saneL p.f1.data.toList && (
  if p.f0 = 0 then decide ((p.f1.size : Int) = 4) && (someV p.f2 2 12 && someV p.f3 2 31)
  else if p.f0 = 1 then decide ((p.f1.size : Int) = 4) && (someV p.f2 2 12 && emptyV p.f3)
  else if p.f0 = 2 then decide ((p.f1.size : Int) = 4) && (someV p.f2 1 4 && emptyV p.f3)
  else if p.f0 = 3 then decide ((p.f1.size : Int) = 4) && (emptyV p.f2 && emptyV p.f3)
  else if p.f0 = 4 then decide ((p.f1.size : Int) = 3) && (emptyV p.f2 && emptyV p.f3)
  else if p.f0 = 5 then decide ((p.f1.size : Int) = 2) && (emptyV p.f2 && emptyV p.f3)
  else false)
theorem Ev.cond {c : Prop} [Decidable c] {g : Nat → Option Bool} {r : Bool} (h : c → Ev g r) : Ev (fun k => if c then g k else some false) (decide c && r) := by
  by_cases hc : c
  · rw [decide_eq_true hc, Bool.true_and]; exact Ev.ift hc (h hc)
  · rw [decide_eq_false hc, Bool.false_and]; exact Ev.iff_ hc (Ev.now _)
theorem Ev.andb {a : Nat → Option Bool} {g : Nat → Option Bool} {x r : Bool} (h1 : Ev a x) (h2 : Ev g r) : Ev (fun k => (a k).bind fun t => if t = true then g k else some false) (x && r) := by
  refine Ev.bind h1 ?_
  cases x with
  | true => rw [Bool.true_and]; exact Ev.ift rfl h2
  | false => exact Ev.iff_ (by simp) (Ev.now _)
theorem Ev.pick {c : Prop} [Decidable c] {g f : Nat → Option Bool} {r q : Bool} (h1 : Ev g r) (h2 : Ev f q) : Ev (fun k => if c then g k else f k) (if c then r else q) := by
  by_cases hc : c
  · rw [if_pos hc]; exact Ev.ift hc h1
  · rw [if_neg hc]; exact Ev.iff_ hc h2
theorem Ev.self {a : Nat → Option Bool} {x : Bool} (h : Ev a x) : Ev (fun k => (a k).bind fun t => some t) x := Ev.bind h (Ev.now _)
theorem bare_and (a b : ByteArray) : (if a.toList = ([] : List UInt8) then emptyV b else false) = (emptyV a && emptyV b) := by
  unfold emptyV
  by_cases h : a.toList = []
  · rw [if_pos h, h]; rfl
  · rw [if_neg h]
    have : (a.toList == ([] : List UInt8)) = false := by cases hl : a.toList with
      | nil => exact absurd hl h
      | cons x t => rfl
    rw [this]; rfl
theorem ptSane_f (p : S23) : Ev (fun k => point_Sane.f k p.f0 p.f1 p.f2 p.f3) (ptV p) := by
  unfold ptV
  refine Ev.bnow (x := saneL p.f1.data.toList) rfl ?_
  have hj : ∀ b : Bool, b = (emptyV p.f2 && emptyV p.f3) → Ev (fun k => point_Sane.j0 k b p.f0 p.f1 p.f2 p.f3) (
      if p.f0 = 0 then decide ((p.f1.size : Int) = 4) && (someV p.f2 2 12 && someV p.f3 2 31)
      else if p.f0 = 1 then decide ((p.f1.size : Int) = 4) && (someV p.f2 2 12 && emptyV p.f3)
      else if p.f0 = 2 then decide ((p.f1.size : Int) = 4) && (someV p.f2 1 4 && emptyV p.f3)
      else if p.f0 = 3 then decide ((p.f1.size : Int) = 4) && (emptyV p.f2 && emptyV p.f3)
      else if p.f0 = 4 then decide ((p.f1.size : Int) = 3) && (emptyV p.f2 && emptyV p.f3)
      else if p.f0 = 5 then decide ((p.f1.size : Int) = 2) && (emptyV p.f2 && emptyV p.f3)
      else false) := fun b hb => by
    subst hb
    refine Ev.step (fun k => by rw [point_Sane.j0]) ?_
    refine Ev.pick (Ev.cond fun _ => Ev.andb (some_f p.f2 2 12 (by omega)) (Ev.self (some_f p.f3 2 31 (by omega)))) ?_
    refine Ev.pick (Ev.cond fun _ => Ev.andb (some_f p.f2 2 12 (by omega)) (Ev.now _)) ?_
    refine Ev.pick (Ev.cond fun _ => Ev.andb (some_f p.f2 1 4 (by omega)) (Ev.now _)) ?_
    refine Ev.pick (Ev.cond fun _ => Ev.now _) ?_
    refine Ev.pick (Ev.cond fun _ => Ev.now _) ?_
    exact Ev.pick (Ev.cond fun _ => Ev.now _) (Ev.now _)
  cases hs : saneL p.f1.data.toList with
  | false => exact Ev.iff_ (by simp) (Ev.now _)
  | true =>
    rw [Bool.true_and]
    refine Ev.ift rfl ?_
    have hb := bare_and p.f2 p.f3
    by_cases h : p.f2.toList = ([] : List UInt8)
    · rw [if_pos h] at hb
      exact Ev.ift h (hj _ hb)
    · rw [if_neg h] at hb
      exact Ev.iff_ h (hj _ hb)
def bA (l : List UInt8) : ByteArray := ⟨l.toArray⟩
theorem bA_data (l : List UInt8) : (bA l).data.toList = l := rfl
theorem bA_size (l : List UInt8) : (bA l).size = l.length := by rw [bsize, bA_data]
theorem ba_eq {a b : ByteArray} (h : a.data.toList = b.data.toList) : a = b := by
  cases a; cases b
  simp only at h
  rw [Array.toList_inj] at h
  rw [h]
theorem bA_mk (s : ByteArray) : bA s.data.toList = s := ba_eq rfl
theorem bA_toList (l : List UInt8) : (bA l).toList = l := by rw [ByteArray.toList_eq]; rfl
theorem ba_toList (s : ByteArray) : s.toList = s.data.toList := ByteArray.toList_eq s
def ptRaw (p : S23) : List UInt8 :=
  if p.f0 = 0 then p.f1.data.toList ++ 45 :: (p.f2.data.toList ++ 45 :: p.f3.data.toList)
  else if p.f0 = 1 then p.f1.data.toList ++ 45 :: p.f2.data.toList
  else if p.f0 = 2 then p.f1.data.toList ++ 115 :: p.f2.data.toList
  else if p.f0 = 4 then p.f1.data.toList ++ [100]
  else if p.f0 = 5 then p.f1.data.toList ++ [99]
  else p.f1.data.toList
def ptTxt (p : S23) : List UInt8 := if ptV p = true then ptRaw p else []
theorem any_sane {l : List UInt8} {m : Nat} {i : Int} (h : anyV l i m = true) : l.all okB = true := by
  obtain ⟨n, _, _, hn⟩ := (anyV_iff l m i).1 h
  cases hs : saneL l with
  | true => exact (sane_all hs).1
  | false => rw [refV_sane hs] at hn; cases hn
theorem pt_kinds {p : S23} (h : ptV p = true) : p.f1.data.toList.all okB = true ∧
    (p.f0 = 0 ∧ p.f1.data.toList.length = 4 ∧ p.f2.data.toList.length = 2 ∧ p.f2.data.toList.all okB = true ∧ p.f3.data.toList.length = 2 ∧ p.f3.data.toList.all okB = true
    ∨ p.f0 = 1 ∧ p.f1.data.toList.length = 4 ∧ p.f2.data.toList.length = 2 ∧ p.f2.data.toList.all okB = true ∧ p.f3.data.toList = []
    ∨ p.f0 = 2 ∧ p.f1.data.toList.length = 4 ∧ p.f2.data.toList.length = 1 ∧ p.f2.data.toList.all okB = true ∧ p.f3.data.toList = []
    ∨ p.f0 = 3 ∧ p.f1.data.toList.length = 4 ∧ p.f2.data.toList = [] ∧ p.f3.data.toList = []
    ∨ p.f0 = 4 ∧ p.f1.data.toList.length = 3 ∧ p.f2.data.toList = [] ∧ p.f3.data.toList = []
    ∨ p.f0 = 5 ∧ p.f1.data.toList.length = 2 ∧ p.f2.data.toList = [] ∧ p.f3.data.toList = []) := by
  have em : ∀ {s : ByteArray}, emptyV s = true → s.data.toList = [] := fun {s} h => by
    unfold emptyV at h
    rw [ba_toList] at h
    exact beq_iff_eq.1 h
  unfold ptV at h
  rw [Bool.and_eq_true] at h
  obtain ⟨h1, h2⟩ := h
  refine ⟨(sane_all h1).1, ?_⟩
  by_cases c0 : p.f0 = 0
  · rw [if_pos c0] at h2
    simp only [someV, Bool.and_eq_true, decide_eq_true_eq, bsize] at h2
    exact .inl ⟨c0, by omega, by omega, any_sane h2.2.1.2, by omega, any_sane h2.2.2.2⟩
  rw [if_neg c0] at h2
  by_cases c1 : p.f0 = 1
  · rw [if_pos c1] at h2
    simp only [someV, Bool.and_eq_true, decide_eq_true_eq, bsize] at h2
    exact .inr (.inl ⟨c1, by omega, by omega, any_sane h2.2.1.2, em h2.2.2⟩)
  rw [if_neg c1] at h2
  by_cases c2 : p.f0 = 2
  · rw [if_pos c2] at h2
    simp only [someV, Bool.and_eq_true, decide_eq_true_eq, bsize] at h2
    exact .inr (.inr (.inl ⟨c2, by omega, by omega, any_sane h2.2.1.2, em h2.2.2⟩))
  rw [if_neg c2] at h2
  by_cases c3 : p.f0 = 3
  · rw [if_pos c3] at h2
    simp only [Bool.and_eq_true, decide_eq_true_eq, bsize] at h2
    exact .inr (.inr (.inr (.inl ⟨c3, by omega, em h2.2.1, em h2.2.2⟩)))
  rw [if_neg c3] at h2
  by_cases c4 : p.f0 = 4
  · rw [if_pos c4] at h2
    simp only [Bool.and_eq_true, decide_eq_true_eq, bsize] at h2
    exact .inr (.inr (.inr (.inr (.inl ⟨c4, by omega, em h2.2.1, em h2.2.2⟩))))
  rw [if_neg c4] at h2
  by_cases c5 : p.f0 = 5
  · rw [if_pos c5] at h2
    simp only [Bool.and_eq_true, decide_eq_true_eq, bsize] at h2
    exact .inr (.inr (.inr (.inr (.inr ⟨c5, by omega, em h2.2.1, em h2.2.2⟩))))
  rw [if_neg c5] at h2
  cases h2
theorem ext_bA (p l r : List UInt8) : (bA (p ++ (l ++ r))).extract p.length (p.length + l.length) = bA l := ba_eq (by
  rw [ByteArray.data_extract, Array.toList_extract, bA_data]
  simp [List.extract]
  rfl)
theorem ext_end (p r : List UInt8) : (bA (p ++ r)).extract p.length (bA (p ++ r)).size = bA r := ba_eq (by
  rw [ByteArray.data_extract, Array.toList_extract, bA_data, bA_size]
  simp [List.extract]
  rfl)
theorem bt_mid (p : List UInt8) (c : UInt8) (r : List UInt8) : bt (bA (p ++ c :: r)) (p.length : Int) = (c.toNat : Int) := by
  rw [bt_list _ _ (by rw [bA_data]; simp)]
  simp [bA_data]
def e0 : ByteArray := ⟨#[]⟩
theorem index_no : ∀ (l : List UInt8) (c : UInt8), c ∉ l → Lib.indexByte l c = -1
  | [], c, _ => by simp [Lib.indexByte]
  | b :: l, c, h => by
    rw [List.mem_cons, not_or] at h
    have e : (b == c) = false := by simpa using Ne.symm h.1
    rw [Lib.indexByte, e, index_no l c h.2]; rfl
theorem index_yes : ∀ (a b : List UInt8) (c : UInt8), c ∉ a → Lib.indexByte (a ++ c :: b) c = (a.length : Int)
  | [], b, c, _ => by simp [Lib.indexByte]
  | x :: a, b, c, h => by
    rw [List.mem_cons, not_or] at h
    have e : (x == c) = false := by simpa using Ne.symm h.1
    rw [List.cons_append, Lib.indexByte, e, index_yes a b c h.2]
    simp only [Bool.false_eq_true, if_false, List.length_cons, beq_iff_eq]
    rw [if_neg (by omega)]; omega
theorem sep_f (s : ByteArray) (c : UInt8) : stringslite_Index.f s (bA [c]) = some (Lib.indexByte s.data.toList c) := by
  have e : (bt (bA [c]) 0).toNat.toUInt8 = c := by
    have h : bt (bA [c]) 0 = (c.toNat : Int) := bt_mid [] c []
    rw [h]; exact u8eq (by simp)
  unfold stringslite_Index.f
  rw [if_pos (show (bA [c]).size = 1 from bA_size [c]), e]
theorem ext_to (a b : List UInt8) : (bA (a ++ b)).extract 0 a.length = bA a := by have := ext_bA [] a b; simpa using this
theorem Cut_no (l : List UInt8) (c : UInt8) (h : c ∉ l) : strings_Cut.f (bA l) (bA [c]) = some (bA l, e0, false) := by
  have e : stringslite_Cut.f (bA l) (bA [c]) = some (bA l, e0, false) := by
    unfold stringslite_Cut.f
    rw [sep_f, bA_data, index_no l c h]
    rfl
  unfold strings_Cut.f
  rw [e]; rfl
theorem Cut_yes (a b : List UInt8) (c : UInt8) (h : c ∉ a) (hl : (a ++ c :: b).length ≤ 4611686018427387904) : strings_Cut.f (bA (a ++ c :: b)) (bA [c]) = some (bA a, bA b, true) := by
  have e : stringslite_Cut.f (bA (a ++ c :: b)) (bA [c]) = some (bA a, bA b, true) := by
    unfold stringslite_Cut.f
    rw [sep_f, bA_data, index_yes a b c h]
    have hl' : (a ++ c :: b).length = a.length + (b.length + 1) := by simp
    have w : wrap64 ((a.length : Int) + ((bA [c]).size : Int)) = (a.length : Int) + 1 := by rw [bA_size, show (([c] : List UInt8).length : Int) = 1 from rfl]; exact w64 (by omega) (by omega)
    simp only [Option.bind_some]
    rw [w, bA_size (a ++ c :: b), if_pos (by omega), if_pos (by omega), if_pos (by omega), if_pos (by omega), if_pos (by omega), Int.toNat_natCast, ext_to]
    have e2 : ((a.length : Int) + 1).toNat = (a ++ [c]).length := by rw [List.length_append]; simp
    have e3 : (bA (a ++ c :: b)).extract ((a.length : Int) + 1).toNat (a ++ c :: b).length = bA b := by
      have := ext_end (a ++ [c]) b
      rw [bA_size, List.append_assoc] at this
      rw [e2]; exact this
    rw [e3]
  unfold strings_Cut.f
  rw [e]; rfl
theorem HasS_yes (a : List UInt8) (c : UInt8) (hl : (a ++ [c]).length ≤ 4611686018427387904) : stringslite_HasSuffix.f (bA (a ++ [c])) (bA [c]) = some true := by
  have hl' : (a ++ [c]).length = a.length + 1 := by simp
  have w : wrap64 (((bA (a ++ [c])).size : Int) - ((bA [c]).size : Int)) = (a.length : Int) := by rw [bA_size, bA_size, hl', show (([c] : List UInt8).length : Int) = 1 from rfl, w64 (by omega) (by omega)]; omega
  unfold stringslite_HasSuffix.f
  rw [w, if_pos (by rw [bA_size, bA_size]; simp; omega), if_pos (by omega), if_pos (by rw [bA_size]; omega), Int.toNat_natCast, ext_end]
  simp
theorem HasS_no (l : List UInt8) (c : UInt8) (h : ∀ a, l ≠ a ++ [c]) (hl : l.length ≤ 4611686018427387904) : stringslite_HasSuffix.f (bA l) (bA [c]) = some false := by
  unfold stringslite_HasSuffix.f
  by_cases h0 : l = []
  · subst h0; rfl
  · obtain ⟨a, x, rfl⟩ : ∃ a x, l = a ++ [x] := ⟨_, _, (List.dropLast_concat_getLast h0).symm⟩
    have hl' : (a ++ [x]).length = a.length + 1 := by simp
    have w : wrap64 (((bA (a ++ [x])).size : Int) - ((bA [c]).size : Int)) = (a.length : Int) := by rw [bA_size, bA_size, hl', show (([c] : List UInt8).length : Int) = 1 from rfl, w64 (by omega) (by omega)]; omega
    rw [w, if_pos (by rw [bA_size, bA_size]; simp; omega), if_pos (by omega), if_pos (by rw [bA_size]; omega), Int.toNat_natCast, ext_end]
    have hx : ¬ x = c := fun e => h a (by rw [e])
    rw [bA_toList, bA_toList]
    simp [hx]
theorem CutS_yes (a : List UInt8) (c : UInt8) (hl : (a ++ [c]).length ≤ 4611686018427387904) : strings_CutSuffix.f (bA (a ++ [c])) (bA [c]) = some (bA a, true) := by
  have hl' : (a ++ [c]).length = a.length + 1 := by simp
  have w : wrap64 (((bA (a ++ [c])).size : Int) - ((bA [c]).size : Int)) = (a.length : Int) := by rw [bA_size, bA_size, hl', show (([c] : List UInt8).length : Int) = 1 from rfl, w64 (by omega) (by omega)]; omega
  have e : stringslite_CutSuffix.f (bA (a ++ [c])) (bA [c]) = some (bA a, true) := by
    unfold stringslite_CutSuffix.f
    rw [HasS_yes a c hl]
    simp only [Option.bind_some, if_true]
    rw [w, if_pos (by omega), if_pos (by rw [bA_size]; omega), Int.toNat_natCast, ext_to]
  unfold strings_CutSuffix.f
  rw [e]; rfl
theorem CutS_no (l : List UInt8) (c : UInt8) (h : ∀ a, l ≠ a ++ [c]) (hl : l.length ≤ 4611686018427387904) : strings_CutSuffix.f (bA l) (bA [c]) = some (bA l, false) := by
  have e : stringslite_CutSuffix.f (bA l) (bA [c]) = some (bA l, false) := by
    unfold stringslite_CutSuffix.f
    rw [HasS_no l c h hl]; rfl
  unfold strings_CutSuffix.f
  rw [e]; rfl
abbrev gsV (l : List UInt8) : Option (Int × ByteArray × ByteArray × ByteArray) := point_guess.f (bA l)
theorem guess_any (l : List UInt8) (hl : l.length ≤ 4611686018427387904) : ∃ p : S23, gsV l = some (p.f0, p.f1, p.f2, p.f3) ∧ ptRaw p = l := by
  unfold gsV point_guess.f
  rw [show (⟨#[100]⟩ : ByteArray) = bA [100] from rfl, show (⟨#[99]⟩ : ByteArray) = bA [99] from rfl, show (⟨#[115]⟩ : ByteArray) = bA [115] from rfl, show (⟨#[45]⟩ : ByteArray) = bA [45] from rfl]
  by_cases h1 : ∃ a, l = a ++ [100]
  · obtain ⟨a, rfl⟩ := h1
    rw [CutS_yes a 100 hl]
    exact ⟨⟨4, bA a, e0, e0⟩, rfl, rfl⟩
  rw [CutS_no l 100 (fun a h => h1 ⟨a, h⟩) hl]
  by_cases h2 : ∃ a, l = a ++ [99]
  · obtain ⟨a, rfl⟩ := h2
    rw [CutS_yes a 99 hl]
    exact ⟨⟨5, bA a, e0, e0⟩, rfl, rfl⟩
  rw [CutS_no l 99 (fun a h => h2 ⟨a, h⟩) hl]
  by_cases h3 : (115 : UInt8) ∈ l
  · obtain ⟨a, b, rfl, ha⟩ := List.eq_append_cons_of_mem h3
    rw [Cut_yes a b 115 ha hl]
    exact ⟨⟨2, bA a, bA b, e0⟩, rfl, rfl⟩
  rw [Cut_no l 115 h3]
  by_cases h4 : (45 : UInt8) ∈ l
  · obtain ⟨a, b, rfl, ha⟩ := List.eq_append_cons_of_mem h4
    rw [Cut_yes a b 45 ha hl]
    simp only [Option.bind_some, if_true, if_false, Bool.false_eq_true]
    by_cases h5 : (45 : UInt8) ∈ b
    · obtain ⟨c, d, rfl, hc⟩ := List.eq_append_cons_of_mem h5
      rw [Cut_yes c d 45 hc (by simp only [List.length_append, List.length_cons] at hl ⊢; omega)]
      exact ⟨⟨0, bA a, bA c, bA d⟩, rfl, rfl⟩
    · rw [Cut_no b 45 h5]
      exact ⟨⟨1, bA a, bA b, e0⟩, rfl, rfl⟩
  · rw [Cut_no l 45 h4]
    exact ⟨⟨3, bA l, e0, e0⟩, rfl, rfl⟩
theorem ok_not {l : List UInt8} (h : l.all okB = true) (c : UInt8) (hc : okB c = false) : c ∉ l := fun hm => by
  rw [List.all_eq_true] at h
  rw [h c hm] at hc; cases hc
theorem not_end {u v : List UInt8} {c : UInt8} (hv : v ≠ []) (hc : c ∉ v) (a : List UInt8) : u ++ v ≠ a ++ [c] := fun h => by
  obtain ⟨w, x, rfl⟩ : ∃ w x, v = w ++ [x] := ⟨_, _, (List.dropLast_concat_getLast hv).symm⟩
  rw [← List.append_assoc] at h
  have e := (List.append_inj' h rfl).2
  injection e with e _
  exact hc (by rw [e]; simp)
theorem guess_raw (q : S23) (hq : ptV q = true) : gsV (ptRaw q) = some (q.f0, q.f1, q.f2, q.f3) := by
  obtain ⟨hY, hk⟩ := pt_kinds hq
  unfold gsV point_guess.f ptRaw
  rw [show (⟨#[100]⟩ : ByteArray) = bA [100] from rfl, show (⟨#[99]⟩ : ByteArray) = bA [99] from rfl, show (⟨#[115]⟩ : ByteArray) = bA [115] from rfl, show (⟨#[45]⟩ : ByteArray) = bA [45] from rfl]
  obtain ⟨k, y, m, d⟩ := q
  simp only at hY hk ⊢
  have n1 := ok_not hY 100 (by decide)
  have n2 := ok_not hY 99 (by decide)
  have n3 := ok_not hY 115 (by decide)
  have n4 := ok_not hY 45 (by decide)
  have eE : ∀ s : ByteArray, s.data.toList = [] → s = e0 := fun s h => ba_eq (by rw [h]; rfl)
  have L : ∀ l : List UInt8, l.length ≤ 100 → l.length ≤ 4611686018427387904 := fun _ h => by omega
  rcases hk with ⟨rfl, ly, lm, am, ld, ad⟩ | ⟨rfl, ly, lm, am, ld⟩ | ⟨rfl, ly, lm, am, ld⟩ | ⟨rfl, ly, lm, ld⟩ | ⟨rfl, ly, lm, ld⟩ | ⟨rfl, ly, lm, ld⟩
  · rw [if_pos rfl]
    have hd : d.data.toList ≠ [] := fun h => by rw [h] at ld; cases ld
    have S : ∀ c : UInt8, okB c = false → ∀ a, y.data.toList ++ 45 :: (m.data.toList ++ 45 :: d.data.toList) ≠ a ++ [c] := fun c hc a => by
      have := not_end (u := y.data.toList ++ 45 :: (m.data.toList ++ [45])) hd (ok_not ad c hc) a
      simpa using this
    have Ln : (y.data.toList ++ 45 :: (m.data.toList ++ 45 :: d.data.toList)).length ≤ 100 := by simp only [List.length_append, List.length_cons]; omega
    rw [CutS_no _ 100 (S 100 (by decide)) (L _ Ln), Option.bind_some, CutS_no _ 99 (S 99 (by decide)) (L _ Ln), Option.bind_some, Cut_no _ 115 (by simp [n3, ok_not am 115 (by decide), ok_not ad 115 (by decide)]), Option.bind_some, Cut_yes _ _ 45 n4 (L _ Ln), Option.bind_some]
    simp only [if_true, if_false, Bool.false_eq_true]
    rw [Cut_yes _ _ 45 (ok_not am 45 (by decide)) (L _ (by simp only [List.length_append, List.length_cons]; omega))]
    simp only [Option.bind_some, if_true, bA_mk]
  · rw [if_neg (by decide), if_pos rfl]
    have hd : m.data.toList ≠ [] := fun h => by rw [h] at lm; cases lm
    have S : ∀ c : UInt8, okB c = false → ∀ a, y.data.toList ++ 45 :: m.data.toList ≠ a ++ [c] := fun c hc a => by
      have := not_end (u := y.data.toList ++ [45]) hd (ok_not am c hc) a
      simpa using this
    have Ln : (y.data.toList ++ 45 :: m.data.toList).length ≤ 100 := by simp only [List.length_append, List.length_cons]; omega
    rw [CutS_no _ 100 (S 100 (by decide)) (L _ Ln), Option.bind_some, CutS_no _ 99 (S 99 (by decide)) (L _ Ln), Option.bind_some, Cut_no _ 115 (by simp [n3, ok_not am 115 (by decide)]), Option.bind_some, Cut_yes _ _ 45 n4 (L _ Ln), Option.bind_some]
    simp only [if_true, if_false, Bool.false_eq_true]
    rw [Cut_no _ 45 (ok_not am 45 (by decide)), eE d ld]
    simp only [Option.bind_some, if_true, if_false, Bool.false_eq_true, bA_mk]
    rfl
  · rw [if_neg (by decide), if_neg (by decide), if_pos rfl]
    have hd : m.data.toList ≠ [] := fun h => by rw [h] at lm; cases lm
    have S : ∀ c : UInt8, okB c = false → ∀ a, y.data.toList ++ 115 :: m.data.toList ≠ a ++ [c] := fun c hc a => by
      have := not_end (u := y.data.toList ++ [115]) hd (ok_not am c hc) a
      simpa using this
    have Ln : (y.data.toList ++ 115 :: m.data.toList).length ≤ 100 := by simp only [List.length_append, List.length_cons]; omega
    rw [CutS_no _ 100 (S 100 (by decide)) (L _ Ln), Option.bind_some, CutS_no _ 99 (S 99 (by decide)) (L _ Ln), Option.bind_some, Cut_yes _ _ 115 n3 (L _ Ln), Option.bind_some, eE d ld]
    simp only [if_true, if_false, Bool.false_eq_true, bA_mk]
    rfl
  · rw [if_neg (by decide), if_neg (by decide), if_neg (by decide), if_neg (by decide), if_neg (by decide)]
    have hd : y.data.toList ≠ [] := fun h => by rw [h] at ly; cases ly
    have Ln : y.data.toList.length ≤ 100 := by omega
    have S : ∀ c : UInt8, okB c = false → ∀ a, y.data.toList ≠ a ++ [c] := fun c hc a => not_end (u := []) hd (ok_not hY c hc) a
    rw [CutS_no _ 100 (S 100 (by decide)) (L _ Ln), Option.bind_some, CutS_no _ 99 (S 99 (by decide)) (L _ Ln), Option.bind_some, Cut_no _ 115 n3, Option.bind_some, Cut_no _ 45 n4, eE d ld, eE m lm]
    simp only [Option.bind_some, if_true, if_false, Bool.false_eq_true, bA_mk]
    rfl
  · rw [if_neg (by decide), if_neg (by decide), if_neg (by decide), if_pos rfl]
    rw [CutS_yes _ 100 (L _ (by simp only [List.length_append, List.length_cons, List.length_nil]; omega)), eE d ld, eE m lm]
    simp only [Option.bind_some, if_true, bA_mk]
    rfl
  · rw [if_neg (by decide), if_neg (by decide), if_neg (by decide), if_neg (by decide), if_pos rfl]
    have S : ∀ a, y.data.toList ++ [99] ≠ a ++ [100] := fun a => not_end (by simp) (by decide) a
    have Ln : (y.data.toList ++ [99]).length ≤ 100 := by simp only [List.length_append, List.length_cons, List.length_nil]; omega
    rw [CutS_no _ 100 S (L _ Ln), Option.bind_some, CutS_yes _ 99 (L _ Ln), eE d ld, eE m lm]
    simp only [Option.bind_some, if_true, if_false, Bool.false_eq_true, bA_mk]
    rfl
theorem read_any (l : List UInt8) (hl : l.length ≤ 4611686018427387904) : (∃ p : S23, ptV p = true ∧ ptTxt p = l ∧ Ev (fun k => point_Read.f k (bA l)) (p.f0, p.f1, p.f2, p.f3, true)) ∨ (∀ p : S23, ptV p = true → ptTxt p ≠ l) ∧ Ev (fun k => point_Read.f k (bA l)) (0, e0, e0, e0, false) := by
  obtain ⟨p, h1, h2⟩ := guess_any l hl
  have hs := ptSane_f p
  cases hp : ptV p with
  | true =>
    rw [hp] at hs
    exact .inl ⟨p, hp, by unfold ptTxt; rw [if_pos hp]; exact h2, Ev.bnow (x := (p.f0, p.f1, p.f2, p.f3)) h1 (Ev.bind hs (Ev.ift rfl (Ev.now _)))⟩
  | false =>
    rw [hp] at hs
    refine .inr ⟨fun q hq he => ?_, Ev.bnow (x := (p.f0, p.f1, p.f2, p.f3)) h1 (Ev.bind hs (Ev.iff_ (by simp) (Ev.now _)))⟩
    unfold ptTxt at he
    rw [if_pos hq] at he
    have := guess_raw q hq
    rw [he, h1] at this
    simp only [Option.some.injEq, Prod.mk.injEq] at this
    obtain ⟨e1, e2, e3, e4⟩ := this
    have e : p = q := by cases p; cases q; simp only at e1 e2 e3 e4; rw [e1, e2, e3, e4]
    rw [e, hq] at hp; cases hp
theorem read_txt (p : S23) (hp : ptV p = true) : Ev (fun k => point_Read.f k (bA (ptTxt p))) (p.f0, p.f1, p.f2, p.f3, true) := by
  have h1 := guess_raw p hp
  have hs := ptSane_f p
  rw [hp] at hs
  unfold ptTxt
  rw [if_pos hp]
  exact Ev.bnow (x := (p.f0, p.f1, p.f2, p.f3)) h1 (Ev.bind hs (Ev.ift rfl (Ev.now _)))
theorem ba_app (a b : ByteArray) : (a ++ b).data.toList = a.data.toList ++ b.data.toList := by rw [ByteArray.data_append, Array.toList_append]
theorem empty_size {s : ByteArray} (h : emptyV s = true) : s.size = 0 := by
  unfold emptyV at h
  rw [ba_toList] at h
  rw [bsize, beq_iff_eq.1 h]; rfl
theorem pt_sizes {p : S23} (h : ptV p = true) : p.f1.size ≤ 4 ∧ p.f2.size ≤ 2 ∧ p.f3.size ≤ 2 := by
  unfold ptV at h
  rw [Bool.and_eq_true] at h
  obtain ⟨h1, h2⟩ := h
  have hy : p.f1.size ≤ 4 := by rw [bsize]; exact (sane_all h1).2.2
  refine ⟨hy, ?_⟩
  by_cases c0 : p.f0 = 0
  · rw [if_pos c0] at h2
    simp only [someV, Bool.and_eq_true, decide_eq_true_eq] at h2
    omega
  rw [if_neg c0] at h2
  by_cases c1 : p.f0 = 1
  · rw [if_pos c1] at h2
    simp only [someV, Bool.and_eq_true, decide_eq_true_eq] at h2
    have := empty_size h2.2.2
    omega
  rw [if_neg c1] at h2
  by_cases c2 : p.f0 = 2
  · rw [if_pos c2] at h2
    simp only [someV, Bool.and_eq_true, decide_eq_true_eq] at h2
    have := empty_size h2.2.2
    omega
  rw [if_neg c2] at h2
  have fin : ∀ n : Int, (decide ((p.f1.size : Int) = n) && (emptyV p.f2 && emptyV p.f3)) = true → p.f2.size ≤ 2 ∧ p.f3.size ≤ 2 := fun n h => by
    simp only [Bool.and_eq_true] at h
    have a := empty_size h.2.1
    have b := empty_size h.2.2
    omega
  by_cases c3 : p.f0 = 3
  · rw [if_pos c3] at h2; exact fin _ h2
  rw [if_neg c3] at h2
  by_cases c4 : p.f0 = 4
  · rw [if_pos c4] at h2; exact fin _ h2
  rw [if_neg c4] at h2
  by_cases c5 : p.f0 = 5
  · rw [if_pos c5] at h2; exact fin _ h2
  rw [if_neg c5] at h2
  cases h2
theorem ptText_f (p : S23) : Ev (fun k => point_Text.f k p.f0 p.f1 p.f2 p.f3) (bA (ptTxt p)) := by
  refine Ev.bind (ptSane_f p) ?_
  unfold ptTxt
  cases hv : ptV p with
  | false => exact Ev.iff_ (by simp) (Ev.eq (Ev.now _) rfl)
  | true =>
    obtain ⟨h1, h2, h3⟩ := pt_sizes hv
    have e1 : (⟨#[45]⟩ : ByteArray).size = 1 := rfl
    have e2 : (⟨#[115]⟩ : ByteArray).size = 1 := rfl
    have e3 : (⟨#[]⟩ : ByteArray).size = 0 := rfl
    refine Ev.ift rfl ?_
    rw [if_pos rfl]
    unfold ptRaw
    by_cases c0 : p.f0 = 0
    · refine Ev.ift c0 ?_
      rw [if_pos c0]
      refine Ev.ift (by omega) (Ev.ift (by omega) (Ev.ift (by simp only [ByteArray.size_append]; omega) (Ev.ift (by simp only [ByteArray.size_append]; omega) (Ev.eq (Ev.now _) (ba_eq ?_)))))
      simp only [ba_app, bA_data]; rfl
    refine Ev.iff_ c0 ?_
    rw [if_neg c0]
    by_cases c1 : p.f0 = 1
    · refine Ev.ift c1 ?_
      rw [if_pos c1]
      refine Ev.ift (by omega) (Ev.ift (by simp only [ByteArray.size_append]; omega) (Ev.ift (by simp only [ByteArray.size_append]; omega) (Ev.eq (Ev.now _) (ba_eq ?_))))
      simp only [ba_app, bA_data, List.append_nil]; rfl
    refine Ev.iff_ c1 ?_
    rw [if_neg c1]
    by_cases c2 : p.f0 = 2
    · refine Ev.ift c2 ?_
      rw [if_pos c2]
      refine Ev.ift (by omega) (Ev.ift (by simp only [ByteArray.size_append]; omega) (Ev.eq (Ev.now _) (ba_eq ?_)))
      simp only [ba_app, bA_data]; rfl
    refine Ev.iff_ c2 ?_
    rw [if_neg c2]
    by_cases c4 : p.f0 = 4
    · refine Ev.ift c4 ?_
      rw [if_pos c4]
      exact Ev.ift (by omega) (Ev.eq (Ev.now _) (ba_eq (by simp only [ba_app, bA_data])))
    refine Ev.iff_ c4 ?_
    rw [if_neg c4]
    by_cases c5 : p.f0 = 5
    · refine Ev.ift c5 ?_
      rw [if_pos c5]
      exact Ev.ift (by omega) (Ev.eq (Ev.now _) (ba_eq (by simp only [ba_app, bA_data])))
    refine Ev.iff_ c5 ?_
    rw [if_neg c5]
    exact Ev.ift (by omega) (Ev.eq (Ev.now _) (ba_eq (by simp only [ba_app, bA_data, List.append_nil])))
theorem awake8 : Ev (fun k => lustrumlaw08_awake.f k) true := Ev.of lustrumlaw08_awake.mono (k := 400) (by decide +kernel)
def short8 (p : S23) : Bool := decide (p.f1.size ≤ 10 ∧ p.f2.size ≤ 10 ∧ p.f3.size ≤ 10)
theorem short_f (p : S23) : lustrumlaw08_short.f p.f0 p.f1 p.f2 p.f3 = some (short8 p) := by
  unfold lustrumlaw08_short.f short8
  by_cases h1 : p.f1.size ≤ 10
  · rw [if_pos (by omega)]
    by_cases h2 : p.f2.size ≤ 10
    · rw [if_pos (by omega)]
      by_cases h3 : p.f3.size ≤ 10
      · rw [decide_eq_true (by omega), decide_eq_true ⟨h1, h2, h3⟩]
      · rw [decide_eq_false (by omega), decide_eq_false (fun h => h3 h.2.2)]
    · rw [if_neg (by omega), decide_eq_false (fun h => h2 h.2.1)]
  · rw [if_neg (by omega), decide_eq_false (fun h => h1 h.1)]
theorem ptTxt_ne {p : S23} (h : ptV p = true) : ptTxt p ≠ [] := by
  unfold ptTxt
  rw [if_pos h]
  unfold ptRaw
  intro he
  have hs : p.f1.data.toList ≠ [] := by
    unfold ptV at h
    rw [Bool.and_eq_true] at h
    exact (sane_all h.1).2.1
  repeat' split at he
  all_goals simp at he
  all_goals first | exact hs he | exact hs he.1 | exact hs (by simpa using he)
theorem Back_j1 (t s : ByteArray) (p : S23) (hs : s = bA (ptTxt p)) (ht : t.size ≤ 40) : Ev (fun k => lustrumlaw08_PointBack.j1 k t true s) true := by
  obtain ⟨l, rfl⟩ : ∃ l, t = bA l := ⟨_, (bA_mk t).symm⟩
  rw [bA_size] at ht
  refine Ev.step (fun k => by rw [lustrumlaw08_PointBack.j1]) ?_
  rcases read_any l (by omega) with ⟨q, hq, e, hr⟩ | ⟨hn, hr⟩
  · refine Ev.bind hr (Ev.ift rfl (Ev.ift rfl ?_))
    have h1 := ptSane_f q
    rw [hq] at h1
    refine Ev.bind h1 (Ev.ift rfl (Ev.bind (ptText_f q) (Ev.eq (Ev.now _) ?_)))
    rw [e]; simp
  · refine Ev.bind hr (Ev.iff_ (by simp) (Ev.ift rfl ?_))
    refine Ev.ift (by simp [ba_toList, e0]) ?_
    by_cases h0 : (bA l).toList = []
    · exact Ev.ift h0 (Ev.now _)
    · refine Ev.iff_ h0 (Ev.eq (Ev.now _) ?_)
      rw [bA_toList] at h0
      rw [hs, bA_toList, bA_toList]
      cases hp : ptV p with
      | true => have := hn p hp; simp; exact fun h => this h.symm
      | false =>
        have : ptTxt p = [] := by unfold ptTxt; rw [hp]; rfl
        rw [this]; simp [h0]
theorem PointBack_t (p : S23) (t : ByteArray) : Ev (fun k => lustrumlaw08_PointBack.f k p.f0 p.f1 p.f2 p.f3 t) true := by
  unfold lustrumlaw08_PointBack.f
  refine Ev.bind awake8 (Ev.bnow (short_f p) ?_)
  have hend : ∀ q0 q1 q2 q3, Ev (fun k => lustrumlaw08_PointBack.j0 k t true true q0 q1 q2 q3) true := fun q0 q1 q2 q3 => Ev.step (f := fun _ => some true) (fun k => by rw [lustrumlaw08_PointBack.j0, if_pos rfl]) (Ev.now _)
  cases hb : short8 p with
  | false => exact Ev.iff_ (by simp) (hend _ _ _ _)
  | true =>
    refine Ev.ift rfl ?_
    by_cases ht : (t.size : Int) > 40
    · rw [decide_eq_true ht]; exact hend _ _ _ _
    · rw [decide_eq_false ht]
      refine Ev.step (fun k => by rw [lustrumlaw08_PointBack.j0, if_neg (by simp)]) ?_
      refine Ev.bind (ptText_f p) (Ev.bind (ptSane_f p) ?_)
      cases hp : ptV p with
      | false =>
        have e : ptTxt p = [] := by unfold ptTxt; rw [hp]; rfl
        refine Ev.iff_ (by rw [e, bA_toList]; simp) (Ev.ift (by rw [e, bA_toList]) (Back_j1 t _ p rfl (by omega)))
      | true =>
        have e := ptTxt_ne hp
        refine Ev.iff_ (by rw [bA_toList]; simp [e]) (Ev.iff_ (by rw [bA_toList]; exact e) ?_)
        refine Ev.bind (read_txt p hp) (Ev.ift rfl (Ev.iff_ (by simp) (Back_j1 t _ p rfl (by omega))))
end Go.Proofs.YthppfagfmjchoaaDoor.A