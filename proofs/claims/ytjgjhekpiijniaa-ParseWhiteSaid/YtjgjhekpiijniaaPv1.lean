/- Walks of functions, and plain facts about what they compute. No conditions. -/
import Derived.Test.YtjgjhekpiijniaaPv0
import Derived.Lib.SliceRun
import Derived.Maps.OwnSet
set_option linter.unusedVariables false
set_option linter.unusedSimpArgs false
namespace Go.Proofs.Ytjgjhekpiijniaa.A
open Go.RowKit Go.Proofs.YtjgjhekpiijniaaW.PrintWords Go.Proofs.YtjgjhekpiijniaaW.PrintLast Go.Proofs.YtjgjhekpiijniaaW.PrintMore
attribute [local go_sem] max2_int min2_int max_two min_two max_three min_three max_four min_four
def tree_Between.f (a0_0 : Int) (a0_1 : Int) (a0_2 : ByteArray) (a0_3 : ByteArray) (a0_4 : ByteArray) (a0_5 : Bool) (a0_6 : Bool) (l0_7 : List (S27)) (a1_0 : Int) (a1_1 : Int) (a1_2 : ByteArray) (a1_3 : ByteArray) (a1_4 : ByteArray) (a1_5 : Bool) (a1_6 : Bool) (l1_7 : List (S27)) : Option (Int × Int × ByteArray × ByteArray × ByteArray × Bool × Bool × (List (S27))) := some (1, 0, (⟨#[]⟩ : ByteArray), (⟨#[]⟩ : ByteArray), (⟨#[]⟩ : ByteArray), false, false, (([(⟨a0_0, (⟨a0_1, a0_2, a0_3, a0_4⟩ : S24), a0_5, a0_6, l0_7⟩ : S27), (⟨a1_0, (⟨a1_1, a1_2, a1_3, a1_4⟩ : S24), a1_5, a1_6, l1_7⟩ : S27)] : List (S27))))
end Go.Proofs.Ytjgjhekpiijniaa.A
namespace Go.Proofs.Ytjgjhekpiijniaa.A
open Go.RowKit Go.Proofs.YtjgjhekpiijniaaW.PrintWords Go.Proofs.YtjgjhekpiijniaaW.PrintLast Go.Proofs.YtjgjhekpiijniaaW.PrintMore
attribute [local go_sem] max2_int min2_int max_two min_two max_three min_three max_four min_four
attribute [local go_sem] isSome_setCell
set_option maxHeartbeats 8000000 in
set_option maxRecDepth 100000 in
theorem tree_Between.calls (a0_0 a0_1 : Int) (a0_2 a0_3 a0_4 : ByteArray) (a0_5 a0_6 : Bool) (P0_7_ : Nat → Prop) (A0_7 : Option Addr) (c0_7 : Nat) (l0_7 : List (S27)) (a1_0 a1_1 : Int) (a1_2 a1_3 a1_4 : ByteArray) (a1_5 a1_6 : Bool) (P1_7_ : Nat → Prop) (A1_7 : Option Addr) (c1_7 : Nat) (l1_7 : List (S27)) (r1 r2 : Int) (r3 r4 r5 : ByteArray) (r6 r7 : Bool) (r8 : List (S27)) (w : World) (hs0_7 : Kd.V k27 27 w w.heap.size (fun k_ => P0_7_ k_) (.slice A0_7 l0_7.length c0_7) l0_7) (hs1_7 : Kd.V k27 27 w w.heap.size (fun k_ => P1_7_ k_) (.slice A1_7 l1_7.length c1_7) l1_7) (h : tree_Between.f a0_0 a0_1 a0_2 a0_3 a0_4 a0_5 a0_6 l0_7 a1_0 a1_1 a1_2 a1_3 a1_4 a1_5 a1_6 l1_7 = some (r1, r2, r3, r4, r5, r6, r7, r8)) :
  Calls Try.prog 42 #[.agg #[.int .i64 a0_0, .int .i64 a0_1, .string a0_2, .string a0_3, .string a0_4, .bool a0_5, .bool a0_6, .slice A0_7 l0_7.length c0_7], .agg #[.int .i64 a1_0, .int .i64 a1_1, .string a1_2, .string a1_3, .string a1_4, .bool a1_5, .bool a1_6, .slice A1_7 l1_7.length c1_7]] w fun e w' => ∃ v7_ : Value, e = .returned (.agg #[.int .i64 r1, .int .i64 r2, .string r3, .string r4, .string r5, .bool r6, .bool r7, v7_]) ∧ Kd.N k27 27 w' w.heap.size (fun k_ => ((P0_7_ k_ ∨ P1_7_ k_) ∨ w.heap.size ≤ k_)) v7_ r8 ∧ Below w.heap.size w w' := by
 have hu27 := Try.underlying27; have HO0_7 := A_ (show Kd.V k27 27 w w.heap.size (fun k_ => ((P0_7_ k_ ∨ P1_7_ k_) ∨ w.heap.size ≤ k_)) (.slice A0_7 l0_7.length c0_7) l0_7 from Kd.V_mono hs0_7 (fun k_ hk => .inl (.inl hk))); have HO1_7 := A_ (show Kd.V k27 27 w w.heap.size (fun k_ => ((P0_7_ k_ ∨ P1_7_ k_) ∨ w.heap.size ≤ k_)) (.slice A1_7 l1_7.length c1_7) l1_7 from Kd.V_mono hs1_7 (fun k_ hk => .inl (.inr hk))); have HB := A_ (Below.refl w.heap.size w); have H : (some (1, 0, (⟨#[]⟩ : ByteArray), (⟨#[]⟩ : ByteArray), (⟨#[]⟩ : ByteArray), false, false, (([(⟨a0_0, (⟨a0_1, a0_2, a0_3, a0_4⟩ : S24), a0_5, a0_6, l0_7⟩ : S27), (⟨a1_0, (⟨a1_1, a1_2, a1_3, a1_4⟩ : S24), a1_5, a1_6, l1_7⟩ : S27)] : List (S27))))) = some (r1, r2, r3, r4, r5, r6, r7, r8) := h; clear h; obtain ⟨y175, hy175⟩ : ∃ y_ : List (S27), y_ = (([(⟨a0_0, (⟨a0_1, a0_2, a0_3, a0_4⟩ : S24), a0_5, a0_6, l0_7⟩ : S27), (⟨a1_0, (⟨a1_1, a1_2, a1_3, a1_4⟩ : S24), a1_5, a1_6, l1_7⟩ : S27)] : List (S27))) := ⟨_, rfl⟩; (replace H : (some (1, 0, (⟨#[]⟩ : ByteArray), (⟨#[]⟩ : ByteArray), (⟨#[]⟩ : ByteArray), false, false, y175)) = some (r1, r2, r3, r4, r5, r6, r7, r8) := hy_ hy175 H); have Ny175 := A_ hy175; clear hy175; simp only [Option.some.injEq, Prod.mk.injEq] at H; obtain ⟨rfl, rfl, rfl, rfl, rfl, rfl, rfl, rfl⟩ := H; go_enter Try.func42, Try.ntmps42; go_wp2_with (first | ((with_reducible refine gD 2 ?_); refine bxe_ 2 (n8_ a0_0 a0_1 a0_2 a0_3 a0_4 a0_5 a0_6 (.slice A0_7 l0_7.length c0_7)) 27 ?_; intro gb172 hg w3 hbox hb; replace HO0_7 := eV_ HO0_7 hg hb; replace HO1_7 := eV_ HO1_7 hg hb; have BK172 := A_ (hbox); have GW172 := gs_ w hg; have GE172 := gs_ w hg; replace HB := bs_ hb; clear hb hbox hg) | ((with_reducible refine gD 3 ?_); refine bxe_ 3 (n8_ a1_0 a1_1 a1_2 a1_3 a1_4 a1_5 a1_6 (.slice A1_7 l1_7.length c1_7)) 27 ?_; intro gb173 hg w4 hbox hb; replace HO0_7 := eV_ HO0_7 hg hb; replace HO1_7 := eV_ HO1_7 hg hb; have BK173 := A_ (hbox); have GW173 := gs_ w hg; have GE173 := gs_ w hg; replace HB := bs_ hb; have NB172_173 := nl_ BK172 hg; have NB173_172 := ng_ BK172 hg; replace BK172 := bb_ BK172 hb; clear hb hbox hg) | ((with_reducible refine gD 4 ?_); refine bxe_ 4 z8_ 27 ?_; intro gb174 hg w5 hbox hb; replace HO0_7 := eV_ HO0_7 hg hb; replace HO1_7 := eV_ HO1_7 hg hb; have BK174 := A_ (hbox); have GW174 := gs_ w hg; have GE174 := gs_ w hg; replace HB := bs_ hb; have NB172_174 := nl_ BK172 hg; have NB174_172 := ng_ BK172 hg; replace BK172 := bb_ BK172 hb; have NB173_174 := nl_ BK173 hg; have NB174_173 := ng_ BK173 hg; replace BK173 := bb_ BK173 hb; clear hb hbox hg; have hnb6 := NB172_173.out; have hnc6 := NB173_172.out; have hnb7 := NB172_174.out; have hnc7 := NB174_172.out; have Z8 := bz8_ BK172; have hnb9 := NB173_174.out; have hnc9 := NB174_173.out; have Z10 := bz8_ BK173) | ((with_reducible refine gD 7 ?_); refine Kd.N_lit k27 _ 27 ?hg (N' := 7) ?hd (xs := ([(⟨a0_0, (⟨a0_1, a0_2, a0_3, a0_4⟩ : S24), a0_5, a0_6, l0_7⟩ : S27), (⟨a1_0, (⟨a1_1, a1_2, a1_3, a1_4⟩ : S24), a1_5, a1_6, l1_7⟩ : S27)] : List (S27))) (inner := [.int .i64 a0_0, .int .i64 a0_1, .string a0_2, .string a0_3, .string a0_4, .bool a0_5, .bool a0_6, .slice A0_7 l0_7.length c0_7, .int .i64 a1_0, .int .i64 a1_1, .string a1_2, .string a1_3, .string a1_4, .bool a1_5, .bool a1_6, .slice A1_7 l1_7.length c1_7]) (ok := (fun k_ => ((P0_7_ k_ ∨ P1_7_ k_) ∨ w.heap.size ≤ k_) ∧ k_ ≠ gb172 ∧ k_ ≠ gb173 ∧ k_ ≠ gb174)) (okp := (fun k_ => ((P0_7_ k_ ∨ P1_7_ k_) ∨ w.heap.size ≤ k_) ∧ k_ ≠ gb172 ∧ k_ ≠ gb173 ∧ k_ ≠ gb174)) ?hr ?hp (fun _ hk => hk) ((show ∀ k_, w5.heap.size ≤ k_ → (fun k_ => ((P0_7_ k_ ∨ P1_7_ k_) ∨ w.heap.size ≤ k_) ∧ k_ ≠ gb172 ∧ k_ ≠ gb173 ∧ k_ ≠ gb174) k_ from fun k_ hk => ⟨(.inr (Nat.le_trans (below_size hs_) hk)), fb_ BK172 k_ hk, fb_ BK173 k_ hk, fb_ BK174 k_ hk⟩) _ (Nat.le_refl _)) (Below.refl _ _) (Nat.le_refl _) (by simp) ?_; (case hd => rfl); (case hg => rfl); (case hr => first | (go_simp; done) | (go_simp; rfl)); (case hp => exact (Reps.c8 (show Kd.FK k27 _ _ (⟨a0_0, (⟨a0_1, a0_2, a0_3, a0_4⟩ : S24), a0_5, a0_6, l0_7⟩ : S27) [.int .i64 a0_0, .int .i64 a0_1, .string a0_2, .string a0_3, .string a0_4, .bool a0_5, .bool a0_6, .slice A0_7 l0_7.length c0_7] from (k27_mkF _ _ (⟨a0_0, (⟨a0_1, a0_2, a0_3, a0_4⟩ : S24), a0_5, a0_6, l0_7⟩ : S27) (Kd.V_reads' (Kd.V_mono (ok' := (fun k_ => ((P0_7_ k_ ∨ P1_7_ k_) ∨ w.heap.size ≤ k_) ∧ k_ ≠ gb172 ∧ k_ ≠ gb173 ∧ k_ ≠ gb174)) (HO0_7.out) (fun k_ hk => ⟨hk.1.1.1, ⟨hk.1.1.2, ⟨hk.1.2, hk.2⟩⟩⟩))).2.1 (Kd.V_F (Kd.V_mono (ok' := (fun k_ => ((P0_7_ k_ ∨ P1_7_ k_) ∨ w.heap.size ≤ k_) ∧ k_ ≠ gb172 ∧ k_ ≠ gb173 ∧ k_ ≠ gb174)) (HO0_7.out) (fun k_ hk => ⟨hk.1.1.1, ⟨hk.1.1.2, ⟨hk.1.2, hk.2⟩⟩⟩))))) (Reps.c8 (show Kd.FK k27 _ _ (⟨a1_0, (⟨a1_1, a1_2, a1_3, a1_4⟩ : S24), a1_5, a1_6, l1_7⟩ : S27) [.int .i64 a1_0, .int .i64 a1_1, .string a1_2, .string a1_3, .string a1_4, .bool a1_5, .bool a1_6, .slice A1_7 l1_7.length c1_7] from (k27_mkF _ _ (⟨a1_0, (⟨a1_1, a1_2, a1_3, a1_4⟩ : S24), a1_5, a1_6, l1_7⟩ : S27) (Kd.V_reads' (Kd.V_mono (ok' := (fun k_ => ((P0_7_ k_ ∨ P1_7_ k_) ∨ w.heap.size ≤ k_) ∧ k_ ≠ gb172 ∧ k_ ≠ gb173 ∧ k_ ≠ gb174)) (HO1_7.out) (fun k_ hk => ⟨hk.1.1.1, ⟨hk.1.1.2, ⟨hk.1.2, hk.2⟩⟩⟩))).2.1 (Kd.V_F (Kd.V_mono (ok' := (fun k_ => ((P0_7_ k_ ∨ P1_7_ k_) ∨ w.heap.size ≤ k_) ∧ k_ ≠ gb172 ∧ k_ ≠ gb173 ∧ k_ ≠ gb174)) (HO1_7.out) (fun k_ hk => ⟨hk.1.1.1, ⟨hk.1.1.2, ⟨hk.1.2, hk.2⟩⟩⟩))))) (Reps.none _ _)))); intro v176 w11 ho12 hb hg_ hnew_; clear hg_ hnew_; (first | rw [← Ny175.out] at ho12 | (simp only [Int.reduceToNat] at ho12; rw [← Ny175.out] at ho12)); replace HO0_7 := A_ (Kd.V_elder' (hrV_ HO0_7.out) (Kd.N_base ho12) hb); replace HO1_7 := A_ (Kd.V_elder' (hrV_ HO1_7.out) (Kd.N_base ho12) hb); have HO177 := A_ (Kd.N_lower ho12 (below_size hs_)); replace BK172 := bb_ BK172 hb; replace BK173 := bb_ BK173 hb; replace BK174 := bb_ BK174 hb; replace HB := bs_ hb; clear hb ho12; obtain ⟨Ao13, co13, eo13⟩ := Kd.N_slice HO177.out; subst eo13; have Z14 := bz8_ BK174))
 refine bodyPost_ret (results_cell_row rfl _ _ gb174 27 #[.int .i64 1, .int .i64 0, .string ⟨#[]⟩, .string ⟨#[]⟩, .string ⟨#[]⟩, .bool false, .bool false, .slice Ao13 y175.length co13] (0, 0) _ rfl (pb_ BK174.out) Try.underlying27 rfl (by kernel_rfl)) rfl ?_; exact ⟨_, by first | rfl | (simp [errW_none, errW_some] <;> rfl) | (simp [*, errW_none, errW_some] <;> rfl), by (with_reducible repeat (first | apply Kd.N_alloc | apply Kd.N_drewN | apply Kd.N_drew)); exact Kd.N_mono (Kd.N_far (p := ⟨gb174, 7, none⟩) (Kd.N_far (p := ⟨gb174, 6, none⟩) (Kd.N_far (p := ⟨gb174, 5, none⟩) (Kd.N_far (p := ⟨gb174, 4, none⟩) (Kd.N_far (p := ⟨gb174, 3, none⟩) (Kd.N_far (p := ⟨gb174, 2, none⟩) (Kd.N_far (p := ⟨gb174, 1, none⟩) (Kd.N_far (p := ⟨gb174, 0, none⟩) (Kd.N_mono HO177.out (fun k_ hk => (⟨hk, hk.2.2.2⟩ : _ ∧ k_ ≠ gb174))) (fun _ hk => hk.2) (.int .i64 1)) (fun _ hk => hk.2) (.int .i64 0)) (fun _ hk => hk.2) (.string ⟨#[]⟩)) (fun _ hk => hk.2) (.string ⟨#[]⟩)) (fun _ hk => hk.2) (.string ⟨#[]⟩)) (fun _ hk => hk.2) (.bool false)) (fun _ hk => hk.2) (.bool false)) (fun _ hk => hk.2) (.slice Ao13 y175.length co13)) (fun _ hk => hk.1.1), hs_⟩
theorem eql_nil24 (w : World) (a : Option Addr) (n c : Nat) : (binOp .eql 25 (.slice a n c) (.slice none 0 0)).run Try.prog w = .ok (.bool a.isNone) w := Lib.run_eql_slice_nil w 25 27 a n c 0 0 Try.underlying25
attribute [local go_sem] eql_nil24
set_option maxHeartbeats 8000000 in
set_option maxRecDepth 100000 in
theorem slices_Clone.calls (P0_ : Nat → Prop) (A0 : Option Addr) (c0 : Nat) (l0 r : List (S27)) (w : World) (hs0 : Kd.V k27 27 w w.heap.size (fun k_ => P0_ k_) (.slice A0 l0.length c0) l0) (h : slices_Clone.f l0 = some r) :
    Calls Try.prog 16 #[.slice A0 l0.length c0] w fun e w' => ∃ v0_ : Value, e = .returned (v0_) ∧ Kd.N k27 27 w' w.heap.size (fun k_ => (P0_ k_ ∨ w.heap.size ≤ k_)) v0_ r ∧ Below w.heap.size w w' := by
  have HO0 := A_ (show Kd.V k27 27 w w.heap.size (fun k_ => (P0_ k_ ∨ w.heap.size ≤ k_)) (.slice A0 l0.length c0) l0 from Kd.V_mono hs0 (fun k_ hk => .inl hk))
  have HB := A_ (Below.refl w.heap.size w)
  unfold slices_Clone.f at h
  by_cases c3 : l0.length < 1466015503701
  · rw [if_pos c3] at h
    have hr := Option.some.inj h
    clear h
    cases A0 with
    | none =>
      subst hr
      obtain ⟨A_, c_, e_, hl_, hf_⟩ := hs0
      have h0 : l0 = [] := by
        cases l0 with
        | nil => rfl
        | cons x t => obtain ⟨ad, _, e, _⟩ := Kd.C_get (Kd.F_now hf_) z27 0 (by omega) (by simp); injection e_ with e1; rw [← e1] at e; exact absurd e (by simp)
      subst h0
      clear e_ hl_ hf_ HO0
      go_enter Try.func16, Try.ntmps16
      go_wp2
      go_ret
      exact ⟨_, rfl, by exact Kd.N_nil _ _ _ _ _, HB.out⟩
    | some ad0 =>
    obtain ⟨y101, hy101⟩ : ∃ y_ : List (S27), y_ = (([] : List (S27))) := ⟨_, rfl⟩
    have Ny101 := A_ hy101
    replace c3 : y101.length + l0.length < 1466015503701 := by rw [hy101]; simpa using c3
    clear hy101
    have LMc3 := A_ c3
    clear c3
    obtain ⟨y104, hy104⟩ : ∃ y_ : List (S27), y_ = (y101 ++ l0) := ⟨_, rfl⟩
    have hy104_ := hy104
    have Ny104 := A_ hy104
    clear hy104
    have H2 : r = y104 := by rw [← hr, hy104_, Ny101.out]; rfl
    subst H2
    clear hy104_ hr
    go_enter Try.func16, Try.ntmps16
    go_wp2_with (first | (refine gD 5 ?_; refine Kd.N_lit k27 _ 27 ?hg (N' := 5) ?hd (xs := ([] : List (S27))) (inner := []) (ok := (fun k_ => (P0_ k_ ∨ w.heap.size ≤ k_))) (okp := (fun k_ => (P0_ k_ ∨ w.heap.size ≤ k_))) ?hr ?hp (fun _ hk => hk) ((show ∀ k_, w.heap.size ≤ k_ → (fun k_ => (P0_ k_ ∨ w.heap.size ≤ k_)) k_ from fun k_ hk => (.inr (Nat.le_trans (below_size hs_) hk))) _ (Nat.le_refl _)) (Below.refl _ _) (Nat.le_refl _) (by simp) ?_; (case hd => rfl); (case hg => rfl); (case hr => first | (go_simp; done) | (go_simp; rfl)); (case hp => exact (Reps.none _ _)); intro v163 w4 ho5 hb hg_ hnew_; clear hg_ hnew_; (first | rw [← Ny101.out] at ho5 | (simp only [Int.reduceToNat] at ho5; rw [← Ny101.out] at ho5)); replace HO0 := A_ (Kd.V_elder' (fxV_ HO0.out) (Kd.N_base ho5) hb); have HO164 := A_ (Kd.N_lower ho5 (below_size hs_)); replace HB := bs_ hb; clear hb ho5) | ((with_reducible refine gate_builtin (b := .append) (xs := #[.tmp 5, .tmp 6]) rfl ?_); at_builtin; refine Kd.N_append_rows k27 (w0 := w) w.heap.size rfl (.tmp 5) (.tmp 6) 25 27 (.agg #[(.int .i64 0), (.int .i64 0), (.string ⟨#[]⟩), (.string ⟨#[]⟩), (.string ⟨#[]⟩), (.bool false), (.bool false), (.slice none 0 0)]) 96 rfl Try.underlying25 info27 rfl (by decide) (by omega) v163 y101 l0 _ _ _ (fun k_ => (P0_ k_ ∨ w.heap.size ≤ k_)) (fun k_ => ((fun k_ => (P0_ k_ ∨ w.heap.size ≤ k_))) k_ ∧ nv_ k_ v163) rfl rfl ?aO ?aR (fun _ hk => hk) ?aF ?aB ?aS ?aL ?_; (case aR => exact (by skip; exact Kd.V_F (Kd.V_mono (ok' := (fun k_ => ((fun k_ => (P0_ k_ ∨ w.heap.size ≤ k_))) k_ ∧ nv_ k_ v163)) (HO0.out) (fun k_ hk => ⟨hk.1, hk.2⟩)))); (case aB => exact hs_); (case aF => exact (fun k_ hk => (.inr (Nat.le_trans (below_size hs_) hk)))); (case aO => exact (fxN_ HO164.out)); (case aS => exact (below_size hs_)); (case aL => have := LMc3.out; omega); intro v166 w6 ho hb hg hat; rw [← Ny104.out] at ho; replace HO0 := A_ (Kd.V_afterv (ok := (fun k_ => (P0_ k_ ∨ w.heap.size ≤ k_))) (fxV_ HO0.out) hg hat); replace HB := A_ (hb); have HO167 := A_ (ho); clear HO164; clear ho hb hg hat))
    go_ret
    exact ⟨_, by first | rfl | (simp [errW_none, errW_some] <;> rfl) | (simp [*, errW_none, errW_some] <;> rfl), fxN_ HO167.out, hs_⟩
  · rw [if_neg c3] at h
    exact absurd h (by simp)
set_option maxHeartbeats 8000000 in
set_option maxRecDepth 100000 in
theorem tree_OneOf.calls (P0_ : Nat → Prop) (A0 : Option Addr) (c0 : Nat) (l0 : List (S27)) (r1 r2 : Int) (r3 r4 r5 : ByteArray) (r6 r7 : Bool) (r8 : List (S27)) (w : World) (hs0 : Kd.V k27 27 w w.heap.size (fun k_ => P0_ k_) (.slice A0 l0.length c0) l0) (h : tree_OneOf.f l0 = some (r1, r2, r3, r4, r5, r6, r7, r8)) :
  Calls Try.prog 7 #[.slice A0 l0.length c0] w fun e w' => ∃ v7_ : Value, e = .returned (.agg #[.int .i64 r1, .int .i64 r2, .string r3, .string r4, .string r5, .bool r6, .bool r7, v7_]) ∧ Kd.N k27 27 w' w.heap.size (fun k_ => (P0_ k_ ∨ w.heap.size ≤ k_)) v7_ r8 ∧ Below w.heap.size w w' := by
 have hu27 := Try.underlying27; have HO0 := A_ (show Kd.V k27 27 w w.heap.size (fun k_ => (P0_ k_ ∨ w.heap.size ≤ k_)) (.slice A0 l0.length c0) l0 from Kd.V_mono hs0 (fun k_ hk => .inl hk)); have HB := A_ (Below.refl w.heap.size w); have H : ((slices_Clone.f l0).bind fun t169 => (some (2, 0, (⟨#[]⟩ : ByteArray), (⟨#[]⟩ : ByteArray), (⟨#[]⟩ : ByteArray), false, false, t169))) = some (r1, r2, r3, r4, r5, r6, r7, r8) := h; clear h; obtain ⟨t169, A2, H⟩ := bi_ H; simp only [Option.some.injEq, Prod.mk.injEq] at H; obtain ⟨rfl, rfl, rfl, rfl, rfl, rfl, rfl, rfl⟩ := H; go_enter Try.func7, Try.ntmps7; go_wp2_with (first | (refine gD 2 ?_; refine bxe_ 2 z8_ 27 ?_; intro gb168 hg w3 hbox hb; replace HO0 := eV_ HO0 hg hb; have BK168 := A_ (hbox); have GW168 := gs_ w hg; have GE168 := gs_ w hg; replace HB := bs_ hb; clear hb hbox hg) | (refine gC 16 ?_; refine gL 4 Try.func16 #[.slice A0 l0.length c0] ?_; (with_reducible refine (slices_Clone.calls (fun k_ => ((P0_ k_ ∨ w.heap.size ≤ k_) ∧ k_ ≠ gb168)) _ _ l0 t169 _ ?side1 A2.out).mono ?_); (case side1 => exact HO0.out); rintro e w4 ⟨v170, rfl, ho0, hb⟩; refine ⟨_, rfl, ?_⟩; replace HO0 := dV_ HO0 ho0 hb; have HO171 := A_ (Kd.N_lower (Kd.N_mono (ok' := fun k_ => (P0_ k_ ∨ w.heap.size ≤ k_) ∧ k_ ≠ gb168) ho0 (fun k_ hk_ => ⟨hk_.elim (·.1) (fun hn_ => (.inr (Nat.le_trans (below_size hs_) hn_))), hk_.elim (·.2) (fb_ BK168 k_)⟩)) (below_size hs_)); replace BK168 := bb_ BK168 hb; replace HB := bs_ hb; (try clear hb); (try clear ho0); obtain ⟨Ao5, co5, eo5⟩ := Kd.N_slice HO171.out; subst eo5; have Z6 := bz8_ BK168))
 refine bodyPost_ret (results_cell_row rfl _ _ gb168 27 #[.int .i64 2, .int .i64 0, .string ⟨#[]⟩, .string ⟨#[]⟩, .string ⟨#[]⟩, .bool false, .bool false, .slice Ao5 t169.length co5] (0, 0) _ rfl (pb_ BK168.out) Try.underlying27 rfl (by kernel_rfl)) rfl ?_; exact ⟨_, by first | rfl | (simp [errW_none, errW_some] <;> rfl) | (simp [*, errW_none, errW_some] <;> rfl), fpN_ HO171.out, hs_⟩
theorem fld46_0 (a b : Int) (c : ByteArray) (w : World) : (Instr.field 48 (.agg #[.int .i64 a, .int .i64 b, .string c]) 0).run Try.prog w = .ok (.int .i64 a) w := by kernel_rfl
theorem fld46_1 (a b : Int) (c : ByteArray) (w : World) : (Instr.field 48 (.agg #[.int .i64 a, .int .i64 b, .string c]) 1).run Try.prog w = .ok (.int .i64 b) w := by kernel_rfl
theorem fld46_2 (a b : Int) (c : ByteArray) (w : World) : (Instr.field 48 (.agg #[.int .i64 a, .int .i64 b, .string c]) 2).run Try.prog w = .ok (.string c) w := by kernel_rfl
attribute [local go_sem] fld46_0 fld46_1 fld46_2
def IsP (w0 W : World) (g : Nat) (t : List S48) (m d : Int) : Prop := ∃ A c, W.heap[g]? = some (.cells #[.slice A t.length c, .int .i64 m, .int .i64 d] 43 (0, 0)) ∧ w0.heap.size ≤ g ∧ t.length ≤ c ∧ Kd.C k48 w0 A t.length t
section
variable {w0 W W1 : World} {g : Nat} {t : List S48} {m d : Int}
theorem IsP.below (h : IsP w0 W g t m d) (hb : Below W.heap.size W W1) : IsP w0 W1 g t m d := by
  obtain ⟨A, c, h1, h2⟩ := h
  exact ⟨A, c, blk_below h1 hb, h2⟩
theorem IsP.alloc (h : IsP w0 W g t m d) (o : Obj) : IsP w0 (W.alloc o) g t m d := h.below (below_alloc (Below.refl _ _) o)
theorem IsP.drewN (h : IsP w0 W g t m d) (n : Nat) : IsP w0 (W.drewN n) g t m d := h
theorem IsP.drew (h : IsP w0 W g t m d) : IsP w0 W.drew g t m d := h
theorem IsP.far (h : IsP w0 W g t m d) {p : Addr} (hne : g ≠ p.block) (u : Value) : IsP w0 (W.setCell p u) g t m d := by
  obtain ⟨A, c, h1, h2⟩ := h
  exact ⟨A, c, blk_far h1 hne u, h2⟩
theorem IsP.lt (h : IsP w0 W g t m d) : g < W.heap.size := by
  obtain ⟨A, c, h1, _⟩ := h
  exact blk_lt h1
theorem IsP.ge (h : IsP w0 W g t m d) : w0.heap.size ≤ g := by
  obtain ⟨A, c, _, h2, _⟩ := h
  exact h2
theorem IsP.setM (h : IsP w0 W g t m d) (x : Int) : IsP w0 (W.setCell ⟨g, 1, none⟩ (.int .i64 x)) g t x d := by
  obtain ⟨A, c, h1, h2⟩ := h
  exact ⟨A, c, by simpa using blk_set h1 1 (.int .i64 x), h2⟩
theorem IsP.setD (h : IsP w0 W g t m d) (x : Int) : IsP w0 (W.setCell ⟨g, 2, none⟩ (.int .i64 x)) g t m x := by
  obtain ⟨A, c, h1, h2⟩ := h
  exact ⟨A, c, by simpa using blk_set h1 2 (.int .i64 x), h2⟩
end
structure PK (w0 w w' : World) (g : Nat) (t : List S48) (m d : Int) : Prop where
  hI : IsP w0 w' g t m d
  hB : Below w0.heap.size w0 w'
  hK : KeepBut w w' g none
def IsX (b : Nat) (w : World) (v : Value) (x : Wr) : Prop := match x with
  | none => v = .pointer none
  | some y => ∃ q, v = .pointer (some ⟨q, 0, none⟩) ∧ b ≤ q ∧ w.heap[q]? = some (.cells #[.int .i64 y.1, .int .i64 y.2] 52 (0, 0))
set_option maxHeartbeats 8000000 in
set_option maxRecDepth 100000 in
theorem parser_next.calls (g : Nat) (x : S48) (t : List S48) (m d : Int) (w0 w : World) (hI : IsP w0 w g (x :: t) m d) (hB0 : Below w0.heap.size w0 w) :
    Calls Try.prog 14 #[.pointer (some ⟨g, 0, none⟩)] w fun e w' => e = .returned (.agg #[.int .i64 x.f0, .int .i64 x.f1, .string x.f2]) ∧ Below w.heap.size w w' := by
  have hu48 := Try.underlying48
  obtain ⟨A, c, hG, hg, hc, hC⟩ := hI
  obtain ⟨ad, e, hx0, hx1, hx2⟩ := at_T48 hC 0 (by omega) (by simp)
  cases e
  have hr : rd_T48 (x :: t) 0 = x := rfl
  rw [hr] at hx0 hx1 hx2
  clear hr
  replace hx0 := pw_cell_below hB0 hx0
  replace hx1 := pw_cell_below hB0 hx1
  replace hx2 := pw_cell_below hB0 hx2
  replace hx0 := ai_ hx0
  replace hx1 := ai_ hx1
  replace hx2 := ai_ hx2
  have HX0 := A_ hx0
  have HX1 := A_ hx1
  have HX2 := A_ hx2
  have HG := A_ hG
  have HB := A_ (Below.refl w.heap.size w)
  clear hx0 hx1 hx2 hG hC hg hc hB0
  go_enter Try.func14, Try.ntmps14
  go_wp2_with (first | ((with_reducible refine gD 2 ?_); refine bxe_ 2 #[.int .i64 0, .int .i64 0, .string ⟨#[]⟩] 48 ?_; intro gb hgb w3 hbox hb; have BK := A_ hbox; have hp := (blk_cell (blk_below HG.out hb) 0).trans rfl; have hx0 := pw_cell_below hb HX0.out; have hx1 := pw_cell_below hb HX1.out; have hx2 := pw_cell_below hb HX2.out; have q : (0 < (x :: t).length) = True := eq_true (by simp); have Z := bz3_ BK; have GE := gs_ w hgb; replace HB := bs_ hb; clear hb hbox hgb))
  refine bodyPost_ret (results_cell_row rfl _ _ gb 48 #[.int .i64 x.f0, .int .i64 x.f1, .string x.f2] (0, 0) _ rfl (pb_ BK.out) Try.underlying48 rfl (by kernel_rfl)) rfl ?_
  exact ⟨rfl, hs_⟩
set_option maxHeartbeats 8000000 in
set_option maxRecDepth 100000 in
theorem parser_take.calls (g : Nat) (x : S48) (t : List S48) (m d : Int) (w0 w : World) (hI : IsP w0 w g (x :: t) m d) (hB0 : Below w0.heap.size w0 w) :
    Calls Try.prog 41 #[.pointer (some ⟨g, 0, none⟩)] w fun e w' => (∃ v, e = .returned v) ∧ PK w0 w w' g t m d := by
  have hu48 := Try.underlying48
  obtain ⟨A, c, hG, hg, hc, hC⟩ := hI
  obtain ⟨i0, hi0, hz0⟩ := info_parts info48
  obtain ⟨A', hA'⟩ : ∃ A', A' = (if c = (1 : Int).toNat then A else A.map (·.add ((1 : Int).toNat * 3))) := ⟨_, rfl⟩
  have hcut := cut_from (P := Try.prog) 35 48 .i64 Try.underlying35 hi0 3 hz0.2.1 A (t.length + 1) c 1 (by omega) (by omega)
  rw [← hA'] at hcut
  have e1 : t.length + 1 - (1 : Int).toNat = t.length := by simp
  have e2 : c - (1 : Int).toNat = c - 1 := by simp
  rw [e1, e2] at hcut
  have hC2 : Kd.C k48 w0 A' t.length t := by
    have := Kd.C_drop (m := 1) hC (by simp) hc
    rw [hA']
    exact this
  have HC2 := A_ hC2
  have HG := A_ hG
  have HL := A_ (show t.length ≤ c - 1 by simp at hc; omega)
  have HGE := A_ hg
  have HB := A_ hB0
  have hp := (blk_cell hG 0).trans rfl
  have hf := blk_frozen hG 0
  clear hG hC hg hc hB0 hC2 hA' e1 e2 hi0 hz0
  go_enter Try.func41, Try.ntmps41
  go_wp2
  refine bodyPost_end (results_none rfl _ _ _) rfl ⟨⟨_, rfl⟩, ⟨A', c - 1, by simpa using blk_set HG.out 0 (.slice A' t.length (c - 1)), HGE.out, HL.out, HC2.out⟩, below_set HB.out HGE.out, (KeepBut.refl _ _ _).set_ 0 _⟩
theorem IsX.put {b q : Nat} {w : World} {x y : Int} (h : w.heap[q]? = some (.cells #[.int .i64 x, .int .i64 y] 52 (0, 0))) (hq : b ≤ q) : IsX b w (.pointer (some ⟨q, 0, none⟩)) (some (x, y)) := ⟨q, rfl, hq, h⟩
set_option maxHeartbeats 8000000 in
set_option maxRecDepth 100000 in
theorem parser_not.calls (g : Nat) (x : S48) (t : List S48) (m d e : Int) (w0 w : World) (hI : IsP w0 w g (x :: t) m d) (hB0 : Below w0.heap.size w0 w) :
    Calls Try.prog 15 #[.pointer (some ⟨g, 0, none⟩), .int .i64 e] w fun e' w' => ∃ u, e' = .returned u ∧ IsX w.heap.size w' u (some (x.f1, eNot x e)) ∧ Below w.heap.size w w' := by
  have hu48 := Try.underlying48
  have HI := A_ hI
  have HB0 := A_ hB0
  have HB := A_ (Below.refl w.heap.size w)
  clear hI hB0
  by_cases c : x.f0 = 9
  · have hE : eNot x e = 4 := if_pos c
    rw [hE]
    have c0 : (x.f0 == 9) = true := beq_iff_eq.mpr c
    clear c hE
    go_enter Try.func15, Try.ntmps15
    go_wp2_with (first | ((with_reducible refine gD 6 ?_); refine gL 6 Try.func14 #[.pointer (some ⟨g, 0, none⟩)] ?_; (with_reducible refine (parser_next.calls g x t m d w0 _ HI.out HB0.out).mono ?_); rintro e1 w1 ⟨rfl, hb⟩; refine ⟨_, rfl, ?_⟩; replace HI := A_ (HI.out.below hb); replace HB0 := A_ (below_step HB0.out hb); replace HB := A_ (below_step HB.out hb); clear hb) | ((with_reducible refine gD 10 ?_); refine gL 10 Try.func14 #[.pointer (some ⟨g, 0, none⟩)] ?_; (with_reducible refine (parser_next.calls g x t m d w0 _ HI.out HB0.out).mono ?_); rintro e1 w1 ⟨rfl, hb⟩; refine ⟨_, rfl, ?_⟩; replace HI := A_ (HI.out.below hb); replace HB0 := A_ (below_step HB0.out hb); replace HB := A_ (below_step HB.out hb); clear hb) | ((with_reducible refine gD 14 ?_); refine bxe_ 14 #[.int .i64 x.f1, .int .i64 4] 52 ?_; intro gb hgb w3 hbox hb; have BK := A_ hbox; have GE := gs_ w hgb; replace HB := bs_ hb; clear hb hbox hgb))
    go_ret
    exact ⟨_, rfl, IsX.put BK.out GE.out, HB.out⟩
  · have hE : eNot x e = e := if_neg c
    rw [hE]
    have c0 : (x.f0 == 9) = false := beq_eq_false_iff_ne.mpr c
    clear c hE
    go_enter Try.func15, Try.ntmps15
    go_wp2_with (first | ((with_reducible refine gD 6 ?_); refine gL 6 Try.func14 #[.pointer (some ⟨g, 0, none⟩)] ?_; (with_reducible refine (parser_next.calls g x t m d w0 _ HI.out HB0.out).mono ?_); rintro e1 w1 ⟨rfl, hb⟩; refine ⟨_, rfl, ?_⟩; replace HI := A_ (HI.out.below hb); replace HB0 := A_ (below_step HB0.out hb); replace HB := A_ (below_step HB.out hb); clear hb) | ((with_reducible refine gD 10 ?_); refine gL 10 Try.func14 #[.pointer (some ⟨g, 0, none⟩)] ?_; (with_reducible refine (parser_next.calls g x t m d w0 _ HI.out HB0.out).mono ?_); rintro e1 w1 ⟨rfl, hb⟩; refine ⟨_, rfl, ?_⟩; replace HI := A_ (HI.out.below hb); replace HB0 := A_ (below_step HB0.out hb); replace HB := A_ (below_step HB.out hb); clear hb) | ((with_reducible refine gD 14 ?_); refine bxe_ 14 #[.int .i64 x.f1, .int .i64 e] 52 ?_; intro gb hgb w3 hbox hb; have BK := A_ hbox; have GE := gs_ w hgb; replace HB := bs_ hb; clear hb hbox hgb))
    go_ret
    exact ⟨_, rfl, IsX.put BK.out GE.out, HB.out⟩
set_option maxHeartbeats 8000000 in
set_option maxRecDepth 100000 in
theorem parser_begin.many (g : Nat) (x : S48) (t : List S48) (m d : Int) (w0 w : World) (hm : m = 64) (hI : IsP w0 w g (x :: t) m d) (hB0 : Below w0.heap.size w0 w) :
    Calls Try.prog 40 #[.pointer (some ⟨g, 0, none⟩)] w fun e' w' => ∃ u, e' = .returned u ∧ IsX w.heap.size w' u (some (x.f1, eNot x 6)) ∧ PK w0 w w' g (x :: t) m d := by
  have HI := A_ hI
  have HB0 := A_ hB0
  obtain ⟨A, c, hG, hg, hc, hC⟩ := hI
  have HG := A_ hG
  have c0 : (m == 64) = true := beq_iff_eq.mpr hm
  clear hB0 hG hg hc hC hm
  have hp0 := (blk_cell HG.out 0).trans rfl; have hp1 := (blk_cell HG.out 1).trans rfl; have hp2 := (blk_cell HG.out 2).trans rfl; have hf0 := blk_frozen HG.out 0; have hf1 := blk_frozen HG.out 1; have hf2 := blk_frozen HG.out 2
  go_enter Try.func40, Try.ntmps40
  go_wp2_with (first | ((with_reducible refine gC 15 ?_); refine gL 9 Try.func15 #[.pointer (some ⟨g, 0, none⟩), .int .i64 6] ?_; (with_reducible refine (parser_not.calls g x t m d 6 w0 _ HI.out HB0.out).mono ?_); rintro e1 w1 ⟨u1, rfl, hx, hb⟩; refine ⟨_, rfl, ?_⟩; have HX := A_ hx; have HBn := A_ hb; clear hx hb))
  go_ret
  exact ⟨_, rfl, HX.out, HI.out.below HBn.out, below_step HB0.out HBn.out, KeepBut.of_below HBn.out _ _⟩
set_option maxHeartbeats 8000000 in
set_option maxRecDepth 100000 in
theorem parser_begin.one (g : Nat) (t : List S48) (m d : Int) (w0 w : World) (hm : ¬ m = 64) (hI : IsP w0 w g t m d) (hB0 : Below w0.heap.size w0 w) :
    Calls Try.prog 40 #[.pointer (some ⟨g, 0, none⟩)] w fun e' w' => e' = .returned (.pointer none) ∧ PK w0 w w' g t (wrap64 (m + 1)) d := by
  have HI := A_ hI
  have HB0 := A_ hB0
  obtain ⟨A, c, hG, hg, hc, hC⟩ := hI
  have HG := A_ hG
  have c0 : (m == 64) = false := beq_eq_false_iff_ne.mpr hm
  clear hB0 hG hg hc hC hm
  have hp0 := (blk_cell HG.out 0).trans rfl; have hp1 := (blk_cell HG.out 1).trans rfl; have hp2 := (blk_cell HG.out 2).trans rfl; have hf0 := blk_frozen HG.out 0; have hf1 := blk_frozen HG.out 1; have hf2 := blk_frozen HG.out 2
  go_enter Try.func40, Try.ntmps40
  go_wp2
  go_ret
  exact ⟨rfl, HI.out.setM _, below_set HB0.out HI.out.ge, (KeepBut.refl _ _ _).set_ 1 _⟩
theorem IsP.far8 {w0 W : World} {g gb : Nat} {t : List S48} {m d : Int} (h : IsP w0 W g t m d) (hne : g ≠ gb) (a b c d' e f j k : Value) : IsP w0 ((((((((W.setCell ⟨gb, 0, none⟩ a).setCell ⟨gb, 1, none⟩ b).setCell ⟨gb, 2, none⟩ c).setCell ⟨gb, 3, none⟩ d').setCell ⟨gb, 4, none⟩ e).setCell ⟨gb, 5, none⟩ f).setCell ⟨gb, 6, none⟩ j).setCell ⟨gb, 7, none⟩ k) g t m d :=
  (((((((h.far (p := ⟨gb, 0, none⟩) hne a).far (p := ⟨gb, 1, none⟩) hne b).far (p := ⟨gb, 2, none⟩) hne c).far (p := ⟨gb, 3, none⟩) hne d').far (p := ⟨gb, 4, none⟩) hne e).far (p := ⟨gb, 5, none⟩) hne f).far (p := ⟨gb, 6, none⟩) hne j).far (p := ⟨gb, 7, none⟩) hne k
theorem PK.far8 {w0 w W : World} {g gb : Nat} {t : List S48} {m d : Int} (hI : IsP w0 W g t m d) (hB : Below w0.heap.size w0 W) (hK : KeepBut w W g none) (hne : g ≠ gb) (h0 : w0.heap.size ≤ gb) (h1 : w.heap.size ≤ gb) (a b c d' e f j k : Value) : PK w0 w ((((((((W.setCell ⟨gb, 0, none⟩ a).setCell ⟨gb, 1, none⟩ b).setCell ⟨gb, 2, none⟩ c).setCell ⟨gb, 3, none⟩ d').setCell ⟨gb, 4, none⟩ e).setCell ⟨gb, 5, none⟩ f).setCell ⟨gb, 6, none⟩ j).setCell ⟨gb, 7, none⟩ k) g t m d :=
  ⟨hI.far8 hne .., below_set (below_set (below_set (below_set (below_set (below_set (below_set (below_set hB h0) h0) h0) h0) h0) h0) h0) h0, keep_far (p := ⟨gb, 7, none⟩) (keep_far (p := ⟨gb, 6, none⟩) (keep_far (p := ⟨gb, 5, none⟩) (keep_far (p := ⟨gb, 4, none⟩) (keep_far (p := ⟨gb, 3, none⟩) (keep_far (p := ⟨gb, 2, none⟩) (keep_far (p := ⟨gb, 1, none⟩) (keep_far (p := ⟨gb, 0, none⟩) hK h1 a) h1 b) h1 c) h1 d') h1 e) h1 f) h1 j) h1 k⟩
set_option maxHeartbeats 8000000 in
set_option maxRecDepth 100000 in
theorem parser_dots.calls (g : Nat) (x : S48) (t : List S48) (m d : Int) (w0 w : World) (hI : IsP w0 w g (x :: t) m d) (hB0 : Below w0.heap.size w0 w) :
    Calls Try.prog 50 #[.pointer (some ⟨g, 0, none⟩)] w fun e' w' => e' = .returned (.tuple #[.agg #[.int .i64 3, .int .i64 0, .string ⟨#[]⟩, .string ⟨#[]⟩, .string ⟨#[]⟩, .bool false, .bool false, .slice none 0 0], .pointer none]) ∧ PK w0 w w' g t m d := by
  have HI := A_ hI
  have HB0 := A_ hB0
  have G0 := A_ (show w0.heap.size ≤ w.heap.size from hB0.size)
  clear hI hB0
  go_enter Try.func50, Try.ntmps50
  go_wp2_with (first | ((with_reducible refine gD 2 ?_); refine bxe_ 2 z8_ 27 ?_; intro gb hgb w2 hbox hb; have BK := A_ hbox; have NE := A_ (show g ≠ gb from by rw [hgb]; exact Nat.ne_of_lt HI.out.lt); have NE2 := A_ (Ne.symm NE.out); have ne1 := NE.out; have ne2 := NE2.out; have GE := A_ (show w.heap.size ≤ gb from by rw [hgb]; exact Nat.le_refl _); have HI2 := A_ (HI.out.below hb); have HB2 := A_ (below_step HB0.out hb); have HK2 := A_ (KeepBut.of_below hb g none); have GL := A_ (blk_lt BK.out); clear HI HB0 hb hbox hgb) | ((with_reducible refine gC 41 ?_); refine gL 5 Try.func41 #[.pointer (some ⟨g, 0, none⟩)] ?_; (with_reducible refine (parser_take.calls g x t m d w0 _ HI2.out HB2.out).mono ?_); rintro e3 w3 ⟨⟨v3, rfl⟩, hP⟩; refine ⟨_, rfl, ?_⟩; replace BK := A_ (hP.hK.blk BK.out NE2.out (by simp)); have Z := bz8_ BK; have HI3 := A_ hP.hI; have HB3 := A_ hP.hB; have HK3 := A_ (HK2.out.trans hP.hK (.inl rfl)); clear hP))
  refine bodyPost_ret (results_ct rfl _ _ gb 27 #[.int .i64 3, .int .i64 0, .string ⟨#[]⟩, .string ⟨#[]⟩, .string ⟨#[]⟩, .bool false, .bool false, .slice none 0 0] (0, 0) _ rfl (pb_ BK.out) Try.underlying27 rfl (by kernel_rfl)) rfl ?_
  exact ⟨rfl, PK.far8 HI3.out HB3.out HK3.out NE.out (Nat.le_trans G0.out GE.out) GE.out ..⟩
set_option maxHeartbeats 8000000 in
set_option maxRecDepth 100000 in
theorem parser_star.calls (g : Nat) (x : S48) (t : List S48) (m d : Int) (w0 w : World) (hI : IsP w0 w g (x :: t) m d) (hB0 : Below w0.heap.size w0 w) :
    Calls Try.prog 51 #[.pointer (some ⟨g, 0, none⟩)] w fun e' w' => e' = .returned (.tuple #[.agg #[.int .i64 4, .int .i64 0, .string ⟨#[]⟩, .string ⟨#[]⟩, .string ⟨#[]⟩, .bool false, .bool false, .slice none 0 0], .pointer none]) ∧ PK w0 w w' g t m d := by
  have HI := A_ hI
  have HB0 := A_ hB0
  have G0 := A_ (show w0.heap.size ≤ w.heap.size from hB0.size)
  clear hI hB0
  go_enter Try.func51, Try.ntmps51
  go_wp2_with (first | ((with_reducible refine gD 2 ?_); refine bxe_ 2 z8_ 27 ?_; intro gb hgb w2 hbox hb; have BK := A_ hbox; have NE := A_ (show g ≠ gb from by rw [hgb]; exact Nat.ne_of_lt HI.out.lt); have NE2 := A_ (Ne.symm NE.out); have ne1 := NE.out; have ne2 := NE2.out; have GE := A_ (show w.heap.size ≤ gb from by rw [hgb]; exact Nat.le_refl _); have HI2 := A_ (HI.out.below hb); have HB2 := A_ (below_step HB0.out hb); have HK2 := A_ (KeepBut.of_below hb g none); have GL := A_ (blk_lt BK.out); clear HI HB0 hb hbox hgb) | ((with_reducible refine gC 41 ?_); refine gL 5 Try.func41 #[.pointer (some ⟨g, 0, none⟩)] ?_; (with_reducible refine (parser_take.calls g x t m d w0 _ HI2.out HB2.out).mono ?_); rintro e3 w3 ⟨⟨v3, rfl⟩, hP⟩; refine ⟨_, rfl, ?_⟩; replace BK := A_ (hP.hK.blk BK.out NE2.out (by simp)); have Z := bz8_ BK; have HI3 := A_ hP.hI; have HB3 := A_ hP.hB; have HK3 := A_ (HK2.out.trans hP.hK (.inl rfl)); clear hP))
  refine bodyPost_ret (results_ct rfl _ _ gb 27 #[.int .i64 4, .int .i64 0, .string ⟨#[]⟩, .string ⟨#[]⟩, .string ⟨#[]⟩, .bool false, .bool false, .slice none 0 0] (0, 0) _ rfl (pb_ BK.out) Try.underlying27 rfl (by kernel_rfl)) rfl ?_
  exact ⟨rfl, PK.far8 HI3.out HB3.out HK3.out NE.out (Nat.le_trans G0.out GE.out) GE.out ..⟩
theorem pMarked_form : ∀ (t : List S48) (p : S24) (a b : Bool) (n : S27) (u : List S48), pMarked t p a b = some (n, u) → n = ⟨0, p, n.f2, n.f3, []⟩
  | [], p, a, b, n, u, h => by simp [pMarked] at h
  | x :: t, p, a, b, n, u, h => by
    rw [pMarked] at h
    repeat' split at h
    all_goals first | exact pMarked_form t _ _ _ _ _ h | (simp only [Option.some.injEq, Prod.mk.injEq] at h; obtain ⟨rfl, _⟩ := h; rfl)
set_option maxHeartbeats 8000000 in
set_option maxRecDepth 100000 in
theorem parser_marked.calls (g : Nat) (t t' : List S48) (p : S24) (a b : Bool) (n : S27) (m d : Int) (w0 w : World) (hI : IsP w0 w g t m d) (hB0 : Below w0.heap.size w0 w) (h : pMarked t p a b = some (n, t')) :
    Calls Try.prog 58 #[.pointer (some ⟨g, 0, none⟩), .agg #[.int .i64 0, .int .i64 p.f0, .string p.f1, .string p.f2, .string p.f3, .bool a, .bool b, .slice none 0 0]] w fun e' w' => e' = .returned (.agg #[.int .i64 0, .int .i64 p.f0, .string p.f1, .string p.f2, .string p.f3, .bool n.f2, .bool n.f3, .slice none 0 0]) ∧ PK w0 w w' g t' m d := by
  have HI := A_ hI
  have HB0 := A_ hB0
  have G0 := A_ (show w0.heap.size ≤ w.heap.size from hB0.size)
  have H' := A_ h
  clear hI hB0 h
  go_enter Try.func58, Try.ntmps58
  go_wp2_with (first | ((with_reducible refine gD 3 ?_); refine bxe_ 3 #[.int .i64 0, .int .i64 p.f0, .string p.f1, .string p.f2, .string p.f3, .bool a, .bool b, .slice none 0 0] 27 ?_; intro ga hga w2 hbox hb; have BA := A_ hbox; have NA := A_ (show g ≠ ga from by rw [hga]; exact Nat.ne_of_lt HI.out.lt); have GA := A_ (show w.heap.size ≤ ga from by rw [hga]; exact Nat.le_refl _); have HI2 := A_ (HI.out.below hb); have HB2 := A_ (below_step HB0.out hb); have HK2 := A_ (KeepBut.of_below hb g none); clear HI HB0 hb hbox hga) | ((with_reducible refine gD 4 ?_); refine bxe_ 4 z8_ 27 ?_; intro gb hgb w3 hbox hb; have BK := A_ hbox; have NE := A_ (show g ≠ gb from by rw [hgb]; exact Nat.ne_of_lt HI2.out.lt); have NAB := A_ (show ga ≠ gb from by rw [hgb]; exact Nat.ne_of_lt (blk_lt BA.out)); have GE := A_ (show w.heap.size ≤ gb from by rw [hgb]; exact HK2.out.1); have HI3 := A_ (HI2.out.below hb); have HB3 := A_ (below_step HB2.out hb); have HK3 := A_ (HK2.out.trans (KeepBut.of_below hb g none) (.inl rfl)); replace BA := A_ (blk_below BA.out hb); clear HI2 HB2 HK2 hb hbox hgb))
  (try simp only [Act.put, List.setIfInBounds_toArray, List.set_cons_zero, List.set_cons_succ])
  go_loopg [5] t.length (fun kq v5 w' => ∃ (t1 : List S48) (a1 b1 : Bool), Aside0 (t1.length = kq) ∧ Aside0 (pMarked t1 p a1 b1 = some (n, t')) ∧ Aside0 (w'.heap[ga]? = some (.cells #[.int .i64 0, .int .i64 p.f0, .string p.f1, .string p.f2, .string p.f3, .bool a1, .bool b1, .slice none 0 0] 27 (0, 0))) ∧ Aside0 (w'.heap[gb]? = some (.cells z8_ 27 (0, 0))) ∧ Aside0 (IsP w0 w' g t1 m d) ∧ Aside0 (Below w0.heap.size w0 w') ∧ Aside0 (KeepBut w w' g none))
  case atStart => exact ⟨t, a, b, ⟨rfl⟩, H', BA, BK, HI3, HB3, HK3⟩
  case round =>
    clear H' BA BK HI3 HB3 HK3
    obtain ⟨t1, a1, b1, HL, HA, BA, BK, HI, HB, HK⟩ := hrel
    have GA0 := A_ (Nat.le_trans G0.out GA.out)
    have GE0 := A_ (Nat.le_trans G0.out GE.out)
    have nab := NAB.out
    have nba := Ne.symm nab
    cases t1 with
    | nil => exact absurd HA.out (by simp [pMarked])
    | cons x u =>
      have H := HA.out
      clear HA
      rw [pMarked] at H
      by_cases c : x.f0 = 7
      · rw [if_pos c] at H
        have c7 : (x.f0 == 7) = true := beq_iff_eq.mpr c
        have c8 : (x.f0 == 8) = false := by rw [beq_eq_false_iff_ne, c]; decide
        clear c
        cases a1 with | false =>
          rw [if_pos rfl] at H
          have H' := A_ H
          clear H
          go_wp2_with (first | ((with_reducible refine gC 14 ?_); refine gL 7 Try.func14 #[.pointer (some ⟨g, 0, none⟩)] ?_; (with_reducible refine (parser_next.calls g x u m d w0 _ HI.out HB.out).mono ?_); rintro e1 w1 ⟨rfl, hb⟩; refine ⟨_, rfl, ?_⟩; replace HI := A_ (HI.out.below hb); replace HB := A_ (below_step HB.out hb); replace HK := A_ (HK.out.trans (KeepBut.of_below hb g none) (.inl rfl)); replace BA := A_ (blk_below BA.out hb); replace BK := A_ (blk_below BK.out hb); have ZA := bz8_ BA; have ZB := bz8_ BK; clear hb) | ((with_reducible refine gC 41 ?_); refine gL 29 Try.func41 #[.pointer (some ⟨g, 0, none⟩)] ?_; (with_reducible refine (parser_take.calls g x u m d w0 _ (HI.out.far (p := ⟨ga, 5, none⟩) NA.out _) (below_set HB.out GA0.out)).mono ?_); rintro e3 w3 ⟨⟨v3, rfl⟩, hP⟩; refine ⟨_, rfl, ?_⟩; replace BA := A_ (hP.hK.blk (blk_put BA.out 5 _ rfl) (Ne.symm NA.out) (by simp)); replace BK := A_ (hP.hK.blk (blk_far BK.out nba _) (Ne.symm NE.out) (by simp)); clear ZA ZB; replace HI := A_ hP.hI; replace HB := A_ hP.hB; replace HK := A_ ((keep_far (p := ⟨ga, 5, none⟩) HK.out GA.out _).trans hP.hK (.inl rfl)); clear hP))
          go_roundg u.length
          case measure => have := HL.out; simp at this; omega
          case rel => exact ⟨u, true, b1, ⟨rfl⟩, H', BA, BK, HI, HB, HK⟩ | true =>
          rw [if_neg (by simp)] at H
          obtain ⟨rfl, rfl⟩ := by simpa using H
          clear H
          go_wp2_with (first | ((with_reducible refine gC 14 ?_); refine gL 7 Try.func14 #[.pointer (some ⟨g, 0, none⟩)] ?_; (with_reducible refine (parser_next.calls g x u m d w0 _ HI.out HB.out).mono ?_); rintro e1 w1 ⟨rfl, hb⟩; refine ⟨_, rfl, ?_⟩; replace HI := A_ (HI.out.below hb); replace HB := A_ (below_step HB.out hb); replace HK := A_ (HK.out.trans (KeepBut.of_below hb g none) (.inl rfl)); replace BA := A_ (blk_below BA.out hb); replace BK := A_ (blk_below BK.out hb); have ZA := bz8_ BA; have ZB := bz8_ BK; clear hb))
          refine bodyPost_ret (results_cell_row rfl _ _ gb 27 #[.int .i64 0, .int .i64 p.f0, .string p.f1, .string p.f2, .string p.f3, .bool _, .bool _, .slice none 0 0] (0, 0) _ rfl (pb_ BK.out) Try.underlying27 rfl (by kernel_rfl)) rfl ?_; exact ⟨rfl, PK.far8 HI.out HB.out HK.out NE.out GE0.out GE.out ..⟩
      · rw [if_neg c] at H
        have c7 : (x.f0 == 7) = false := beq_eq_false_iff_ne.mpr c
        clear c
        by_cases c : x.f0 = 8
        · rw [if_pos c] at H
          have c8 : (x.f0 == 8) = true := beq_iff_eq.mpr c
          clear c
          cases b1 with | false =>
            rw [if_pos rfl] at H
            have H' := A_ H
            clear H
            go_wp2_with (first | ((with_reducible refine gC 14 ?_); refine gL 7 Try.func14 #[.pointer (some ⟨g, 0, none⟩)] ?_; (with_reducible refine (parser_next.calls g x u m d w0 _ HI.out HB.out).mono ?_); rintro e1 w1 ⟨rfl, hb⟩; refine ⟨_, rfl, ?_⟩; replace HI := A_ (HI.out.below hb); replace HB := A_ (below_step HB.out hb); replace HK := A_ (HK.out.trans (KeepBut.of_below hb g none) (.inl rfl)); replace BA := A_ (blk_below BA.out hb); replace BK := A_ (blk_below BK.out hb); have ZA := bz8_ BA; have ZB := bz8_ BK; clear hb) | ((with_reducible refine gC 41 ?_); refine gL 29 Try.func41 #[.pointer (some ⟨g, 0, none⟩)] ?_; (with_reducible refine (parser_take.calls g x u m d w0 _ (HI.out.far (p := ⟨ga, 6, none⟩) NA.out _) (below_set HB.out GA0.out)).mono ?_); rintro e3 w3 ⟨⟨v3, rfl⟩, hP⟩; refine ⟨_, rfl, ?_⟩; replace BA := A_ (hP.hK.blk (blk_put BA.out 6 _ rfl) (Ne.symm NA.out) (by simp)); replace BK := A_ (hP.hK.blk (blk_far BK.out nba _) (Ne.symm NE.out) (by simp)); clear ZA ZB; replace HI := A_ hP.hI; replace HB := A_ hP.hB; replace HK := A_ ((keep_far (p := ⟨ga, 6, none⟩) HK.out GA.out _).trans hP.hK (.inl rfl)); clear hP))
            go_roundg u.length
            case measure => have := HL.out; simp at this; omega
            case rel => exact ⟨u, a1, true, ⟨rfl⟩, H', BA, BK, HI, HB, HK⟩ | true =>
            rw [if_neg (by simp)] at H
            obtain ⟨rfl, rfl⟩ := by simpa using H
            clear H
            go_wp2_with (first | ((with_reducible refine gC 14 ?_); refine gL 7 Try.func14 #[.pointer (some ⟨g, 0, none⟩)] ?_; (with_reducible refine (parser_next.calls g x u m d w0 _ HI.out HB.out).mono ?_); rintro e1 w1 ⟨rfl, hb⟩; refine ⟨_, rfl, ?_⟩; replace HI := A_ (HI.out.below hb); replace HB := A_ (below_step HB.out hb); replace HK := A_ (HK.out.trans (KeepBut.of_below hb g none) (.inl rfl)); replace BA := A_ (blk_below BA.out hb); replace BK := A_ (blk_below BK.out hb); have ZA := bz8_ BA; have ZB := bz8_ BK; clear hb))
            refine bodyPost_ret (results_cell_row rfl _ _ gb 27 #[.int .i64 0, .int .i64 p.f0, .string p.f1, .string p.f2, .string p.f3, .bool _, .bool _, .slice none 0 0] (0, 0) _ rfl (pb_ BK.out) Try.underlying27 rfl (by kernel_rfl)) rfl ?_; exact ⟨rfl, PK.far8 HI.out HB.out HK.out NE.out GE0.out GE.out ..⟩
        · rw [if_neg c] at H
          have c8 : (x.f0 == 8) = false := beq_eq_false_iff_ne.mpr c
          clear c
          obtain ⟨rfl, rfl⟩ := by simpa using H
          clear H
          go_wp2_with (first | ((with_reducible refine gC 14 ?_); refine gL 7 Try.func14 #[.pointer (some ⟨g, 0, none⟩)] ?_; (with_reducible refine (parser_next.calls g x u m d w0 _ HI.out HB.out).mono ?_); rintro e1 w1 ⟨rfl, hb⟩; refine ⟨_, rfl, ?_⟩; replace HI := A_ (HI.out.below hb); replace HB := A_ (below_step HB.out hb); replace HK := A_ (HK.out.trans (KeepBut.of_below hb g none) (.inl rfl)); replace BA := A_ (blk_below BA.out hb); replace BK := A_ (blk_below BK.out hb); have ZA := bz8_ BA; have ZB := bz8_ BK; clear hb))
          refine bodyPost_ret (results_cell_row rfl _ _ gb 27 #[.int .i64 0, .int .i64 p.f0, .string p.f1, .string p.f2, .string p.f3, .bool _, .bool _, .slice none 0 0] (0, 0) _ rfl (pb_ BK.out) Try.underlying27 rfl (by kernel_rfl)) rfl ?_; exact ⟨rfl, PK.far8 HI.out HB.out HK.out NE.out GE0.out GE.out ..⟩
def NQ (w0 w : World) (g q : Nat) : Prop := g ≠ q ∧ w.heap.size ≤ q ∧ w0.heap.size ≤ q
section
variable {w0 w W W1 : World} {g q : Nat} {t t' : List S48} {m d m' d' : Int}
theorem PK.start (hI : IsP w0 w g t m d) (hB0 : Below w0.heap.size w0 w) : PK w0 w w g t m d := ⟨hI, hB0, KeepBut.refl _ _ _⟩
theorem PK.below (h : PK w0 w W g t m d) (hb : Below W.heap.size W W1) : PK w0 w W1 g t m d := ⟨h.hI.below hb, below_step h.hB hb, h.hK.trans (KeepBut.of_below hb g none) (.inl rfl)⟩
theorem PK.trans (h : PK w0 w W g t m d) (k : PK w0 W W1 g t' m' d') : PK w0 w W1 g t' m' d' := ⟨k.hI, k.hB, h.hK.trans k.hK (.inl rfl)⟩
theorem PK.new (h : PK w0 w W g t m d) (hq : q = W.heap.size) : NQ w0 w g q := ⟨by rw [hq]; exact Nat.ne_of_lt h.hI.lt, by rw [hq]; exact h.hK.1, by rw [hq]; exact h.hB.size⟩
theorem PK.far (h : PK w0 w W g t m d) (n : NQ w0 w g q) (j : Nat) (u : Value) : PK w0 w (W.setCell ⟨q, j, none⟩ u) g t m d := ⟨h.hI.far (p := ⟨q, j, none⟩) n.1 u, below_set h.hB n.2.2, keep_far (p := ⟨q, j, none⟩) h.hK n.2.1 u⟩
theorem PK.blk {o : Obj} (k : PK w0 w W g t m d) (hb : w.heap[q]? = some o) (n : NQ w0 W1 g q) : W.heap[q]? = some o := k.hK.blk hb (Ne.symm n.1) (by simp)
theorem PK.far4 (h : PK w0 w W g t m d) (n : NQ w0 w g q) (a b c e : Value) : PK w0 w ((((W.setCell ⟨q, 0, none⟩ a).setCell ⟨q, 1, none⟩ b).setCell ⟨q, 2, none⟩ c).setCell ⟨q, 3, none⟩ e) g t m d := (((h.far n 0 a).far n 1 b).far n 2 c).far n 3 e
theorem PK.all8 (h : PK w0 w W g t m d) (n : NQ w0 w g q) (a b c e f i j k : Value) : PK w0 w ((((((((W.setCell ⟨q, 0, none⟩ a).setCell ⟨q, 1, none⟩ b).setCell ⟨q, 2, none⟩ c).setCell ⟨q, 3, none⟩ e).setCell ⟨q, 4, none⟩ f).setCell ⟨q, 5, none⟩ i).setCell ⟨q, 6, none⟩ j).setCell ⟨q, 7, none⟩ k) g t m d :=
  (((((((h.far n 0 a).far n 1 b).far n 2 c).far n 3 e).far n 4 f).far n 5 i).far n 6 j).far n 7 k
end
theorem far4_ {W : World} {g q : Nat} {cs : Array Value} {T : TypeId} (h : W.heap[g]? = some (.cells cs T (0, 0))) (hne : g ≠ q) (a b c e : Value) : ((((W.setCell ⟨q, 0, none⟩ a).setCell ⟨q, 1, none⟩ b).setCell ⟨q, 2, none⟩ c).setCell ⟨q, 3, none⟩ e).heap[g]? = some (.cells cs T (0, 0)) :=
  blk_far (p := ⟨q, 3, none⟩) (blk_far (p := ⟨q, 2, none⟩) (blk_far (p := ⟨q, 1, none⟩) (blk_far (p := ⟨q, 0, none⟩) h hne a) hne b) hne c) hne e
theorem far8_ {W : World} {g q : Nat} {cs : Array Value} {T : TypeId} (h : W.heap[g]? = some (.cells cs T (0, 0))) (hne : g ≠ q) (a b c e f i j k : Value) : ((((((((W.setCell ⟨q, 0, none⟩ a).setCell ⟨q, 1, none⟩ b).setCell ⟨q, 2, none⟩ c).setCell ⟨q, 3, none⟩ e).setCell ⟨q, 4, none⟩ f).setCell ⟨q, 5, none⟩ i).setCell ⟨q, 6, none⟩ j).setCell ⟨q, 7, none⟩ k).heap[g]? = some (.cells cs T (0, 0)) :=
  blk_far (p := ⟨q, 7, none⟩) (blk_far (p := ⟨q, 6, none⟩) (blk_far (p := ⟨q, 5, none⟩) (blk_far (p := ⟨q, 4, none⟩) (far4_ h hne a b c e) hne f) hne i) hne j) hne k
theorem put4_ {W : World} {q : Nat} {x0 x1 x2 x3 : Value} {T : TypeId} (h : W.heap[q]? = some (.cells #[x0, x1, x2, x3] T (0, 0))) (a b c e : Value) : ((((W.setCell ⟨q, 0, none⟩ a).setCell ⟨q, 1, none⟩ b).setCell ⟨q, 2, none⟩ c).setCell ⟨q, 3, none⟩ e).heap[q]? = some (.cells #[a, b, c, e] T (0, 0)) :=
  blk_put (blk_put (blk_put (blk_put h 0 a rfl) 1 b rfl) 2 c rfl) 3 e rfl
theorem put8_ {W : World} {q : Nat} {x0 x1 x2 x3 x4 x5 x6 x7 : Value} {T : TypeId} (h : W.heap[q]? = some (.cells #[x0, x1, x2, x3, x4, x5, x6, x7] T (0, 0))) (a b c e f i j k : Value) : ((((((((W.setCell ⟨q, 0, none⟩ a).setCell ⟨q, 1, none⟩ b).setCell ⟨q, 2, none⟩ c).setCell ⟨q, 3, none⟩ e).setCell ⟨q, 4, none⟩ f).setCell ⟨q, 5, none⟩ i).setCell ⟨q, 6, none⟩ j).setCell ⟨q, 7, none⟩ k).heap[q]? = some (.cells #[a, b, c, e, f, i, j, k] T (0, 0)) :=
blk_put (cs := #[a, b, c, e, f, i, j, x7]) (blk_put (cs := #[a, b, c, e, f, i, x6, x7]) (blk_put (cs := #[a, b, c, e, f, x5, x6, x7]) (blk_put (cs := #[a, b, c, e, x4, x5, x6, x7]) (blk_put (cs := #[a, b, c, x3, x4, x5, x6, x7]) (blk_put (cs := #[a, b, x2, x3, x4, x5, x6, x7]) (blk_put (cs := #[a, x1, x2, x3, x4, x5, x6, x7]) (blk_put h 0 a rfl) 1 b rfl) 2 c rfl) 3 e rfl) 4 f rfl) 5 i rfl) 6 j rfl) 7 k rfl
theorem IsX.far {b q : Nat} {W : World} {v : Value} {x : Wr} (h : IsX b W v x) (hq : q < b) (j : Nat) (u : Value) : IsX b (W.setCell ⟨q, j, none⟩ u) v x := by
  cases x with
  | none => exact h
  | some y =>
    obtain ⟨i, e, hb, hi⟩ := h
    exact ⟨i, e, hb, blk_far (p := ⟨q, j, none⟩) hi (show i ≠ q by omega) u⟩
theorem IsX.lower {b b' : Nat} {W : World} {v : Value} {x : Wr} (h : IsX b W v x) (hb : b' ≤ b) : IsX b' W v x := by
  cases x with
  | none => exact h
  | some y =>
    obtain ⟨i, e, hb', hi⟩ := h
    exact ⟨i, e, Nat.le_trans hb hb', hi⟩
theorem IsX.all8 {b b' q : Nat} {W : World} {v : Value} {x : Wr} (h : IsX b W v x) (hq : q < b) (hb : b' ≤ b) (a a1 c e f i j k : Value) : IsX b' ((((((((W.setCell ⟨q, 0, none⟩ a).setCell ⟨q, 1, none⟩ a1).setCell ⟨q, 2, none⟩ c).setCell ⟨q, 3, none⟩ e).setCell ⟨q, 4, none⟩ f).setCell ⟨q, 5, none⟩ i).setCell ⟨q, 6, none⟩ j).setCell ⟨q, 7, none⟩ k) v x :=
  ((((((((h.far hq 0 a).far hq 1 a1).far hq 2 c).far hq 3 e).far hq 4 f).far hq 5 i).far hq 6 j).far hq 7 k).lower hb
set_option maxHeartbeats 8000000 in
set_option maxRecDepth 100000 in
theorem tree_Of.exact (p : S24) (w : World) :
  Calls Try.prog 59 #[.agg #[.int .i64 p.f0, .string p.f1, .string p.f2, .string p.f3], .bool false, .bool false] w fun e w' => e = .returned (.agg #[.int .i64 0, .int .i64 p.f0, .string p.f1, .string p.f2, .string p.f3, .bool false, .bool false, .slice none 0 0]) ∧ Below w.heap.size w w' := by
 have hu24 := Try.underlying24; have hu27 := Try.underlying27; have HB := A_ (Below.refl w.heap.size w); go_enter Try.func59, Try.ntmps59; go_wp2_with (first | (refine gx_ w 3 (n4_ p.f0 p.f1 p.f2 p.f3) 24 ?_; clear HB; intro gb160 w4 BK160 GE160 HB; have GW160 := GE160) | (refine gD 6 ?_; refine bxe_ 6 z8_ 27 ?_; intro gb161 hg w5 hbox hb; have BK161 := A_ (hbox); have GW161 := gs_ w hg; have GE161 := gs_ w hg; replace HB := bs_ hb; have NB160_161 := nl_ BK160 hg; have NB161_160 := ng_ BK160 hg; replace BK160 := bb_ BK160 hb; clear hb hbox hg; have hnb6 := NB160_161.out; have hnc6 := NB161_160.out; have Z7 := bz4_ BK160; have Z8 := bz8_ BK161))
 refine bodyPost_ret (results_cell_row rfl _ _ gb161 27 #[.int .i64 0, .int .i64 p.f0, .string p.f1, .string p.f2, .string p.f3, .bool false, .bool false, .slice none 0 0] (0, 0) _ rfl (pb_ BK161.out) Try.underlying27 rfl (by kernel_rfl)) rfl ?_; exact ⟨rfl, hs_⟩
set_option maxHeartbeats 8000000 in
set_option maxRecDepth 100000 in
theorem parser_word.calls (k : Nat) (g : Nat) (x : S48) (t : List S48) (m d : Int) (r : PR) (w0 w : World) (hI : IsP w0 w g (x :: t) m d) (hB0 : Below w0.heap.size w0 w) (h : pWord k x t m d = some r) :
    Calls Try.prog 49 #[.pointer (some ⟨g, 0, none⟩)] w fun e' w' => ∃ u, e' = .returned (.tuple #[.agg #[.int .i64 r.n.f0, .int .i64 r.n.f1.f0, .string r.n.f1.f1, .string r.n.f1.f2, .string r.n.f1.f3, .bool r.n.f2, .bool r.n.f3, .slice none 0 0], u]) ∧ IsX w.heap.size w' u r.x ∧ PK w0 w w' g r.t r.m r.d := by
  have HP := A_ (PK.start hI hB0)
  clear hI hB0
  obtain ⟨⟨p0, p1, p2, p3, ok⟩, hR, h2⟩ := Option.bind_eq_some_iff.mp h
  have HR := A_ hR
  clear hR h
  have h := h2
  clear h2
  cases ok with
  | false =>
    obtain rfl := Option.some.inj ((if_neg (by simp)).symm.trans h)
    clear h
    go_enter Try.func49, Try.ntmps49
    go_wp2_with (first | ((with_reducible refine gD 2 ?_); refine bxe_ 2 z8_ 27 ?_; intro gb hgb w2 hbox hb; have BK := A_ hbox; have NB := A_ (HP.out.new hgb); replace HP := A_ (HP.out.below hb); clear hb hbox hgb) | ((with_reducible refine gD 8 ?_); refine gL 8 Try.func14 #[.pointer (some ⟨g, 0, none⟩)] ?_; (with_reducible refine (parser_next.calls g x t m d w0 _ HP.out.hI HP.out.hB).mono ?_); rintro e1 w1 ⟨rfl, hb⟩; refine ⟨_, rfl, ?_⟩; replace HP := A_ (HP.out.below hb); replace BK := A_ (blk_below BK.out hb); clear hb) | ((with_reducible refine gD 10 ?_); refine gL 10 Try.func57 #[.string x.f2] ?_; (with_reducible refine (point_Read.calls k x.f2 p0 p1 p2 p3 false _ HR.out).mono ?_); rintro e1 w1 ⟨rfl, hb⟩; refine ⟨_, rfl, ?_⟩; replace HP := A_ (HP.out.below hb); replace BK := A_ (blk_below BK.out hb); clear hb) | ((with_reducible refine gD 4 ?_); refine bxe_ 4 z4_ 24 ?_; intro gp hgp w4 hbox hb; have BP := A_ hbox; have NP := A_ (HP.out.new hgp); have NBP := A_ (show gb ≠ gp from by rw [hgp]; exact Nat.ne_of_lt (blk_lt BK.out)); replace HP := A_ (HP.out.below hb); replace BK := A_ (blk_below BK.out hb); have Z := bz4_ BP; clear hb hbox hgp) | ((with_reducible refine gD 17 ?_); refine gL 17 Try.func15 #[.pointer (some ⟨g, 0, none⟩), .int .i64 2] ?_; clear Z; replace HP := A_ (HP.out.far4 NP.out (.int .i64 p0) (.string p1) (.string p2) (.string p3)); replace BK := A_ (far4_ BK.out NBP.out (.int .i64 p0) (.string p1) (.string p2) (.string p3)); (with_reducible refine (parser_not.calls g x t m d 2 w0 _ HP.out.hI HP.out.hB).mono ?_); rintro e1 w1 ⟨u1, rfl, hx, hb⟩; refine ⟨_, rfl, ?_⟩; have HX := A_ hx; have GB := A_ (blk_lt BK.out); have GW := A_ HP.out.hK.1; replace HP := A_ (HP.out.below hb); replace BK := A_ (blk_below BK.out hb); have Z := bz8_ BK; clear hx hb))
    refine bodyPost_ret (results_ct rfl _ _ gb 27 z8_ (0, 0) _ rfl (pb_ BK.out) Try.underlying27 rfl (by kernel_rfl)) rfl ?_
    exact ⟨_, rfl, HX.out.all8 GB.out GW.out .., HP.out.all8 NB.out ..⟩
  | true =>
    have h2 := (if_pos rfl).symm.trans h
    clear h
    obtain ⟨⟨n, t'⟩, hM, h3⟩ := Option.bind_eq_some_iff.mp h2
    clear h2
    obtain ⟨a', b', rfl⟩ : ∃ a' b', n = ⟨0, ⟨p0, p1, p2, p3⟩, a', b', []⟩ := ⟨_, _, pMarked_form _ _ _ _ _ _ hM⟩
    have HM := A_ hM
    clear hM
    obtain rfl := Option.some.inj h3
    clear h3
    go_enter Try.func49, Try.ntmps49
    go_wp2_with (first | ((with_reducible refine gD 2 ?_); refine bxe_ 2 z8_ 27 ?_; intro gb hgb w2 hbox hb; have BK := A_ hbox; have NB := A_ (HP.out.new hgb); replace HP := A_ (HP.out.below hb); clear hb hbox hgb) | ((with_reducible refine gD 8 ?_); refine gL 8 Try.func14 #[.pointer (some ⟨g, 0, none⟩)] ?_; (with_reducible refine (parser_next.calls g x t m d w0 _ HP.out.hI HP.out.hB).mono ?_); rintro e1 w1 ⟨rfl, hb⟩; refine ⟨_, rfl, ?_⟩; replace HP := A_ (HP.out.below hb); replace BK := A_ (blk_below BK.out hb); clear hb) | ((with_reducible refine gD 10 ?_); refine gL 10 Try.func57 #[.string x.f2] ?_; (with_reducible refine (point_Read.calls k x.f2 p0 p1 p2 p3 true _ HR.out).mono ?_); rintro e1 w1 ⟨rfl, hb⟩; refine ⟨_, rfl, ?_⟩; replace HP := A_ (HP.out.below hb); replace BK := A_ (blk_below BK.out hb); clear hb) | ((with_reducible refine gD 4 ?_); refine bxe_ 4 z4_ 24 ?_; intro gp hgp w4 hbox hb; have BP := A_ hbox; have NP := A_ (HP.out.new hgp); have NBP := A_ (show gb ≠ gp from by rw [hgp]; exact Nat.ne_of_lt (blk_lt BK.out)); replace HP := A_ (HP.out.below hb); replace BK := A_ (blk_below BK.out hb); have Z := bz4_ BP; clear hb hbox hgp) | ((with_reducible refine gC 41 ?_); refine gL 19 Try.func41 #[.pointer (some ⟨g, 0, none⟩)] ?_; clear Z; replace HP := A_ (HP.out.far4 NP.out (.int .i64 p0) (.string p1) (.string p2) (.string p3)); replace BK := A_ (far4_ BK.out NBP.out (.int .i64 p0) (.string p1) (.string p2) (.string p3)); replace BP := A_ (put4_ BP.out (.int .i64 p0) (.string p1) (.string p2) (.string p3)); (with_reducible refine (parser_take.calls g x t m d w0 _ HP.out.hI HP.out.hB).mono ?_); rintro e3 w3 ⟨⟨v3, rfl⟩, hP⟩; refine ⟨_, rfl, ?_⟩; replace BK := A_ (hP.blk BK.out NB.out); replace BP := A_ (hP.blk BP.out NP.out); replace HP := A_ (HP.out.trans hP); have Z := bz4_ BP; clear hP) | ((with_reducible refine gC 59 ?_); refine gL 22 Try.func59 #[.agg #[.int .i64 p0, .string p1, .string p2, .string p3], .bool false, .bool false] ?_; (with_reducible refine (tree_Of.exact ⟨p0, p1, p2, p3⟩ _).mono ?_); rintro e1 w1 ⟨rfl, hb⟩; refine ⟨_, rfl, ?_⟩; replace HP := A_ (HP.out.below hb); replace BK := A_ (blk_below BK.out hb); clear hb) | ((with_reducible refine gC 58 ?_); refine gL 23 Try.func58 #[.pointer (some ⟨g, 0, none⟩), .agg #[.int .i64 0, .int .i64 p0, .string p1, .string p2, .string p3, .bool false, .bool false, .slice none 0 0]] ?_; (with_reducible refine (parser_marked.calls g t t' ⟨p0, p1, p2, p3⟩ false false _ m d w0 _ HP.out.hI HP.out.hB HM.out).mono ?_); rintro e1 w1 ⟨rfl, hP⟩; refine ⟨_, rfl, ?_⟩; replace BK := A_ (hP.blk BK.out NB.out); replace HP := A_ (HP.out.trans hP); clear Z; have Z := bz8_ BK; clear hP))
    refine bodyPost_ret (results_ct rfl _ _ gb 27 #[.int .i64 0, .int .i64 p0, .string p1, .string p2, .string p3, .bool a', .bool b', .slice none 0 0] (0, 0) _ rfl (pb_ BK.out) Try.underlying27 rfl (by kernel_rfl)) rfl ?_
    exact ⟨_, rfl, rfl, HP.out.all8 NB.out ..⟩
section
variable {P : Program} {ops : Array Oper} {Q : Exit → Act → World → Prop}
theorem gV {rest : List Oper} {o : Oper} {a : Act} {W : World} (N : Tmp) {f : FuncId} {fn : Func} {aa_ : Array Operand} {ts : Array TypeId} {t : Tmp} (pre : Array Value) (hf : P.funcs[f]? = some fn) (args : Array Value)
    (h : Calls P f args W fun e w' => ∃ v, e = .returned v ∧ wpList P ops Q rest (a.put (some N) v) w')
    (hd : o.dst = some N := by rfl) (hg : o.guard = none := by rfl) (hname : (fn.name == "runtime.NumGoroutine") = false := by kernel_rfl) (hb : fn.body.isSome = true := by rfl)
    (hop : o.op = .call { callee := .value (.tmp t), args := aa_, argTypes := ts } := by rfl) (hv : a.eval (.tmp t) = .func (.func f) pre #[] := by rfl) (hargs : pre ++ aa_.map a.eval = args := by (simp only [List.map_toArray, List.map_cons, List.map_nil, List.append_toArray, List.cons_append, List.nil_append, List.append_nil]); try rfl) : wpList P ops Q (o :: rest) a W := by
  refine wpList_plain hg fun K hK => ?_
  have he := enters_ hf hname hb args W
  have hrun : (execOp a.eval o).run P W = .ok (.enter f args) W := by
    unfold execOp
    simp [hop, resolve, Deferred.ofValue, invoke, hv, hargs, he]
  unfold Oper.wp
  rw [hrun, Oper.upon_enter]
  refine h.mono fun e w'' hh => ?_
  obtain ⟨v, rfl, hk⟩ := hh
  show K (a.put o.dst v) w''
  rw [hd]
  exact hK _ _ hk
end
set_option maxHeartbeats 8000000 in
set_option maxRecDepth 100000 in
theorem parser_end.calls (k : Nat) (g : Nat) (t : List S48) (m d : Int) (r : PR) (w0 w : World) (hI : IsP w0 w g t m d) (hB0 : Below w0.heap.size w0 w) (h : pEnd k m d t = some r) :
    Calls Try.prog 39 #[.pointer (some ⟨g, 0, none⟩)] w fun e' w' => ∃ u, e' = .returned (.tuple #[.agg #[.int .i64 r.n.f0, .int .i64 r.n.f1.f0, .string r.n.f1.f1, .string r.n.f1.f2, .string r.n.f1.f3, .bool r.n.f2, .bool r.n.f3, .slice none 0 0], u]) ∧ IsX w.heap.size w' u r.x ∧ PK w0 w w' g r.t r.m r.d := by
  have HP := A_ (PK.start hI hB0)
  clear hI hB0
  cases t with
  | nil => cases h
  | cons x t =>
    rw [pEnd] at h
    by_cases c0 : x.f0 = 0
    · rw [if_pos c0] at h
      have k0 : (x.f0 == 0) = true := beq_iff_eq.mpr c0
      clear c0
      by_cases cm : m = 64
      · rw [if_pos cm] at h
        have HM := A_ cm
        clear cm
        obtain rfl := Option.some.inj h
        clear h
        go_enter Try.func39, Try.ntmps39; go_wp2_with (first | ((with_reducible refine gD 2 ?_); refine bxe_ 2 z8_ 27 ?_; intro gb hgb w2 hbox hb; have BK := A_ hbox; have NB := A_ (HP.out.new hgb); replace HP := A_ (HP.out.below hb); clear hb hbox hgb) | ((with_reducible refine gD 7 ?_); refine gL 7 Try.func14 #[.pointer (some ⟨g, 0, none⟩)] ?_; (with_reducible refine (parser_next.calls g x t m d w0 _ HP.out.hI HP.out.hB).mono ?_); rintro e1 w1 ⟨rfl, hb⟩; refine ⟨_, rfl, ?_⟩; replace HP := A_ (HP.out.below hb); replace BK := A_ (blk_below BK.out hb); clear hb) | ((with_reducible refine gD 25 ?_); refine gL 25 Try.func40 #[.pointer (some ⟨g, 0, none⟩)] ?_; (with_reducible refine (parser_begin.many g x t m d w0 _ HM.out HP.out.hI HP.out.hB).mono ?_); rintro e1 w1 ⟨u1, rfl, hx, hP⟩; refine ⟨_, rfl, ?_⟩; have HX := A_ hx; have GB := A_ (blk_lt BK.out); have GW := A_ HP.out.hK.1; replace BK := A_ (hP.blk BK.out NB.out); replace HP := A_ (HP.out.trans hP); have Z := bz8_ BK; obtain ⟨q1, rfl, hq1⟩ := HX.out; clear hx hP hq1)); refine bodyPost_ret (results_ct rfl _ _ gb 27 z8_ (0, 0) _ rfl (pb_ BK.out) Try.underlying27 rfl (by kernel_rfl)) rfl ?_; exact ⟨_, rfl, HX.out.all8 GB.out GW.out .., HP.out.all8 NB.out ..⟩
      · rw [if_neg cm] at h
        have HM := A_ cm
        have HW := A_ h
        clear cm h
        go_enter Try.func39, Try.ntmps39
        go_wp2_with (first | ((with_reducible refine gD 2 ?_); refine bxe_ 2 z8_ 27 ?_; intro gb hgb w2 hbox hb; have BK := A_ hbox; have NB := A_ (HP.out.new hgb); replace HP := A_ (HP.out.below hb); clear hb hbox hgb) | ((with_reducible refine gD 7 ?_); refine gL 7 Try.func14 #[.pointer (some ⟨g, 0, none⟩)] ?_; (with_reducible refine (parser_next.calls g x t m d w0 _ HP.out.hI HP.out.hB).mono ?_); rintro e1 w1 ⟨rfl, hb⟩; refine ⟨_, rfl, ?_⟩; replace HP := A_ (HP.out.below hb); replace BK := A_ (blk_below BK.out hb); clear hb) | ((with_reducible refine gD 25 ?_); refine gL 25 Try.func40 #[.pointer (some ⟨g, 0, none⟩)] ?_; (with_reducible refine (parser_begin.one g (x :: t) m d w0 _ HM.out HP.out.hI HP.out.hB).mono ?_); rintro e1 w1 ⟨rfl, hP⟩; refine ⟨_, rfl, ?_⟩; replace BK := A_ (hP.blk BK.out NB.out); replace HP := A_ (HP.out.trans hP); have Z := bz8_ BK; clear hP) | ((with_reducible refine gD 31 ?_); refine gV 31 #[.pointer (some ⟨g, 0, none⟩)] Try.func49 #[.pointer (some ⟨g, 0, none⟩)] ?_; (with_reducible refine (parser_word.calls k g x t (wrap64 (m + 1)) d r w0 _ HP.out.hI HP.out.hB HW.out).mono ?_); rintro e1 w1 ⟨u1, rfl, hx, hP⟩; refine ⟨_, rfl, ?_⟩; have HX := A_ hx; have GB := A_ (blk_lt BK.out); have GW := A_ HP.out.hK.1; replace BK := A_ (hP.blk BK.out NB.out); replace HP := A_ (HP.out.trans hP); clear Z; have Z := bz8_ BK; clear hx hP))
        refine bodyPost_ret (results_ct rfl _ _ gb 27 #[.int .i64 r.n.f0, .int .i64 r.n.f1.f0, .string r.n.f1.f1, .string r.n.f1.f2, .string r.n.f1.f3, .bool r.n.f2, .bool r.n.f3, .slice none 0 0] (0, 0) _ rfl (pb_ BK.out) Try.underlying27 rfl (by kernel_rfl)) rfl ?_; exact ⟨_, rfl, HX.out.all8 GB.out GW.out .., HP.out.all8 NB.out ..⟩
    rw [if_neg c0] at h
    have k0 : (x.f0 == 0) = false := beq_eq_false_iff_ne.mpr c0
    clear c0
    by_cases c0 : x.f0 = 2
    · rw [if_pos c0] at h
      have k2 : (x.f0 == 2) = true := beq_iff_eq.mpr c0
      clear c0
      by_cases cm : m = 64
      · rw [if_pos cm] at h
        have HM := A_ cm
        clear cm
        obtain rfl := Option.some.inj h
        clear h
        go_enter Try.func39, Try.ntmps39; go_wp2_with (first | ((with_reducible refine gD 2 ?_); refine bxe_ 2 z8_ 27 ?_; intro gb hgb w2 hbox hb; have BK := A_ hbox; have NB := A_ (HP.out.new hgb); replace HP := A_ (HP.out.below hb); clear hb hbox hgb) | ((with_reducible refine gD 7 ?_); refine gL 7 Try.func14 #[.pointer (some ⟨g, 0, none⟩)] ?_; (with_reducible refine (parser_next.calls g x t m d w0 _ HP.out.hI HP.out.hB).mono ?_); rintro e1 w1 ⟨rfl, hb⟩; refine ⟨_, rfl, ?_⟩; replace HP := A_ (HP.out.below hb); replace BK := A_ (blk_below BK.out hb); clear hb) | ((with_reducible refine gD 25 ?_); refine gL 25 Try.func40 #[.pointer (some ⟨g, 0, none⟩)] ?_; (with_reducible refine (parser_begin.many g x t m d w0 _ HM.out HP.out.hI HP.out.hB).mono ?_); rintro e1 w1 ⟨u1, rfl, hx, hP⟩; refine ⟨_, rfl, ?_⟩; have HX := A_ hx; have GB := A_ (blk_lt BK.out); have GW := A_ HP.out.hK.1; replace BK := A_ (hP.blk BK.out NB.out); replace HP := A_ (HP.out.trans hP); have Z := bz8_ BK; obtain ⟨q1, rfl, hq1⟩ := HX.out; clear hx hP hq1)); refine bodyPost_ret (results_ct rfl _ _ gb 27 z8_ (0, 0) _ rfl (pb_ BK.out) Try.underlying27 rfl (by kernel_rfl)) rfl ?_; exact ⟨_, rfl, HX.out.all8 GB.out GW.out .., HP.out.all8 NB.out ..⟩
      · rw [if_neg cm] at h
        have HM := A_ cm
        clear cm
        obtain rfl := Option.some.inj h
        clear h
        go_enter Try.func39, Try.ntmps39
        go_wp2_with (first | ((with_reducible refine gD 2 ?_); refine bxe_ 2 z8_ 27 ?_; intro gb hgb w2 hbox hb; have BK := A_ hbox; have NB := A_ (HP.out.new hgb); replace HP := A_ (HP.out.below hb); clear hb hbox hgb) | ((with_reducible refine gD 7 ?_); refine gL 7 Try.func14 #[.pointer (some ⟨g, 0, none⟩)] ?_; (with_reducible refine (parser_next.calls g x t m d w0 _ HP.out.hI HP.out.hB).mono ?_); rintro e1 w1 ⟨rfl, hb⟩; refine ⟨_, rfl, ?_⟩; replace HP := A_ (HP.out.below hb); replace BK := A_ (blk_below BK.out hb); clear hb) | ((with_reducible refine gD 25 ?_); refine gL 25 Try.func40 #[.pointer (some ⟨g, 0, none⟩)] ?_; (with_reducible refine (parser_begin.one g (x :: t) m d w0 _ HM.out HP.out.hI HP.out.hB).mono ?_); rintro e1 w1 ⟨rfl, hP⟩; refine ⟨_, rfl, ?_⟩; replace BK := A_ (hP.blk BK.out NB.out); replace HP := A_ (HP.out.trans hP); have Z := bz8_ BK; clear hP) | ((with_reducible refine gD 31 ?_); refine gV 31 #[.pointer (some ⟨g, 0, none⟩)] Try.func50 #[.pointer (some ⟨g, 0, none⟩)] ?_; (with_reducible refine (parser_dots.calls g x t (wrap64 (m + 1)) d w0 _ HP.out.hI HP.out.hB).mono ?_); rintro e1 w1 ⟨rfl, hP⟩; refine ⟨_, rfl, ?_⟩; replace BK := A_ (hP.blk BK.out NB.out); replace HP := A_ (HP.out.trans hP); clear Z; have Z := bz8_ BK; clear hP))
        refine bodyPost_ret (results_ct rfl _ _ gb 27 #[.int .i64 3, .int .i64 0, .string ⟨#[]⟩, .string ⟨#[]⟩, .string ⟨#[]⟩, .bool false, .bool false, .slice none 0 0] (0, 0) _ rfl (pb_ BK.out) Try.underlying27 rfl (by kernel_rfl)) rfl ?_; exact ⟨_, rfl, rfl, HP.out.all8 NB.out ..⟩
    rw [if_neg c0] at h
    have k2 : (x.f0 == 2) = false := beq_eq_false_iff_ne.mpr c0
    clear c0
    by_cases c0 : x.f0 = 3
    · rw [if_pos c0] at h
      have k3 : (x.f0 == 3) = true := beq_iff_eq.mpr c0
      clear c0
      by_cases cm : m = 64
      · rw [if_pos cm] at h
        have HM := A_ cm
        clear cm
        obtain rfl := Option.some.inj h
        clear h
        go_enter Try.func39, Try.ntmps39; go_wp2_with (first | ((with_reducible refine gD 2 ?_); refine bxe_ 2 z8_ 27 ?_; intro gb hgb w2 hbox hb; have BK := A_ hbox; have NB := A_ (HP.out.new hgb); replace HP := A_ (HP.out.below hb); clear hb hbox hgb) | ((with_reducible refine gD 7 ?_); refine gL 7 Try.func14 #[.pointer (some ⟨g, 0, none⟩)] ?_; (with_reducible refine (parser_next.calls g x t m d w0 _ HP.out.hI HP.out.hB).mono ?_); rintro e1 w1 ⟨rfl, hb⟩; refine ⟨_, rfl, ?_⟩; replace HP := A_ (HP.out.below hb); replace BK := A_ (blk_below BK.out hb); clear hb) | ((with_reducible refine gD 25 ?_); refine gL 25 Try.func40 #[.pointer (some ⟨g, 0, none⟩)] ?_; (with_reducible refine (parser_begin.many g x t m d w0 _ HM.out HP.out.hI HP.out.hB).mono ?_); rintro e1 w1 ⟨u1, rfl, hx, hP⟩; refine ⟨_, rfl, ?_⟩; have HX := A_ hx; have GB := A_ (blk_lt BK.out); have GW := A_ HP.out.hK.1; replace BK := A_ (hP.blk BK.out NB.out); replace HP := A_ (HP.out.trans hP); have Z := bz8_ BK; obtain ⟨q1, rfl, hq1⟩ := HX.out; clear hx hP hq1)); refine bodyPost_ret (results_ct rfl _ _ gb 27 z8_ (0, 0) _ rfl (pb_ BK.out) Try.underlying27 rfl (by kernel_rfl)) rfl ?_; exact ⟨_, rfl, HX.out.all8 GB.out GW.out .., HP.out.all8 NB.out ..⟩
      · rw [if_neg cm] at h
        have HM := A_ cm
        clear cm
        obtain rfl := Option.some.inj h
        clear h
        go_enter Try.func39, Try.ntmps39
        go_wp2_with (first | ((with_reducible refine gD 2 ?_); refine bxe_ 2 z8_ 27 ?_; intro gb hgb w2 hbox hb; have BK := A_ hbox; have NB := A_ (HP.out.new hgb); replace HP := A_ (HP.out.below hb); clear hb hbox hgb) | ((with_reducible refine gD 7 ?_); refine gL 7 Try.func14 #[.pointer (some ⟨g, 0, none⟩)] ?_; (with_reducible refine (parser_next.calls g x t m d w0 _ HP.out.hI HP.out.hB).mono ?_); rintro e1 w1 ⟨rfl, hb⟩; refine ⟨_, rfl, ?_⟩; replace HP := A_ (HP.out.below hb); replace BK := A_ (blk_below BK.out hb); clear hb) | ((with_reducible refine gD 25 ?_); refine gL 25 Try.func40 #[.pointer (some ⟨g, 0, none⟩)] ?_; (with_reducible refine (parser_begin.one g (x :: t) m d w0 _ HM.out HP.out.hI HP.out.hB).mono ?_); rintro e1 w1 ⟨rfl, hP⟩; refine ⟨_, rfl, ?_⟩; replace BK := A_ (hP.blk BK.out NB.out); replace HP := A_ (HP.out.trans hP); have Z := bz8_ BK; clear hP) | ((with_reducible refine gD 31 ?_); refine gV 31 #[.pointer (some ⟨g, 0, none⟩)] Try.func51 #[.pointer (some ⟨g, 0, none⟩)] ?_; (with_reducible refine (parser_star.calls g x t (wrap64 (m + 1)) d w0 _ HP.out.hI HP.out.hB).mono ?_); rintro e1 w1 ⟨rfl, hP⟩; refine ⟨_, rfl, ?_⟩; replace BK := A_ (hP.blk BK.out NB.out); replace HP := A_ (HP.out.trans hP); clear Z; have Z := bz8_ BK; clear hP))
        refine bodyPost_ret (results_ct rfl _ _ gb 27 #[.int .i64 4, .int .i64 0, .string ⟨#[]⟩, .string ⟨#[]⟩, .string ⟨#[]⟩, .bool false, .bool false, .slice none 0 0] (0, 0) _ rfl (pb_ BK.out) Try.underlying27 rfl (by kernel_rfl)) rfl ?_; exact ⟨_, rfl, rfl, HP.out.all8 NB.out ..⟩
    rw [if_neg c0] at h
    have k3 : (x.f0 == 3) = false := beq_eq_false_iff_ne.mpr c0
    clear c0
    obtain rfl := Option.some.inj h
    clear h
    go_enter Try.func39, Try.ntmps39
    go_wp2_with (first | ((with_reducible refine gD 2 ?_); refine bxe_ 2 z8_ 27 ?_; intro gb hgb w2 hbox hb; have BK := A_ hbox; have NB := A_ (HP.out.new hgb); replace HP := A_ (HP.out.below hb); clear hb hbox hgb) | ((with_reducible refine gD 7 ?_); refine gL 7 Try.func14 #[.pointer (some ⟨g, 0, none⟩)] ?_; (with_reducible refine (parser_next.calls g x t m d w0 _ HP.out.hI HP.out.hB).mono ?_); rintro e1 w1 ⟨rfl, hb⟩; refine ⟨_, rfl, ?_⟩; replace HP := A_ (HP.out.below hb); replace BK := A_ (blk_below BK.out hb); clear hb) | ((with_reducible refine gD 11 ?_); refine gL 11 Try.func15 #[.pointer (some ⟨g, 0, none⟩), .int .i64 3] ?_; (with_reducible refine (parser_not.calls g x t m d 3 w0 _ HP.out.hI HP.out.hB).mono ?_); rintro e1 w1 ⟨u1, rfl, hx, hb⟩; refine ⟨_, rfl, ?_⟩; have HX := A_ hx; have GB := A_ (blk_lt BK.out); have GW := A_ HP.out.hK.1; replace HP := A_ (HP.out.below hb); replace BK := A_ (blk_below BK.out hb); have Z := bz8_ BK; clear hx hb))
    refine bodyPost_ret (results_ct rfl _ _ gb 27 z8_ (0, 0) _ rfl (pb_ BK.out) Try.underlying27 rfl (by kernel_rfl)) rfl ?_; exact ⟨_, rfl, HX.out.all8 GB.out GW.out .., HP.out.all8 NB.out ..⟩
end Go.Proofs.Ytjgjhekpiijniaa.A
namespace Go.Proofs.Ytjgjhekpiijniaa.A
open Go.RowKit Go.Proofs.YtjgjhekpiijniaaW.PrintWords Go.Proofs.YtjgjhekpiijniaaW.PrintLast Go.Proofs.YtjgjhekpiijniaaW.PrintMore
attribute [local go_sem] isSome_setCell fld46_0 fld46_1 fld46_2
theorem pWord_nil {k : Nat} {x : S48} {t : List S48} {m d : Int} {r : PR} (h : pWord k x t m d = some r) : r.n.f4 = [] := by
  obtain ⟨p, _, h2⟩ := Option.bind_eq_some_iff.mp h
  split at h2
  · obtain ⟨q, hq, h3⟩ := Option.bind_eq_some_iff.mp h2
    obtain rfl := Option.some.inj h3
    show q.1.f4 = []
    rw [pMarked_form _ _ _ _ q.1 q.2 hq]
  · obtain rfl := Option.some.inj h2
    rfl
theorem pEnd_nil {k : Nat} {t : List S48} {m d : Int} {r : PR} (h : pEnd k m d t = some r) : r.n.f4 = [] := by
  cases t with
  | nil => cases h
  | cons x t =>
    rw [pEnd] at h
    repeat' split at h
    all_goals first | exact pWord_nil h | (obtain rfl := Option.some.inj h; rfl)
theorem node_eta (n : S27) (h : n.f4 = []) : (⟨n.f0, ⟨n.f1.f0, n.f1.f1, n.f1.f2, n.f1.f3⟩, n.f2, n.f3, []⟩ : S27) = n := by
  cases n with
  | mk a b c e l =>
    obtain rfl : l = [] := h
    rfl
theorem tree_Between.nil (x y : S27) (hx : x.f4 = []) (hy : y.f4 = []) (w : World) :
    Calls Try.prog 42 #[.agg #[.int .i64 x.f0, .int .i64 x.f1.f0, .string x.f1.f1, .string x.f1.f2, .string x.f1.f3, .bool x.f2, .bool x.f3, .slice none 0 0], .agg #[.int .i64 y.f0, .int .i64 y.f1.f0, .string y.f1.f1, .string y.f1.f2, .string y.f1.f3, .bool y.f2, .bool y.f3, .slice none 0 0]] w fun e w' => ∃ v, e = .returned (.agg #[.int .i64 1, .int .i64 0, .string ⟨#[]⟩, .string ⟨#[]⟩, .string ⟨#[]⟩, .bool false, .bool false, v]) ∧ Kd.V k27 27 w' w.heap.size (fun q => w.heap.size ≤ q) v [x, y] ∧ Below w.heap.size w w' := by
  have h := tree_Between.calls x.f0 x.f1.f0 x.f1.f1 x.f1.f2 x.f1.f3 x.f2 x.f3 (fun _ => False) none 0 [] y.f0 y.f1.f0 y.f1.f1 y.f1.f2 y.f1.f3 y.f2 y.f3 (fun _ => False) none 0 [] _ _ _ _ _ _ _ _ w (Kd.V_nil _ _ _ _ _) (Kd.V_nil _ _ _ _ _) rfl
  refine Calls.mono h ?_
  rintro e w' ⟨v, rfl, hN, hb⟩
  refine ⟨v, rfl, ?_, hb⟩
  rw [node_eta x hx, node_eta y hy] at hN
  exact Kd.N_V (Kd.N_mono hN (fun q hq => hq.elim (fun h => h.elim (fun h => h.elim) (fun h => h.elim)) id))
theorem IsX.below {b : Nat} {W W1 : World} {v : Value} {x : Wr} (h : IsX b W v x) (hb : Below W.heap.size W W1) : IsX b W1 v x := by
  cases x with
  | none => exact h
  | some y =>
    obtain ⟨i, e, hi, hh⟩ := h
    exact ⟨i, e, hi, blk_below hh hb⟩
theorem IsX.new8 {b gc : Nat} {W W4 : World} {v : Value} {x : Wr} (h : IsX b W v x) (hg : gc = W.heap.size) (hb : Below W.heap.size W W4) (a a1 c e f i j k : Value) : IsX b ((((((((W4.setCell ⟨gc, 0, none⟩ a).setCell ⟨gc, 1, none⟩ a1).setCell ⟨gc, 2, none⟩ c).setCell ⟨gc, 3, none⟩ e).setCell ⟨gc, 4, none⟩ f).setCell ⟨gc, 5, none⟩ i).setCell ⟨gc, 6, none⟩ j).setCell ⟨gc, 7, none⟩ k) v x := by
  cases x with
  | none =>
    have h' : v = .pointer none := h
    show v = .pointer none
    exact h'
  | some y =>
    obtain ⟨q, ev, hq, hh⟩ := h
    have hne : q ≠ gc := by rw [hg]; exact Nat.ne_of_lt (blk_lt hh)
    have h8 := far8_ (blk_below hh hb) hne a a1 c e f i j k
    exact ⟨q, ev, hq, h8⟩
theorem V_all8 {W : World} {b q : Nat} {ok : Nat → Prop} {v : Value} {l : List S27} (h : Kd.V k27 27 W b ok v l) (hok : ∀ k, ok k → k ≠ q) (a a1 c e f i j k : Value) : Kd.V k27 27 ((((((((W.setCell ⟨q, 0, none⟩ a).setCell ⟨q, 1, none⟩ a1).setCell ⟨q, 2, none⟩ c).setCell ⟨q, 3, none⟩ e).setCell ⟨q, 4, none⟩ f).setCell ⟨q, 5, none⟩ i).setCell ⟨q, 6, none⟩ j).setCell ⟨q, 7, none⟩ k) b ok v l :=
  Kd.V_far (p := ⟨q, 7, none⟩) (Kd.V_far (p := ⟨q, 6, none⟩) (Kd.V_far (p := ⟨q, 5, none⟩) (Kd.V_far (p := ⟨q, 4, none⟩) (Kd.V_far (p := ⟨q, 3, none⟩) (Kd.V_far (p := ⟨q, 2, none⟩) (Kd.V_far (p := ⟨q, 1, none⟩) (Kd.V_far (p := ⟨q, 0, none⟩) h hok a) hok a1) hok c) hok e) hok f) hok i) hok j) hok k
theorem C8_ {w : World} {g : Nat} {t : TypeId} {v0 v1 v2 v3 v4 v5 v6 v7 : Value} (h : w.heap[g]? = some (.cells #[v0, v1, v2, v3, v4, v5, v6, v7] t (0, 0))) : w.cell? ⟨g, 0, none⟩ = some v0 ∧ w.cell? ⟨g, 1, none⟩ = some v1 ∧ w.cell? ⟨g, 2, none⟩ = some v2 ∧ w.cell? ⟨g, 3, none⟩ = some v3 ∧ w.cell? ⟨g, 4, none⟩ = some v4 ∧ w.cell? ⟨g, 5, none⟩ = some v5 ∧ w.cell? ⟨g, 6, none⟩ = some v6 ∧ w.cell? ⟨g, 7, none⟩ = some v7 :=
  ⟨(blk_cell h 0).trans rfl, (blk_cell h 1).trans rfl, (blk_cell h 2).trans rfl, (blk_cell h 3).trans rfl, (blk_cell h 4).trans rfl, (blk_cell h 5).trans rfl, (blk_cell h 6).trans rfl, (blk_cell h 7).trans rfl⟩
theorem PK.drew {w0 w W : World} {g : Nat} {t : List S48} {m d : Int} (h : PK w0 w W g t m d) : PK w0 w W.drew g t m d := ⟨h.hI.drew, below_drew h.hB, keep_drew h.hK⟩
set_option maxHeartbeats 8000000 in
set_option maxRecDepth 100000 in
theorem parser_span.calls (k : Nat) (g : Nat) (t : List S48) (m d : Int) (r : PR) (w0 w : World) (hI : IsP w0 w g t m d) (hB0 : Below w0.heap.size w0 w) (h : pSpan k m d t = some r) :
    Calls Try.prog 25 #[.pointer (some ⟨g, 0, none⟩)] w fun e' w' => ∃ v u, e' = .returned (.tuple #[.agg #[.int .i64 r.n.f0, .int .i64 r.n.f1.f0, .string r.n.f1.f1, .string r.n.f1.f2, .string r.n.f1.f3, .bool r.n.f2, .bool r.n.f3, v], u]) ∧ Kd.V k27 27 w' w.heap.size (fun q => w.heap.size ≤ q) v r.n.f4 ∧ IsX w.heap.size w' u r.x ∧ PK w0 w w' g r.t r.m r.d := by
  have HP := A_ (PK.start hI hB0)
  clear hI hB0
  obtain ⟨⟨n1, x1, t1, m1, d1⟩, h1, h2⟩ := Option.bind_eq_some_iff.mp h
  clear h
  have HN1 := A_ (pEnd_nil h1)
  have H1 := A_ h1
  clear h1
  cases x1 with
  | some y =>
    obtain rfl := Option.some.inj h2
    clear h2
    go_enter Try.func25, Try.ntmps25
    go_wp2_with (first | ((with_reducible refine gD 2 ?_); refine bxe_ 2 z8_ 27 ?_; intro gb hgb w2 hbox hb; have BK := A_ hbox; have NB := A_ (HP.out.new hgb); replace HP := A_ (HP.out.below hb); clear hb hbox hgb) | ((with_reducible refine gD 10 ?_); refine gL 10 Try.func39 #[.pointer (some ⟨g, 0, none⟩)] ?_; (with_reducible refine (parser_end.calls k g t m d _ w0 _ HP.out.hI HP.out.hB H1.out).mono ?_); rintro e1 w1 ⟨u1, rfl, hx, hP⟩; obtain ⟨qx, rfl, hqx, hX⟩ := hx; refine ⟨_, rfl, ?_⟩; have GQ := A_ (Nat.le_trans HP.out.hK.1 hqx); have NQB := A_ (show qx ≠ gb from Ne.symm (Nat.ne_of_lt (Nat.lt_of_lt_of_le (blk_lt BK.out) hqx))); have BX := A_ hX; replace BK := A_ (hP.blk BK.out NB.out); replace HP := A_ (HP.out.trans hP); clear hP hX hqx) | ((with_reducible refine gD 4 ?_); refine bxe_ 4 z8_ 27 ?_; intro ga hga w4 hbox hb; have BA := A_ hbox; have NA := A_ (HP.out.new hga); have NBA := A_ (show gb ≠ ga from by rw [hga]; exact Nat.ne_of_lt (blk_lt BK.out)); have nba := NBA.out; have nab := Ne.symm nba; have NQA := A_ (show qx ≠ ga from by rw [hga]; exact Nat.ne_of_lt (blk_lt BX.out)); replace BX := A_ (blk_below BX.out hb); replace HP := A_ (HP.out.below hb); replace BK := A_ (blk_below BK.out hb); have Z := bz8_ BA; have ZK := bz8_ BK; clear hb hbox hga))
    refine bodyPost_ret (results_ct rfl _ _ gb 27 #[.int .i64 n1.f0, .int .i64 n1.f1.f0, .string n1.f1.f1, .string n1.f1.f2, .string n1.f1.f3, .bool n1.f2, .bool n1.f3, .slice none 0 0] (0, 0) _ rfl (put8_ (far8_ BK.out NBA.out ..) ..) Try.underlying27 rfl (by kernel_rfl)) rfl ?_
    refine ⟨_, _, rfl, ?_, IsX.put (far8_ (far8_ BX.out NQA.out ..) NQB.out ..) GQ.out, (HP.out.all8 NA.out ..).all8 NB.out ..⟩
    rw [HN1.out]
    exact Kd.V_nil _ _ _ _ _
  | none =>
    cases t1 with
    | nil => cases h2
    | cons y u =>
      by_cases cy : y.f0 = 1
      · have k1 : (y.f0 != 1) = false := bne_eq_false_iff_eq.mpr cy
        replace h2 := (if_pos cy).symm.trans h2
        clear cy
        by_cases cm : m1 = 64
        · replace h2 := (if_pos cm).symm.trans h2
          have HM := A_ cm
          clear cm
          obtain rfl := Option.some.inj h2
          clear h2
          go_enter Try.func25, Try.ntmps25
          go_wp2_with (first | ((with_reducible refine gD 2 ?_); refine bxe_ 2 z8_ 27 ?_; intro gb hgb w2 hbox hb; have BK := A_ hbox; have NB := A_ (HP.out.new hgb); replace HP := A_ (HP.out.below hb); clear hb hbox hgb) | ((with_reducible refine gD 10 ?_); refine gL 10 Try.func39 #[.pointer (some ⟨g, 0, none⟩)] ?_; (with_reducible refine (parser_end.calls k g t m d _ w0 _ HP.out.hI HP.out.hB H1.out).mono ?_); rintro e1 w1 ⟨u1, rfl, hx, hP⟩; obtain rfl : u1 = .pointer none := hx; refine ⟨_, rfl, ?_⟩; replace BK := A_ (hP.blk BK.out NB.out); replace HP := A_ (HP.out.trans hP); clear hP) | ((with_reducible refine gD 4 ?_); refine bxe_ 4 z8_ 27 ?_; intro ga hga w4 hbox hb; have BA := A_ hbox; have NA := A_ (HP.out.new hga); have NBA := A_ (show gb ≠ ga from by rw [hga]; exact Nat.ne_of_lt (blk_lt BK.out)); have nba := NBA.out; have nab := Ne.symm nba; replace HP := A_ (HP.out.below hb); replace BK := A_ (blk_below BK.out hb); have Z := bz8_ BA; have ZK := bz8_ BK; clear hb hbox hga) | ((with_reducible refine gD 18 ?_); refine gL 18 Try.func14 #[.pointer (some ⟨g, 0, none⟩)] ?_; clear Z ZK; replace HP := A_ (HP.out.all8 NA.out (.int .i64 n1.f0) (.int .i64 n1.f1.f0) (.string n1.f1.f1) (.string n1.f1.f2) (.string n1.f1.f3) (.bool n1.f2) (.bool n1.f3) (.slice none 0 0)); replace BK := A_ (far8_ BK.out NBA.out (.int .i64 n1.f0) (.int .i64 n1.f1.f0) (.string n1.f1.f1) (.string n1.f1.f2) (.string n1.f1.f3) (.bool n1.f2) (.bool n1.f3) (.slice none 0 0)); replace BA := A_ (put8_ BA.out (.int .i64 n1.f0) (.int .i64 n1.f1.f0) (.string n1.f1.f1) (.string n1.f1.f2) (.string n1.f1.f3) (.bool n1.f2) (.bool n1.f3) (.slice none 0 0)); (with_reducible refine (parser_next.calls g y u m1 d1 w0 _ HP.out.hI HP.out.hB).mono ?_); rintro e1 w1 ⟨rfl, hb⟩; refine ⟨_, rfl, ?_⟩; replace HP := A_ (HP.out.below hb); replace BK := A_ (blk_below BK.out hb); replace BA := A_ (blk_below BA.out hb); have Z := bz8_ BA; have ZK := bz8_ BK; clear hb) | ((with_reducible refine gD 29 ?_); refine gL 29 Try.func40 #[.pointer (some ⟨g, 0, none⟩)] ?_; (with_reducible refine (parser_begin.many g y u m1 d1 w0 _ HM.out HP.out.hI HP.out.hB).mono ?_); rintro e1 w1 ⟨uu, rfl, hx, hP⟩; refine ⟨_, rfl, ?_⟩; have HX := A_ hx; have GB := A_ (blk_lt BK.out); have GW := A_ HP.out.hK.1; replace BK := A_ (hP.blk BK.out NB.out); replace BA := A_ (hP.blk BA.out NA.out); replace HP := A_ (HP.out.trans hP); clear Z ZK; have Z := bz8_ BA; have ZK := bz8_ BK; obtain ⟨q1, rfl, hq1⟩ := HX.out; clear hx hP hq1))
          refine bodyPost_ret (results_ct rfl _ _ gb 27 #[.int .i64 n1.f0, .int .i64 n1.f1.f0, .string n1.f1.f1, .string n1.f1.f2, .string n1.f1.f3, .bool n1.f2, .bool n1.f3, .slice none 0 0] (0, 0) _ rfl (put8_ BK.out ..) Try.underlying27 rfl (by kernel_rfl)) rfl ?_
          refine ⟨_, _, rfl, ?_, HX.out.all8 GB.out GW.out .., HP.out.all8 NB.out ..⟩
          rw [HN1.out]
          exact Kd.V_nil _ _ _ _ _
        · replace h2 := (if_neg cm).symm.trans h2
          have HM := A_ cm
          clear cm
          obtain ⟨⟨n2, x2, t2, m2, d2⟩, h3, h4⟩ := Option.bind_eq_some_iff.mp h2
          clear h2
          have HN2 := A_ (pEnd_nil h3)
          have H3 := A_ h3
          clear h3
          obtain rfl := Option.some.inj h4
          clear h4
          go_enter Try.func25, Try.ntmps25
          go_wp2_with (first | ((with_reducible refine gD 2 ?_); refine bxe_ 2 z8_ 27 ?_; intro gb hgb w2 hbox hb; have BK := A_ hbox; have NB := A_ (HP.out.new hgb); replace HP := A_ (HP.out.below hb); clear hb hbox hgb) | ((with_reducible refine gD 10 ?_); refine gL 10 Try.func39 #[.pointer (some ⟨g, 0, none⟩)] ?_; (with_reducible refine (parser_end.calls k g t m d _ w0 _ HP.out.hI HP.out.hB H1.out).mono ?_); rintro e1 w1 ⟨u1, rfl, hx, hP⟩; obtain rfl : u1 = .pointer none := hx; refine ⟨_, rfl, ?_⟩; replace BK := A_ (hP.blk BK.out NB.out); replace HP := A_ (HP.out.trans hP); clear hP) | ((with_reducible refine gD 4 ?_); refine bxe_ 4 z8_ 27 ?_; intro ga hga w4 hbox hb; have BA := A_ hbox; have NA := A_ (HP.out.new hga); have NBA := A_ (show gb ≠ ga from by rw [hga]; exact Nat.ne_of_lt (blk_lt BK.out)); have nba := NBA.out; have nab := Ne.symm nba; replace HP := A_ (HP.out.below hb); replace BK := A_ (blk_below BK.out hb); have Z := bz8_ BA; have ZK := bz8_ BK; clear hb hbox hga) | ((with_reducible refine gD 18 ?_); refine gL 18 Try.func14 #[.pointer (some ⟨g, 0, none⟩)] ?_; clear Z ZK; replace HP := A_ (HP.out.all8 NA.out (.int .i64 n1.f0) (.int .i64 n1.f1.f0) (.string n1.f1.f1) (.string n1.f1.f2) (.string n1.f1.f3) (.bool n1.f2) (.bool n1.f3) (.slice none 0 0)); replace BK := A_ (far8_ BK.out NBA.out (.int .i64 n1.f0) (.int .i64 n1.f1.f0) (.string n1.f1.f1) (.string n1.f1.f2) (.string n1.f1.f3) (.bool n1.f2) (.bool n1.f3) (.slice none 0 0)); replace BA := A_ (put8_ BA.out (.int .i64 n1.f0) (.int .i64 n1.f1.f0) (.string n1.f1.f1) (.string n1.f1.f2) (.string n1.f1.f3) (.bool n1.f2) (.bool n1.f3) (.slice none 0 0)); (with_reducible refine (parser_next.calls g y u m1 d1 w0 _ HP.out.hI HP.out.hB).mono ?_); rintro e1 w1 ⟨rfl, hb⟩; refine ⟨_, rfl, ?_⟩; replace HP := A_ (HP.out.below hb); replace BK := A_ (blk_below BK.out hb); replace BA := A_ (blk_below BA.out hb); have Z := bz8_ BA; have ZK := bz8_ BK; clear hb) | ((with_reducible refine gD 29 ?_); refine gL 29 Try.func40 #[.pointer (some ⟨g, 0, none⟩)] ?_; (with_reducible refine (parser_begin.one g (y :: u) m1 d1 w0 _ HM.out HP.out.hI HP.out.hB).mono ?_); rintro e1 w1 ⟨rfl, hP⟩; refine ⟨_, rfl, ?_⟩; replace BK := A_ (hP.blk BK.out NB.out); replace BA := A_ (hP.blk BA.out NA.out); replace HP := A_ (HP.out.trans hP); clear Z ZK hP) | ((with_reducible refine gC 41 ?_); refine gL 35 Try.func41 #[.pointer (some ⟨g, 0, none⟩)] ?_; (with_reducible refine (parser_take.calls g y u (wrap64 (m1 + 1)) d1 w0 _ HP.out.hI HP.out.hB).mono ?_); rintro e3 w3 ⟨⟨v3, rfl⟩, hP⟩; refine ⟨_, rfl, ?_⟩; replace BK := A_ (hP.blk BK.out NB.out); replace BA := A_ (hP.blk BA.out NA.out); replace HP := A_ (HP.out.trans hP); clear hP) | ((with_reducible refine gD 38 ?_); refine gL 38 Try.func39 #[.pointer (some ⟨g, 0, none⟩)] ?_; (with_reducible refine (parser_end.calls k g u (wrap64 (m1 + 1)) d1 _ w0 _ HP.out.hI HP.out.hB H3.out).mono ?_); rintro e1 w1 ⟨u2, rfl, hx, hP⟩; refine ⟨_, rfl, ?_⟩; have HX := A_ hx; have GB := A_ (blk_lt BK.out); have GW := A_ HP.out.hK.1; replace BK := A_ (hP.blk BK.out NB.out); replace BA := A_ (hP.blk BA.out NA.out); replace HP := A_ (HP.out.trans hP); clear hx hP) | ((with_reducible refine gD 7 ?_); refine bxe_ 7 z8_ 27 ?_; intro gc hgc w4 hbox hb; have BC := A_ hbox; have NC := A_ (HP.out.new hgc); have NBC := A_ (show gb ≠ gc from by rw [hgc]; exact Nat.ne_of_lt (blk_lt BK.out)); have NAC := A_ (show ga ≠ gc from by rw [hgc]; exact Nat.ne_of_lt (blk_lt BA.out)); have nac := NAC.out; replace HX := A_ (HX.out.new8 hgc hb (.int .i64 n2.f0) (.int .i64 n2.f1.f0) (.string n2.f1.f1) (.string n2.f1.f2) (.string n2.f1.f3) (.bool n2.f2) (.bool n2.f3) (.slice none 0 0)); replace HP := A_ (HP.out.below hb); replace BK := A_ (blk_below BK.out hb); replace BA := A_ (blk_below BA.out hb); have Z := bz8_ BA; have ZK := bz8_ BC; clear hb hbox hgc) | ((with_reducible refine gC 42 ?_); refine gL 43 Try.func42 #[.agg #[.int .i64 n1.f0, .int .i64 n1.f1.f0, .string n1.f1.f1, .string n1.f1.f2, .string n1.f1.f3, .bool n1.f2, .bool n1.f3, .slice none 0 0], .agg #[.int .i64 n2.f0, .int .i64 n2.f1.f0, .string n2.f1.f1, .string n2.f1.f2, .string n2.f1.f3, .bool n2.f2, .bool n2.f3, .slice none 0 0]] ?_; clear Z ZK; replace HP := A_ (HP.out.all8 NC.out (.int .i64 n2.f0) (.int .i64 n2.f1.f0) (.string n2.f1.f1) (.string n2.f1.f2) (.string n2.f1.f3) (.bool n2.f2) (.bool n2.f3) (.slice none 0 0)); replace BK := A_ (far8_ BK.out NBC.out (.int .i64 n2.f0) (.int .i64 n2.f1.f0) (.string n2.f1.f1) (.string n2.f1.f2) (.string n2.f1.f3) (.bool n2.f2) (.bool n2.f3) (.slice none 0 0)); (with_reducible refine (tree_Between.nil n1 n2 HN1.out HN2.out _).mono ?_); rintro e1 w1 ⟨v5, rfl, hV, hb⟩; refine ⟨_, rfl, ?_⟩; obtain ⟨A5, c5, rfl⟩ : ∃ A5 c5, v5 = .slice A5 2 c5 := Kd.V_slice hV; have HV := A_ hV; have GBV := A_ (blk_lt BK.out); have GWV := A_ HP.out.hK.1; replace HX := A_ (HX.out.below hb); replace HP := A_ (HP.out.below hb); replace BK := A_ (blk_below BK.out hb); have Z := bz8_ BK; clear hV hb))
          refine bodyPost_ret (results_ct rfl _ _ gb 27 #[.int .i64 1, .int .i64 0, .string ⟨#[]⟩, .string ⟨#[]⟩, .string ⟨#[]⟩, .bool false, .bool false, .slice A5 2 c5] (0, 0) _ rfl (put8_ BK.out ..) Try.underlying27 rfl (by kernel_rfl)) rfl ?_
          have r1 := V_all8 HV.out (fun q hq => Ne.symm (Nat.ne_of_lt (Nat.lt_of_lt_of_le GBV.out hq))) (.int .i64 1) (.int .i64 0) (.string ⟨#[]⟩) (.string ⟨#[]⟩) (.string ⟨#[]⟩) (.bool false) (.bool false) (.slice A5 2 c5)
          have r2 := HX.out.all8 GB.out GW.out (.int .i64 1) (.int .i64 0) (.string ⟨#[]⟩) (.string ⟨#[]⟩) (.string ⟨#[]⟩) (.bool false) (.bool false) (.slice A5 2 c5)
          have r3 := HP.out.all8 NB.out (.int .i64 1) (.int .i64 0) (.string ⟨#[]⟩) (.string ⟨#[]⟩) (.string ⟨#[]⟩) (.bool false) (.bool false) (.slice A5 2 c5)
          exact ⟨_, _, rfl, Kd.V_lower (Kd.V_mono r1 (fun q hq => Nat.le_trans GWV.out hq)) GWV.out, r2, r3⟩
      · have k1 : (y.f0 != 1) = true := bne_iff_ne.mpr cy
        replace h2 := (if_neg cy).symm.trans h2
        clear cy
        by_cases cn : n1.f0 = 0
        · replace h2 := (if_pos cn).symm.trans h2
          have k2 : (n1.f0 != 0) = false := bne_eq_false_iff_eq.mpr cn
          clear cn
          obtain rfl := Option.some.inj h2
          clear h2
          go_enter Try.func25, Try.ntmps25
          go_wp2_with (first | ((with_reducible refine gD 2 ?_); refine bxe_ 2 z8_ 27 ?_; intro gb hgb w2 hbox hb; have BK := A_ hbox; have NB := A_ (HP.out.new hgb); replace HP := A_ (HP.out.below hb); clear hb hbox hgb) | ((with_reducible refine gD 10 ?_); refine gL 10 Try.func39 #[.pointer (some ⟨g, 0, none⟩)] ?_; (with_reducible refine (parser_end.calls k g t m d _ w0 _ HP.out.hI HP.out.hB H1.out).mono ?_); rintro e1 w1 ⟨u1, rfl, hx, hP⟩; obtain rfl : u1 = .pointer none := hx; refine ⟨_, rfl, ?_⟩; replace BK := A_ (hP.blk BK.out NB.out); replace HP := A_ (HP.out.trans hP); clear hP) | ((with_reducible refine gD 4 ?_); refine bxe_ 4 z8_ 27 ?_; intro ga hga w4 hbox hb; have BA := A_ hbox; have NA := A_ (HP.out.new hga); have NBA := A_ (show gb ≠ ga from by rw [hga]; exact Nat.ne_of_lt (blk_lt BK.out)); have nba := NBA.out; have nab := Ne.symm nba; replace HP := A_ (HP.out.below hb); replace BK := A_ (blk_below BK.out hb); have Z := bz8_ BA; have ZK := bz8_ BK; clear hb hbox hga) | ((with_reducible refine gD 18 ?_); refine gL 18 Try.func14 #[.pointer (some ⟨g, 0, none⟩)] ?_; clear Z ZK; replace HP := A_ (HP.out.all8 NA.out (.int .i64 n1.f0) (.int .i64 n1.f1.f0) (.string n1.f1.f1) (.string n1.f1.f2) (.string n1.f1.f3) (.bool n1.f2) (.bool n1.f3) (.slice none 0 0)); replace BK := A_ (far8_ BK.out NBA.out (.int .i64 n1.f0) (.int .i64 n1.f1.f0) (.string n1.f1.f1) (.string n1.f1.f2) (.string n1.f1.f3) (.bool n1.f2) (.bool n1.f3) (.slice none 0 0)); replace BA := A_ (put8_ BA.out (.int .i64 n1.f0) (.int .i64 n1.f1.f0) (.string n1.f1.f1) (.string n1.f1.f2) (.string n1.f1.f3) (.bool n1.f2) (.bool n1.f3) (.slice none 0 0)); (with_reducible refine (parser_next.calls g y u m1 d1 w0 _ HP.out.hI HP.out.hB).mono ?_); rintro e1 w1 ⟨rfl, hb⟩; refine ⟨_, rfl, ?_⟩; replace HP := A_ (HP.out.below hb); replace BK := A_ (blk_below BK.out hb); replace BA := A_ (blk_below BA.out hb); have Z := bz8_ BA; have ZK := bz8_ BK; clear hb))
          refine bodyPost_ret (results_ct rfl _ _ gb 27 #[.int .i64 n1.f0, .int .i64 n1.f1.f0, .string n1.f1.f1, .string n1.f1.f2, .string n1.f1.f3, .bool n1.f2, .bool n1.f3, .slice none 0 0] (0, 0) _ rfl (put8_ BK.out ..) Try.underlying27 rfl (by kernel_rfl)) rfl ?_
          refine ⟨_, _, rfl, ?_, rfl, HP.out.all8 NB.out ..⟩
          rw [HN1.out]
          exact Kd.V_nil _ _ _ _ _
        · replace h2 := (if_neg cn).symm.trans h2
          have k2 : (n1.f0 != 0) = true := bne_iff_ne.mpr cn
          clear cn
          obtain rfl := Option.some.inj h2
          clear h2
          go_enter Try.func25, Try.ntmps25
          go_wp2_with (first | ((with_reducible refine gD 2 ?_); refine bxe_ 2 z8_ 27 ?_; intro gb hgb w2 hbox hb; have BK := A_ hbox; have NB := A_ (HP.out.new hgb); replace HP := A_ (HP.out.below hb); clear hb hbox hgb) | ((with_reducible refine gD 10 ?_); refine gL 10 Try.func39 #[.pointer (some ⟨g, 0, none⟩)] ?_; (with_reducible refine (parser_end.calls k g t m d _ w0 _ HP.out.hI HP.out.hB H1.out).mono ?_); rintro e1 w1 ⟨u1, rfl, hx, hP⟩; obtain rfl : u1 = .pointer none := hx; refine ⟨_, rfl, ?_⟩; replace BK := A_ (hP.blk BK.out NB.out); replace HP := A_ (HP.out.trans hP); clear hP) | ((with_reducible refine gD 4 ?_); refine bxe_ 4 z8_ 27 ?_; intro ga hga w4 hbox hb; have BA := A_ hbox; have NA := A_ (HP.out.new hga); have NBA := A_ (show gb ≠ ga from by rw [hga]; exact Nat.ne_of_lt (blk_lt BK.out)); have nba := NBA.out; have nab := Ne.symm nba; replace HP := A_ (HP.out.below hb); replace BK := A_ (blk_below BK.out hb); have Z := bz8_ BA; have ZK := bz8_ BK; clear hb hbox hga) | ((with_reducible refine gD 18 ?_); refine gL 18 Try.func14 #[.pointer (some ⟨g, 0, none⟩)] ?_; clear Z ZK; replace HP := A_ (HP.out.all8 NA.out (.int .i64 n1.f0) (.int .i64 n1.f1.f0) (.string n1.f1.f1) (.string n1.f1.f2) (.string n1.f1.f3) (.bool n1.f2) (.bool n1.f3) (.slice none 0 0)); replace BK := A_ (far8_ BK.out NBA.out (.int .i64 n1.f0) (.int .i64 n1.f1.f0) (.string n1.f1.f1) (.string n1.f1.f2) (.string n1.f1.f3) (.bool n1.f2) (.bool n1.f3) (.slice none 0 0)); replace BA := A_ (put8_ BA.out (.int .i64 n1.f0) (.int .i64 n1.f1.f0) (.string n1.f1.f1) (.string n1.f1.f2) (.string n1.f1.f3) (.bool n1.f2) (.bool n1.f3) (.slice none 0 0)); (with_reducible refine (parser_next.calls g y u m1 d1 w0 _ HP.out.hI HP.out.hB).mono ?_); rintro e1 w1 ⟨rfl, hb⟩; refine ⟨_, rfl, ?_⟩; replace HP := A_ (HP.out.below hb); replace BK := A_ (blk_below BK.out hb); replace BA := A_ (blk_below BA.out hb); have Z := bz8_ BA; have ZK := bz8_ BK; clear hb))
          go_region_held3 (fun w' => w'.cell? ⟨ga, 0, none⟩ = some (.int .i64 n1.f0) ∧ w'.cell? ⟨ga, 1, none⟩ = some (.int .i64 n1.f1.f0) ∧ w'.cell? ⟨ga, 2, none⟩ = some (.string n1.f1.f1) ∧ w'.cell? ⟨ga, 3, none⟩ = some (.string n1.f1.f2) ∧ w'.cell? ⟨ga, 4, none⟩ = some (.string n1.f1.f3) ∧ w'.cell? ⟨ga, 5, none⟩ = some (.bool n1.f2) ∧ w'.cell? ⟨ga, 6, none⟩ = some (.bool n1.f3) ∧ w'.cell? ⟨ga, 7, none⟩ = some (.slice none 0 0)) (first | (with_reducible exact C8_ BA.out) | (with_reducible exact C8_ (blk_drew BA.out)) | exact C8_ (far8_ BA.out nab (.int .i64 n1.f0) (.int .i64 n1.f1.f0) (.string n1.f1.f1) (.string n1.f1.f2) (.string n1.f1.f3) (.bool n1.f2) (.bool n1.f3) (.slice none 0 0))) (first | (go_at_call 15; replace HP := A_ HP.out.drew; replace BK := A_ (blk_drew BK.out); replace BA := A_ (blk_drew BA.out); (with_reducible refine (parser_not.calls g y u m1 d1 3 w0 _ HP.out.hI HP.out.hB).mono ?_); rintro e1 w1 ⟨u1, rfl, hx, hb⟩; have HX := A_ hx; have GB := A_ (blk_lt BK.out); have GW := A_ HP.out.hK.1; replace HP := A_ (HP.out.below hb); replace BK := A_ (blk_below BK.out hb); replace BA := A_ (blk_below BA.out hb); clear Z ZK; have Z := bz8_ BA; have ZK := bz8_ BK; clear hx hb))
          go_wp2
          refine bodyPost_ret (results_ct rfl _ _ gb 27 #[.int .i64 n1.f0, .int .i64 n1.f1.f0, .string n1.f1.f1, .string n1.f1.f2, .string n1.f1.f3, .bool n1.f2, .bool n1.f3, .slice none 0 0] (0, 0) _ rfl (put8_ BK.out ..) Try.underlying27 rfl (by kernel_rfl)) rfl ?_
          have r2 := HX.out.all8 GB.out GW.out (.int .i64 n1.f0) (.int .i64 n1.f1.f0) (.string n1.f1.f1) (.string n1.f1.f2) (.string n1.f1.f3) (.bool n1.f2) (.bool n1.f3) (.slice none 0 0)
          have r3 := HP.out.all8 NB.out (.int .i64 n1.f0) (.int .i64 n1.f1.f0) (.string n1.f1.f1) (.string n1.f1.f2) (.string n1.f1.f3) (.bool n1.f2) (.bool n1.f3) (.slice none 0 0)
          refine ⟨_, _, rfl, ?_, r2, r3⟩
          rw [HN1.out]
          exact Kd.V_nil _ _ _ _ _
theorem N_all8 {W : World} {b q : Nat} {ok : Nat → Prop} {v : Value} {l : List S27} (h : Kd.N k27 27 W b ok v l) (hok : ∀ k, ok k → k ≠ q) (a a1 c e f i j k : Value) : Kd.N k27 27 ((((((((W.setCell ⟨q, 0, none⟩ a).setCell ⟨q, 1, none⟩ a1).setCell ⟨q, 2, none⟩ c).setCell ⟨q, 3, none⟩ e).setCell ⟨q, 4, none⟩ f).setCell ⟨q, 5, none⟩ i).setCell ⟨q, 6, none⟩ j).setCell ⟨q, 7, none⟩ k) b ok v l :=
  Kd.N_far (p := ⟨q, 7, none⟩) (Kd.N_far (p := ⟨q, 6, none⟩) (Kd.N_far (p := ⟨q, 5, none⟩) (Kd.N_far (p := ⟨q, 4, none⟩) (Kd.N_far (p := ⟨q, 3, none⟩) (Kd.N_far (p := ⟨q, 2, none⟩) (Kd.N_far (p := ⟨q, 1, none⟩) (Kd.N_far (p := ⟨q, 0, none⟩) h hok a) hok a1) hok c) hok e) hok f) hok i) hok j) hok k
theorem PK.grown {w0 w W W1 : World} {g : Nat} {t : List S48} {m d : Int} {row : Option Nat} (h : PK w0 w W g t m d) (hg : W.grownBy W1 row) (hr : ∀ k, row = some k → w.heap.size ≤ k) (h0 : w0.heap.size ≤ w.heap.size) (hlt : g < w.heap.size) : PK w0 w W1 g t m d := by
  obtain ⟨⟨A, c, hG, hI⟩, hB, hK⟩ := h
  refine ⟨⟨A, c, blk_grown hG hg (fun e => ?_), hI⟩, hB.grown hg hB.size (fun k e => Nat.le_trans h0 (hr k e)), hK.trans (KeepBut.of_grown hg g) ?_⟩
  · have := hr g e.symm
    omega
  · cases row with
    | none => exact .inl rfl
    | some k => exact .inr ⟨k, rfl, hr k rfl⟩
def Told (r : PR) (g : Nat) (w0 w : World) (e' : Ending) (w' : World) : Prop := ∃ v u, e' = .returned (.tuple #[.agg #[.int .i64 r.n.f0, .int .i64 r.n.f1.f0, .string r.n.f1.f1, .string r.n.f1.f2, .string r.n.f1.f3, .bool r.n.f2, .bool r.n.f3, v], u]) ∧ Kd.V k27 27 w' w.heap.size (fun q => w.heap.size ≤ q) v r.n.f4 ∧ IsX w.heap.size w' u r.x ∧ PK w0 w w' g r.t r.m r.d
abbrev ExprAt (k : Nat) : Prop := ∀ (g : Nat) (t : List S48) (m d : Int) (r : PR) (w0 w : World), IsP w0 w g t m d → Below w0.heap.size w0 w → pExpr k m d t = some r → Calls Try.prog 13 #[.pointer (some ⟨g, 0, none⟩)] w (Told r g w0 w)
theorem V_base {W : World} {b b' : Nat} {ok : Nat → Prop} {v : Value} {l : List S27} (h : Kd.V k27 27 W b ok v l) : Kd.V k27 27 W b' ok v l := by
  obtain ⟨A, c, h1, h2, h3⟩ := h
  exact ⟨A, c, h1, h2, h3⟩
theorem sl8_ (W : World) (q : Nat) (a a1 c e f i j k : Value) : Value.slice (some ⟨W.heap.size, 0, none⟩) 1 1 = .slice (some ⟨((((((((W.setCell ⟨q, 0, none⟩ a).setCell ⟨q, 1, none⟩ a1).setCell ⟨q, 2, none⟩ c).setCell ⟨q, 3, none⟩ e).setCell ⟨q, 4, none⟩ f).setCell ⟨q, 5, none⟩ i).setCell ⟨q, 6, none⟩ j).setCell ⟨q, 7, none⟩ k).heap.size, 0, none⟩) 1 1 := by simp only [World.size_setCell]
theorem PK.setD {w0 w W : World} {g : Nat} {t : List S48} {m d : Int} (h : PK w0 w W g t m d) (x : Int) : PK w0 w (W.setCell ⟨g, 2, none⟩ (.int .i64 x)) g t m x := ⟨h.hI.setD x, below_set h.hB h.hI.ge, h.hK.set_ 2 _⟩
set_option maxHeartbeats 8000000 in
set_option maxRecDepth 100000 in
theorem parser_list.calls (k : Nat) (ih : ∀ j, j < k → ExprAt j) (g : Nat) (x : S48) (t : List S48) (m d : Int) (r : PR) (w0 w : World) (hI : IsP w0 w g (x :: t) m d) (hB0 : Below w0.heap.size w0 w) (h : pList k m d x t = some r) :
    Calls Try.prog 26 #[.pointer (some ⟨g, 0, none⟩)] w (Told r g w0 w) := by
  have G0 := A_ hB0.size
  have GL := A_ hI.lt
  have HP := A_ (PK.start hI hB0)
  have IH := A_ ih
  clear hI hB0 ih
  cases k with
  | zero => cases h
  | succ k =>
    rw [pList] at h
    by_cases c0 : d = 8
    · rw [if_pos c0] at h
      have k0 : (d == 8) = true := beq_iff_eq.mpr c0
      clear c0
      obtain rfl := Option.some.inj h
      clear h
      go_enter Try.func26, Try.ntmps26
      go_wp2_with (first | ((with_reducible refine gD 2 ?_); refine bxe_ 2 z8_ 27 ?_; intro gb hgb w2 hbox hb; have BK := A_ hbox; have NB := A_ (HP.out.new hgb); replace HP := A_ (HP.out.below hb); obtain ⟨A, c, hG, hg, hc, hC⟩ := HP.out.hI; have HG := A_ hG; have hp1 := (blk_cell HG.out 1).trans rfl; have hp2 := (blk_cell HG.out 2).trans rfl; have hf1 := blk_frozen HG.out 1; have hf2 := blk_frozen HG.out 2; clear hG hg hc hC; clear hb hbox hgb) | ((with_reducible refine gD 15 ?_); refine gL 15 Try.func15 #[.pointer (some ⟨g, 0, none⟩), .int .i64 5] ?_; (with_reducible refine (parser_not.calls g x t m d 5 w0 _ HP.out.hI HP.out.hB).mono ?_); rintro e1 w1 ⟨u1, rfl, hx, hb⟩; refine ⟨_, rfl, ?_⟩; have HX := A_ hx; have GB := A_ (blk_lt BK.out); have GW := A_ HP.out.hK.1; replace HP := A_ (HP.out.below hb); replace BK := A_ (blk_below BK.out hb); have Z := bz8_ BK; clear hx hb))
      refine bodyPost_ret (results_ct rfl _ _ gb 27 z8_ (0, 0) _ rfl (put8_ BK.out ..) Try.underlying27 rfl (by kernel_rfl)) rfl ?_; exact ⟨_, _, rfl, Kd.V_nil _ _ _ _ _, HX.out.all8 GB.out GW.out .., HP.out.all8 NB.out ..⟩
    rw [if_neg c0] at h
    have k0 : (d == 8) = false := beq_eq_false_iff_ne.mpr c0
    clear c0
    by_cases cm : m = 64
    · rw [if_pos cm] at h
      have HM := A_ cm
      clear cm
      obtain rfl := Option.some.inj h
      clear h
      go_enter Try.func26, Try.ntmps26
      go_wp2_with (first | ((with_reducible refine gD 2 ?_); refine bxe_ 2 z8_ 27 ?_; intro gb hgb w2 hbox hb; have BK := A_ hbox; have NB := A_ (HP.out.new hgb); replace HP := A_ (HP.out.below hb); obtain ⟨A, c, hG, hg, hc, hC⟩ := HP.out.hI; have HG := A_ hG; have hp1 := (blk_cell HG.out 1).trans rfl; have hp2 := (blk_cell HG.out 2).trans rfl; have hf1 := blk_frozen HG.out 1; have hf2 := blk_frozen HG.out 2; clear hG hg hc hC; clear hb hbox hgb) | ((with_reducible refine gD 17 ?_); refine gL 17 Try.func40 #[.pointer (some ⟨g, 0, none⟩)] ?_; (with_reducible refine (parser_begin.many g x t m d w0 _ HM.out HP.out.hI HP.out.hB).mono ?_); rintro e1 w1 ⟨uu, rfl, hx, hP⟩; refine ⟨_, rfl, ?_⟩; have HX := A_ hx; have GB := A_ (blk_lt BK.out); have GW := A_ HP.out.hK.1; replace BK := A_ (hP.blk BK.out NB.out); replace HP := A_ (HP.out.trans hP); have Z := bz8_ BK; obtain ⟨q1, rfl, hq1⟩ := HX.out; clear hx hP hq1))
      refine bodyPost_ret (results_ct rfl _ _ gb 27 z8_ (0, 0) _ rfl (put8_ BK.out ..) Try.underlying27 rfl (by kernel_rfl)) rfl ?_; exact ⟨_, _, rfl, Kd.V_nil _ _ _ _ _, HX.out.all8 GB.out GW.out .., HP.out.all8 NB.out ..⟩
    rw [if_neg cm] at h
    have HM := A_ cm
    have H' := A_ h
    clear cm h
    go_enter Try.func26, Try.ntmps26
    go_wp2_with (first | ((with_reducible refine gD 2 ?_); refine bxe_ 2 z8_ 27 ?_; intro gb hgb w2 hbox hb; have BK := A_ hbox; have NB := A_ (HP.out.new hgb); replace HP := A_ (HP.out.below hb); obtain ⟨A, c, hG, hg, hc, hC⟩ := HP.out.hI; have HG := A_ hG; have hp1 := (blk_cell HG.out 1).trans rfl; have hp2 := (blk_cell HG.out 2).trans rfl; have hf1 := blk_frozen HG.out 1; have hf2 := blk_frozen HG.out 2; clear hG hg hc hC; clear hb hbox hgb) | ((with_reducible refine gD 17 ?_); refine gL 17 Try.func40 #[.pointer (some ⟨g, 0, none⟩)] ?_; (with_reducible refine (parser_begin.one g (x :: t) m d w0 _ HM.out HP.out.hI HP.out.hB).mono ?_); rintro e1 w1 ⟨rfl, hP⟩; refine ⟨_, rfl, ?_⟩; replace BK := A_ (hP.blk BK.out NB.out); replace HP := A_ (HP.out.trans hP); clear hp1 hp2 hf1 hf2 HG; obtain ⟨A, c, hG, hg, hc, hC⟩ := HP.out.hI; have HG := A_ hG; have hp1 := (blk_cell HG.out 1).trans rfl; have hp2 := (blk_cell HG.out 2).trans rfl; have hf1 := blk_frozen HG.out 1; have hf2 := blk_frozen HG.out 2; clear hG hg hc hC; clear hP))
    (try simp only [Act.put, List.setIfInBounds_toArray, List.set_cons_zero, List.set_cons_succ])
    go_loopg [5] k (fun kq v5 w' => ∃ (t1 : List S48) (m1 d1 : Int) (l1 : List S27), Aside0 (pItems kq m1 d1 t1 l1 = some r) ∧ Aside0 (kq ≤ k) ∧ Aside0 (Kd.N k27 27 w' w.heap.size (fun q => w.heap.size ≤ q ∧ q ≠ gb) v5 l1) ∧ Aside0 (w'.heap[gb]? = some (.cells z8_ 27 (0, 0))) ∧ Aside0 (PK w0 w w' g t1 m1 d1))
    case atStart => exact ⟨x :: t, wrap64 (m + 1), wrap64 (d + 1), [], H', ⟨Nat.le_refl _⟩, ⟨Kd.N_nil _ _ _ _ _⟩, ⟨blk_far (p := ⟨g, 2, none⟩) BK.out (Ne.symm NB.out.1) _⟩, ⟨HP.out.setD _⟩⟩
    case round =>
      clear H' BK HP HG hp1 hp2 hf1 hf2
      obtain ⟨t1, m1, d1, l1, HA, HK1, HN, BK, HP⟩ := hrel
      cases gk with
      | zero => exact absurd HA.out (by simp [pItems])
      | succ k1 =>
      cases t1 with
      | nil => exact absurd HA.out (by simp [pItems])
      | cons y0 t1 =>
      have H := HA.out
      clear HA
      rw [pItems] at H
      obtain ⟨⟨n1, x1, t2, m2, d2⟩, h1, h2⟩ := Option.bind_eq_some_iff.mp H
      clear H
      have H1 := A_ h1
      clear h1
      cases x1 with
      | some y =>
        obtain rfl := Option.some.inj h2
        clear h2
        go_wp2_with (first | ((with_reducible refine gC 41 ?_); refine gL 30 Try.func41 #[.pointer (some ⟨g, 0, none⟩)] ?_; (with_reducible refine (parser_take.calls g y0 t1 m1 d1 w0 _ HP.out.hI HP.out.hB).mono ?_); rintro e3 w3 ⟨⟨v3, rfl⟩, hP⟩; refine ⟨_, rfl, ?_⟩; replace BK := A_ (hP.blk BK.out NB.out); replace HN := A_ (Kd.N_keep HN.out hP.hK (fun q hq => Ne.symm (Nat.ne_of_lt (Nat.lt_of_lt_of_le GL.out hq.1)))); replace HP := A_ (HP.out.trans hP); clear hP) | ((with_reducible refine gC 13 ?_); refine gL 33 Try.func13 #[.pointer (some ⟨g, 0, none⟩)] ?_; (with_reducible refine (IH.out k1 (by have := HK1.out; omega) g t1 m1 d1 _ w0 _ HP.out.hI HP.out.hB H1.out).mono ?_); rintro e1 w1 ⟨v1, u1, rfl, hV, hx, hP⟩; obtain ⟨qx, rfl, hqx, hX⟩ := hx; have GQ := A_ (Nat.le_trans HP.out.hK.1 hqx); have NQB := A_ (show qx ≠ gb from Ne.symm (Nat.ne_of_lt (Nat.lt_of_lt_of_le (blk_lt BK.out) hqx))); have BX := A_ hX; clear hX hqx; refine ⟨_, rfl, ?_⟩; obtain ⟨A1, c1, rfl⟩ : ∃ A1 c1, v1 = .slice A1 n1.f4.length c1 := Kd.V_slice hV; have HV := A_ (Kd.V_mono (ok' := fun q => w.heap.size ≤ q ∧ q ≠ gb ∧ some q ≠ u5.ownBlock) hV (fun q hq => ⟨Nat.le_trans HP.out.hK.1 hq, Ne.symm (Nat.ne_of_lt (Nat.lt_of_lt_of_le (blk_lt BK.out) hq)), fun e => Nat.lt_irrefl _ (Nat.lt_of_lt_of_le (Kd.N_lt HN.out q e.symm) hq)⟩)); replace HN := A_ (Kd.N_keep HN.out hP.hK (fun q hq => Ne.symm (Nat.ne_of_lt (Nat.lt_of_lt_of_le GL.out hq.1)))); replace BK := A_ (hP.blk BK.out NB.out); replace HP := A_ (HP.out.trans hP); clear hV hP) | ((with_reducible refine gD 6 ?_); refine bxe_ 6 z8_ 27 ?_; intro ga hga w4 hbox hb; have BA := A_ hbox; have NA := A_ (HP.out.new hga); have NBA := A_ (show gb ≠ ga from by rw [hga]; exact Nat.ne_of_lt (blk_lt BK.out)); have nba := NBA.out; have nab := Ne.symm nba; have NOA := A_ (show some ga ≠ u5.ownBlock from fun e => by have := Kd.N_lt HN.out ga e.symm; omega); replace HN := A_ (Kd.N_below (Kd.N_elderB HN.out ga (Nat.le_of_eq hga.symm)) hb); replace HV := A_ (Kd.V_below (Kd.V_elderB HV.out ga (Nat.le_of_eq hga.symm)) hb); have NQA := A_ (show qx ≠ ga from by rw [hga]; exact Nat.ne_of_lt (blk_lt BX.out)); replace BX := A_ (blk_below BX.out hb); replace HP := A_ (HP.out.below hb); replace BK := A_ (blk_below BK.out hb); have Z := bz8_ BA; have ZK := bz8_ BK; clear hb hbox hga))
        refine bodyPost_ret (results_ct rfl _ _ gb 27 #[.int .i64 n1.f0, .int .i64 n1.f1.f0, .string n1.f1.f1, .string n1.f1.f2, .string n1.f1.f3, .bool n1.f2, .bool n1.f3, .slice A1 n1.f4.length c1] (0, 0) _ rfl (put8_ (far8_ BK.out NBA.out ..) ..) Try.underlying27 rfl (by kernel_rfl)) rfl ?_
        have p1 := V_all8 (V_all8 HV.out (fun q hq => hq.2) (.int .i64 n1.f0) (.int .i64 n1.f1.f0) (.string n1.f1.f1) (.string n1.f1.f2) (.string n1.f1.f3) (.bool n1.f2) (.bool n1.f3) (.slice A1 n1.f4.length c1)) (fun q hq => hq.1.2.1) (.int .i64 n1.f0) (.int .i64 n1.f1.f0) (.string n1.f1.f1) (.string n1.f1.f2) (.string n1.f1.f3) (.bool n1.f2) (.bool n1.f3) (.slice A1 n1.f4.length c1)
        have p2 := (HP.out.all8 NA.out (.int .i64 n1.f0) (.int .i64 n1.f1.f0) (.string n1.f1.f1) (.string n1.f1.f2) (.string n1.f1.f3) (.bool n1.f2) (.bool n1.f3) (.slice A1 n1.f4.length c1)).all8 NB.out (.int .i64 n1.f0) (.int .i64 n1.f1.f0) (.string n1.f1.f1) (.string n1.f1.f2) (.string n1.f1.f3) (.bool n1.f2) (.bool n1.f3) (.slice A1 n1.f4.length c1)
        have p3 := far8_ (far8_ BX.out NQA.out (.int .i64 n1.f0) (.int .i64 n1.f1.f0) (.string n1.f1.f1) (.string n1.f1.f2) (.string n1.f1.f3) (.bool n1.f2) (.bool n1.f3) (.slice A1 n1.f4.length c1)) NQB.out (.int .i64 n1.f0) (.int .i64 n1.f1.f0) (.string n1.f1.f1) (.string n1.f1.f2) (.string n1.f1.f3) (.bool n1.f2) (.bool n1.f3) (.slice A1 n1.f4.length c1)
        exact ⟨_, _, rfl, V_base (Kd.V_mono p1 (fun q hq => hq.1.1)), IsX.put p3 GQ.out, p2⟩
      | none =>
        by_cases cl : l1.length < 1466015503701
        · replace h2 := (if_pos cl).symm.trans h2
          have HLN := A_ cl
          clear cl
          cases t2 with
          | nil => cases h2
          | cons y u =>
          by_cases cy : y.f0 = 6
          · replace h2 := (if_pos cy).symm.trans h2
            have k6 : (y.f0 == 6) = true := beq_iff_eq.mpr cy
            clear cy
            have H' := A_ h2
            clear h2
            go_wp2_with (first | ((with_reducible refine gC 41 ?_); refine gL 30 Try.func41 #[.pointer (some ⟨g, 0, none⟩)] ?_; (with_reducible refine (parser_take.calls g y0 t1 m1 d1 w0 _ HP.out.hI HP.out.hB).mono ?_); rintro e3 w3 ⟨⟨v3, rfl⟩, hP⟩; refine ⟨_, rfl, ?_⟩; replace BK := A_ (hP.blk BK.out NB.out); replace HN := A_ (Kd.N_keep HN.out hP.hK (fun q hq => Ne.symm (Nat.ne_of_lt (Nat.lt_of_lt_of_le GL.out hq.1)))); replace HP := A_ (HP.out.trans hP); clear hP) | ((with_reducible refine gC 13 ?_); refine gL 33 Try.func13 #[.pointer (some ⟨g, 0, none⟩)] ?_; (with_reducible refine (IH.out k1 (by have := HK1.out; omega) g t1 m1 d1 _ w0 _ HP.out.hI HP.out.hB H1.out).mono ?_); rintro e1 w1 ⟨v1, u1, rfl, hV, hx, hP⟩; obtain rfl : u1 = .pointer none := hx; refine ⟨_, rfl, ?_⟩; obtain ⟨A1, c1, rfl⟩ : ∃ A1 c1, v1 = .slice A1 n1.f4.length c1 := Kd.V_slice hV; have HV := A_ (Kd.V_mono (ok' := fun q => w.heap.size ≤ q ∧ q ≠ gb ∧ some q ≠ u5.ownBlock) hV (fun q hq => ⟨Nat.le_trans HP.out.hK.1 hq, Ne.symm (Nat.ne_of_lt (Nat.lt_of_lt_of_le (blk_lt BK.out) hq)), fun e => Nat.lt_irrefl _ (Nat.lt_of_lt_of_le (Kd.N_lt HN.out q e.symm) hq)⟩)); replace HN := A_ (Kd.N_keep HN.out hP.hK (fun q hq => Ne.symm (Nat.ne_of_lt (Nat.lt_of_lt_of_le GL.out hq.1)))); replace BK := A_ (hP.blk BK.out NB.out); replace HP := A_ (HP.out.trans hP); clear hV hP) | ((with_reducible refine gD 6 ?_); refine bxe_ 6 z8_ 27 ?_; intro ga hga w4 hbox hb; have BA := A_ hbox; have NA := A_ (HP.out.new hga); have NBA := A_ (show gb ≠ ga from by rw [hga]; exact Nat.ne_of_lt (blk_lt BK.out)); have nba := NBA.out; have nab := Ne.symm nba; have NOA := A_ (show some ga ≠ u5.ownBlock from fun e => by have := Kd.N_lt HN.out ga e.symm; omega); replace HN := A_ (Kd.N_below (Kd.N_elderB HN.out ga (Nat.le_of_eq hga.symm)) hb); replace HV := A_ (Kd.V_below (Kd.V_elderB HV.out ga (Nat.le_of_eq hga.symm)) hb); replace HP := A_ (HP.out.below hb); replace BK := A_ (blk_below BK.out hb); have Z := bz8_ BA; have ZK := bz8_ BK; clear hb hbox hga) | ((with_reducible refine gate_builtin (b := .append) (xs := #[.tmp 40, .tmp 42]) rfl ?_); at_builtin; refine Kd.N_append k27 w.heap.size rfl (.tmp 40) (.tmp 42) 25 27 (.agg #[(.int .i64 0), (.int .i64 0), (.string ⟨#[]⟩), (.string ⟨#[]⟩), (.string ⟨#[]⟩), (.bool false), (.bool false), (.slice none 0 0)]) 96 rfl Try.underlying25 info27 rfl (by decide) (by omega) u5 l1 n1 [.int .i64 n1.f0, .int .i64 n1.f1.f0, .string n1.f1.f1, .string n1.f1.f2, .string n1.f1.f3, .bool n1.f2, .bool n1.f3, .slice A1 n1.f4.length c1] (fun q => w.heap.size ≤ q ∧ q ≠ gb) (fun q => (w.heap.size ≤ q ∧ q ≠ gb ∧ some q ≠ u5.ownBlock) ∧ q ≠ ga) rfl ?aX ?aP ?aK ?aF ?aO (Below.refl _ _) ?aS ?aL ?_; (case aX => exact sl8_ ..); (case aP => exact k27_mkF _ _ n1 (Kd.V_at HV.out).2.1 (Kd.V_F (V_all8 HV.out (fun q hq => hq.2) (.int .i64 n1.f0) (.int .i64 n1.f1.f0) (.string n1.f1.f1) (.string n1.f1.f2) (.string n1.f1.f3) (.bool n1.f2) (.bool n1.f3) (.slice A1 n1.f4.length c1)))); (case aK => exact fun q hq => ⟨⟨hq.1.1, hq.1.2.1⟩, hq.1.2.2⟩); (case aF => exact fun q hq => ⟨Nat.le_trans (HP.out.all8 NA.out (.int .i64 n1.f0) (.int .i64 n1.f1.f0) (.string n1.f1.f1) (.string n1.f1.f2) (.string n1.f1.f3) (.bool n1.f2) (.bool n1.f3) (.slice A1 n1.f4.length c1)).hK.1 hq, Ne.symm (Nat.ne_of_lt (Nat.lt_of_lt_of_le (blk_lt (far8_ BK.out NBA.out (.int .i64 n1.f0) (.int .i64 n1.f1.f0) (.string n1.f1.f1) (.string n1.f1.f2) (.string n1.f1.f3) (.bool n1.f2) (.bool n1.f3) (.slice A1 n1.f4.length c1))) hq))⟩); (case aO => exact Kd.N_mono (N_all8 HN.out (fun q hq => hq.2) (.int .i64 n1.f0) (.int .i64 n1.f1.f0) (.string n1.f1.f1) (.string n1.f1.f2) (.string n1.f1.f3) (.bool n1.f2) (.bool n1.f3) (.slice A1 n1.f4.length c1)) (fun q hq => hq.1)); (case aS => exact (HP.out.all8 NA.out (.int .i64 n1.f0) (.int .i64 n1.f1.f0) (.string n1.f1.f1) (.string n1.f1.f2) (.string n1.f1.f3) (.bool n1.f2) (.bool n1.f3) (.slice A1 n1.f4.length c1)).hK.1); (case aL => have := HLN.out; omega); intro v6 w6 ho hb hg hat; clear Z ZK; have HV2 := A_ (Kd.V_grown (V_all8 HV.out (fun q hq => hq.2) (.int .i64 n1.f0) (.int .i64 n1.f1.f0) (.string n1.f1.f1) (.string n1.f1.f2) (.string n1.f1.f3) (.bool n1.f2) (.bool n1.f3) (.slice A1 n1.f4.length c1)) hg (fun q hq => hq.1.2.2)); have BK2 := A_ (blk_grown (far8_ BK.out NBA.out (.int .i64 n1.f0) (.int .i64 n1.f1.f0) (.string n1.f1.f1) (.string n1.f1.f2) (.string n1.f1.f3) (.bool n1.f2) (.bool n1.f3) (.slice A1 n1.f4.length c1)) hg (Kd.N_away HN.out (fun _ hk => hk.1.2))); have BA2 := A_ (blk_grown (put8_ BA.out (.int .i64 n1.f0) (.int .i64 n1.f1.f0) (.string n1.f1.f1) (.string n1.f1.f2) (.string n1.f1.f3) (.bool n1.f2) (.bool n1.f3) (.slice A1 n1.f4.length c1)) hg NOA.out); have HP2 := A_ (PK.grown (HP.out.all8 NA.out (.int .i64 n1.f0) (.int .i64 n1.f1.f0) (.string n1.f1.f1) (.string n1.f1.f2) (.string n1.f1.f3) (.bool n1.f2) (.bool n1.f3) (.slice A1 n1.f4.length c1)) hg (fun q e => (HN.out.1 q e).1.1) G0.out GL.out); obtain ⟨A6, c6, rfl⟩ : ∃ A6 c6, v6 = .slice A6 (l1.length + 1) c6 := (by obtain ⟨Aq, cq, e⟩ := Kd.N_slice ho; exact ⟨Aq, cq, by rw [e, List.length_append]; rfl⟩); clear HN HV BK BA HP; have HN := A_ ho; have HV := HV2; have BK := BK2; have BA := BA2; have HP := HP2; clear ho hb hg hat HV2 BK2 BA2 HP2) | ((with_reducible refine gD 45 ?_); refine gL 45 Try.func14 #[.pointer (some ⟨g, 0, none⟩)] ?_; (with_reducible refine (parser_next.calls g y u m2 d2 w0 _ HP.out.hI HP.out.hB).mono ?_); rintro e1 w1 ⟨rfl, hb⟩; refine ⟨_, rfl, ?_⟩; replace HP := A_ (HP.out.below hb); replace BK := A_ (blk_below BK.out hb); replace BA := A_ (blk_below BA.out hb); replace HV := A_ (Kd.V_below HV.out hb); replace HN := A_ (Kd.N_below HN.out hb); have Z := bz8_ BA; have ZK := bz8_ BK; clear hb))
            go_roundg k1
            case measure => have := HK1.out; omega
            case rel => exact ⟨y :: u, m2, d2, l1 ++ [n1], H', ⟨by have := HK1.out; omega⟩, HN, BK, HP⟩
          replace h2 := (if_neg cy).symm.trans h2
          have k6 : (y.f0 == 6) = false := beq_eq_false_iff_ne.mpr cy
          clear cy
          by_cases cy : y.f0 = 5
          · replace h2 := (if_pos cy).symm.trans h2
            have k5 : (y.f0 == 5) = true := beq_iff_eq.mpr cy
            clear cy
            obtain ⟨⟨o1, o2, o3, o4, o5, o6, o7, o8⟩, hO, h3⟩ := Option.bind_eq_some_iff.mp h2
            clear h2
            obtain rfl := Option.some.inj h3
            clear h3
            obtain ⟨l2, hl2⟩ : ∃ l2, l2 = l1 ++ [n1] := ⟨_, rfl⟩
            rw [← hl2] at hO
            have HL2 := A_ hl2
            have HO := A_ hO
            clear hO hl2
            go_wp2_with (first | ((with_reducible refine gC 41 ?_); refine gL 30 Try.func41 #[.pointer (some ⟨g, 0, none⟩)] ?_; (with_reducible refine (parser_take.calls g y0 t1 m1 d1 w0 _ HP.out.hI HP.out.hB).mono ?_); rintro e3 w3 ⟨⟨v3, rfl⟩, hP⟩; refine ⟨_, rfl, ?_⟩; replace BK := A_ (hP.blk BK.out NB.out); replace HN := A_ (Kd.N_keep HN.out hP.hK (fun q hq => Ne.symm (Nat.ne_of_lt (Nat.lt_of_lt_of_le GL.out hq.1)))); replace HP := A_ (HP.out.trans hP); clear hP) | ((with_reducible refine gC 13 ?_); refine gL 33 Try.func13 #[.pointer (some ⟨g, 0, none⟩)] ?_; (with_reducible refine (IH.out k1 (by have := HK1.out; omega) g t1 m1 d1 _ w0 _ HP.out.hI HP.out.hB H1.out).mono ?_); rintro e1 w1 ⟨v1, u1, rfl, hV, hx, hP⟩; obtain rfl : u1 = .pointer none := hx; refine ⟨_, rfl, ?_⟩; obtain ⟨A1, c1, rfl⟩ : ∃ A1 c1, v1 = .slice A1 n1.f4.length c1 := Kd.V_slice hV; have HV := A_ (Kd.V_mono (ok' := fun q => w.heap.size ≤ q ∧ q ≠ gb ∧ some q ≠ u5.ownBlock) hV (fun q hq => ⟨Nat.le_trans HP.out.hK.1 hq, Ne.symm (Nat.ne_of_lt (Nat.lt_of_lt_of_le (blk_lt BK.out) hq)), fun e => Nat.lt_irrefl _ (Nat.lt_of_lt_of_le (Kd.N_lt HN.out q e.symm) hq)⟩)); replace HN := A_ (Kd.N_keep HN.out hP.hK (fun q hq => Ne.symm (Nat.ne_of_lt (Nat.lt_of_lt_of_le GL.out hq.1)))); replace BK := A_ (hP.blk BK.out NB.out); replace HP := A_ (HP.out.trans hP); clear hV hP) | ((with_reducible refine gD 6 ?_); refine bxe_ 6 z8_ 27 ?_; intro ga hga w4 hbox hb; have BA := A_ hbox; have NA := A_ (HP.out.new hga); have NBA := A_ (show gb ≠ ga from by rw [hga]; exact Nat.ne_of_lt (blk_lt BK.out)); have nba := NBA.out; have nab := Ne.symm nba; have NOA := A_ (show some ga ≠ u5.ownBlock from fun e => by have := Kd.N_lt HN.out ga e.symm; omega); replace HN := A_ (Kd.N_below (Kd.N_elderB HN.out ga (Nat.le_of_eq hga.symm)) hb); replace HV := A_ (Kd.V_below (Kd.V_elderB HV.out ga (Nat.le_of_eq hga.symm)) hb); replace HP := A_ (HP.out.below hb); replace BK := A_ (blk_below BK.out hb); have Z := bz8_ BA; have ZK := bz8_ BK; clear hb hbox hga) | ((with_reducible refine gate_builtin (b := .append) (xs := #[.tmp 40, .tmp 42]) rfl ?_); at_builtin; refine Kd.N_append k27 w.heap.size rfl (.tmp 40) (.tmp 42) 25 27 (.agg #[(.int .i64 0), (.int .i64 0), (.string ⟨#[]⟩), (.string ⟨#[]⟩), (.string ⟨#[]⟩), (.bool false), (.bool false), (.slice none 0 0)]) 96 rfl Try.underlying25 info27 rfl (by decide) (by omega) u5 l1 n1 [.int .i64 n1.f0, .int .i64 n1.f1.f0, .string n1.f1.f1, .string n1.f1.f2, .string n1.f1.f3, .bool n1.f2, .bool n1.f3, .slice A1 n1.f4.length c1] (fun q => w.heap.size ≤ q ∧ q ≠ gb) (fun q => (w.heap.size ≤ q ∧ q ≠ gb ∧ some q ≠ u5.ownBlock) ∧ q ≠ ga) rfl ?aX ?aP ?aK ?aF ?aO (Below.refl _ _) ?aS ?aL ?_; (case aX => exact sl8_ ..); (case aP => exact k27_mkF _ _ n1 (Kd.V_at HV.out).2.1 (Kd.V_F (V_all8 HV.out (fun q hq => hq.2) (.int .i64 n1.f0) (.int .i64 n1.f1.f0) (.string n1.f1.f1) (.string n1.f1.f2) (.string n1.f1.f3) (.bool n1.f2) (.bool n1.f3) (.slice A1 n1.f4.length c1)))); (case aK => exact fun q hq => ⟨⟨hq.1.1, hq.1.2.1⟩, hq.1.2.2⟩); (case aF => exact fun q hq => ⟨Nat.le_trans (HP.out.all8 NA.out (.int .i64 n1.f0) (.int .i64 n1.f1.f0) (.string n1.f1.f1) (.string n1.f1.f2) (.string n1.f1.f3) (.bool n1.f2) (.bool n1.f3) (.slice A1 n1.f4.length c1)).hK.1 hq, Ne.symm (Nat.ne_of_lt (Nat.lt_of_lt_of_le (blk_lt (far8_ BK.out NBA.out (.int .i64 n1.f0) (.int .i64 n1.f1.f0) (.string n1.f1.f1) (.string n1.f1.f2) (.string n1.f1.f3) (.bool n1.f2) (.bool n1.f3) (.slice A1 n1.f4.length c1))) hq))⟩); (case aO => exact Kd.N_mono (N_all8 HN.out (fun q hq => hq.2) (.int .i64 n1.f0) (.int .i64 n1.f1.f0) (.string n1.f1.f1) (.string n1.f1.f2) (.string n1.f1.f3) (.bool n1.f2) (.bool n1.f3) (.slice A1 n1.f4.length c1)) (fun q hq => hq.1)); (case aS => exact (HP.out.all8 NA.out (.int .i64 n1.f0) (.int .i64 n1.f1.f0) (.string n1.f1.f1) (.string n1.f1.f2) (.string n1.f1.f3) (.bool n1.f2) (.bool n1.f3) (.slice A1 n1.f4.length c1)).hK.1); (case aL => have := HLN.out; omega); intro v6 w6 ho hb hg hat; rw [← HL2.out] at ho; clear Z ZK; have HV2 := A_ (Kd.V_grown (V_all8 HV.out (fun q hq => hq.2) (.int .i64 n1.f0) (.int .i64 n1.f1.f0) (.string n1.f1.f1) (.string n1.f1.f2) (.string n1.f1.f3) (.bool n1.f2) (.bool n1.f3) (.slice A1 n1.f4.length c1)) hg (fun q hq => hq.1.2.2)); have BK2 := A_ (blk_grown (far8_ BK.out NBA.out (.int .i64 n1.f0) (.int .i64 n1.f1.f0) (.string n1.f1.f1) (.string n1.f1.f2) (.string n1.f1.f3) (.bool n1.f2) (.bool n1.f3) (.slice A1 n1.f4.length c1)) hg (Kd.N_away HN.out (fun _ hk => hk.1.2))); have BA2 := A_ (blk_grown (put8_ BA.out (.int .i64 n1.f0) (.int .i64 n1.f1.f0) (.string n1.f1.f1) (.string n1.f1.f2) (.string n1.f1.f3) (.bool n1.f2) (.bool n1.f3) (.slice A1 n1.f4.length c1)) hg NOA.out); have HP2 := A_ (PK.grown (HP.out.all8 NA.out (.int .i64 n1.f0) (.int .i64 n1.f1.f0) (.string n1.f1.f1) (.string n1.f1.f2) (.string n1.f1.f3) (.bool n1.f2) (.bool n1.f3) (.slice A1 n1.f4.length c1)) hg (fun q e => (HN.out.1 q e).1.1) G0.out GL.out); obtain ⟨A6, c6, rfl⟩ := Kd.N_slice ho; clear HN HV BK BA HP; have HN := A_ ho; have HV := HV2; have BK := BK2; have BA := BA2; have HP := HP2; clear ho hb hg hat HV2 BK2 BA2 HP2) | ((with_reducible refine gD 45 ?_); refine gL 45 Try.func14 #[.pointer (some ⟨g, 0, none⟩)] ?_; (with_reducible refine (parser_next.calls g y u m2 d2 w0 _ HP.out.hI HP.out.hB).mono ?_); rintro e1 w1 ⟨rfl, hb⟩; refine ⟨_, rfl, ?_⟩; replace HP := A_ (HP.out.below hb); replace BK := A_ (blk_below BK.out hb); replace BA := A_ (blk_below BA.out hb); replace HV := A_ (Kd.V_below HV.out hb); replace HN := A_ (Kd.N_below HN.out hb); have Z := bz8_ BA; have ZK := bz8_ BK; clear hb) | ((with_reducible refine gC 41 ?_); refine gL 55 Try.func41 #[.pointer (some ⟨g, 0, none⟩)] ?_; (with_reducible refine (parser_take.calls g y u m2 d2 w0 _ HP.out.hI HP.out.hB).mono ?_); rintro e3 w3 ⟨⟨v3, rfl⟩, hP⟩; refine ⟨_, rfl, ?_⟩; replace BK := A_ (hP.blk BK.out NB.out); replace HN := A_ (Kd.N_keep HN.out hP.hK (fun q hq => Ne.symm (Nat.ne_of_lt (Nat.lt_of_lt_of_le GL.out hq.1)))); replace HP := A_ (HP.out.trans hP); clear hP Z ZK; obtain ⟨A, c, hG, hg, hc, hC⟩ := HP.out.hI; have HG := A_ hG; have hp1 := (blk_cell HG.out 1).trans rfl; have hp2 := (blk_cell HG.out 2).trans rfl; have hf1 := blk_frozen HG.out 1; have hf2 := blk_frozen HG.out 2; clear hG hg hc hC) | ((with_reducible refine gC 7 ?_); refine gL 64 Try.func7 #[.slice A6 l2.length c6] ?_; replace HP := A_ (HP.out.setD (wrap64 (d2 - 1))); replace BK := A_ (blk_far (p := ⟨g, 2, none⟩) BK.out (Ne.symm NB.out.1) (.int .i64 (wrap64 (d2 - 1)))); replace HN := A_ (Kd.N_far (p := ⟨g, 2, none⟩) HN.out (fun q hq => Ne.symm (Nat.ne_of_lt (Nat.lt_of_lt_of_le GL.out hq.1))) (.int .i64 (wrap64 (d2 - 1)))); (with_reducible refine (tree_OneOf.calls (fun q => w.heap.size ≤ q ∧ q ≠ gb) A6 c6 l2 o1 o2 o3 o4 o5 o6 o7 o8 _ (Kd.N_V HN.out) HO.out).mono ?_); rintro e1 w1 ⟨v7, rfl, hN, hb⟩; refine ⟨_, rfl, ?_⟩; obtain ⟨A7, c7, rfl⟩ := Kd.N_slice hN; have HV7 := A_ (Kd.V_mono (ok' := fun q => w.heap.size ≤ q ∧ q ≠ gb) (Kd.N_V (base' := w.heap.size) hN) (fun q hq => hq.elim id (fun hq => ⟨Nat.le_trans HP.out.hK.1 hq, Ne.symm (Nat.ne_of_lt (Nat.lt_of_lt_of_le (blk_lt BK.out) hq))⟩))); replace HP := A_ (HP.out.below hb); replace BK := A_ (blk_below BK.out hb); have Z := bz8_ BK; clear hN hb hp1 hp2 hf1 hf2 HG HN))
            refine bodyPost_ret (results_ct rfl _ _ gb 27 #[.int .i64 o1, .int .i64 o2, .string o3, .string o4, .string o5, .bool o6, .bool o7, .slice A7 o8.length c7] (0, 0) _ rfl (put8_ BK.out ..) Try.underlying27 rfl (by kernel_rfl)) rfl ?_
            have p1 := V_all8 HV7.out (fun q hq => hq.2) (.int .i64 o1) (.int .i64 o2) (.string o3) (.string o4) (.string o5) (.bool o6) (.bool o7) (.slice A7 o8.length c7)
            have p2 := HP.out.all8 NB.out (.int .i64 o1) (.int .i64 o2) (.string o3) (.string o4) (.string o5) (.bool o6) (.bool o7) (.slice A7 o8.length c7)
            exact ⟨_, _, rfl, V_base (Kd.V_mono p1 (fun q hq => hq.1)), rfl, p2⟩
          replace h2 := (if_neg cy).symm.trans h2
          have k5 : (y.f0 == 5) = false := beq_eq_false_iff_ne.mpr cy
          clear cy
          obtain rfl := Option.some.inj h2
          clear h2
          go_wp2_with (first | ((with_reducible refine gC 41 ?_); refine gL 30 Try.func41 #[.pointer (some ⟨g, 0, none⟩)] ?_; (with_reducible refine (parser_take.calls g y0 t1 m1 d1 w0 _ HP.out.hI HP.out.hB).mono ?_); rintro e3 w3 ⟨⟨v3, rfl⟩, hP⟩; refine ⟨_, rfl, ?_⟩; replace BK := A_ (hP.blk BK.out NB.out); replace HN := A_ (Kd.N_keep HN.out hP.hK (fun q hq => Ne.symm (Nat.ne_of_lt (Nat.lt_of_lt_of_le GL.out hq.1)))); replace HP := A_ (HP.out.trans hP); clear hP) | ((with_reducible refine gC 13 ?_); refine gL 33 Try.func13 #[.pointer (some ⟨g, 0, none⟩)] ?_; (with_reducible refine (IH.out k1 (by have := HK1.out; omega) g t1 m1 d1 _ w0 _ HP.out.hI HP.out.hB H1.out).mono ?_); rintro e1 w1 ⟨v1, u1, rfl, hV, hx, hP⟩; obtain rfl : u1 = .pointer none := hx; refine ⟨_, rfl, ?_⟩; obtain ⟨A1, c1, rfl⟩ : ∃ A1 c1, v1 = .slice A1 n1.f4.length c1 := Kd.V_slice hV; have HV := A_ (Kd.V_mono (ok' := fun q => w.heap.size ≤ q ∧ q ≠ gb ∧ some q ≠ u5.ownBlock) hV (fun q hq => ⟨Nat.le_trans HP.out.hK.1 hq, Ne.symm (Nat.ne_of_lt (Nat.lt_of_lt_of_le (blk_lt BK.out) hq)), fun e => Nat.lt_irrefl _ (Nat.lt_of_lt_of_le (Kd.N_lt HN.out q e.symm) hq)⟩)); replace HN := A_ (Kd.N_keep HN.out hP.hK (fun q hq => Ne.symm (Nat.ne_of_lt (Nat.lt_of_lt_of_le GL.out hq.1)))); replace BK := A_ (hP.blk BK.out NB.out); replace HP := A_ (HP.out.trans hP); clear hV hP) | ((with_reducible refine gD 6 ?_); refine bxe_ 6 z8_ 27 ?_; intro ga hga w4 hbox hb; have BA := A_ hbox; have NA := A_ (HP.out.new hga); have NBA := A_ (show gb ≠ ga from by rw [hga]; exact Nat.ne_of_lt (blk_lt BK.out)); have nba := NBA.out; have nab := Ne.symm nba; have NOA := A_ (show some ga ≠ u5.ownBlock from fun e => by have := Kd.N_lt HN.out ga e.symm; omega); replace HN := A_ (Kd.N_below (Kd.N_elderB HN.out ga (Nat.le_of_eq hga.symm)) hb); replace HV := A_ (Kd.V_below (Kd.V_elderB HV.out ga (Nat.le_of_eq hga.symm)) hb); replace HP := A_ (HP.out.below hb); replace BK := A_ (blk_below BK.out hb); have Z := bz8_ BA; have ZK := bz8_ BK; clear hb hbox hga) | ((with_reducible refine gate_builtin (b := .append) (xs := #[.tmp 40, .tmp 42]) rfl ?_); at_builtin; refine Kd.N_append k27 w.heap.size rfl (.tmp 40) (.tmp 42) 25 27 (.agg #[(.int .i64 0), (.int .i64 0), (.string ⟨#[]⟩), (.string ⟨#[]⟩), (.string ⟨#[]⟩), (.bool false), (.bool false), (.slice none 0 0)]) 96 rfl Try.underlying25 info27 rfl (by decide) (by omega) u5 l1 n1 [.int .i64 n1.f0, .int .i64 n1.f1.f0, .string n1.f1.f1, .string n1.f1.f2, .string n1.f1.f3, .bool n1.f2, .bool n1.f3, .slice A1 n1.f4.length c1] (fun q => w.heap.size ≤ q ∧ q ≠ gb) (fun q => (w.heap.size ≤ q ∧ q ≠ gb ∧ some q ≠ u5.ownBlock) ∧ q ≠ ga) rfl ?aX ?aP ?aK ?aF ?aO (Below.refl _ _) ?aS ?aL ?_; (case aX => exact sl8_ ..); (case aP => exact k27_mkF _ _ n1 (Kd.V_at HV.out).2.1 (Kd.V_F (V_all8 HV.out (fun q hq => hq.2) (.int .i64 n1.f0) (.int .i64 n1.f1.f0) (.string n1.f1.f1) (.string n1.f1.f2) (.string n1.f1.f3) (.bool n1.f2) (.bool n1.f3) (.slice A1 n1.f4.length c1)))); (case aK => exact fun q hq => ⟨⟨hq.1.1, hq.1.2.1⟩, hq.1.2.2⟩); (case aF => exact fun q hq => ⟨Nat.le_trans (HP.out.all8 NA.out (.int .i64 n1.f0) (.int .i64 n1.f1.f0) (.string n1.f1.f1) (.string n1.f1.f2) (.string n1.f1.f3) (.bool n1.f2) (.bool n1.f3) (.slice A1 n1.f4.length c1)).hK.1 hq, Ne.symm (Nat.ne_of_lt (Nat.lt_of_lt_of_le (blk_lt (far8_ BK.out NBA.out (.int .i64 n1.f0) (.int .i64 n1.f1.f0) (.string n1.f1.f1) (.string n1.f1.f2) (.string n1.f1.f3) (.bool n1.f2) (.bool n1.f3) (.slice A1 n1.f4.length c1))) hq))⟩); (case aO => exact Kd.N_mono (N_all8 HN.out (fun q hq => hq.2) (.int .i64 n1.f0) (.int .i64 n1.f1.f0) (.string n1.f1.f1) (.string n1.f1.f2) (.string n1.f1.f3) (.bool n1.f2) (.bool n1.f3) (.slice A1 n1.f4.length c1)) (fun q hq => hq.1)); (case aS => exact (HP.out.all8 NA.out (.int .i64 n1.f0) (.int .i64 n1.f1.f0) (.string n1.f1.f1) (.string n1.f1.f2) (.string n1.f1.f3) (.bool n1.f2) (.bool n1.f3) (.slice A1 n1.f4.length c1)).hK.1); (case aL => have := HLN.out; omega); intro v6 w6 ho hb hg hat; clear Z ZK; have HV2 := A_ (Kd.V_grown (V_all8 HV.out (fun q hq => hq.2) (.int .i64 n1.f0) (.int .i64 n1.f1.f0) (.string n1.f1.f1) (.string n1.f1.f2) (.string n1.f1.f3) (.bool n1.f2) (.bool n1.f3) (.slice A1 n1.f4.length c1)) hg (fun q hq => hq.1.2.2)); have BK2 := A_ (blk_grown (far8_ BK.out NBA.out (.int .i64 n1.f0) (.int .i64 n1.f1.f0) (.string n1.f1.f1) (.string n1.f1.f2) (.string n1.f1.f3) (.bool n1.f2) (.bool n1.f3) (.slice A1 n1.f4.length c1)) hg (Kd.N_away HN.out (fun _ hk => hk.1.2))); have BA2 := A_ (blk_grown (put8_ BA.out (.int .i64 n1.f0) (.int .i64 n1.f1.f0) (.string n1.f1.f1) (.string n1.f1.f2) (.string n1.f1.f3) (.bool n1.f2) (.bool n1.f3) (.slice A1 n1.f4.length c1)) hg NOA.out); have HP2 := A_ (PK.grown (HP.out.all8 NA.out (.int .i64 n1.f0) (.int .i64 n1.f1.f0) (.string n1.f1.f1) (.string n1.f1.f2) (.string n1.f1.f3) (.bool n1.f2) (.bool n1.f3) (.slice A1 n1.f4.length c1)) hg (fun q e => (HN.out.1 q e).1.1) G0.out GL.out); obtain ⟨A6, c6, rfl⟩ : ∃ A6 c6, v6 = .slice A6 (l1.length + 1) c6 := (by obtain ⟨Aq, cq, e⟩ := Kd.N_slice ho; exact ⟨Aq, cq, by rw [e, List.length_append]; rfl⟩); clear HN HV BK BA HP; have HN := A_ ho; have HV := HV2; have BK := BK2; have BA := BA2; have HP := HP2; clear ho hb hg hat HV2 BK2 BA2 HP2) | ((with_reducible refine gD 45 ?_); refine gL 45 Try.func14 #[.pointer (some ⟨g, 0, none⟩)] ?_; (with_reducible refine (parser_next.calls g y u m2 d2 w0 _ HP.out.hI HP.out.hB).mono ?_); rintro e1 w1 ⟨rfl, hb⟩; refine ⟨_, rfl, ?_⟩; replace HP := A_ (HP.out.below hb); replace BK := A_ (blk_below BK.out hb); replace BA := A_ (blk_below BA.out hb); replace HV := A_ (Kd.V_below HV.out hb); replace HN := A_ (Kd.N_below HN.out hb); have Z := bz8_ BA; have ZK := bz8_ BK; clear hb))
          go_region_held3 (fun w' => w'.cell? ⟨ga, 0, none⟩ = some (.int .i64 n1.f0) ∧ w'.cell? ⟨ga, 1, none⟩ = some (.int .i64 n1.f1.f0) ∧ w'.cell? ⟨ga, 2, none⟩ = some (.string n1.f1.f1) ∧ w'.cell? ⟨ga, 3, none⟩ = some (.string n1.f1.f2) ∧ w'.cell? ⟨ga, 4, none⟩ = some (.string n1.f1.f3) ∧ w'.cell? ⟨ga, 5, none⟩ = some (.bool n1.f2) ∧ w'.cell? ⟨ga, 6, none⟩ = some (.bool n1.f3) ∧ w'.cell? ⟨ga, 7, none⟩ = some (.slice A1 n1.f4.length c1)) (first | (with_reducible exact C8_ BA.out) | (with_reducible exact C8_ (blk_drew BA.out)) | exact C8_ (far8_ BA.out nab (.int .i64 n1.f0) (.int .i64 n1.f1.f0) (.string n1.f1.f1) (.string n1.f1.f2) (.string n1.f1.f3) (.bool n1.f2) (.bool n1.f3) (.slice A1 n1.f4.length c1))) (first | (go_at_call 15; replace HP := A_ HP.out.drew; replace BK := A_ (blk_drew BK.out); replace BA := A_ (blk_drew BA.out); replace HV := A_ (Kd.V_drew HV.out); (with_reducible refine (parser_not.calls g y u m2 d2 3 w0 _ HP.out.hI HP.out.hB).mono ?_); rintro e1 w1 ⟨u2, rfl, hx, hb⟩; have HX := A_ hx; have GB := A_ (blk_lt BK.out); have GW := A_ HP.out.hK.1; replace HP := A_ (HP.out.below hb); replace BK := A_ (blk_below BK.out hb); replace BA := A_ (blk_below BA.out hb); replace HV := A_ (Kd.V_below HV.out hb); clear Z ZK HN; have Z := bz8_ BA; have ZK := bz8_ BK; clear hx hb))
          go_wp2
          refine bodyPost_ret (results_ct rfl _ _ gb 27 #[.int .i64 n1.f0, .int .i64 n1.f1.f0, .string n1.f1.f1, .string n1.f1.f2, .string n1.f1.f3, .bool n1.f2, .bool n1.f3, .slice A1 n1.f4.length c1] (0, 0) _ rfl (put8_ BK.out ..) Try.underlying27 rfl (by kernel_rfl)) rfl ?_
          have p1 := V_all8 HV.out (fun q hq => hq.1.2.1) (.int .i64 n1.f0) (.int .i64 n1.f1.f0) (.string n1.f1.f1) (.string n1.f1.f2) (.string n1.f1.f3) (.bool n1.f2) (.bool n1.f3) (.slice A1 n1.f4.length c1)
          have p2 := HX.out.all8 GB.out GW.out (.int .i64 n1.f0) (.int .i64 n1.f1.f0) (.string n1.f1.f1) (.string n1.f1.f2) (.string n1.f1.f3) (.bool n1.f2) (.bool n1.f3) (.slice A1 n1.f4.length c1)
          have p3 := HP.out.all8 NB.out (.int .i64 n1.f0) (.int .i64 n1.f1.f0) (.string n1.f1.f1) (.string n1.f1.f2) (.string n1.f1.f3) (.bool n1.f2) (.bool n1.f3) (.slice A1 n1.f4.length c1)
          exact ⟨_, _, rfl, V_base (Kd.V_mono p1 (fun q hq => hq.1.1)), p2, p3⟩
        · replace h2 := (if_neg cl).symm.trans h2
          cases h2
set_option maxHeartbeats 8000000 in
set_option maxRecDepth 100000 in
theorem parser_expr.calls (k : Nat) : ExprAt k := by
  induction k using Nat.strongRecOn with
  | _ k ih =>
  intro g t m d r w0 w hI hB0 h
  have HP := A_ (PK.start hI hB0)
  have IH := A_ ih
  clear hI hB0 ih
  cases k with
  | zero => cases h
  | succ k =>
  cases t with
  | nil => cases h
  | cons x t =>
  rw [pExpr] at h
  by_cases c : x.f0 = 4
  · rw [if_pos c] at h
    have k4 : (x.f0 == 4) = true := beq_iff_eq.mpr c
    have HL := A_ h
    clear c h
    go_enter Try.func13, Try.ntmps13
    go_wp2_with (first | ((with_reducible refine gD 2 ?_); refine bxe_ 2 z8_ 27 ?_; intro gb hgb w2 hbox hb; have BK := A_ hbox; have NB := A_ (HP.out.new hgb); replace HP := A_ (HP.out.below hb); clear hb hbox hgb) | ((with_reducible refine gD 8 ?_); refine gL 8 Try.func14 #[.pointer (some ⟨g, 0, none⟩)] ?_; (with_reducible refine (parser_next.calls g x t m d w0 _ HP.out.hI HP.out.hB).mono ?_); rintro e1 w1 ⟨rfl, hb⟩; refine ⟨_, rfl, ?_⟩; replace HP := A_ (HP.out.below hb); replace BK := A_ (blk_below BK.out hb); clear hb) | ((with_reducible refine gD 14 ?_); refine gV 14 #[.pointer (some ⟨g, 0, none⟩)] Try.func26 #[.pointer (some ⟨g, 0, none⟩)] ?_; (with_reducible refine (parser_list.calls k (fun j hj => IH.out j (Nat.lt_succ_of_lt hj)) g x t m d r w0 _ HP.out.hI HP.out.hB HL.out).mono ?_); rintro e1 w1 ⟨v1, u1, rfl, hV, hx, hP⟩; refine ⟨_, rfl, ?_⟩; obtain ⟨A1, c1, rfl⟩ : ∃ A1 c1, v1 = .slice A1 r.n.f4.length c1 := Kd.V_slice hV; have HX := A_ hx; have GB := A_ (blk_lt BK.out); have GW := A_ HP.out.hK.1; have HV := A_ (Kd.V_mono (ok' := fun q => w.heap.size ≤ q ∧ q ≠ gb) hV (fun q hq => ⟨Nat.le_trans HP.out.hK.1 hq, Ne.symm (Nat.ne_of_lt (Nat.lt_of_lt_of_le (blk_lt BK.out) hq))⟩)); replace BK := A_ (hP.blk BK.out NB.out); replace HP := A_ (HP.out.trans hP); have Z := bz8_ BK; clear hx hV hP))
    refine bodyPost_ret (results_ct rfl _ _ gb 27 #[.int .i64 r.n.f0, .int .i64 r.n.f1.f0, .string r.n.f1.f1, .string r.n.f1.f2, .string r.n.f1.f3, .bool r.n.f2, .bool r.n.f3, .slice A1 r.n.f4.length c1] (0, 0) _ rfl (put8_ BK.out ..) Try.underlying27 rfl (by kernel_rfl)) rfl ?_; have p1 := V_all8 HV.out (fun q hq => hq.2) (.int .i64 r.n.f0) (.int .i64 r.n.f1.f0) (.string r.n.f1.f1) (.string r.n.f1.f2) (.string r.n.f1.f3) (.bool r.n.f2) (.bool r.n.f3) (.slice A1 r.n.f4.length c1); have p2 := HX.out.all8 GB.out GW.out (.int .i64 r.n.f0) (.int .i64 r.n.f1.f0) (.string r.n.f1.f1) (.string r.n.f1.f2) (.string r.n.f1.f3) (.bool r.n.f2) (.bool r.n.f3) (.slice A1 r.n.f4.length c1); have p3 := HP.out.all8 NB.out (.int .i64 r.n.f0) (.int .i64 r.n.f1.f0) (.string r.n.f1.f1) (.string r.n.f1.f2) (.string r.n.f1.f3) (.bool r.n.f2) (.bool r.n.f3) (.slice A1 r.n.f4.length c1); exact ⟨_, _, rfl, V_base (Kd.V_mono p1 (fun q hq => hq.1)), p2, p3⟩
  · rw [if_neg c] at h
    have k4 : (x.f0 == 4) = false := beq_eq_false_iff_ne.mpr c
    have HL := A_ h
    clear c h
    go_enter Try.func13, Try.ntmps13
    go_wp2_with (first | ((with_reducible refine gD 2 ?_); refine bxe_ 2 z8_ 27 ?_; intro gb hgb w2 hbox hb; have BK := A_ hbox; have NB := A_ (HP.out.new hgb); replace HP := A_ (HP.out.below hb); clear hb hbox hgb) | ((with_reducible refine gD 8 ?_); refine gL 8 Try.func14 #[.pointer (some ⟨g, 0, none⟩)] ?_; (with_reducible refine (parser_next.calls g x t m d w0 _ HP.out.hI HP.out.hB).mono ?_); rintro e1 w1 ⟨rfl, hb⟩; refine ⟨_, rfl, ?_⟩; replace HP := A_ (HP.out.below hb); replace BK := A_ (blk_below BK.out hb); clear hb) | ((with_reducible refine gD 14 ?_); refine gV 14 #[.pointer (some ⟨g, 0, none⟩)] Try.func25 #[.pointer (some ⟨g, 0, none⟩)] ?_; (with_reducible refine (parser_span.calls k g (x :: t) m d r w0 _ HP.out.hI HP.out.hB HL.out).mono ?_); rintro e1 w1 ⟨v1, u1, rfl, hV, hx, hP⟩; refine ⟨_, rfl, ?_⟩; obtain ⟨A1, c1, rfl⟩ : ∃ A1 c1, v1 = .slice A1 r.n.f4.length c1 := Kd.V_slice hV; have HX := A_ hx; have GB := A_ (blk_lt BK.out); have GW := A_ HP.out.hK.1; have HV := A_ (Kd.V_mono (ok' := fun q => w.heap.size ≤ q ∧ q ≠ gb) hV (fun q hq => ⟨Nat.le_trans HP.out.hK.1 hq, Ne.symm (Nat.ne_of_lt (Nat.lt_of_lt_of_le (blk_lt BK.out) hq))⟩)); replace BK := A_ (hP.blk BK.out NB.out); replace HP := A_ (HP.out.trans hP); have Z := bz8_ BK; clear hx hV hP))
    refine bodyPost_ret (results_ct rfl _ _ gb 27 #[.int .i64 r.n.f0, .int .i64 r.n.f1.f0, .string r.n.f1.f1, .string r.n.f1.f2, .string r.n.f1.f3, .bool r.n.f2, .bool r.n.f3, .slice A1 r.n.f4.length c1] (0, 0) _ rfl (put8_ BK.out ..) Try.underlying27 rfl (by kernel_rfl)) rfl ?_; have p1 := V_all8 HV.out (fun q hq => hq.2) (.int .i64 r.n.f0) (.int .i64 r.n.f1.f0) (.string r.n.f1.f1) (.string r.n.f1.f2) (.string r.n.f1.f3) (.bool r.n.f2) (.bool r.n.f3) (.slice A1 r.n.f4.length c1); have p2 := HX.out.all8 GB.out GW.out (.int .i64 r.n.f0) (.int .i64 r.n.f1.f0) (.string r.n.f1.f1) (.string r.n.f1.f2) (.string r.n.f1.f3) (.bool r.n.f2) (.bool r.n.f3) (.slice A1 r.n.f4.length c1); have p3 := HP.out.all8 NB.out (.int .i64 r.n.f0) (.int .i64 r.n.f1.f0) (.string r.n.f1.f1) (.string r.n.f1.f2) (.string r.n.f1.f3) (.bool r.n.f2) (.bool r.n.f3) (.slice A1 r.n.f4.length c1); exact ⟨_, _, rfl, V_base (Kd.V_mono p1 (fun q hq => hq.1)), p2, p3⟩
theorem strings_IndexByte.calls (a0 : ByteArray) (a1 r : Int) (w : World) (h : strings_IndexByte.f a0 a1 = some r) :
    Calls Try.prog 33 #[.string a0, .int .u8 a1] w fun e w' => e = .returned (.int .i64 r) ∧ ∃ nd, w' = w.drewN nd := by
  refine (Try.strings_IndexByte a0 a1 w).mono fun e w' ⟨he, hw⟩ => ⟨?_, 0, hw⟩
  rw [he, ← Option.some.inj h]
end Go.Proofs.Ytjgjhekpiijniaa.A
namespace Go.Proofs.Ytjgjhekpiijniaa.A
open Go.RowKit Go.Proofs.YtjgjhekpiijniaaW.PrintWords Go.Proofs.YtjgjhekpiijniaaW.PrintLast Go.Proofs.YtjgjhekpiijniaaW.PrintMore
attribute [local go_sem] max2_int min2_int max_two min_two max_three min_three max_four min_four
set_option maxHeartbeats 8000000 in
set_option maxRecDepth 100000 in
theorem lex_word.calls (k : Nat) (a0 : ByteArray) (r : Int) (w : World) (h : lex_word.f k a0 = some r) :
  Calls Try.prog 22 #[.string a0] w fun e w' => e = .returned (.int .i64 r) ∧ Drawn0 w w' := by
 have H : (lex_word.l0 k a0 0) = some r := h; clear h; have H' := A_ H; clear H; go_enter Try.func22, Try.ntmps22; go_wp2; go_loopg [3] k (fun kq v3 w' => ∃ (x3_1 : Int), v3 = .int .i64 x3_1 ∧ Aside0 (lex_word.l0 kq a0 x3_1 = some r) ∧ Aside0 (kq ≤ k) ∧ Drawn0 w w')
 case atStart => exact ⟨(0), rf_, H', ⟨Nat.le_refl _⟩, by repeat (first | exact Drawn0.refl _ | apply Drawn0.step)⟩
 case round =>
  clear H'; obtain ⟨x3_1, rfl, HA, HK1, ⟨m1, rfl⟩⟩ := hrel
  cases gk with
  | zero => exact absurd HA.out (by simp [lex_word.l0])
  | succ k1 =>
   have H := HA.out; clear HA; simp only [lex_word.l0] at H
   by_cases c2 : x3_1 < (a0.size : Int)
   ·rw [if_pos c2] at H
    have c2b0 := decide_eq_true c2; clear c2
    by_cases c3 : 0 ≤ x3_1
    ·rw [if_pos c3] at H
     have c3b0 := decide_eq_true c3; clear c3; obtain ⟨t267, A5, H⟩ := bi_ H
     by_cases c6 : t267 ≥ 0
     ·rw [if_pos c6] at H
      have c6b0 := decide_eq_true c6; clear c6; have H' := A_ H; clear H; have p4 : 0 ≤ (x3_1 : Int) := od_; have q4 : x3_1 < (a0.size : Int) := od_; have hx4 := bt_at a0 x3_1; replace p4 := eq_true p4; replace q4 := eq_true q4; go_wp2_with (first | (go_at_call 33; (with_reducible refine (strings_IndexByte.calls (⟨#[48, 49, 50, 51, 52, 53, 54, 55, 56, 57, 88, 45, 115, 100, 99]⟩ : ByteArray) (bt a0 x3_1) t267 _ A5.out).mono ?_); rintro e w' ⟨rfl, ⟨nd, rfl⟩⟩)); go_roundg k1
      case measure => have := HK1.out; omega
      case rel => exact ⟨(wrap64 (x3_1 + 1)), rf_, H', ⟨by have := HK1.out; omega⟩, by repeat (first | exact Drawn0.refl _ | apply Drawn0.step)⟩
     ·rw [if_neg c6] at H
      have c6b0 := decide_eq_false c6; clear c6; obtain rfl := Option.some.inj H; have p4 : 0 ≤ (x3_1 : Int) := od_; have q4 : x3_1 < (a0.size : Int) := od_; have hx4 := bt_at a0 x3_1; replace p4 := eq_true p4; replace q4 := eq_true q4; go_wp2_with (first | (go_at_call 33; (with_reducible refine (strings_IndexByte.calls (⟨#[48, 49, 50, 51, 52, 53, 54, 55, 56, 57, 88, 45, 115, 100, 99]⟩ : ByteArray) (bt a0 x3_1) t267 _ A5.out).mono ?_); rintro e w' ⟨rfl, ⟨nd, rfl⟩⟩)); go_ret; exact ⟨by first | rfl | (simp; done) | (simp [*]; done), by repeat (first | exact Drawn0.refl _ | apply Drawn0.step)⟩
    ·rw [if_neg c3] at H
     exact absurd H (by simp)
   ·rw [if_neg c2] at H
    have c2b0 := decide_eq_false c2; clear c2; obtain rfl := Option.some.inj H; go_wp2; go_ret; exact ⟨by first | rfl | (simp; done) | (simp [*]; done), by repeat (first | exact Drawn0.refl _ | apply Drawn0.step)⟩
set_option maxHeartbeats 8000000 in
set_option maxRecDepth 100000 in
theorem stringslite_HasPrefix.calls (a0 a1 : ByteArray) (r : Bool) (w : World) (h : stringslite_HasPrefix.f a0 a1 = some r) :
  Calls Try.prog 34 #[.string a0, .string a1] w fun e w' => e = .returned (.bool r) ∧ Drawn0 w w' := by
 have H : (if (a0.size : Int) ≥ (a1.size : Int) then (if 0 ≤ (a1.size : Int) then (if (a1.size : Int) ≤ (a0.size : Int) then (some ((a0.extract 0 ((a1.size : Int) : Int).toNat).toList == a1.toList)) else (none)) else (none)) else (some false)) = some r := h; clear h
 by_cases c3 : (a0.size : Int) ≥ (a1.size : Int)
 ·rw [if_pos c3] at H
  have c3b0 := decide_eq_true c3; have c3b1 : decide (a1.size ≤ a0.size) = true := decide_eq_true (Int.ofNat_le.mp c3); clear c3
  by_cases c4 : 0 ≤ (a1.size : Int)
  ·rw [if_pos c4] at H
   have c4b0 := eq_true c4; have c4b1 := decide_eq_true c4; clear c4
   by_cases c5 : (a1.size : Int) ≤ (a0.size : Int)
   ·rw [if_pos c5] at H
    have c5b0 := eq_true c5; have c5b1 := decide_eq_true c5; clear c5; obtain rfl := Option.some.inj H; go_enter Try.func34, Try.ntmps34; go_wp2; go_ret; exact ⟨by first | rfl | (simp; done) | (simp [*]; done), by repeat (first | exact Drawn0.refl _ | apply Drawn0.step)⟩
   ·rw [if_neg c5] at H
    exact absurd H (by simp)
  ·rw [if_neg c4] at H
   exact absurd H (by simp)
 ·rw [if_neg c3] at H
  have c3b0 := decide_eq_false c3; have c3b1 : decide (a1.size ≤ a0.size) = false := decide_eq_false (fun h => c3 (Int.ofNat_le.mpr h)); clear c3; obtain rfl := Option.some.inj H; go_enter Try.func34, Try.ntmps34; go_wp2; go_ret; exact ⟨by first | rfl | (simp; done) | (simp [*]; done), by repeat (first | exact Drawn0.refl _ | apply Drawn0.step)⟩
set_option maxHeartbeats 8000000 in
set_option maxRecDepth 100000 in
theorem strings_HasPrefix.calls (a0 a1 : ByteArray) (r : Bool) (w : World) (h : strings_HasPrefix.f a0 a1 = some r) :
  Calls Try.prog 23 #[.string a0, .string a1] w fun e w' => e = .returned (.bool r) ∧ Drawn0 w w' := by
 have H : ((stringslite_HasPrefix.f a0 a1).bind fun t268 => (some t268)) = some r := h; clear h; obtain ⟨t268, A3, H⟩ := bi_ H; obtain rfl := Option.some.inj H; go_enter Try.func23, Try.ntmps23; go_wp2_with (first | (refine gC 34 ?_; refine gL 7 Try.func34 #[.string a0, .string a1] ?_; (with_reducible refine (stringslite_HasPrefix.calls a0 a1 t268 _ A3.out).mono ?_); rintro e w' ⟨rfl, ⟨nd, rfl⟩⟩; refine ⟨_, rfl, ?_⟩)); go_ret; exact ⟨by first | rfl | (simp; done) | (simp [*]; done), by repeat (first | exact Drawn0.refl _ | apply Drawn0.step)⟩
end Go.Proofs.Ytjgjhekpiijniaa.A
namespace Go.Proofs.Ytjgjhekpiijniaa.A
open Go.RowKit Go.Maps Go.WideShapes Go.Proofs.YtjgjhekpiijniaaW.PrintWords Go.Proofs.YtjgjhekpiijniaaW.PrintLast Go.Proofs.YtjgjhekpiijniaaW.PrintMore
theorem wpList_insert_own {H : Type} {P : Program} (w : World) {ops : Array Oper} {rest : List Oper} {o : Oper} {a : Act} {Q : Exit → Act → World → Prop}
    (hg : o.guard = none) (m x v : Operand) (t : TypeId) (hop : o.op = Op.insert t m x v)
    (k e : TypeId) (K : Keyed P k) (ht : P.underlying t = some (.map k e)) (R : Value → Option (DataW H × List MemPlace)) (b n : Nat) (D : DataW H)
    (hm : a.eval m = .map (some b)) (hown : w.ownsMap P k R b n D) (hn : n < maxLen) (key val : Value) (kl : Lit) (hx : a.eval x = key) (hv : a.eval v = val) (hkey : keyOf P k key = some kl)
    (d : DataW H) (ps : List MemPlace) (hval : R val = some (d, ps))
    (hK : ∀ w', w'.ownsMap P k R b (n + 1) (D.put kl d) → w.grownBy w' (some b) → wpList P ops Q rest (a.put o.dst undef) w') :
    wpList P ops Q (o :: rest) a w := by
  refine wpList_plain hg fun K' hK' => ?_
  obtain ⟨w', hrun, r1, r2⟩ := hown.update K ht hn hkey hval
  unfold Oper.wp
  simp [execOp, hop, hm, hx, hv, hrun, Result.andThen]
  exact hK' _ _ (hK w' r1 r2)
def ent (k v : Int) : Lit × DataW Unit := (.int .u8 k, .lit (.int .i64 v))
def D7 : DataW Unit := (((((((DataW.map []).put (.int .u8 47) (.lit (.int .i64 1))).put (.int .u8 42) (.lit (.int .i64 3))).put (.int .u8 91) (.lit (.int .i64 4))).put (.int .u8 93) (.lit (.int .i64 5))).put (.int .u8 44) (.lit (.int .i64 6))).put (.int .u8 63) (.lit (.int .i64 7))).put (.int .u8 126) (.lit (.int .i64 8))
theorem D7_eq : D7 = .map [ent 42 3, ent 44 6, ent 47 1, ent 63 7, ent 91 4, ent 93 5, ent 126 8] := by kernel_rfl
def IsSigns (w : World) (g : Nat) : Prop := w.ownsMap Try.prog 5 (plainElem Try.prog 3) g 7 D7
set_option maxRecDepth 100000 in
theorem lex_signs.made (w : World) : Calls Try.prog 21 #[] w fun e w' => ∃ g, e = .returned (.map (some g)) ∧ IsSigns w' g ∧ Below w.heap.size w w' := by
  have HM := A_ (World.ownsMap_made (H := Unit) w Try.prog 5 (plainElem Try.prog 3))
  have HB := A_ ((Below.refl w.heap.size w).alloc (Nat.le_refl _) (.map #[] 0))
  have hmm := @run_makeMap Try.prog
  go_enter Try.func21, Try.ntmps21
  go_wp2_with (first | (refine wpList_insert_own _ rfl _ _ _ 56 rfl 5 3 (int_keyed Try.underlying5) Try.underlying56 (plainElem Try.prog 3) _ _ _ rfl HM.out (by unfold maxLen; omega) _ _ _ rfl rfl (keyOf_int_mk Try.underlying5 (by decide)) _ [] (plainElem_int Try.underlying3 (by decide)) ?_; intro w1 ho hg; have n0_ := A_ ho; have n1_ := A_ (HB.out.grown hg (HB.out.size) (fun k hk => by injection hk with hk; omega)); clear HM HB ho hg; have HM := n0_; have HB := n1_; clear n0_ n1_))
  go_ret
  exact ⟨_, rfl, HM.out, HB.out⟩
theorem sig_below {w w1 : World} {g : Nat} (h : IsSigns w g) (hb : Below w.heap.size w w1) : IsSigns w1 g := by
  obtain ⟨es, clock, h1, h2⟩ := h
  have hlt : g < w.heap.size := by
    rcases Nat.lt_or_ge g w.heap.size with h | h
    · exact h
    · rw [Array.getElem?_eq_none h] at h1; cases h1
  exact ⟨es, clock, (hb.block g hlt).trans h1, h2⟩
theorem sign_at (c : Int) : D7.atKey (.int .u8 c) (.lit (.int .i64 0)) = .lit (.int .i64 (signK c)) ∧ has D7 (.int .u8 c) = signB c := by
  have hk : ∀ n : Int, (Lit.int .u8 n).sameKey (.int .u8 c) = decide (n = c) := fun n => by simp [Lit.sameKey]
  rw [D7_eq]
  unfold signK signB
  by_cases h1 : c = 47
  · subst h1; constructor <;> rfl
  by_cases h2 : c = 42
  · subst h2; constructor <;> rfl
  by_cases h3 : c = 91
  · subst h3; constructor <;> rfl
  by_cases h4 : c = 93
  · subst h4; constructor <;> rfl
  by_cases h5 : c = 44
  · subst h5; constructor <;> rfl
  by_cases h6 : c = 63
  · subst h6; constructor <;> rfl
  by_cases h7 : c = 126
  · subst h7; constructor <;> rfl
  have e : ∀ n : Int, n ≠ c → decide (n = c) = false := fun n h => decide_eq_false h
  constructor
  · simp [DataW.atKey, ent, hk, Ne.symm h1, Ne.symm h2, Ne.symm h3, Ne.symm h4, Ne.symm h5, Ne.symm h6, Ne.symm h7, h1, h2, h3, h4, h5, h6, h7]
  · simp [has, ent, hk, Ne.symm h1, Ne.symm h2, Ne.symm h3, Ne.symm h4, Ne.symm h5, Ne.symm h6, Ne.symm h7, h1, h2, h3, h4, h5, h6, h7]
theorem wf_u8 {c : Int} (h : 0 ≤ c ∧ c ≤ 255) : (Lit.int .u8 c).wf = true := by
  have e1 : IntKind.min .u8 = 0 := by kernel_rfl
  have e2 : IntKind.max .u8 = 255 := by kernel_rfl
  simp only [Lit.wf, e1, e2, Bool.and_eq_true, decide_eq_true_eq]
  omega
theorem look_sign (w : World) {ops : Array Oper} {rest : List Oper} {o : Oper} {a : Act} {Q : Exit → Act → World → Prop} (hg : o.guard = none) (m x : Operand) (hop : o.op = Op.lookup 56 m x true) (g : Nat) (hm : a.eval m = .map (some g)) (hs : IsSigns w g) (c k : Int) (b : Bool) (hx : a.eval x = .int .u8 c) (h0 : 0 ≤ c ∧ c ≤ 255) (hf : lex_signs.f c = some (k, b))
    (hK : wpList Try.prog ops Q rest (a.put o.dst (.tuple #[.int .i64 k, .bool b])) w) : wpList Try.prog ops Q (o :: rest) a w := by
  refine wpList_lookup_own_ok_int w hg m x 56 hop 5 3 .i64 (int_keyed Try.underlying5) Try.underlying56 Try.underlying3 (Try.zeroValue3 w) g 7 D7 hm hs (.int .u8 c) (.int .u8 c) hx (keyOf_int_mk Try.underlying5 (wf_u8 h0)) ?_
  intro c' hat _
  obtain ⟨h1, h2⟩ := sign_at c
  rw [h1] at hat
  rw [h2]
  injection hat with hat
  injection hat with _ hat
  injection hf with hf
  injection hf with hf1 hf2
  rw [← hat, hf1, hf2]
  exact hK
end Go.Proofs.Ytjgjhekpiijniaa.A
namespace Go.Proofs.Ytjgjhekpiijniaa.A
open Go.RowKit Go.Proofs.YtjgjhekpiijniaaW.PrintWords Go.Proofs.YtjgjhekpiijniaaW.PrintLast Go.Proofs.YtjgjhekpiijniaaW.PrintMore
attribute [local go_sem] max2_int min2_int max_two min_two max_three min_three max_four min_four
set_option maxHeartbeats 8000000 in
set_option maxRecDepth 100000 in
theorem lex_All.callsK (k : Nat) (a0 : ByteArray) (r1 : List (S48)) (r2 r3 : Int) (w0_ : World) (K : Ending → World → Prop) (hK : ∀ w1 : World, Below w0_.heap.size w0_ w1 → ∀ e w', (∃ v0_ : Value, e = .returned (.tuple #[v0_, .int .i64 r2, .int .i64 r3]) ∧ Kd.R k48 48 w' w1.heap.size (fun _ => True) v0_ r1 ∧ Below w1.heap.size w1 w') → K e w') (h : lex_All.f k a0 = some (r1, r2, r3)) :
  Calls Try.prog 10 #[.string a0] w0_ K := by
 have hu48 := Try.underlying48; have HKK := A_ hK; clear hK; have HB := A_ (Below.refl w0_.heap.size w0_); have H : (if (a0.size : Int) > 2000 then (some (([] : List (S48)), 2000, 7)) else (lex_All.l0 k a0 ([] : List (S48)) 0)) = some (r1, r2, r3) := h; clear h
 by_cases c2 : (a0.size : Int) > 2000
 ·rw [if_pos c2] at H
  have c2b0 := decide_eq_true c2; have c2b1 : decide (2000 < a0.size) = true := decide_eq_true (by omega); clear c2; simp only [Option.some.injEq, Prod.mk.injEq] at H; obtain ⟨rfl, rfl, rfl⟩ := H; go_enter Try.func10, Try.ntmps10; go_wp2; go_ret3; exact HKK.out w0_ (Below.refl _ _) _ _ ⟨_, by first | rfl | (simp [errW_none, errW_some] <;> rfl) | (simp [*, errW_none, errW_some] <;> rfl), by first | exact Kd.R_nil _ _ _ _ _ | exact Kd.N_nil _ _ _ _ _ | exact Kd.V_nil _ _ _ _ _ | exact Kd.Q_nil _ _ _ _ _ | exact Kd.S_nil _ _ _ _ _, hs_⟩
 ·rw [if_neg c2] at H
  have c2b0 := decide_eq_false c2; have c2b1 : decide (2000 < a0.size) = false := decide_eq_false (by omega); clear c2; have H' := A_ H; clear H; go_enter Try.func10, Try.ntmps10; go_wp2_with (first | (go_at_call 21; refine (lex_signs.made _).mono ?_; rintro e w ⟨gm, rfl, hm_, hb⟩; have HMS := A_ hm_; have HB3 := A_ hb; clear hm_ hb HB; have HB := A_ (Below.refl w.heap.size w))); go_loopg [6, 7] k (fun kq v6 v7 w' => ∃ (x6_1 : List (S48)) (x7_1 : Int), v7 = .int .i64 x7_1 ∧ Aside0 (lex_All.l0 kq a0 x6_1 x7_1 = some (r1, r2, r3)) ∧ Aside0 (kq ≤ k) ∧ Aside0 (Kd.R k48 48 w' w.heap.size (fun _ => True) v6 x6_1) ∧ Aside0 (Below w.heap.size w w'))
  case atStart => exact ⟨(([] : List (S48))), (0), rf_, H', ⟨Nat.le_refl _⟩, ⟨by first | exact Kd.R_nil _ _ _ _ _ | exact Kd.N_nil _ _ _ _ _ | exact Kd.V_nil _ _ _ _ _ | exact Kd.Q_nil _ _ _ _ _ | exact Kd.S_nil _ _ _ _ _⟩, ⟨hs_⟩⟩
  case round =>
   clear H'; (try clear c2); (try clear c2b0); (try clear c2b1); (try clear p2); obtain ⟨x6_1, x7_1, rfl, HA, HK1, HO_6, HB⟩ := hrel
   cases gk with
   | zero => exact absurd HA.out (by simp [lex_All.l0])
   | succ k1 =>
    have H := HA.out; clear HA; simp only [lex_All.l0] at H
    by_cases c3 : x7_1 < (a0.size : Int)
    ·rw [if_pos c3] at H
     have c3b0 := decide_eq_true c3; clear c3
     by_cases c4 : 0 ≤ x7_1
     ·rw [if_pos c4] at H
      have c4b0 := decide_eq_true c4; clear c4; obtain ⟨⟨t272, t273⟩, A6, H⟩ := bi_ H; have c7b0 := eq_true (od_ : 0 ≤ x7_1)
      by_cases c8 : x7_1 ≤ (a0.size : Int)
      ·rw [if_pos c8] at H
       have c8b0 := eq_true c8; have c8b1 := decide_eq_true c8; clear c8; obtain ⟨t274, A9, H⟩ := bi_ H
       by_cases c10 : t274 > 0
       ·rw [if_pos c10] at H
        have c10b0 := decide_eq_true c10; clear c10; have c11b0 := eq_true (od_ : 0 ≤ x7_1)
        by_cases c12 : x7_1 ≤ (wrap64 (x7_1 + t274))
        ·rw [if_pos c12] at H
         have c12b0 := eq_true c12; have c12b1 := decide_eq_true c12
         by_cases c13 : (wrap64 (x7_1 + t274)) ≤ (a0.size : Int)
         ·rw [if_pos c13] at H
          have c13b0 := eq_true c13; have c13b1 := decide_eq_true c13
          by_cases c14 : x6_1.length < 4398046511104
          ·rw [if_pos c14] at H
           have LMc14 := A_ c14; clear c14; obtain ⟨y275, hy275⟩ : ∃ y_ : List (S48), y_ = (x6_1 ++ [(⟨0, x7_1, a0.extract (x7_1 : Int).toNat ((wrap64 (x7_1 + t274)) : Int).toNat⟩ : S48)]) := ⟨_, rfl⟩; (replace H : (lex_All.l0 k1 a0 y275 (wrap64 (x7_1 + t274))) = some (r1, r2, r3) := by first | (rw [hy275]; with_reducible exact H) | (have H2_ := (Option.bind_some _ _).symm.trans H; rw [hy275]; with_reducible exact H2_) | (have H2_ := (Option.bind_some _ _).symm.trans H; with_reducible exact H2_) | with_reducible exact H | (rw [hy275]; exact H) | exact H); have Ny275 := A_ hy275; clear hy275; have H' := A_ H; clear H; have p5 : 0 ≤ (x7_1 : Int) := od_; have q5 : x7_1 < (a0.size : Int) := od_; have hx5 := bt_at a0 x7_1; replace p5 := eq_true p5; replace q5 := eq_true q5; go_wp2_with (first | (refine look_sign _ rfl _ _ rfl gm rfl (sig_below HMS.out hs_) (bt a0 x7_1) t272 t273 rfl (bt_range _ _) A6.out ?_) | (refine gC 22 ?_; refine gL 30 Try.func22 #[.string (a0.extract (x7_1 : Int).toNat a0.size)] ?_; (with_reducible refine (lex_word.calls k1 (a0.extract (x7_1 : Int).toNat a0.size) t274 _ A9.out).mono ?_); rintro e w' ⟨rfl, ⟨nd, rfl⟩⟩; refine ⟨_, rfl, ?_⟩) | ((with_reducible refine gate_builtin (b := .append) (xs := #[.tmp 35, .tmp 44]) rfl ?_); at_builtin; refine Kd.R_append k48 (w0 := w) w.heap.size rfl (.tmp 35) (.tmp 44) 35 48 (.agg #[(.int .i64 0), (.int .i64 0), (.string ⟨#[]⟩)]) 32 rfl Try.underlying35 info48 rfl (by decide) (by omega) u6 x6_1 (⟨0, x7_1, a0.extract (x7_1 : Int).toNat ((wrap64 (x7_1 + t274)) : Int).toNat⟩ : S48) [.int .i64 0, .int .i64 x7_1, .string (a0.extract (x7_1 : Int).toNat ((wrap64 (x7_1 + t274)) : Int).toNat)] (fun _ => True) (fun _ => False) rfl rfl ?aP (fun _ hk => hk.elim) ?aF ?aO ?aB ?aS ?aL ?_; (case aP => exact k48_mkM _ _ _ (⟨0, x7_1, a0.extract (x7_1 : Int).toNat ((wrap64 (x7_1 + t274)) : Int).toNat⟩ : S48)); (case aB => exact hs_); (case aF => exact (fun _ _ => trivial)); (case aO => exact (fxR_ HO_6.out)); (case aS => exact (below_size hs_)); (case aL => have := LMc14.out; omega); intro v276 w15 ho hb hg hat; rw [← Ny275.out] at ho; replace HB := A_ (hb); have HO277 := A_ (ho); clear HO_6; clear ho hb hg hat)); go_roundg k1
           case measure => have := HK1.out; omega
           case rel => exact ⟨(y275), (wrap64 (x7_1 + t274)), rf_, H', ⟨by have := HK1.out; omega⟩, ⟨fxR_ HO277.out⟩, ⟨hs_⟩⟩
          ·rw [if_neg c14] at H
           exact absurd H (by simp)
         ·rw [if_neg c13] at H
          exact absurd H (by simp)
        ·rw [if_neg c12] at H
         exact absurd H (by simp)
       ·rw [if_neg c10] at H
        have c10b0 := decide_eq_false c10; clear c10
        by_cases c16 : t273 = true
        ·subst c16
         (have H1 : (if x6_1.length < 4398046511104 then (lex_All.l0 k1 a0 (x6_1 ++ [(⟨t272, x7_1, (⟨#[]⟩ : ByteArray)⟩ : S48)]) (wrap64 (x7_1 + 1))) else (none)) = some (r1, r2, r3) := by rw [if_pos rfl] at H; exact H); clear H; have H := H1; clear H1
         by_cases c17 : x6_1.length < 4398046511104
         ·rw [if_pos c17] at H
          have LMc17 := A_ c17; clear c17; obtain ⟨y278, hy278⟩ : ∃ y_ : List (S48), y_ = (x6_1 ++ [(⟨t272, x7_1, (⟨#[]⟩ : ByteArray)⟩ : S48)]) := ⟨_, rfl⟩; (replace H : (lex_All.l0 k1 a0 y278 (wrap64 (x7_1 + 1))) = some (r1, r2, r3) := by first | (rw [hy278]; with_reducible exact H) | (have H2_ := (Option.bind_some _ _).symm.trans H; rw [hy278]; with_reducible exact H2_) | (have H2_ := (Option.bind_some _ _).symm.trans H; with_reducible exact H2_) | with_reducible exact H | (rw [hy278]; exact H) | exact H); have Ny278 := A_ hy278; clear hy278; have H' := A_ H; clear H; have p5 : 0 ≤ (x7_1 : Int) := od_; have q5 : x7_1 < (a0.size : Int) := od_; have hx5 := bt_at a0 x7_1; replace p5 := eq_true p5; replace q5 := eq_true q5; go_wp2_with (first | (refine look_sign _ rfl _ _ rfl gm rfl (sig_below HMS.out hs_) (bt a0 x7_1) t272 true rfl (bt_range _ _) A6.out ?_) | (refine gC 22 ?_; refine gL 30 Try.func22 #[.string (a0.extract (x7_1 : Int).toNat a0.size)] ?_; (with_reducible refine (lex_word.calls k1 (a0.extract (x7_1 : Int).toNat a0.size) t274 _ A9.out).mono ?_); rintro e w' ⟨rfl, ⟨nd, rfl⟩⟩; refine ⟨_, rfl, ?_⟩) | ((with_reducible refine gate_builtin (b := .append) (xs := #[.tmp 48, .tmp 52]) rfl ?_); at_builtin; refine Kd.R_append k48 (w0 := w) w.heap.size rfl (.tmp 48) (.tmp 52) 35 48 (.agg #[(.int .i64 0), (.int .i64 0), (.string ⟨#[]⟩)]) 32 rfl Try.underlying35 info48 rfl (by decide) (by omega) u6 x6_1 (⟨t272, x7_1, (⟨#[]⟩ : ByteArray)⟩ : S48) [.int .i64 t272, .int .i64 x7_1, .string ⟨#[]⟩] (fun _ => True) (fun _ => False) rfl rfl ?aP (fun _ hk => hk.elim) ?aF ?aO ?aB ?aS ?aL ?_; (case aP => exact k48_mkM _ _ _ (⟨t272, x7_1, (⟨#[]⟩ : ByteArray)⟩ : S48)); (case aB => exact hs_); (case aF => exact (fun _ _ => trivial)); (case aO => exact (fxR_ HO_6.out)); (case aS => exact (below_size hs_)); (case aL => have := LMc17.out; omega); intro v279 w18 ho hb hg hat; rw [← Ny278.out] at ho; replace HB := A_ (hb); have HO280 := A_ (ho); clear HO_6; clear ho hb hg hat)); go_roundg k1
          case measure => have := HK1.out; omega
          case rel => exact ⟨(y278), (wrap64 (x7_1 + 1)), rf_, H', ⟨by have := HK1.out; omega⟩, ⟨fxR_ HO280.out⟩, ⟨hs_⟩⟩
         ·rw [if_neg c17] at H
          exact absurd H (by simp)
        ·replace c16 := Bool.eq_false_iff.mpr c16
         subst c16; (have H1 : ((strings_HasPrefix.f (a0.extract (x7_1 : Int).toNat a0.size) (⟨#[46, 46]⟩ : ByteArray)).bind fun t281 => (if t281 = true then (if x6_1.length < 4398046511104 then (lex_All.l0 k1 a0 (x6_1 ++ [(⟨2, x7_1, (⟨#[]⟩ : ByteArray)⟩ : S48)]) (wrap64 (x7_1 + 2))) else (none)) else (if (bt a0 x7_1) = 32 then (lex_All.l0 k1 a0 x6_1 (wrap64 (x7_1 + 1))) else (some (([] : List (S48)), x7_1, 1))))) = some (r1, r2, r3) := by rw [if_neg (show ¬ (false = true) by decide)] at H; exact H); clear H; have H := H1; clear H1; have c19b0 := eq_true (od_ : 0 ≤ x7_1); have c20b0 := eq_true (od_ : x7_1 ≤ (a0.size : Int)); obtain ⟨t281, A21, H⟩ := bi_ H
         by_cases c22 : t281 = true
         ·subst c22
          (have H1 : (if x6_1.length < 4398046511104 then (lex_All.l0 k1 a0 (x6_1 ++ [(⟨2, x7_1, (⟨#[]⟩ : ByteArray)⟩ : S48)]) (wrap64 (x7_1 + 2))) else (none)) = some (r1, r2, r3) := by rw [if_pos rfl] at H; exact H); clear H; have H := H1; clear H1
          by_cases c23 : x6_1.length < 4398046511104
          ·rw [if_pos c23] at H
           have LMc23 := A_ c23; clear c23; obtain ⟨y282, hy282⟩ : ∃ y_ : List (S48), y_ = (x6_1 ++ [(⟨2, x7_1, (⟨#[]⟩ : ByteArray)⟩ : S48)]) := ⟨_, rfl⟩; (replace H : (lex_All.l0 k1 a0 y282 (wrap64 (x7_1 + 2))) = some (r1, r2, r3) := by first | (rw [hy282]; with_reducible exact H) | (have H2_ := (Option.bind_some _ _).symm.trans H; rw [hy282]; with_reducible exact H2_) | (have H2_ := (Option.bind_some _ _).symm.trans H; with_reducible exact H2_) | with_reducible exact H | (rw [hy282]; exact H) | exact H); have Ny282 := A_ hy282; clear hy282; have H' := A_ H; clear H; have p5 : 0 ≤ (x7_1 : Int) := od_; have q5 : x7_1 < (a0.size : Int) := od_; have hx5 := bt_at a0 x7_1; replace p5 := eq_true p5; replace q5 := eq_true q5; go_wp2_with (first | (refine look_sign _ rfl _ _ rfl gm rfl (sig_below HMS.out hs_) (bt a0 x7_1) t272 false rfl (bt_range _ _) A6.out ?_) | (refine gC 22 ?_; refine gL 30 Try.func22 #[.string (a0.extract (x7_1 : Int).toNat a0.size)] ?_; (with_reducible refine (lex_word.calls k1 (a0.extract (x7_1 : Int).toNat a0.size) t274 _ A9.out).mono ?_); rintro e w' ⟨rfl, ⟨nd, rfl⟩⟩; refine ⟨_, rfl, ?_⟩) | (refine gC 23 ?_; refine gL 58 Try.func23 #[.string (a0.extract (x7_1 : Int).toNat a0.size), .string ⟨#[46, 46]⟩] ?_; (with_reducible refine (strings_HasPrefix.calls (a0.extract (x7_1 : Int).toNat a0.size) (⟨#[46, 46]⟩ : ByteArray) true _ A21.out).mono ?_); rintro e w' ⟨rfl, ⟨nd, rfl⟩⟩; refine ⟨_, rfl, ?_⟩) | ((with_reducible refine gate_builtin (b := .append) (xs := #[.tmp 59, .tmp 62]) rfl ?_); at_builtin; refine Kd.R_append k48 (w0 := w) w.heap.size rfl (.tmp 59) (.tmp 62) 35 48 (.agg #[(.int .i64 0), (.int .i64 0), (.string ⟨#[]⟩)]) 32 rfl Try.underlying35 info48 rfl (by decide) (by omega) u6 x6_1 (⟨2, x7_1, (⟨#[]⟩ : ByteArray)⟩ : S48) [.int .i64 2, .int .i64 x7_1, .string ⟨#[]⟩] (fun _ => True) (fun _ => False) rfl rfl ?aP (fun _ hk => hk.elim) ?aF ?aO ?aB ?aS ?aL ?_; (case aP => exact k48_mkM _ _ _ (⟨2, x7_1, (⟨#[]⟩ : ByteArray)⟩ : S48)); (case aB => exact hs_); (case aF => exact (fun _ _ => trivial)); (case aO => exact (fxR_ HO_6.out)); (case aS => exact (below_size hs_)); (case aL => have := LMc23.out; omega); intro v283 w24 ho hb hg hat; rw [← Ny282.out] at ho; replace HB := A_ (hb); have HO284 := A_ (ho); clear HO_6; clear ho hb hg hat)); go_roundg k1
           case measure => have := HK1.out; omega
           case rel => exact ⟨(y282), (wrap64 (x7_1 + 2)), rf_, H', ⟨by have := HK1.out; omega⟩, ⟨fxR_ HO284.out⟩, ⟨hs_⟩⟩
          ·rw [if_neg c23] at H
           exact absurd H (by simp)
         ·replace c22 := Bool.eq_false_iff.mpr c22
          subst c22; (have H1 : (if (bt a0 x7_1) = 32 then (lex_All.l0 k1 a0 x6_1 (wrap64 (x7_1 + 1))) else (some (([] : List (S48)), x7_1, 1))) = some (r1, r2, r3) := by rw [if_neg (show ¬ (false = true) by decide)] at H; exact H); clear H; have H := H1; clear H1
          by_cases c26 : (bt a0 x7_1) = 32
          ·rw [if_pos c26] at H
           have c26b0 : ((bt a0 x7_1) == 32) = true := beq_iff_eq.mpr c26; have c26b1 : ((bt a0 x7_1) != 32) = false := bne_eq_false_iff_eq.mpr c26; clear c26; have H' := A_ H; clear H; have p5 : 0 ≤ (x7_1 : Int) := od_; have q5 : x7_1 < (a0.size : Int) := od_; have hx5 := bt_at a0 x7_1; replace p5 := eq_true p5; replace q5 := eq_true q5; go_wp2_with (first | (refine look_sign _ rfl _ _ rfl gm rfl (sig_below HMS.out hs_) (bt a0 x7_1) t272 false rfl (bt_range _ _) A6.out ?_) | (refine gC 22 ?_; refine gL 30 Try.func22 #[.string (a0.extract (x7_1 : Int).toNat a0.size)] ?_; (with_reducible refine (lex_word.calls k1 (a0.extract (x7_1 : Int).toNat a0.size) t274 _ A9.out).mono ?_); rintro e w' ⟨rfl, ⟨nd, rfl⟩⟩; refine ⟨_, rfl, ?_⟩) | (refine gC 23 ?_; refine gL 58 Try.func23 #[.string (a0.extract (x7_1 : Int).toNat a0.size), .string ⟨#[46, 46]⟩] ?_; (with_reducible refine (strings_HasPrefix.calls (a0.extract (x7_1 : Int).toNat a0.size) (⟨#[46, 46]⟩ : ByteArray) false _ A21.out).mono ?_); rintro e w' ⟨rfl, ⟨nd, rfl⟩⟩; refine ⟨_, rfl, ?_⟩; have p25 : 0 ≤ (x7_1 : Int) := od_; have q25 : x7_1 < (a0.size : Int) := od_; have hx25 := bt_at a0 x7_1; replace p25 := eq_true p25; replace q25 := eq_true q25)); go_roundg k1
           case measure => have := HK1.out; omega
           case rel => exact ⟨(x6_1), (wrap64 (x7_1 + 1)), rf_, H', ⟨by have := HK1.out; omega⟩, ⟨fxR_ HO_6.out⟩, ⟨hs_⟩⟩
          ·rw [if_neg c26] at H
           have c26b0 : ((bt a0 x7_1) == 32) = false := beq_eq_false_iff_ne.mpr c26; have c26b1 : ((bt a0 x7_1) != 32) = true := bne_iff_ne.mpr c26; simp only [Option.some.injEq, Prod.mk.injEq] at H; obtain ⟨rfl, rfl, rfl⟩ := H; have p5 : 0 ≤ (x7_1 : Int) := od_; have q5 : x7_1 < (a0.size : Int) := od_; have hx5 := bt_at a0 x7_1; replace p5 := eq_true p5; replace q5 := eq_true q5; go_wp2_with (first | (refine look_sign _ rfl _ _ rfl gm rfl (sig_below HMS.out hs_) (bt a0 x7_1) t272 false rfl (bt_range _ _) A6.out ?_) | (refine gC 22 ?_; refine gL 30 Try.func22 #[.string (a0.extract (x7_1 : Int).toNat a0.size)] ?_; (with_reducible refine (lex_word.calls k1 (a0.extract (x7_1 : Int).toNat a0.size) t274 _ A9.out).mono ?_); rintro e w' ⟨rfl, ⟨nd, rfl⟩⟩; refine ⟨_, rfl, ?_⟩) | (refine gC 23 ?_; refine gL 58 Try.func23 #[.string (a0.extract (x7_1 : Int).toNat a0.size), .string ⟨#[46, 46]⟩] ?_; (with_reducible refine (strings_HasPrefix.calls (a0.extract (x7_1 : Int).toNat a0.size) (⟨#[46, 46]⟩ : ByteArray) false _ A21.out).mono ?_); rintro e w' ⟨rfl, ⟨nd, rfl⟩⟩; refine ⟨_, rfl, ?_⟩; have p25 : 0 ≤ (x7_1 : Int) := od_; have q25 : x7_1 < (a0.size : Int) := od_; have hx25 := bt_at a0 x7_1; replace p25 := eq_true p25; replace q25 := eq_true q25)); go_ret3; exact HKK.out w HB3.out _ _ ⟨_, by first | rfl | (simp [errW_none, errW_some] <;> rfl) | (simp [*, errW_none, errW_some] <;> rfl), by first | exact Kd.R_nil _ _ _ _ _ | exact Kd.N_nil _ _ _ _ _ | exact Kd.V_nil _ _ _ _ _ | exact Kd.Q_nil _ _ _ _ _ | exact Kd.S_nil _ _ _ _ _, hs_⟩
      ·rw [if_neg c8] at H
       exact absurd H (by simp)
     ·rw [if_neg c4] at H
      exact absurd H (by simp)
    ·rw [if_neg c3] at H
     have c3b0 := decide_eq_false c3; clear c3
     by_cases c27 : x6_1.length < 4398046511104
     ·rw [if_pos c27] at H
      have LMc27 := A_ c27; clear c27; obtain ⟨y269, hy269⟩ : ∃ y_ : List (S48), y_ = (x6_1 ++ [(⟨9, (a0.size : Int), (⟨#[]⟩ : ByteArray)⟩ : S48)]) := ⟨_, rfl⟩; (replace H : (some (y269, (a0.size : Int), 0)) = some (r1, r2, r3) := by first | (rw [hy269]; with_reducible exact H) | (have H2_ := (Option.bind_some _ _).symm.trans H; rw [hy269]; with_reducible exact H2_) | (have H2_ := (Option.bind_some _ _).symm.trans H; with_reducible exact H2_) | with_reducible exact H | (rw [hy269]; exact H) | exact H); have Ny269 := A_ hy269; clear hy269; simp only [Option.some.injEq, Prod.mk.injEq] at H; obtain ⟨rfl, rfl, rfl⟩ := H; go_wp2_with (first | ((with_reducible refine gate_builtin (b := .append) (xs := #[.tmp 72, .tmp 76]) rfl ?_); at_builtin; refine Kd.R_append k48 (w0 := w) w.heap.size rfl (.tmp 72) (.tmp 76) 35 48 (.agg #[(.int .i64 0), (.int .i64 0), (.string ⟨#[]⟩)]) 32 rfl Try.underlying35 info48 rfl (by decide) (by omega) u6 x6_1 (⟨9, (a0.size : Int), (⟨#[]⟩ : ByteArray)⟩ : S48) [.int .i64 9, .int .i64 (a0.size : Int), .string ⟨#[]⟩] (fun _ => True) (fun _ => False) rfl rfl ?aP (fun _ hk => hk.elim) ?aF ?aO ?aB ?aS ?aL ?_; (case aP => exact k48_mkM _ _ _ (⟨9, (a0.size : Int), (⟨#[]⟩ : ByteArray)⟩ : S48)); (case aB => exact hs_); (case aF => exact (fun _ _ => trivial)); (case aO => exact (fxR_ HO_6.out)); (case aS => exact (below_size hs_)); (case aL => have := LMc27.out; omega); intro v270 w28 ho hb hg hat; rw [← Ny269.out] at ho; replace HB := A_ (hb); have HO271 := A_ (ho); clear HO_6; clear ho hb hg hat)); go_ret3; exact HKK.out w HB3.out _ _ ⟨_, by first | rfl | (simp [errW_none, errW_some] <;> rfl) | (simp [*, errW_none, errW_some] <;> rfl), fxR_ HO271.out, hs_⟩
     ·rw [if_neg c27] at H
      exact absurd H (by simp)
theorem lex_All.calls (k : Nat) (a0 : ByteArray) (r1 : List (S48)) (r2 r3 : Int) (w : World) (h : lex_All.f k a0 = some (r1, r2, r3)) :
    Calls Try.prog 10 #[.string a0] w fun e w' => ∃ v0_ : Value, e = .returned (.tuple #[v0_, .int .i64 r2, .int .i64 r3]) ∧ Kd.R k48 48 w' w.heap.size (fun _ => True) v0_ r1 ∧ Below w.heap.size w w' :=
  lex_All.callsK k a0 r1 r2 r3 w _ (fun w1 hb e w' ⟨v0_, he, hr, hb'⟩ => ⟨v0_, he, Kd.R_lower hr hb.size, hb.trans (hb'.mono hb.size)⟩) h
end Go.Proofs.Ytjgjhekpiijniaa.A
namespace Go.Proofs.Ytjgjhekpiijniaa.A
open Go.RowKit Go.Proofs.YtjgjhekpiijniaaW.PrintWords Go.Proofs.YtjgjhekpiijniaaW.PrintLast Go.Proofs.YtjgjhekpiijniaaW.PrintMore
attribute [local go_sem] isSome_setCell fld46_0 fld46_1 fld46_2
theorem below8 {w W : World} {q : Nat} (h : Below w.heap.size w W) (hq : w.heap.size ≤ q) (a a1 c e f i j k : Value) : Below w.heap.size w ((((((((W.setCell ⟨q, 0, none⟩ a).setCell ⟨q, 1, none⟩ a1).setCell ⟨q, 2, none⟩ c).setCell ⟨q, 3, none⟩ e).setCell ⟨q, 4, none⟩ f).setCell ⟨q, 5, none⟩ i).setCell ⟨q, 6, none⟩ j).setCell ⟨q, 7, none⟩ k) :=
  below_set (below_set (below_set (below_set (below_set (below_set (below_set (below_set h hq) hq) hq) hq) hq) hq) hq) hq
theorem IsP.make {W W1 : World} {g : Nat} {A : Option Addr} {c : Nat} {t : List S48} {b : Nat} {ok : Nat → Prop} (ho : Kd.R k48 48 W b ok (.slice A t.length c) t) (hg : g = W.heap.size) (hb : W1.heap[g]? = some (.cells #[.slice A t.length c, .int .i64 0, .int .i64 0] 43 (0, 0))) : IsP W W1 g t 0 0 := by
  obtain ⟨_, hc, hC⟩ := Kd.R_reads' ho
  exact ⟨A, c, hb, Nat.le_of_eq hg.symm, hc, hC⟩
set_option maxHeartbeats 8000000 in
set_option maxRecDepth 100000 in
theorem parse_Parse.calls (k : Nat) (a0 : ByteArray) (r1 r2 : Int) (r3 r4 r5 : ByteArray) (r6 r7 : Bool) (r8 : List S27) (r9 r10 : Int) (w : World) (h : parse_Parse.f k a0 = some (r1, r2, r3, r4, r5, r6, r7, r8, r9, r10)) :
    Calls Try.prog 6 #[.string a0] w fun e w' => ∃ v7_ : Value, e = .returned (.tuple #[.agg #[.int .i64 r1, .int .i64 r2, .string r3, .string r4, .string r5, .bool r6, .bool r7, v7_], .int .i64 r9, .int .i64 r10]) ∧ Kd.V k27 27 w' w.heap.size (fun k_ => w.heap.size ≤ k_) v7_ r8 ∧ Below w.heap.size w w' := by
  have HB := A_ (Below.refl w.heap.size w)
  obtain ⟨⟨L1, L2, L3⟩, hL, h2⟩ := Option.bind_eq_some_iff.mp h
  clear h
  have HL := A_ hL
  clear hL
  by_cases c : L3 = 0
  · replace h2 := (if_pos c).symm.trans h2
    have k3 : (L3 != 0) = false := bne_eq_false_iff_eq.mpr c
    clear c
    obtain ⟨⟨n1, x1, t1, m1, d1⟩, hE, h3⟩ := Option.bind_eq_some_iff.mp h2
    clear h2
    have HE := A_ hE
    clear hE
    cases x1 with
    | some y =>
      simp only [Option.some.injEq, Prod.mk.injEq] at h3
      obtain ⟨rfl, rfl, rfl, rfl, rfl, rfl, rfl, rfl, rfl, rfl⟩ := h3
      go_enter Try.func6, Try.ntmps6
      go_wp2_with (first | ((with_reducible refine gD 2 ?_); refine bxe_ 2 z8_ 27 ?_; intro gb hgb w2 hbox hb; have BK := A_ hbox; have GE := A_ (show w.heap.size ≤ gb from by rw [hgb]; exact HB.out.size); replace HB := A_ (below_step HB.out hb); clear hb hbox hgb) | ((with_reducible refine gC 10 ?_); refine gL 13 Try.func10 #[.string a0] ?_; (with_reducible refine (lex_All.calls k a0 L1 L2 L3 _ HL.out).mono ?_); rintro e1 w1 ⟨v0, rfl, ho, hb⟩; refine ⟨_, rfl, ?_⟩; obtain ⟨A0, c0, rfl⟩ := Kd.R_slice ho; have HO := A_ ho; replace HB := A_ (below_step HB.out hb); replace BK := A_ (blk_below BK.out hb); have ZK := bz8_ BK; clear ho hb) | ((with_reducible refine gD 24 ?_); refine bxe_ 24 #[.slice A0 L1.length c0, .int .i64 0, .int .i64 0] 43 ?_; intro gp hgp w4 hbox hb; have HI := A_ (IsP.make HO.out hgp hbox); have HB0 := A_ hb; have NBP := A_ (show gb ≠ gp from by rw [hgp]; exact Nat.ne_of_lt (blk_lt BK.out)); have GP := A_ (show w.heap.size ≤ gp from by rw [hgp]; exact HB.out.size); replace BK := A_ (blk_below BK.out hb); have HW := HB; clear hb hbox hgp HO ZK) | ((with_reducible refine gC 13 ?_); refine gL 27 Try.func13 #[.pointer (some ⟨gp, 0, none⟩)] ?_; (with_reducible refine (parser_expr.calls k gp L1 0 0 _ _ _ HI.out HB0.out HE.out).mono ?_); rintro e1 w1 ⟨v1, u1, rfl, hV, hx, hP⟩; obtain ⟨qx, rfl, hqx, hX⟩ := hx; have NQB := A_ (show gb ≠ qx from Nat.ne_of_lt (Nat.lt_of_lt_of_le (blk_lt BK.out) hqx)); have BX := A_ hX; clear hX hqx; refine ⟨_, rfl, ?_⟩; obtain ⟨A1, c1, rfl⟩ : ∃ A1 c1, v1 = .slice A1 n1.f4.length c1 := Kd.V_slice hV; have HV := A_ (Kd.V_mono (ok' := fun q => w.heap.size ≤ q ∧ q ≠ gb) hV (fun q hq => ⟨Nat.le_trans (Nat.le_trans HB.out.size HB0.out.size) hq, Ne.symm (Nat.ne_of_lt (Nat.lt_of_lt_of_le (blk_lt BK.out) hq))⟩)); replace BK := A_ (hP.hK.blk BK.out NBP.out (by simp)); replace HB := A_ (below_step HW.out hP.hB); replace HI := A_ hP.hI; replace HB0 := A_ hP.hB; clear hV hP HW) | ((with_reducible refine gD 9 ?_); refine bxe_ 9 z8_ 27 ?_; intro ga hga w5 hbox hb; have BA := A_ hbox; have NBA := A_ (show gb ≠ ga from by rw [hga]; exact Nat.ne_of_lt (blk_lt BK.out)); have nba := NBA.out; have nab := Ne.symm nba; have NPA := A_ (show gp ≠ ga from by rw [hga]; exact Nat.ne_of_lt HI.out.lt); have GA := A_ (show w.heap.size ≤ ga from by rw [hga]; exact HB.out.size); have GA0 := A_ (show _ ≤ ga from by rw [hga]; exact HB0.out.size); replace HV := A_ (Kd.V_below (Kd.V_elderB HV.out ga (Nat.le_of_eq hga.symm)) hb); have NQA := A_ (show qx ≠ ga from by rw [hga]; exact Nat.ne_of_lt (blk_lt BX.out)); replace BX := A_ (blk_below BX.out hb); have hx0 := (blk_cell BX.out 0).trans rfl; have hx1 := (blk_cell BX.out 1).trans rfl; have nqa := NQA.out; replace HI := A_ (HI.out.below hb); replace HB0 := A_ (below_step HB0.out hb); replace HB := A_ (below_step HB.out hb); replace BK := A_ (blk_below BK.out hb); have Z := bz8_ BA; have ZK := bz8_ BK; clear hb hbox hga))
      have nqb := NQB.out
      have nbq := Ne.symm nqb
      go_region_held3 (fun w' => w'.cell? ⟨qx, 0, none⟩ = some (.int .i64 y.1) ∧ w'.cell? ⟨qx, 1, none⟩ = some (.int .i64 y.2)) (first | (with_reducible exact ⟨(blk_cell (far8_ BX.out NQA.out (.int .i64 n1.f0) (.int .i64 n1.f1.f0) (.string n1.f1.f1) (.string n1.f1.f2) (.string n1.f1.f3) (.bool n1.f2) (.bool n1.f3) (.slice A1 n1.f4.length c1)) 0).trans rfl, (blk_cell (far8_ BX.out NQA.out (.int .i64 n1.f0) (.int .i64 n1.f1.f0) (.string n1.f1.f1) (.string n1.f1.f2) (.string n1.f1.f3) (.bool n1.f2) (.bool n1.f3) (.slice A1 n1.f4.length c1)) 1).trans rfl⟩) | (with_reducible exact ⟨(blk_cell (blk_drew (far8_ BX.out NQA.out (.int .i64 n1.f0) (.int .i64 n1.f1.f0) (.string n1.f1.f1) (.string n1.f1.f2) (.string n1.f1.f3) (.bool n1.f2) (.bool n1.f3) (.slice A1 n1.f4.length c1))) 0).trans rfl, (blk_cell (blk_drew (far8_ BX.out NQA.out (.int .i64 n1.f0) (.int .i64 n1.f1.f0) (.string n1.f1.f1) (.string n1.f1.f2) (.string n1.f1.f3) (.bool n1.f2) (.bool n1.f3) (.slice A1 n1.f4.length c1))) 1).trans rfl⟩) | (with_reducible exact ⟨(blk_cell (blk_drew (far8_ (far8_ BX.out NQA.out (.int .i64 n1.f0) (.int .i64 n1.f1.f0) (.string n1.f1.f1) (.string n1.f1.f2) (.string n1.f1.f3) (.bool n1.f2) (.bool n1.f3) (.slice A1 n1.f4.length c1)) (Ne.symm NQB.out) (.int .i64 0) (.int .i64 0) (.string ⟨#[]⟩) (.string ⟨#[]⟩) (.string ⟨#[]⟩) (.bool false) (.bool false) (.slice none 0 0))) 0).trans rfl, (blk_cell (blk_drew (far8_ (far8_ BX.out NQA.out (.int .i64 n1.f0) (.int .i64 n1.f1.f0) (.string n1.f1.f1) (.string n1.f1.f2) (.string n1.f1.f3) (.bool n1.f2) (.bool n1.f3) (.slice A1 n1.f4.length c1)) (Ne.symm NQB.out) (.int .i64 0) (.int .i64 0) (.string ⟨#[]⟩) (.string ⟨#[]⟩) (.string ⟨#[]⟩) (.bool false) (.bool false) (.slice none 0 0))) 1).trans rfl⟩)) (fail)
      go_wp2
      refine bodyPost_ret (results_ctt rfl _ _ gb 27 z8_ (0, 0) _ rfl (blk_drew (put8_ (far8_ BK.out NBA.out (.int .i64 n1.f0) (.int .i64 n1.f1.f0) (.string n1.f1.f1) (.string n1.f1.f2) (.string n1.f1.f3) (.bool n1.f2) (.bool n1.f3) (.slice A1 n1.f4.length c1)) (.int .i64 0) (.int .i64 0) (.string ⟨#[]⟩) (.string ⟨#[]⟩) (.string ⟨#[]⟩) (.bool false) (.bool false) (.slice none 0 0))) Try.underlying27 rfl (by kernel_rfl)) rfl ?_
      have p1 := below_drew (below8 (below8 HB.out GA.out (.int .i64 n1.f0) (.int .i64 n1.f1.f0) (.string n1.f1.f1) (.string n1.f1.f2) (.string n1.f1.f3) (.bool n1.f2) (.bool n1.f3) (.slice A1 n1.f4.length c1)) GE.out (.int .i64 0) (.int .i64 0) (.string ⟨#[]⟩) (.string ⟨#[]⟩) (.string ⟨#[]⟩) (.bool false) (.bool false) (.slice none 0 0))
      exact ⟨_, rfl, Kd.V_nil _ _ _ _ _, p1⟩
    | none =>
      cases t1 with
      | nil => cases h3
      | cons y u =>
      by_cases cy : y.f0 = 9
      · replace h3 := (if_pos cy).symm.trans h3
        have k9 : (y.f0 != 9) = false := bne_eq_false_iff_eq.mpr cy
        clear cy
        simp only [Option.some.injEq, Prod.mk.injEq] at h3
        obtain ⟨rfl, rfl, rfl, rfl, rfl, rfl, rfl, rfl, rfl, rfl⟩ := h3
        go_enter Try.func6, Try.ntmps6
        go_wp2_with (first | ((with_reducible refine gD 2 ?_); refine bxe_ 2 z8_ 27 ?_; intro gb hgb w2 hbox hb; have BK := A_ hbox; have GE := A_ (show w.heap.size ≤ gb from by rw [hgb]; exact HB.out.size); replace HB := A_ (below_step HB.out hb); clear hb hbox hgb) | ((with_reducible refine gC 10 ?_); refine gL 13 Try.func10 #[.string a0] ?_; (with_reducible refine (lex_All.calls k a0 L1 L2 L3 _ HL.out).mono ?_); rintro e1 w1 ⟨v0, rfl, ho, hb⟩; refine ⟨_, rfl, ?_⟩; obtain ⟨A0, c0, rfl⟩ := Kd.R_slice ho; have HO := A_ ho; replace HB := A_ (below_step HB.out hb); replace BK := A_ (blk_below BK.out hb); have ZK := bz8_ BK; clear ho hb) | ((with_reducible refine gD 24 ?_); refine bxe_ 24 #[.slice A0 L1.length c0, .int .i64 0, .int .i64 0] 43 ?_; intro gp hgp w4 hbox hb; have HI := A_ (IsP.make HO.out hgp hbox); have HB0 := A_ hb; have NBP := A_ (show gb ≠ gp from by rw [hgp]; exact Nat.ne_of_lt (blk_lt BK.out)); have GP := A_ (show w.heap.size ≤ gp from by rw [hgp]; exact HB.out.size); replace BK := A_ (blk_below BK.out hb); have HW := HB; clear hb hbox hgp HO ZK) | ((with_reducible refine gC 13 ?_); refine gL 27 Try.func13 #[.pointer (some ⟨gp, 0, none⟩)] ?_; (with_reducible refine (parser_expr.calls k gp L1 0 0 _ _ _ HI.out HB0.out HE.out).mono ?_); rintro e1 w1 ⟨v1, u1, rfl, hV, hx, hP⟩; obtain rfl : u1 = .pointer none := hx; refine ⟨_, rfl, ?_⟩; obtain ⟨A1, c1, rfl⟩ : ∃ A1 c1, v1 = .slice A1 n1.f4.length c1 := Kd.V_slice hV; have HV := A_ (Kd.V_mono (ok' := fun q => w.heap.size ≤ q ∧ q ≠ gb) hV (fun q hq => ⟨Nat.le_trans (Nat.le_trans HB.out.size HB0.out.size) hq, Ne.symm (Nat.ne_of_lt (Nat.lt_of_lt_of_le (blk_lt BK.out) hq))⟩)); replace BK := A_ (hP.hK.blk BK.out NBP.out (by simp)); replace HB := A_ (below_step HW.out hP.hB); replace HI := A_ hP.hI; replace HB0 := A_ hP.hB; clear hV hP HW) | ((with_reducible refine gD 9 ?_); refine bxe_ 9 z8_ 27 ?_; intro ga hga w5 hbox hb; have BA := A_ hbox; have NBA := A_ (show gb ≠ ga from by rw [hga]; exact Nat.ne_of_lt (blk_lt BK.out)); have nba := NBA.out; have nab := Ne.symm nba; have NPA := A_ (show gp ≠ ga from by rw [hga]; exact Nat.ne_of_lt HI.out.lt); have GA := A_ (show w.heap.size ≤ ga from by rw [hga]; exact HB.out.size); have GA0 := A_ (show _ ≤ ga from by rw [hga]; exact HB0.out.size); replace HV := A_ (Kd.V_below (Kd.V_elderB HV.out ga (Nat.le_of_eq hga.symm)) hb); replace HI := A_ (HI.out.below hb); replace HB0 := A_ (below_step HB0.out hb); replace HB := A_ (below_step HB.out hb); replace BK := A_ (blk_below BK.out hb); have Z := bz8_ BA; have ZK := bz8_ BK; clear hb hbox hga) | (go_at_call 14; clear Z ZK; replace HI := A_ (HI.out.far8 NPA.out (.int .i64 n1.f0) (.int .i64 n1.f1.f0) (.string n1.f1.f1) (.string n1.f1.f2) (.string n1.f1.f3) (.bool n1.f2) (.bool n1.f3) (.slice A1 n1.f4.length c1)); replace HB0 := A_ (below8 HB0.out GA0.out (.int .i64 n1.f0) (.int .i64 n1.f1.f0) (.string n1.f1.f1) (.string n1.f1.f2) (.string n1.f1.f3) (.bool n1.f2) (.bool n1.f3) (.slice A1 n1.f4.length c1)); replace HB := A_ (below8 HB.out GA.out (.int .i64 n1.f0) (.int .i64 n1.f1.f0) (.string n1.f1.f1) (.string n1.f1.f2) (.string n1.f1.f3) (.bool n1.f2) (.bool n1.f3) (.slice A1 n1.f4.length c1)); replace BK := A_ (far8_ BK.out NBA.out (.int .i64 n1.f0) (.int .i64 n1.f1.f0) (.string n1.f1.f1) (.string n1.f1.f2) (.string n1.f1.f3) (.bool n1.f2) (.bool n1.f3) (.slice A1 n1.f4.length c1)); replace BA := A_ (put8_ BA.out (.int .i64 n1.f0) (.int .i64 n1.f1.f0) (.string n1.f1.f1) (.string n1.f1.f2) (.string n1.f1.f3) (.bool n1.f2) (.bool n1.f3) (.slice A1 n1.f4.length c1)); replace HV := A_ (V_all8 HV.out (fun q hq => hq.2) (.int .i64 n1.f0) (.int .i64 n1.f1.f0) (.string n1.f1.f1) (.string n1.f1.f2) (.string n1.f1.f3) (.bool n1.f2) (.bool n1.f3) (.slice A1 n1.f4.length c1)); (with_reducible refine (parser_next.calls gp y u m1 d1 _ _ HI.out HB0.out).mono ?_); rintro e1 w1 ⟨rfl, hb⟩; replace HI := A_ (HI.out.below hb); replace HB0 := A_ (below_step HB0.out hb); replace HB := A_ (below_step HB.out hb); replace BK := A_ (blk_below BK.out hb); replace BA := A_ (blk_below BA.out hb); replace HV := A_ (Kd.V_below HV.out hb); have Z := bz8_ BA; have ZK := bz8_ BK; clear hb))
        refine bodyPost_ret (results_ctt rfl _ _ gb 27 #[.int .i64 n1.f0, .int .i64 n1.f1.f0, .string n1.f1.f1, .string n1.f1.f2, .string n1.f1.f3, .bool n1.f2, .bool n1.f3, .slice A1 n1.f4.length c1] (0, 0) _ rfl (put8_ BK.out ..) Try.underlying27 rfl (by kernel_rfl)) rfl ?_
        have p1 := V_all8 HV.out (fun q hq => hq.1.2) (.int .i64 n1.f0) (.int .i64 n1.f1.f0) (.string n1.f1.f1) (.string n1.f1.f2) (.string n1.f1.f3) (.bool n1.f2) (.bool n1.f3) (.slice A1 n1.f4.length c1)
        have p2 := below8 HB.out GE.out (.int .i64 n1.f0) (.int .i64 n1.f1.f0) (.string n1.f1.f1) (.string n1.f1.f2) (.string n1.f1.f3) (.bool n1.f2) (.bool n1.f3) (.slice A1 n1.f4.length c1)
        exact ⟨_, rfl, V_base (Kd.V_mono p1 (fun q hq => hq.1.1)), p2⟩
      · replace h3 := (if_neg cy).symm.trans h3
        have k9 : (y.f0 != 9) = true := bne_iff_ne.mpr cy
        have hE : eNot y 3 = 3 := if_neg cy
        have HE3 := A_ hE
        clear cy hE
        simp only [Option.some.injEq, Prod.mk.injEq] at h3
        obtain ⟨rfl, rfl, rfl, rfl, rfl, rfl, rfl, rfl, rfl, rfl⟩ := h3
        go_enter Try.func6, Try.ntmps6
        go_wp2_with (first | ((with_reducible refine gD 2 ?_); refine bxe_ 2 z8_ 27 ?_; intro gb hgb w2 hbox hb; have BK := A_ hbox; have GE := A_ (show w.heap.size ≤ gb from by rw [hgb]; exact HB.out.size); replace HB := A_ (below_step HB.out hb); clear hb hbox hgb) | ((with_reducible refine gC 10 ?_); refine gL 13 Try.func10 #[.string a0] ?_; (with_reducible refine (lex_All.calls k a0 L1 L2 L3 _ HL.out).mono ?_); rintro e1 w1 ⟨v0, rfl, ho, hb⟩; refine ⟨_, rfl, ?_⟩; obtain ⟨A0, c0, rfl⟩ := Kd.R_slice ho; have HO := A_ ho; replace HB := A_ (below_step HB.out hb); replace BK := A_ (blk_below BK.out hb); have ZK := bz8_ BK; clear ho hb) | ((with_reducible refine gD 24 ?_); refine bxe_ 24 #[.slice A0 L1.length c0, .int .i64 0, .int .i64 0] 43 ?_; intro gp hgp w4 hbox hb; have HI := A_ (IsP.make HO.out hgp hbox); have HB0 := A_ hb; have NBP := A_ (show gb ≠ gp from by rw [hgp]; exact Nat.ne_of_lt (blk_lt BK.out)); have GP := A_ (show w.heap.size ≤ gp from by rw [hgp]; exact HB.out.size); replace BK := A_ (blk_below BK.out hb); have HW := HB; clear hb hbox hgp HO ZK) | ((with_reducible refine gC 13 ?_); refine gL 27 Try.func13 #[.pointer (some ⟨gp, 0, none⟩)] ?_; (with_reducible refine (parser_expr.calls k gp L1 0 0 _ _ _ HI.out HB0.out HE.out).mono ?_); rintro e1 w1 ⟨v1, u1, rfl, hV, hx, hP⟩; obtain rfl : u1 = .pointer none := hx; refine ⟨_, rfl, ?_⟩; obtain ⟨A1, c1, rfl⟩ : ∃ A1 c1, v1 = .slice A1 n1.f4.length c1 := Kd.V_slice hV; have HV := A_ (Kd.V_mono (ok' := fun q => w.heap.size ≤ q ∧ q ≠ gb) hV (fun q hq => ⟨Nat.le_trans (Nat.le_trans HB.out.size HB0.out.size) hq, Ne.symm (Nat.ne_of_lt (Nat.lt_of_lt_of_le (blk_lt BK.out) hq))⟩)); replace BK := A_ (hP.hK.blk BK.out NBP.out (by simp)); replace HB := A_ (below_step HW.out hP.hB); replace HI := A_ hP.hI; replace HB0 := A_ hP.hB; clear hV hP HW) | ((with_reducible refine gD 9 ?_); refine bxe_ 9 z8_ 27 ?_; intro ga hga w5 hbox hb; have BA := A_ hbox; have NBA := A_ (show gb ≠ ga from by rw [hga]; exact Nat.ne_of_lt (blk_lt BK.out)); have nba := NBA.out; have nab := Ne.symm nba; have NPA := A_ (show gp ≠ ga from by rw [hga]; exact Nat.ne_of_lt HI.out.lt); have GA := A_ (show w.heap.size ≤ ga from by rw [hga]; exact HB.out.size); have GA0 := A_ (show _ ≤ ga from by rw [hga]; exact HB0.out.size); replace HV := A_ (Kd.V_below (Kd.V_elderB HV.out ga (Nat.le_of_eq hga.symm)) hb); replace HI := A_ (HI.out.below hb); replace HB0 := A_ (below_step HB0.out hb); replace HB := A_ (below_step HB.out hb); replace BK := A_ (blk_below BK.out hb); have Z := bz8_ BA; have ZK := bz8_ BK; clear hb hbox hga) | (go_at_call 14; clear Z ZK; replace HI := A_ (HI.out.far8 NPA.out (.int .i64 n1.f0) (.int .i64 n1.f1.f0) (.string n1.f1.f1) (.string n1.f1.f2) (.string n1.f1.f3) (.bool n1.f2) (.bool n1.f3) (.slice A1 n1.f4.length c1)); replace HB0 := A_ (below8 HB0.out GA0.out (.int .i64 n1.f0) (.int .i64 n1.f1.f0) (.string n1.f1.f1) (.string n1.f1.f2) (.string n1.f1.f3) (.bool n1.f2) (.bool n1.f3) (.slice A1 n1.f4.length c1)); replace HB := A_ (below8 HB.out GA.out (.int .i64 n1.f0) (.int .i64 n1.f1.f0) (.string n1.f1.f1) (.string n1.f1.f2) (.string n1.f1.f3) (.bool n1.f2) (.bool n1.f3) (.slice A1 n1.f4.length c1)); replace BK := A_ (far8_ BK.out NBA.out (.int .i64 n1.f0) (.int .i64 n1.f1.f0) (.string n1.f1.f1) (.string n1.f1.f2) (.string n1.f1.f3) (.bool n1.f2) (.bool n1.f3) (.slice A1 n1.f4.length c1)); replace BA := A_ (put8_ BA.out (.int .i64 n1.f0) (.int .i64 n1.f1.f0) (.string n1.f1.f1) (.string n1.f1.f2) (.string n1.f1.f3) (.bool n1.f2) (.bool n1.f3) (.slice A1 n1.f4.length c1)); replace HV := A_ (V_all8 HV.out (fun q hq => hq.2) (.int .i64 n1.f0) (.int .i64 n1.f1.f0) (.string n1.f1.f1) (.string n1.f1.f2) (.string n1.f1.f3) (.bool n1.f2) (.bool n1.f3) (.slice A1 n1.f4.length c1)); (with_reducible refine (parser_next.calls gp y u m1 d1 _ _ HI.out HB0.out).mono ?_); rintro e1 w1 ⟨rfl, hb⟩; replace HI := A_ (HI.out.below hb); replace HB0 := A_ (below_step HB0.out hb); replace HB := A_ (below_step HB.out hb); replace BK := A_ (blk_below BK.out hb); replace BA := A_ (blk_below BA.out hb); replace HV := A_ (Kd.V_below HV.out hb); have Z := bz8_ BA; have ZK := bz8_ BK; clear hb) | ((with_reducible refine gD 39 ?_); refine gL 39 Try.func15 #[.pointer (some ⟨gp, 0, none⟩), .int .i64 3] ?_; (with_reducible refine (parser_not.calls gp y u m1 d1 3 _ _ HI.out HB0.out).mono ?_); rintro e1 w1 ⟨u2, rfl, hx, hb⟩; rw [HE3.out] at hx; obtain ⟨qx, rfl, hqx, hX⟩ := hx; refine ⟨_, rfl, ?_⟩; have NQB := A_ (show gb ≠ qx from Nat.ne_of_lt (Nat.lt_of_lt_of_le (blk_lt BK.out) hqx)); have BX := A_ hX; have hx0 := (blk_cell BX.out 0).trans rfl; have hx1 := (blk_cell BX.out 1).trans rfl; replace HB := A_ (below_step HB.out hb); replace BK := A_ (blk_below BK.out hb); clear Z ZK; have ZK := bz8_ BK; have nqb := NQB.out; have nbq := Ne.symm nqb; clear hqx hX hb))
        go_region_held3 (fun w' => w'.cell? ⟨qx, 0, none⟩ = some (.int .i64 y.f1) ∧ w'.cell? ⟨qx, 1, none⟩ = some (.int .i64 3)) (first | (with_reducible exact ⟨(blk_cell BX.out 0).trans rfl, (blk_cell BX.out 1).trans rfl⟩) | (with_reducible exact ⟨(blk_cell (blk_drew BX.out) 0).trans rfl, (blk_cell (blk_drew BX.out) 1).trans rfl⟩) | (with_reducible exact ⟨(blk_cell (blk_drew (far8_ BX.out (Ne.symm NQB.out) (.int .i64 0) (.int .i64 0) (.string ⟨#[]⟩) (.string ⟨#[]⟩) (.string ⟨#[]⟩) (.bool false) (.bool false) (.slice none 0 0))) 0).trans rfl, (blk_cell (blk_drew (far8_ BX.out (Ne.symm NQB.out) (.int .i64 0) (.int .i64 0) (.string ⟨#[]⟩) (.string ⟨#[]⟩) (.string ⟨#[]⟩) (.bool false) (.bool false) (.slice none 0 0))) 1).trans rfl⟩)) (fail)
        go_wp2
        refine bodyPost_ret (results_ctt rfl _ _ gb 27 z8_ (0, 0) _ rfl (blk_drew (put8_ BK.out (.int .i64 0) (.int .i64 0) (.string ⟨#[]⟩) (.string ⟨#[]⟩) (.string ⟨#[]⟩) (.bool false) (.bool false) (.slice none 0 0))) Try.underlying27 rfl (by kernel_rfl)) rfl ?_
        have p1 := below_drew (below8 HB.out GE.out (.int .i64 0) (.int .i64 0) (.string ⟨#[]⟩) (.string ⟨#[]⟩) (.string ⟨#[]⟩) (.bool false) (.bool false) (.slice none 0 0))
        exact ⟨_, rfl, Kd.V_nil _ _ _ _ _, p1⟩
  · replace h2 := (if_neg c).symm.trans h2
    have k3 : (L3 != 0) = true := bne_iff_ne.mpr c
    clear c
    simp only [Option.some.injEq, Prod.mk.injEq] at h2
    obtain ⟨rfl, rfl, rfl, rfl, rfl, rfl, rfl, rfl, rfl, rfl⟩ := h2
    go_enter Try.func6, Try.ntmps6
    go_wp2_with (first | ((with_reducible refine gD 2 ?_); refine bxe_ 2 z8_ 27 ?_; intro gb hgb w2 hbox hb; have BK := A_ hbox; have GE := A_ (show w.heap.size ≤ gb from by rw [hgb]; exact HB.out.size); replace HB := A_ (below_step HB.out hb); clear hb hbox hgb) | ((with_reducible refine gC 10 ?_); refine gL 13 Try.func10 #[.string a0] ?_; (with_reducible refine (lex_All.calls k a0 L1 L2 L3 _ HL.out).mono ?_); rintro e1 w1 ⟨v0, rfl, ho, hb⟩; refine ⟨_, rfl, ?_⟩; obtain ⟨A0, c0, rfl⟩ := Kd.R_slice ho; have HO := A_ ho; replace HB := A_ (below_step HB.out hb); replace BK := A_ (blk_below BK.out hb); have ZK := bz8_ BK; clear ho hb))
    refine bodyPost_ret (results_ctt rfl _ _ gb 27 z8_ (0, 0) _ rfl (put8_ BK.out ..) Try.underlying27 rfl (by kernel_rfl)) rfl ?_
    exact ⟨_, rfl, Kd.V_nil _ _ _ _ _, below8 HB.out GE.out ..⟩
end Go.Proofs.Ytjgjhekpiijniaa.A
namespace Go.Proofs.Ytjgjhekpiijniaa.A
open Go.RowKit Go.Proofs.YtjgjhekpiijniaaW.PrintWords Go.Proofs.YtjgjhekpiijniaaW.PrintLast Go.Proofs.YtjgjhekpiijniaaW.PrintMore
attribute [local go_sem] max2_int min2_int max_two min_two max_three min_three max_four min_four
attribute [local go_sem] isSome_setCell
set_option maxHeartbeats 8000000 in
set_option maxRecDepth 100000 in
theorem lex_Show.calls (k : Nat) (A0 : Option Addr) (c0 : Nat) (l0 : List (S48)) (r : ByteArray) (w : World) (hr0 : Kd.C k48 w A0 l0.length l0) (hc0 : l0.length ≤ c0) (h : lex_Show.f k l0 = some r) :
  Calls Try.prog 11 #[.slice A0 l0.length c0] w fun e w' => e = .returned (.string r) ∧ Below w.heap.size w w' := by
 have hu48 := Try.underlying48; have HR0 := A_ hr0; have HC0 := A_ hc0; clear hr0 hc0; have HB := A_ (Below.refl w.heap.size w); have H : (lex_Show.l0 k l0 ([] : List Int) l0 (l0.length : Int) 0) = some r := h; clear h; have H' := A_ H; clear H; go_enter Try.func11, Try.ntmps11; go_wp2; go_loopg [3, 8] k (fun kq v3 v8 w' => ∃ (x3_1 : List Int) (x8_1 : Int), v8 = .int .i64 x8_1 ∧ Aside0 (lex_Show.l0 kq l0 x3_1 l0 (l0.length : Int) x8_1 = some r) ∧ Aside0 (kq ≤ k) ∧ Aside0 (Kd.R (Kd.int .u8) 5 w' w.heap.size (fun _ => True) v3 x3_1) ∧ Aside0 (Below w.heap.size w w'))
 case atStart => exact ⟨(([] : List Int)), (0), rf_, H', ⟨Nat.le_refl _⟩, ⟨by first | exact Kd.R_nil _ _ _ _ _ | exact Kd.N_nil _ _ _ _ _ | exact Kd.V_nil _ _ _ _ _ | exact Kd.Q_nil _ _ _ _ _ | exact Kd.S_nil _ _ _ _ _⟩, ⟨hs_⟩⟩
 case round =>
  clear H'; obtain ⟨x3_1, x8_1, rfl, HA, HK1, HO_3, HB⟩ := hrel
  cases gk with
  | zero => exact absurd HA.out (by simp [lex_Show.l0])
  | succ k1 =>
   have H := HA.out; clear HA; simp only [lex_Show.l0] at H
   by_cases c2 : x8_1 < (l0.length : Int)
   ·rw [if_pos c2] at H
    have c2b0 := decide_eq_true c2; clear c2
    by_cases c3 : 0 ≤ x8_1
    ·rw [if_pos c3] at H
     have c3b0 := decide_eq_true c3; clear c3
     by_cases c4 : x8_1 < (l0.length : Int)
     ·rw [if_pos c4] at H
      have c4b0 := decide_eq_true c4; clear c4
      by_cases c5 : ((rd_T48 l0 x8_1).f0) = 0
      ·rw [if_pos c5] at H
       have c5b0 : (((rd_T48 l0 x8_1).f0) == 0) = true := beq_iff_eq.mpr c5; have c5b1 : (((rd_T48 l0 x8_1).f0) != 0) = false := bne_eq_false_iff_eq.mpr c5; clear c5
       by_cases c6 : x8_1 > 0
       ·rw [if_pos c6] at H
        have c6b0 := decide_eq_true c6; clear c6; obtain ⟨ji7, hji7⟩ : ∃ j_ : Int, (wrap64 (x8_1 - 1)) = j_ := ⟨_, rfl⟩; (replace H : (if 0 ≤ (ji7) then (if (ji7) < (l0.length : Int) then (if ((rd_T48 l0 (ji7)).f0) = 0 then (if x3_1.length < 140737488355328 then ((some (x3_1 ++ [32] : List Int)).bind fun y288 => (if y288.length + ((rd_T48 l0 x8_1).f2).size < 140737488355328 then (lex_Show.l0 k1 l0 (y288 ++ bytesOf ((rd_T48 l0 x8_1).f2)) l0 (l0.length : Int) (wrap64 (x8_1 + 1))) else (none))) else (none)) else (if x3_1.length + ((rd_T48 l0 x8_1).f2).size < 140737488355328 then (lex_Show.l0 k1 l0 (x3_1 ++ bytesOf ((rd_T48 l0 x8_1).f2)) l0 (l0.length : Int) (wrap64 (x8_1 + 1))) else (none))) else (none)) else (none)) = some r := by first | (rw [hji7] at H; exact H) | (simp only [hji7] at H ⊢; exact H)); have hji7w : (IntKind.i64.wrap (x8_1 - 1)) = ji7 := (i64_w _).trans hji7
        by_cases c8 : 0 ≤ (ji7)
        ·rw [if_pos c8] at H
         have c8b0 := decide_eq_true c8; clear c8
         by_cases c9 : (ji7) < (l0.length : Int)
         ·rw [if_pos c9] at H
          have c9b0 := decide_eq_true c9; clear c9
          by_cases c10 : ((rd_T48 l0 (ji7)).f0) = 0
          ·rw [if_pos c10] at H
           have c10b0 : (((rd_T48 l0 (ji7)).f0) == 0) = true := beq_iff_eq.mpr c10; have c10b1 : (((rd_T48 l0 (ji7)).f0) != 0) = false := bne_eq_false_iff_eq.mpr c10; clear c10
           by_cases c11 : x3_1.length < 140737488355328
           ·rw [if_pos c11] at H
            have LMc11 := A_ c11; clear c11; obtain ⟨y288, hy288⟩ : ∃ y_ : List Int, y_ = (x3_1 ++ [32]) := ⟨_, rfl⟩; (replace H : (if y288.length + ((rd_T48 l0 x8_1).f2).size < 140737488355328 then (lex_Show.l0 k1 l0 (y288 ++ bytesOf ((rd_T48 l0 x8_1).f2)) l0 (l0.length : Int) (wrap64 (x8_1 + 1))) else (none)) = some r := hy_ hy288 H); have Ny288 := A_ hy288; clear hy288
            by_cases c12 : y288.length + ((rd_T48 l0 x8_1).f2).size < 140737488355328
            ·rw [if_pos c12] at H
             have LMc12 := A_ c12; clear c12; obtain ⟨y291, hy291⟩ : ∃ y_ : List Int, y_ = (y288 ++ bytesOf ((rd_T48 l0 x8_1).f2)) := ⟨_, rfl⟩; (replace H : (lex_Show.l0 k1 l0 y291 l0 (l0.length : Int) (wrap64 (x8_1 + 1))) = some r := hy_ hy291 H); have Ny291 := A_ hy291; clear hy291; have H' := A_ H; clear H; have p285 : 0 ≤ (x8_1 : Int) := od_; have q285 : x8_1 < (l0.length : Int) := od_; obtain ⟨ad285, e285, hx285_0, hx285_1, hx285_2⟩ := at_T48 HR0.out x8_1 p285 q285
             cases e285
             replace hx285_0 := cl_ HB hx285_0; replace hx285_1 := cl_ HB hx285_1; replace hx285_2 := cl_ HB hx285_2; replace p285 := eq_true p285; replace q285 := eq_true q285; go_wp2_with (first | (refine gD 5 ?_; refine bxe_ 5 #[.int .i64 0, .int .i64 0, .string ⟨#[]⟩] 48 ?_; intro gb286 hg w13 hbox hb; replace HO_3 := A_ (Kd.R_below (hrR_ HO_3.out) hb); have BK286 := A_ (hbox); have GW286 := gs_ w hg; have GE286 := gs_ w hg; replace HB := bs_ hb; clear hb hbox hg; have Z14 := bz3_ BK286; have p287 : 0 ≤ ((ji7) : Int) := od_; have q287 : (ji7) < (l0.length : Int) := od_; obtain ⟨ad287, e287, hx287_0, hx287_1, hx287_2⟩ := at_T48 HR0.out (ji7) p287 q287; obtain rfl : ad285 = ad287 := (by injection e287); have hn287_0 : ad285.block ≠ gb286 := Nat.ne_of_lt (Nat.lt_of_lt_of_le (by have := World.block_lt_of_cell? _ _ hx287_0; first | rwa [add_block] at this | exact this) GW286.out); have hn287_1 : ad285.block ≠ gb286 := Nat.ne_of_lt (Nat.lt_of_lt_of_le (by have := World.block_lt_of_cell? _ _ hx287_0; first | rwa [add_block] at this | exact this) GW286.out); have hn287_2 : ad285.block ≠ gb286 := Nat.ne_of_lt (Nat.lt_of_lt_of_le (by have := World.block_lt_of_cell? _ _ hx287_0; first | rwa [add_block] at this | exact this) GW286.out); replace hx287_0 := cl_ HB hx287_0; replace hx287_1 := cl_ HB hx287_1; replace hx287_2 := cl_ HB hx287_2; replace hx287_0 := (cell_far (p := ⟨gb286, 0, none⟩) (ne_ hn287_0) (.int .i64 ((rd_T48 l0 x8_1).f0))).trans hx287_0; replace hx287_1 := (cell_far (p := ⟨gb286, 0, none⟩) (ne_ hn287_0) (.int .i64 ((rd_T48 l0 x8_1).f0))).trans hx287_1; replace hx287_2 := (cell_far (p := ⟨gb286, 0, none⟩) (ne_ hn287_0) (.int .i64 ((rd_T48 l0 x8_1).f0))).trans hx287_2; replace hx287_0 := (cell_far (p := ⟨gb286, 1, none⟩) (ne_ hn287_1) (.int .i64 ((rd_T48 l0 x8_1).f1))).trans hx287_0; replace hx287_1 := (cell_far (p := ⟨gb286, 1, none⟩) (ne_ hn287_1) (.int .i64 ((rd_T48 l0 x8_1).f1))).trans hx287_1; replace hx287_2 := (cell_far (p := ⟨gb286, 1, none⟩) (ne_ hn287_1) (.int .i64 ((rd_T48 l0 x8_1).f1))).trans hx287_2; replace hx287_0 := (cell_far (p := ⟨gb286, 2, none⟩) (ne_ hn287_2) (.string ((rd_T48 l0 x8_1).f2))).trans hx287_0; replace hx287_1 := (cell_far (p := ⟨gb286, 2, none⟩) (ne_ hn287_2) (.string ((rd_T48 l0 x8_1).f2))).trans hx287_1; replace hx287_2 := (cell_far (p := ⟨gb286, 2, none⟩) (ne_ hn287_2) (.string ((rd_T48 l0 x8_1).f2))).trans hx287_2; clear hn287_0; clear hn287_1; clear hn287_2; replace p287 := eq_true p287; replace q287 := eq_true q287) | ((with_reducible refine gate_builtin (b := .append) (xs := #[.tmp 28, .tmp 29]) rfl ?_); at_builtin; refine Kd.R_append (Kd.int .u8) (w0 := w) w.heap.size rfl (.tmp 28) (.tmp 29) 60 5 (.int .u8 0) 1 rfl Try.underlying60 info5 rfl (by decide) (by omega) u3 x3_1 32 [.int .u8 32] (fun _ => True) (fun _ => False) rfl (by first | (go_simp; done) | (go_simp; rfl)) ?aP (fun _ hk => hk.elim) ?aF ?aO ?aB ?aS ?aL ?_; (case aP => exact rfl); (case aB => exact hs_); (case aF => exact (fun _ _ => trivial)); (case aO => exact (by (with_reducible repeat (first | apply Kd.R_alloc | apply Kd.R_drewN | apply Kd.R_drew)); exact Kd.R_mono (Kd.R_far (p := ⟨gb286, 2, none⟩) (Kd.R_far (p := ⟨gb286, 1, none⟩) (Kd.R_far (p := ⟨gb286, 0, none⟩) (Kd.R_types HO_3.out BK286.out (by decide)) (fun _ hk => hk.2) (.int .i64 ((rd_T48 l0 x8_1).f0))) (fun _ hk => hk.2) (.int .i64 ((rd_T48 l0 x8_1).f1))) (fun _ hk => hk.2) (.string ((rd_T48 l0 x8_1).f2))) (fun _ hk => trivial))); (case aS => exact (below_size hs_)); (case aL => have := LMc11.out; omega); intro v289 w15 ho hb hg hat; rw [← Ny288.out] at ho; replace BK286 := A_ (blk_grown (g := gb286) (o := .cells #[.int .i64 ((rd_T48 l0 x8_1).f0), .int .i64 ((rd_T48 l0 x8_1).f1), .string ((rd_T48 l0 x8_1).f2)] 48 (0, 0)) (pb_ BK286.out) hg (Kd.R_ne HO_3.out BK286.out (by decide))); replace HB := A_ (hb); have HO290 := A_ (ho); clear HO_3; clear ho hb hg hat; have Z16 := bz3_ BK286) | (at_builtin; refine print_append_str (w0 := w) w.heap.size rfl (.tmp 31) _ 60 9 5 rfl Try.underlying60 Try.underlying9 info5 v289 y288 ((rd_T48 l0 x8_1).f2) rfl rfl ?aO ?aB ?aS ?aL ?_; (case aB => exact hs_); (case aO => exact (Kd.own_of_R (hrR_ HO290.out))); (case aS => exact (below_size hs_)); (case aL => have := LMc12.out; omega); intro v292 w17 ho0 hb hg; have ho := Kd.R_of_own (h1 := fun _ => rfl) (ok := fun _ => True) ho0 (fun _ _ => trivial); clear ho0; have hat := True.intro; rw [← Ny291.out] at ho; change Kd.R (Kd.int .u8) 5 w17 w.heap.size (fun _ => True) v292 y291 at ho; replace BK286 := A_ (blk_grown (g := gb286) (o := .cells #[.int .i64 ((rd_T48 l0 x8_1).f0), .int .i64 ((rd_T48 l0 x8_1).f1), .string ((rd_T48 l0 x8_1).f2)] 48 (0, 0)) (bl_ BK286.out) hg (Kd.R_ne HO290.out BK286.out (by decide))); replace HB := A_ (hb); have HO293 := A_ (ho); clear HO290; clear ho hb hg hat))
             go_roundg k1
             case measure => have := HK1.out; omega
             case rel => exact ⟨(y291), (wrap64 (x8_1 + 1)), rf_, H', ⟨by have := HK1.out; omega⟩, ⟨fxR_ HO293.out⟩, ⟨hs_⟩⟩
            ·rw [if_neg c12] at H
             exact absurd H (by simp)
           ·rw [if_neg c11] at H
            exact absurd H (by simp)
          ·rw [if_neg c10] at H
           have c10b0 : (((rd_T48 l0 (ji7)).f0) == 0) = false := beq_eq_false_iff_ne.mpr c10; have c10b1 : (((rd_T48 l0 (ji7)).f0) != 0) = true := bne_iff_ne.mpr c10
           by_cases c18 : x3_1.length + ((rd_T48 l0 x8_1).f2).size < 140737488355328
           ·rw [if_pos c18] at H
            have LMc18 := A_ c18; clear c18; obtain ⟨y294, hy294⟩ : ∃ y_ : List Int, y_ = (x3_1 ++ bytesOf ((rd_T48 l0 x8_1).f2)) := ⟨_, rfl⟩; (replace H : (lex_Show.l0 k1 l0 y294 l0 (l0.length : Int) (wrap64 (x8_1 + 1))) = some r := hy_ hy294 H); have Ny294 := A_ hy294; clear hy294; have H' := A_ H; clear H; have p285 : 0 ≤ (x8_1 : Int) := od_; have q285 : x8_1 < (l0.length : Int) := od_; obtain ⟨ad285, e285, hx285_0, hx285_1, hx285_2⟩ := at_T48 HR0.out x8_1 p285 q285
            cases e285
            replace hx285_0 := cl_ HB hx285_0; replace hx285_1 := cl_ HB hx285_1; replace hx285_2 := cl_ HB hx285_2; replace p285 := eq_true p285; replace q285 := eq_true q285; go_wp2_with (first | (refine gD 5 ?_; refine bxe_ 5 #[.int .i64 0, .int .i64 0, .string ⟨#[]⟩] 48 ?_; intro gb286 hg w19 hbox hb; replace HO_3 := A_ (Kd.R_below (hrR_ HO_3.out) hb); have BK286 := A_ (hbox); have GW286 := gs_ w hg; have GE286 := gs_ w hg; replace HB := bs_ hb; clear hb hbox hg; have Z20 := bz3_ BK286; have p287 : 0 ≤ ((ji7) : Int) := od_; have q287 : (ji7) < (l0.length : Int) := od_; obtain ⟨ad287, e287, hx287_0, hx287_1, hx287_2⟩ := at_T48 HR0.out (ji7) p287 q287; obtain rfl : ad285 = ad287 := (by injection e287); have hn287_0 : ad285.block ≠ gb286 := Nat.ne_of_lt (Nat.lt_of_lt_of_le (by have := World.block_lt_of_cell? _ _ hx287_0; first | rwa [add_block] at this | exact this) GW286.out); have hn287_1 : ad285.block ≠ gb286 := Nat.ne_of_lt (Nat.lt_of_lt_of_le (by have := World.block_lt_of_cell? _ _ hx287_0; first | rwa [add_block] at this | exact this) GW286.out); have hn287_2 : ad285.block ≠ gb286 := Nat.ne_of_lt (Nat.lt_of_lt_of_le (by have := World.block_lt_of_cell? _ _ hx287_0; first | rwa [add_block] at this | exact this) GW286.out); replace hx287_0 := cl_ HB hx287_0; replace hx287_1 := cl_ HB hx287_1; replace hx287_2 := cl_ HB hx287_2; replace hx287_0 := (cell_far (p := ⟨gb286, 0, none⟩) (ne_ hn287_0) (.int .i64 ((rd_T48 l0 x8_1).f0))).trans hx287_0; replace hx287_1 := (cell_far (p := ⟨gb286, 0, none⟩) (ne_ hn287_0) (.int .i64 ((rd_T48 l0 x8_1).f0))).trans hx287_1; replace hx287_2 := (cell_far (p := ⟨gb286, 0, none⟩) (ne_ hn287_0) (.int .i64 ((rd_T48 l0 x8_1).f0))).trans hx287_2; replace hx287_0 := (cell_far (p := ⟨gb286, 1, none⟩) (ne_ hn287_1) (.int .i64 ((rd_T48 l0 x8_1).f1))).trans hx287_0; replace hx287_1 := (cell_far (p := ⟨gb286, 1, none⟩) (ne_ hn287_1) (.int .i64 ((rd_T48 l0 x8_1).f1))).trans hx287_1; replace hx287_2 := (cell_far (p := ⟨gb286, 1, none⟩) (ne_ hn287_1) (.int .i64 ((rd_T48 l0 x8_1).f1))).trans hx287_2; replace hx287_0 := (cell_far (p := ⟨gb286, 2, none⟩) (ne_ hn287_2) (.string ((rd_T48 l0 x8_1).f2))).trans hx287_0; replace hx287_1 := (cell_far (p := ⟨gb286, 2, none⟩) (ne_ hn287_2) (.string ((rd_T48 l0 x8_1).f2))).trans hx287_1; replace hx287_2 := (cell_far (p := ⟨gb286, 2, none⟩) (ne_ hn287_2) (.string ((rd_T48 l0 x8_1).f2))).trans hx287_2; clear hn287_0; clear hn287_1; clear hn287_2; replace p287 := eq_true p287; replace q287 := eq_true q287) | (at_builtin; refine print_append_str (w0 := w) w.heap.size rfl (.tmp 31) _ 60 9 5 rfl Try.underlying60 Try.underlying9 info5 u3 x3_1 ((rd_T48 l0 x8_1).f2) rfl rfl ?aO ?aB ?aS ?aL ?_; (case aB => exact hs_); (case aO => exact (Kd.own_of_R (by (with_reducible repeat (first | apply Kd.R_alloc | apply Kd.R_drewN | apply Kd.R_drew)); exact Kd.R_mono (Kd.R_far (p := ⟨gb286, 2, none⟩) (Kd.R_far (p := ⟨gb286, 1, none⟩) (Kd.R_far (p := ⟨gb286, 0, none⟩) (Kd.R_types HO_3.out BK286.out (by decide)) (fun _ hk => hk.2) (.int .i64 ((rd_T48 l0 x8_1).f0))) (fun _ hk => hk.2) (.int .i64 ((rd_T48 l0 x8_1).f1))) (fun _ hk => hk.2) (.string ((rd_T48 l0 x8_1).f2))) (fun _ hk => trivial)))); (case aS => exact (below_size hs_)); (case aL => have := LMc18.out; omega); intro v295 w21 ho0 hb hg; have ho := Kd.R_of_own (h1 := fun _ => rfl) (ok := fun _ => True) ho0 (fun _ _ => trivial); clear ho0; have hat := True.intro; rw [← Ny294.out] at ho; change Kd.R (Kd.int .u8) 5 w21 w.heap.size (fun _ => True) v295 y294 at ho; replace BK286 := A_ (blk_grown (g := gb286) (o := .cells #[.int .i64 ((rd_T48 l0 x8_1).f0), .int .i64 ((rd_T48 l0 x8_1).f1), .string ((rd_T48 l0 x8_1).f2)] 48 (0, 0)) (pb_ BK286.out) hg (Kd.R_ne HO_3.out BK286.out (by decide))); replace HB := A_ (hb); have HO296 := A_ (ho); clear HO_3; clear ho hb hg hat))
            go_roundg k1
            case measure => have := HK1.out; omega
            case rel => exact ⟨(y294), (wrap64 (x8_1 + 1)), rf_, H', ⟨by have := HK1.out; omega⟩, ⟨fxR_ HO296.out⟩, ⟨hs_⟩⟩
           ·rw [if_neg c18] at H
            exact absurd H (by simp)
         ·rw [if_neg c9] at H
          exact absurd H (by simp)
        ·rw [if_neg c8] at H
         exact absurd H (by simp)
       ·rw [if_neg c6] at H
        have c6b0 := decide_eq_false c6; clear c6
        by_cases c22 : x3_1.length + ((rd_T48 l0 x8_1).f2).size < 140737488355328
        ·rw [if_pos c22] at H
         have LMc22 := A_ c22; clear c22; obtain ⟨y297, hy297⟩ : ∃ y_ : List Int, y_ = (x3_1 ++ bytesOf ((rd_T48 l0 x8_1).f2)) := ⟨_, rfl⟩; (replace H : (lex_Show.l0 k1 l0 y297 l0 (l0.length : Int) (wrap64 (x8_1 + 1))) = some r := hy_ hy297 H); have Ny297 := A_ hy297; clear hy297; have H' := A_ H; clear H; have p285 : 0 ≤ (x8_1 : Int) := od_; have q285 : x8_1 < (l0.length : Int) := od_; obtain ⟨ad285, e285, hx285_0, hx285_1, hx285_2⟩ := at_T48 HR0.out x8_1 p285 q285
         cases e285
         replace hx285_0 := cl_ HB hx285_0; replace hx285_1 := cl_ HB hx285_1; replace hx285_2 := cl_ HB hx285_2; replace p285 := eq_true p285; replace q285 := eq_true q285; go_wp2_with (first | (refine gD 5 ?_; refine bxe_ 5 #[.int .i64 0, .int .i64 0, .string ⟨#[]⟩] 48 ?_; intro gb286 hg w23 hbox hb; replace HO_3 := A_ (Kd.R_below (hrR_ HO_3.out) hb); have BK286 := A_ (hbox); have GW286 := gs_ w hg; have GE286 := gs_ w hg; replace HB := bs_ hb; clear hb hbox hg; have Z24 := bz3_ BK286) | (at_builtin; refine print_append_str (w0 := w) w.heap.size rfl (.tmp 31) _ 60 9 5 rfl Try.underlying60 Try.underlying9 info5 u3 x3_1 ((rd_T48 l0 x8_1).f2) rfl rfl ?aO ?aB ?aS ?aL ?_; (case aB => exact hs_); (case aO => exact (Kd.own_of_R (by (with_reducible repeat (first | apply Kd.R_alloc | apply Kd.R_drewN | apply Kd.R_drew)); exact Kd.R_mono (Kd.R_far (p := ⟨gb286, 2, none⟩) (Kd.R_far (p := ⟨gb286, 1, none⟩) (Kd.R_far (p := ⟨gb286, 0, none⟩) (Kd.R_types HO_3.out BK286.out (by decide)) (fun _ hk => hk.2) (.int .i64 ((rd_T48 l0 x8_1).f0))) (fun _ hk => hk.2) (.int .i64 ((rd_T48 l0 x8_1).f1))) (fun _ hk => hk.2) (.string ((rd_T48 l0 x8_1).f2))) (fun _ hk => trivial)))); (case aS => exact (below_size hs_)); (case aL => have := LMc22.out; omega); intro v298 w25 ho0 hb hg; have ho := Kd.R_of_own (h1 := fun _ => rfl) (ok := fun _ => True) ho0 (fun _ _ => trivial); clear ho0; have hat := True.intro; rw [← Ny297.out] at ho; change Kd.R (Kd.int .u8) 5 w25 w.heap.size (fun _ => True) v298 y297 at ho; replace BK286 := A_ (blk_grown (g := gb286) (o := .cells #[.int .i64 ((rd_T48 l0 x8_1).f0), .int .i64 ((rd_T48 l0 x8_1).f1), .string ((rd_T48 l0 x8_1).f2)] 48 (0, 0)) (pb_ BK286.out) hg (Kd.R_ne HO_3.out BK286.out (by decide))); replace HB := A_ (hb); have HO299 := A_ (ho); clear HO_3; clear ho hb hg hat))
         go_roundg k1
         case measure => have := HK1.out; omega
         case rel => exact ⟨(y297), (wrap64 (x8_1 + 1)), rf_, H', ⟨by have := HK1.out; omega⟩, ⟨fxR_ HO299.out⟩, ⟨hs_⟩⟩
        ·rw [if_neg c22] at H
         exact absurd H (by simp)
      ·rw [if_neg c5] at H
       have c5b0 : (((rd_T48 l0 x8_1).f0) == 0) = false := beq_eq_false_iff_ne.mpr c5; have c5b1 : (((rd_T48 l0 x8_1).f0) != 0) = true := bne_iff_ne.mpr c5
       by_cases c26 : ((rd_T48 l0 x8_1).f0) = 2
       ·rw [if_pos c26] at H
        have c26b0 : (((rd_T48 l0 x8_1).f0) == 2) = true := beq_iff_eq.mpr c26; have c26b1 : (((rd_T48 l0 x8_1).f0) != 2) = false := bne_eq_false_iff_eq.mpr c26; clear c26
        by_cases c27 : x3_1.length + 2 < 140737488355328
        ·rw [if_pos c27] at H
         have LMc27 := A_ c27; clear c27; obtain ⟨y300, hy300⟩ : ∃ y_ : List Int, y_ = (x3_1 ++ bytesOf (⟨#[46, 46]⟩ : ByteArray)) := ⟨_, rfl⟩; (replace H : (lex_Show.l0 k1 l0 y300 l0 (l0.length : Int) (wrap64 (x8_1 + 1))) = some r := hy_ hy300 H); have Ny300 := A_ hy300; clear hy300; have H' := A_ H; clear H; have p285 : 0 ≤ (x8_1 : Int) := od_; have q285 : x8_1 < (l0.length : Int) := od_; obtain ⟨ad285, e285, hx285_0, hx285_1, hx285_2⟩ := at_T48 HR0.out x8_1 p285 q285
         cases e285
         replace hx285_0 := cl_ HB hx285_0; replace hx285_1 := cl_ HB hx285_1; replace hx285_2 := cl_ HB hx285_2; replace p285 := eq_true p285; replace q285 := eq_true q285; go_wp2_with (first | (refine gD 5 ?_; refine bxe_ 5 #[.int .i64 0, .int .i64 0, .string ⟨#[]⟩] 48 ?_; intro gb286 hg w28 hbox hb; replace HO_3 := A_ (Kd.R_below (hrR_ HO_3.out) hb); have BK286 := A_ (hbox); have GW286 := gs_ w hg; have GE286 := gs_ w hg; replace HB := bs_ hb; clear hb hbox hg; have Z29 := bz3_ BK286) | (at_builtin; refine print_append_str (w0 := w) w.heap.size rfl (.tmp 37) _ 60 9 5 rfl Try.underlying60 Try.underlying9 info5 u3 x3_1 (⟨#[46, 46]⟩ : ByteArray) rfl rfl ?aO ?aB ?aS ?aL ?_; (case aB => exact hs_); (case aO => exact (Kd.own_of_R (by (with_reducible repeat (first | apply Kd.R_alloc | apply Kd.R_drewN | apply Kd.R_drew)); exact Kd.R_mono (Kd.R_far (p := ⟨gb286, 2, none⟩) (Kd.R_far (p := ⟨gb286, 1, none⟩) (Kd.R_far (p := ⟨gb286, 0, none⟩) (Kd.R_types HO_3.out BK286.out (by decide)) (fun _ hk => hk.2) (.int .i64 ((rd_T48 l0 x8_1).f0))) (fun _ hk => hk.2) (.int .i64 ((rd_T48 l0 x8_1).f1))) (fun _ hk => hk.2) (.string ((rd_T48 l0 x8_1).f2))) (fun _ hk => trivial)))); (case aS => exact (below_size hs_)); (case aL => have := LMc27.out; have e_ : (⟨#[46, 46]⟩ : ByteArray).size = 2 := rfl; omega); intro v301 w30 ho0 hb hg; have ho := Kd.R_of_own (h1 := fun _ => rfl) (ok := fun _ => True) ho0 (fun _ _ => trivial); clear ho0; have hat := True.intro; rw [← Ny300.out] at ho; change Kd.R (Kd.int .u8) 5 w30 w.heap.size (fun _ => True) v301 y300 at ho; replace BK286 := A_ (blk_grown (g := gb286) (o := .cells #[.int .i64 ((rd_T48 l0 x8_1).f0), .int .i64 ((rd_T48 l0 x8_1).f1), .string ((rd_T48 l0 x8_1).f2)] 48 (0, 0)) (pb_ BK286.out) hg (Kd.R_ne HO_3.out BK286.out (by decide))); replace HB := A_ (hb); have HO302 := A_ (ho); clear HO_3; clear ho hb hg hat))
         go_roundg k1
         case measure => have := HK1.out; omega
         case rel => exact ⟨(y300), (wrap64 (x8_1 + 1)), rf_, H', ⟨by have := HK1.out; omega⟩, ⟨fxR_ HO302.out⟩, ⟨hs_⟩⟩
        ·rw [if_neg c27] at H
         exact absurd H (by simp)
       ·rw [if_neg c26] at H
        have c26b0 : (((rd_T48 l0 x8_1).f0) == 2) = false := beq_eq_false_iff_ne.mpr c26; have c26b1 : (((rd_T48 l0 x8_1).f0) != 2) = true := bne_iff_ne.mpr c26
        by_cases c31 : ((rd_T48 l0 x8_1).f0) = 1
        ·rw [if_pos c31] at H
         have c31b0 : (((rd_T48 l0 x8_1).f0) == 1) = true := beq_iff_eq.mpr c31; have c31b1 : (((rd_T48 l0 x8_1).f0) != 1) = false := bne_eq_false_iff_eq.mpr c31; clear c31; obtain ⟨ji32, hji32⟩ : ∃ j_ : Int, (wrap64 (((rd_T48 l0 x8_1).f0) - 1)) = j_ := ⟨_, rfl⟩; (replace H : (if 0 ≤ (ji32) then (if (ji32) < 8 then (if x3_1.length < 140737488355328 then (lex_Show.l0 k1 l0 (x3_1 ++ [bt (⟨#[47, 46, 42, 91, 93, 44, 63, 126]⟩ : ByteArray) (ji32)]) l0 (l0.length : Int) (wrap64 (x8_1 + 1))) else (none)) else (none)) else (none)) = some r := by first | (rw [hji32] at H; exact H) | (simp only [hji32] at H ⊢; exact H)); have hji32w : (IntKind.i64.wrap (((rd_T48 l0 x8_1).f0) - 1)) = ji32 := (i64_w _).trans hji32
         by_cases c33 : 0 ≤ (ji32)
         ·rw [if_pos c33] at H
          have c33b0 := decide_eq_true c33; clear c33
          by_cases c34 : (ji32) < 8
          ·rw [if_pos c34] at H
           have c34b0 := decide_eq_true c34; clear c34
           by_cases c36 : x3_1.length < 140737488355328
           ·rw [if_pos c36] at H
            have LMc36 := A_ c36; clear c36; obtain ⟨y303, hy303⟩ : ∃ y_ : List Int, y_ = (x3_1 ++ [bt (⟨#[47, 46, 42, 91, 93, 44, 63, 126]⟩ : ByteArray) (ji32)]) := ⟨_, rfl⟩; (replace H : (lex_Show.l0 k1 l0 y303 l0 (l0.length : Int) (wrap64 (x8_1 + 1))) = some r := hy_ hy303 H); have Ny303 := A_ hy303; clear hy303; have H' := A_ H; clear H; have p285 : 0 ≤ (x8_1 : Int) := od_; have q285 : x8_1 < (l0.length : Int) := od_; obtain ⟨ad285, e285, hx285_0, hx285_1, hx285_2⟩ := at_T48 HR0.out x8_1 p285 q285
            cases e285
            replace hx285_0 := cl_ HB hx285_0; replace hx285_1 := cl_ HB hx285_1; replace hx285_2 := cl_ HB hx285_2; replace p285 := eq_true p285; replace q285 := eq_true q285; go_wp2_with (first | (refine gD 5 ?_; refine bxe_ 5 #[.int .i64 0, .int .i64 0, .string ⟨#[]⟩] 48 ?_; intro gb286 hg w37 hbox hb; replace HO_3 := A_ (Kd.R_below (hrR_ HO_3.out) hb); have BK286 := A_ (hbox); have GW286 := gs_ w hg; have GE286 := gs_ w hg; replace HB := bs_ hb; clear hb hbox hg; have Z38 := bz3_ BK286; have p35 : 0 ≤ ((ji32) : Int) := od_; have q35 : (ji32) < (8 : Int) := od_; have hx35 := bt_at (⟨#[47, 46, 42, 91, 93, 44, 63, 126]⟩ : ByteArray) (ji32); replace p35 := eq_true p35; replace q35 := eq_true q35) | ((with_reducible refine gate_builtin (b := .append) (xs := #[.tmp 47, .tmp 52]) rfl ?_); at_builtin; refine Kd.R_append (Kd.int .u8) (w0 := w) w.heap.size rfl (.tmp 47) (.tmp 52) 60 5 (.int .u8 0) 1 rfl Try.underlying60 info5 rfl (by decide) (by omega) u3 x3_1 (bt (⟨#[47, 46, 42, 91, 93, 44, 63, 126]⟩ : ByteArray) (ji32)) [.int .u8 (bt (⟨#[47, 46, 42, 91, 93, 44, 63, 126]⟩ : ByteArray) (ji32))] (fun _ => True) (fun _ => False) rfl (by first | (go_simp; done) | (go_simp; rfl)) ?aP (fun _ hk => hk.elim) ?aF ?aO ?aB ?aS ?aL ?_; (case aP => exact rfl); (case aB => exact hs_); (case aF => exact (fun _ _ => trivial)); (case aO => exact (by (with_reducible repeat (first | apply Kd.R_alloc | apply Kd.R_drewN | apply Kd.R_drew)); exact Kd.R_mono (Kd.R_far (p := ⟨gb286, 2, none⟩) (Kd.R_far (p := ⟨gb286, 1, none⟩) (Kd.R_far (p := ⟨gb286, 0, none⟩) (Kd.R_types HO_3.out BK286.out (by decide)) (fun _ hk => hk.2) (.int .i64 ((rd_T48 l0 x8_1).f0))) (fun _ hk => hk.2) (.int .i64 ((rd_T48 l0 x8_1).f1))) (fun _ hk => hk.2) (.string ((rd_T48 l0 x8_1).f2))) (fun _ hk => trivial))); (case aS => exact (below_size hs_)); (case aL => have := LMc36.out; omega); intro v304 w39 ho hb hg hat; rw [← Ny303.out] at ho; replace BK286 := A_ (blk_grown (g := gb286) (o := .cells #[.int .i64 ((rd_T48 l0 x8_1).f0), .int .i64 ((rd_T48 l0 x8_1).f1), .string ((rd_T48 l0 x8_1).f2)] 48 (0, 0)) (pb_ BK286.out) hg (Kd.R_ne HO_3.out BK286.out (by decide))); replace HB := A_ (hb); have HO305 := A_ (ho); clear HO_3; clear ho hb hg hat))
            go_roundg k1
            case measure => have := HK1.out; omega
            case rel => exact ⟨(y303), (wrap64 (x8_1 + 1)), rf_, H', ⟨by have := HK1.out; omega⟩, ⟨fxR_ HO305.out⟩, ⟨hs_⟩⟩
           ·rw [if_neg c36] at H
            exact absurd H (by simp)
          ·rw [if_neg c34] at H
           exact absurd H (by simp)
         ·rw [if_neg c33] at H
          exact absurd H (by simp)
        ·rw [if_neg c31] at H
         have c31b0 : (((rd_T48 l0 x8_1).f0) == 1) = false := beq_eq_false_iff_ne.mpr c31; have c31b1 : (((rd_T48 l0 x8_1).f0) != 1) = true := bne_iff_ne.mpr c31
         by_cases c40 : ((rd_T48 l0 x8_1).f0) = 3
         ·rw [if_pos c40] at H
          have c40b0 : (((rd_T48 l0 x8_1).f0) == 3) = true := beq_iff_eq.mpr c40; have c40b1 : (((rd_T48 l0 x8_1).f0) != 3) = false := bne_eq_false_iff_eq.mpr c40; clear c40; obtain ⟨ji41, hji41⟩ : ∃ j_ : Int, (wrap64 (((rd_T48 l0 x8_1).f0) - 1)) = j_ := ⟨_, rfl⟩; (replace H : (if 0 ≤ (ji41) then (if (ji41) < 8 then (if x3_1.length < 140737488355328 then (lex_Show.l0 k1 l0 (x3_1 ++ [bt (⟨#[47, 46, 42, 91, 93, 44, 63, 126]⟩ : ByteArray) (ji41)]) l0 (l0.length : Int) (wrap64 (x8_1 + 1))) else (none)) else (none)) else (none)) = some r := by first | (rw [hji41] at H; exact H) | (simp only [hji41] at H ⊢; exact H)); have hji41w : (IntKind.i64.wrap (((rd_T48 l0 x8_1).f0) - 1)) = ji41 := (i64_w _).trans hji41
          by_cases c42 : 0 ≤ (ji41)
          ·rw [if_pos c42] at H
           have c42b0 := decide_eq_true c42; clear c42
           by_cases c43 : (ji41) < 8
           ·rw [if_pos c43] at H
            have c43b0 := decide_eq_true c43; clear c43
            by_cases c45 : x3_1.length < 140737488355328
            ·rw [if_pos c45] at H
             have LMc45 := A_ c45; clear c45; obtain ⟨y306, hy306⟩ : ∃ y_ : List Int, y_ = (x3_1 ++ [bt (⟨#[47, 46, 42, 91, 93, 44, 63, 126]⟩ : ByteArray) (ji41)]) := ⟨_, rfl⟩; (replace H : (lex_Show.l0 k1 l0 y306 l0 (l0.length : Int) (wrap64 (x8_1 + 1))) = some r := hy_ hy306 H); have Ny306 := A_ hy306; clear hy306; have H' := A_ H; clear H; have p285 : 0 ≤ (x8_1 : Int) := od_; have q285 : x8_1 < (l0.length : Int) := od_; obtain ⟨ad285, e285, hx285_0, hx285_1, hx285_2⟩ := at_T48 HR0.out x8_1 p285 q285
             cases e285
             replace hx285_0 := cl_ HB hx285_0; replace hx285_1 := cl_ HB hx285_1; replace hx285_2 := cl_ HB hx285_2; replace p285 := eq_true p285; replace q285 := eq_true q285; go_wp2_with (first | (refine gD 5 ?_; refine bxe_ 5 #[.int .i64 0, .int .i64 0, .string ⟨#[]⟩] 48 ?_; intro gb286 hg w46 hbox hb; replace HO_3 := A_ (Kd.R_below (hrR_ HO_3.out) hb); have BK286 := A_ (hbox); have GW286 := gs_ w hg; have GE286 := gs_ w hg; replace HB := bs_ hb; clear hb hbox hg; have Z47 := bz3_ BK286; have p44 : 0 ≤ ((ji41) : Int) := od_; have q44 : (ji41) < (8 : Int) := od_; have hx44 := bt_at (⟨#[47, 46, 42, 91, 93, 44, 63, 126]⟩ : ByteArray) (ji41); replace p44 := eq_true p44; replace q44 := eq_true q44) | ((with_reducible refine gate_builtin (b := .append) (xs := #[.tmp 47, .tmp 52]) rfl ?_); at_builtin; refine Kd.R_append (Kd.int .u8) (w0 := w) w.heap.size rfl (.tmp 47) (.tmp 52) 60 5 (.int .u8 0) 1 rfl Try.underlying60 info5 rfl (by decide) (by omega) u3 x3_1 (bt (⟨#[47, 46, 42, 91, 93, 44, 63, 126]⟩ : ByteArray) (ji41)) [.int .u8 (bt (⟨#[47, 46, 42, 91, 93, 44, 63, 126]⟩ : ByteArray) (ji41))] (fun _ => True) (fun _ => False) rfl (by first | (go_simp; done) | (go_simp; rfl)) ?aP (fun _ hk => hk.elim) ?aF ?aO ?aB ?aS ?aL ?_; (case aP => exact rfl); (case aB => exact hs_); (case aF => exact (fun _ _ => trivial)); (case aO => exact (by (with_reducible repeat (first | apply Kd.R_alloc | apply Kd.R_drewN | apply Kd.R_drew)); exact Kd.R_mono (Kd.R_far (p := ⟨gb286, 2, none⟩) (Kd.R_far (p := ⟨gb286, 1, none⟩) (Kd.R_far (p := ⟨gb286, 0, none⟩) (Kd.R_types HO_3.out BK286.out (by decide)) (fun _ hk => hk.2) (.int .i64 ((rd_T48 l0 x8_1).f0))) (fun _ hk => hk.2) (.int .i64 ((rd_T48 l0 x8_1).f1))) (fun _ hk => hk.2) (.string ((rd_T48 l0 x8_1).f2))) (fun _ hk => trivial))); (case aS => exact (below_size hs_)); (case aL => have := LMc45.out; omega); intro v307 w48 ho hb hg hat; rw [← Ny306.out] at ho; replace BK286 := A_ (blk_grown (g := gb286) (o := .cells #[.int .i64 ((rd_T48 l0 x8_1).f0), .int .i64 ((rd_T48 l0 x8_1).f1), .string ((rd_T48 l0 x8_1).f2)] 48 (0, 0)) (pb_ BK286.out) hg (Kd.R_ne HO_3.out BK286.out (by decide))); replace HB := A_ (hb); have HO308 := A_ (ho); clear HO_3; clear ho hb hg hat))
             go_roundg k1
             case measure => have := HK1.out; omega
             case rel => exact ⟨(y306), (wrap64 (x8_1 + 1)), rf_, H', ⟨by have := HK1.out; omega⟩, ⟨fxR_ HO308.out⟩, ⟨hs_⟩⟩
            ·rw [if_neg c45] at H
             exact absurd H (by simp)
           ·rw [if_neg c43] at H
            exact absurd H (by simp)
          ·rw [if_neg c42] at H
           exact absurd H (by simp)
         ·rw [if_neg c40] at H
          have c40b0 : (((rd_T48 l0 x8_1).f0) == 3) = false := beq_eq_false_iff_ne.mpr c40; have c40b1 : (((rd_T48 l0 x8_1).f0) != 3) = true := bne_iff_ne.mpr c40
          by_cases c49 : ((rd_T48 l0 x8_1).f0) = 4
          ·rw [if_pos c49] at H
           have c49b0 : (((rd_T48 l0 x8_1).f0) == 4) = true := beq_iff_eq.mpr c49; have c49b1 : (((rd_T48 l0 x8_1).f0) != 4) = false := bne_eq_false_iff_eq.mpr c49; clear c49; obtain ⟨ji50, hji50⟩ : ∃ j_ : Int, (wrap64 (((rd_T48 l0 x8_1).f0) - 1)) = j_ := ⟨_, rfl⟩; (replace H : (if 0 ≤ (ji50) then (if (ji50) < 8 then (if x3_1.length < 140737488355328 then (lex_Show.l0 k1 l0 (x3_1 ++ [bt (⟨#[47, 46, 42, 91, 93, 44, 63, 126]⟩ : ByteArray) (ji50)]) l0 (l0.length : Int) (wrap64 (x8_1 + 1))) else (none)) else (none)) else (none)) = some r := by first | (rw [hji50] at H; exact H) | (simp only [hji50] at H ⊢; exact H)); have hji50w : (IntKind.i64.wrap (((rd_T48 l0 x8_1).f0) - 1)) = ji50 := (i64_w _).trans hji50
           by_cases c51 : 0 ≤ (ji50)
           ·rw [if_pos c51] at H
            have c51b0 := decide_eq_true c51; clear c51
            by_cases c52 : (ji50) < 8
            ·rw [if_pos c52] at H
             have c52b0 := decide_eq_true c52; clear c52
             by_cases c54 : x3_1.length < 140737488355328
             ·rw [if_pos c54] at H
              have LMc54 := A_ c54; clear c54; obtain ⟨y309, hy309⟩ : ∃ y_ : List Int, y_ = (x3_1 ++ [bt (⟨#[47, 46, 42, 91, 93, 44, 63, 126]⟩ : ByteArray) (ji50)]) := ⟨_, rfl⟩; (replace H : (lex_Show.l0 k1 l0 y309 l0 (l0.length : Int) (wrap64 (x8_1 + 1))) = some r := hy_ hy309 H); have Ny309 := A_ hy309; clear hy309; have H' := A_ H; clear H; have p285 : 0 ≤ (x8_1 : Int) := od_; have q285 : x8_1 < (l0.length : Int) := od_; obtain ⟨ad285, e285, hx285_0, hx285_1, hx285_2⟩ := at_T48 HR0.out x8_1 p285 q285
              cases e285
              replace hx285_0 := cl_ HB hx285_0; replace hx285_1 := cl_ HB hx285_1; replace hx285_2 := cl_ HB hx285_2; replace p285 := eq_true p285; replace q285 := eq_true q285; go_wp2_with (first | (refine gD 5 ?_; refine bxe_ 5 #[.int .i64 0, .int .i64 0, .string ⟨#[]⟩] 48 ?_; intro gb286 hg w55 hbox hb; replace HO_3 := A_ (Kd.R_below (hrR_ HO_3.out) hb); have BK286 := A_ (hbox); have GW286 := gs_ w hg; have GE286 := gs_ w hg; replace HB := bs_ hb; clear hb hbox hg; have Z56 := bz3_ BK286; have p53 : 0 ≤ ((ji50) : Int) := od_; have q53 : (ji50) < (8 : Int) := od_; have hx53 := bt_at (⟨#[47, 46, 42, 91, 93, 44, 63, 126]⟩ : ByteArray) (ji50); replace p53 := eq_true p53; replace q53 := eq_true q53) | ((with_reducible refine gate_builtin (b := .append) (xs := #[.tmp 47, .tmp 52]) rfl ?_); at_builtin; refine Kd.R_append (Kd.int .u8) (w0 := w) w.heap.size rfl (.tmp 47) (.tmp 52) 60 5 (.int .u8 0) 1 rfl Try.underlying60 info5 rfl (by decide) (by omega) u3 x3_1 (bt (⟨#[47, 46, 42, 91, 93, 44, 63, 126]⟩ : ByteArray) (ji50)) [.int .u8 (bt (⟨#[47, 46, 42, 91, 93, 44, 63, 126]⟩ : ByteArray) (ji50))] (fun _ => True) (fun _ => False) rfl (by first | (go_simp; done) | (go_simp; rfl)) ?aP (fun _ hk => hk.elim) ?aF ?aO ?aB ?aS ?aL ?_; (case aP => exact rfl); (case aB => exact hs_); (case aF => exact (fun _ _ => trivial)); (case aO => exact (by (with_reducible repeat (first | apply Kd.R_alloc | apply Kd.R_drewN | apply Kd.R_drew)); exact Kd.R_mono (Kd.R_far (p := ⟨gb286, 2, none⟩) (Kd.R_far (p := ⟨gb286, 1, none⟩) (Kd.R_far (p := ⟨gb286, 0, none⟩) (Kd.R_types HO_3.out BK286.out (by decide)) (fun _ hk => hk.2) (.int .i64 ((rd_T48 l0 x8_1).f0))) (fun _ hk => hk.2) (.int .i64 ((rd_T48 l0 x8_1).f1))) (fun _ hk => hk.2) (.string ((rd_T48 l0 x8_1).f2))) (fun _ hk => trivial))); (case aS => exact (below_size hs_)); (case aL => have := LMc54.out; omega); intro v310 w57 ho hb hg hat; rw [← Ny309.out] at ho; replace BK286 := A_ (blk_grown (g := gb286) (o := .cells #[.int .i64 ((rd_T48 l0 x8_1).f0), .int .i64 ((rd_T48 l0 x8_1).f1), .string ((rd_T48 l0 x8_1).f2)] 48 (0, 0)) (pb_ BK286.out) hg (Kd.R_ne HO_3.out BK286.out (by decide))); replace HB := A_ (hb); have HO311 := A_ (ho); clear HO_3; clear ho hb hg hat))
              go_roundg k1
              case measure => have := HK1.out; omega
              case rel => exact ⟨(y309), (wrap64 (x8_1 + 1)), rf_, H', ⟨by have := HK1.out; omega⟩, ⟨fxR_ HO311.out⟩, ⟨hs_⟩⟩
             ·rw [if_neg c54] at H
              exact absurd H (by simp)
            ·rw [if_neg c52] at H
             exact absurd H (by simp)
           ·rw [if_neg c51] at H
            exact absurd H (by simp)
          ·rw [if_neg c49] at H
           have c49b0 : (((rd_T48 l0 x8_1).f0) == 4) = false := beq_eq_false_iff_ne.mpr c49; have c49b1 : (((rd_T48 l0 x8_1).f0) != 4) = true := bne_iff_ne.mpr c49
           by_cases c58 : ((rd_T48 l0 x8_1).f0) = 5
           ·rw [if_pos c58] at H
            have c58b0 : (((rd_T48 l0 x8_1).f0) == 5) = true := beq_iff_eq.mpr c58; have c58b1 : (((rd_T48 l0 x8_1).f0) != 5) = false := bne_eq_false_iff_eq.mpr c58; clear c58; obtain ⟨ji59, hji59⟩ : ∃ j_ : Int, (wrap64 (((rd_T48 l0 x8_1).f0) - 1)) = j_ := ⟨_, rfl⟩; (replace H : (if 0 ≤ (ji59) then (if (ji59) < 8 then (if x3_1.length < 140737488355328 then (lex_Show.l0 k1 l0 (x3_1 ++ [bt (⟨#[47, 46, 42, 91, 93, 44, 63, 126]⟩ : ByteArray) (ji59)]) l0 (l0.length : Int) (wrap64 (x8_1 + 1))) else (none)) else (none)) else (none)) = some r := by first | (rw [hji59] at H; exact H) | (simp only [hji59] at H ⊢; exact H)); have hji59w : (IntKind.i64.wrap (((rd_T48 l0 x8_1).f0) - 1)) = ji59 := (i64_w _).trans hji59
            by_cases c60 : 0 ≤ (ji59)
            ·rw [if_pos c60] at H
             have c60b0 := decide_eq_true c60; clear c60
             by_cases c61 : (ji59) < 8
             ·rw [if_pos c61] at H
              have c61b0 := decide_eq_true c61; clear c61
              by_cases c63 : x3_1.length < 140737488355328
              ·rw [if_pos c63] at H
               have LMc63 := A_ c63; clear c63; obtain ⟨y312, hy312⟩ : ∃ y_ : List Int, y_ = (x3_1 ++ [bt (⟨#[47, 46, 42, 91, 93, 44, 63, 126]⟩ : ByteArray) (ji59)]) := ⟨_, rfl⟩; (replace H : (lex_Show.l0 k1 l0 y312 l0 (l0.length : Int) (wrap64 (x8_1 + 1))) = some r := hy_ hy312 H); have Ny312 := A_ hy312; clear hy312; have H' := A_ H; clear H; have p285 : 0 ≤ (x8_1 : Int) := od_; have q285 : x8_1 < (l0.length : Int) := od_; obtain ⟨ad285, e285, hx285_0, hx285_1, hx285_2⟩ := at_T48 HR0.out x8_1 p285 q285
               cases e285
               replace hx285_0 := cl_ HB hx285_0; replace hx285_1 := cl_ HB hx285_1; replace hx285_2 := cl_ HB hx285_2; replace p285 := eq_true p285; replace q285 := eq_true q285; go_wp2_with (first | (refine gD 5 ?_; refine bxe_ 5 #[.int .i64 0, .int .i64 0, .string ⟨#[]⟩] 48 ?_; intro gb286 hg w64 hbox hb; replace HO_3 := A_ (Kd.R_below (hrR_ HO_3.out) hb); have BK286 := A_ (hbox); have GW286 := gs_ w hg; have GE286 := gs_ w hg; replace HB := bs_ hb; clear hb hbox hg; have Z65 := bz3_ BK286; have p62 : 0 ≤ ((ji59) : Int) := od_; have q62 : (ji59) < (8 : Int) := od_; have hx62 := bt_at (⟨#[47, 46, 42, 91, 93, 44, 63, 126]⟩ : ByteArray) (ji59); replace p62 := eq_true p62; replace q62 := eq_true q62) | ((with_reducible refine gate_builtin (b := .append) (xs := #[.tmp 47, .tmp 52]) rfl ?_); at_builtin; refine Kd.R_append (Kd.int .u8) (w0 := w) w.heap.size rfl (.tmp 47) (.tmp 52) 60 5 (.int .u8 0) 1 rfl Try.underlying60 info5 rfl (by decide) (by omega) u3 x3_1 (bt (⟨#[47, 46, 42, 91, 93, 44, 63, 126]⟩ : ByteArray) (ji59)) [.int .u8 (bt (⟨#[47, 46, 42, 91, 93, 44, 63, 126]⟩ : ByteArray) (ji59))] (fun _ => True) (fun _ => False) rfl (by first | (go_simp; done) | (go_simp; rfl)) ?aP (fun _ hk => hk.elim) ?aF ?aO ?aB ?aS ?aL ?_; (case aP => exact rfl); (case aB => exact hs_); (case aF => exact (fun _ _ => trivial)); (case aO => exact (by (with_reducible repeat (first | apply Kd.R_alloc | apply Kd.R_drewN | apply Kd.R_drew)); exact Kd.R_mono (Kd.R_far (p := ⟨gb286, 2, none⟩) (Kd.R_far (p := ⟨gb286, 1, none⟩) (Kd.R_far (p := ⟨gb286, 0, none⟩) (Kd.R_types HO_3.out BK286.out (by decide)) (fun _ hk => hk.2) (.int .i64 ((rd_T48 l0 x8_1).f0))) (fun _ hk => hk.2) (.int .i64 ((rd_T48 l0 x8_1).f1))) (fun _ hk => hk.2) (.string ((rd_T48 l0 x8_1).f2))) (fun _ hk => trivial))); (case aS => exact (below_size hs_)); (case aL => have := LMc63.out; omega); intro v313 w66 ho hb hg hat; rw [← Ny312.out] at ho; replace BK286 := A_ (blk_grown (g := gb286) (o := .cells #[.int .i64 ((rd_T48 l0 x8_1).f0), .int .i64 ((rd_T48 l0 x8_1).f1), .string ((rd_T48 l0 x8_1).f2)] 48 (0, 0)) (pb_ BK286.out) hg (Kd.R_ne HO_3.out BK286.out (by decide))); replace HB := A_ (hb); have HO314 := A_ (ho); clear HO_3; clear ho hb hg hat))
               go_roundg k1
               case measure => have := HK1.out; omega
               case rel => exact ⟨(y312), (wrap64 (x8_1 + 1)), rf_, H', ⟨by have := HK1.out; omega⟩, ⟨fxR_ HO314.out⟩, ⟨hs_⟩⟩
              ·rw [if_neg c63] at H
               exact absurd H (by simp)
             ·rw [if_neg c61] at H
              exact absurd H (by simp)
            ·rw [if_neg c60] at H
             exact absurd H (by simp)
           ·rw [if_neg c58] at H
            have c58b0 : (((rd_T48 l0 x8_1).f0) == 5) = false := beq_eq_false_iff_ne.mpr c58; have c58b1 : (((rd_T48 l0 x8_1).f0) != 5) = true := bne_iff_ne.mpr c58
            by_cases c67 : ((rd_T48 l0 x8_1).f0) = 6
            ·rw [if_pos c67] at H
             have c67b0 : (((rd_T48 l0 x8_1).f0) == 6) = true := beq_iff_eq.mpr c67; have c67b1 : (((rd_T48 l0 x8_1).f0) != 6) = false := bne_eq_false_iff_eq.mpr c67; clear c67; obtain ⟨ji68, hji68⟩ : ∃ j_ : Int, (wrap64 (((rd_T48 l0 x8_1).f0) - 1)) = j_ := ⟨_, rfl⟩; (replace H : (if 0 ≤ (ji68) then (if (ji68) < 8 then (if x3_1.length < 140737488355328 then (lex_Show.l0 k1 l0 (x3_1 ++ [bt (⟨#[47, 46, 42, 91, 93, 44, 63, 126]⟩ : ByteArray) (ji68)]) l0 (l0.length : Int) (wrap64 (x8_1 + 1))) else (none)) else (none)) else (none)) = some r := by first | (rw [hji68] at H; exact H) | (simp only [hji68] at H ⊢; exact H)); have hji68w : (IntKind.i64.wrap (((rd_T48 l0 x8_1).f0) - 1)) = ji68 := (i64_w _).trans hji68
             by_cases c69 : 0 ≤ (ji68)
             ·rw [if_pos c69] at H
              have c69b0 := decide_eq_true c69; clear c69
              by_cases c70 : (ji68) < 8
              ·rw [if_pos c70] at H
               have c70b0 := decide_eq_true c70; clear c70
               by_cases c72 : x3_1.length < 140737488355328
               ·rw [if_pos c72] at H
                have LMc72 := A_ c72; clear c72; obtain ⟨y315, hy315⟩ : ∃ y_ : List Int, y_ = (x3_1 ++ [bt (⟨#[47, 46, 42, 91, 93, 44, 63, 126]⟩ : ByteArray) (ji68)]) := ⟨_, rfl⟩; (replace H : (lex_Show.l0 k1 l0 y315 l0 (l0.length : Int) (wrap64 (x8_1 + 1))) = some r := hy_ hy315 H); have Ny315 := A_ hy315; clear hy315; have H' := A_ H; clear H; have p285 : 0 ≤ (x8_1 : Int) := od_; have q285 : x8_1 < (l0.length : Int) := od_; obtain ⟨ad285, e285, hx285_0, hx285_1, hx285_2⟩ := at_T48 HR0.out x8_1 p285 q285
                cases e285
                replace hx285_0 := cl_ HB hx285_0; replace hx285_1 := cl_ HB hx285_1; replace hx285_2 := cl_ HB hx285_2; replace p285 := eq_true p285; replace q285 := eq_true q285; go_wp2_with (first | (refine gD 5 ?_; refine bxe_ 5 #[.int .i64 0, .int .i64 0, .string ⟨#[]⟩] 48 ?_; intro gb286 hg w73 hbox hb; replace HO_3 := A_ (Kd.R_below (hrR_ HO_3.out) hb); have BK286 := A_ (hbox); have GW286 := gs_ w hg; have GE286 := gs_ w hg; replace HB := bs_ hb; clear hb hbox hg; have Z74 := bz3_ BK286; have p71 : 0 ≤ ((ji68) : Int) := od_; have q71 : (ji68) < (8 : Int) := od_; have hx71 := bt_at (⟨#[47, 46, 42, 91, 93, 44, 63, 126]⟩ : ByteArray) (ji68); replace p71 := eq_true p71; replace q71 := eq_true q71) | ((with_reducible refine gate_builtin (b := .append) (xs := #[.tmp 47, .tmp 52]) rfl ?_); at_builtin; refine Kd.R_append (Kd.int .u8) (w0 := w) w.heap.size rfl (.tmp 47) (.tmp 52) 60 5 (.int .u8 0) 1 rfl Try.underlying60 info5 rfl (by decide) (by omega) u3 x3_1 (bt (⟨#[47, 46, 42, 91, 93, 44, 63, 126]⟩ : ByteArray) (ji68)) [.int .u8 (bt (⟨#[47, 46, 42, 91, 93, 44, 63, 126]⟩ : ByteArray) (ji68))] (fun _ => True) (fun _ => False) rfl (by first | (go_simp; done) | (go_simp; rfl)) ?aP (fun _ hk => hk.elim) ?aF ?aO ?aB ?aS ?aL ?_; (case aP => exact rfl); (case aB => exact hs_); (case aF => exact (fun _ _ => trivial)); (case aO => exact (by (with_reducible repeat (first | apply Kd.R_alloc | apply Kd.R_drewN | apply Kd.R_drew)); exact Kd.R_mono (Kd.R_far (p := ⟨gb286, 2, none⟩) (Kd.R_far (p := ⟨gb286, 1, none⟩) (Kd.R_far (p := ⟨gb286, 0, none⟩) (Kd.R_types HO_3.out BK286.out (by decide)) (fun _ hk => hk.2) (.int .i64 ((rd_T48 l0 x8_1).f0))) (fun _ hk => hk.2) (.int .i64 ((rd_T48 l0 x8_1).f1))) (fun _ hk => hk.2) (.string ((rd_T48 l0 x8_1).f2))) (fun _ hk => trivial))); (case aS => exact (below_size hs_)); (case aL => have := LMc72.out; omega); intro v316 w75 ho hb hg hat; rw [← Ny315.out] at ho; replace BK286 := A_ (blk_grown (g := gb286) (o := .cells #[.int .i64 ((rd_T48 l0 x8_1).f0), .int .i64 ((rd_T48 l0 x8_1).f1), .string ((rd_T48 l0 x8_1).f2)] 48 (0, 0)) (pb_ BK286.out) hg (Kd.R_ne HO_3.out BK286.out (by decide))); replace HB := A_ (hb); have HO317 := A_ (ho); clear HO_3; clear ho hb hg hat))
                go_roundg k1
                case measure => have := HK1.out; omega
                case rel => exact ⟨(y315), (wrap64 (x8_1 + 1)), rf_, H', ⟨by have := HK1.out; omega⟩, ⟨fxR_ HO317.out⟩, ⟨hs_⟩⟩
               ·rw [if_neg c72] at H
                exact absurd H (by simp)
              ·rw [if_neg c70] at H
               exact absurd H (by simp)
             ·rw [if_neg c69] at H
              exact absurd H (by simp)
            ·rw [if_neg c67] at H
             have c67b0 : (((rd_T48 l0 x8_1).f0) == 6) = false := beq_eq_false_iff_ne.mpr c67; have c67b1 : (((rd_T48 l0 x8_1).f0) != 6) = true := bne_iff_ne.mpr c67
             by_cases c76 : ((rd_T48 l0 x8_1).f0) = 7
             ·rw [if_pos c76] at H
              have c76b0 : (((rd_T48 l0 x8_1).f0) == 7) = true := beq_iff_eq.mpr c76; have c76b1 : (((rd_T48 l0 x8_1).f0) != 7) = false := bne_eq_false_iff_eq.mpr c76; clear c76; obtain ⟨ji77, hji77⟩ : ∃ j_ : Int, (wrap64 (((rd_T48 l0 x8_1).f0) - 1)) = j_ := ⟨_, rfl⟩; (replace H : (if 0 ≤ (ji77) then (if (ji77) < 8 then (if x3_1.length < 140737488355328 then (lex_Show.l0 k1 l0 (x3_1 ++ [bt (⟨#[47, 46, 42, 91, 93, 44, 63, 126]⟩ : ByteArray) (ji77)]) l0 (l0.length : Int) (wrap64 (x8_1 + 1))) else (none)) else (none)) else (none)) = some r := by first | (rw [hji77] at H; exact H) | (simp only [hji77] at H ⊢; exact H)); have hji77w : (IntKind.i64.wrap (((rd_T48 l0 x8_1).f0) - 1)) = ji77 := (i64_w _).trans hji77
              by_cases c78 : 0 ≤ (ji77)
              ·rw [if_pos c78] at H
               have c78b0 := decide_eq_true c78; clear c78
               by_cases c79 : (ji77) < 8
               ·rw [if_pos c79] at H
                have c79b0 := decide_eq_true c79; clear c79
                by_cases c81 : x3_1.length < 140737488355328
                ·rw [if_pos c81] at H
                 have LMc81 := A_ c81; clear c81; obtain ⟨y318, hy318⟩ : ∃ y_ : List Int, y_ = (x3_1 ++ [bt (⟨#[47, 46, 42, 91, 93, 44, 63, 126]⟩ : ByteArray) (ji77)]) := ⟨_, rfl⟩; (replace H : (lex_Show.l0 k1 l0 y318 l0 (l0.length : Int) (wrap64 (x8_1 + 1))) = some r := hy_ hy318 H); have Ny318 := A_ hy318; clear hy318; have H' := A_ H; clear H; have p285 : 0 ≤ (x8_1 : Int) := od_; have q285 : x8_1 < (l0.length : Int) := od_; obtain ⟨ad285, e285, hx285_0, hx285_1, hx285_2⟩ := at_T48 HR0.out x8_1 p285 q285
                 cases e285
                 replace hx285_0 := cl_ HB hx285_0; replace hx285_1 := cl_ HB hx285_1; replace hx285_2 := cl_ HB hx285_2; replace p285 := eq_true p285; replace q285 := eq_true q285; go_wp2_with (first | (refine gD 5 ?_; refine bxe_ 5 #[.int .i64 0, .int .i64 0, .string ⟨#[]⟩] 48 ?_; intro gb286 hg w82 hbox hb; replace HO_3 := A_ (Kd.R_below (hrR_ HO_3.out) hb); have BK286 := A_ (hbox); have GW286 := gs_ w hg; have GE286 := gs_ w hg; replace HB := bs_ hb; clear hb hbox hg; have Z83 := bz3_ BK286; have p80 : 0 ≤ ((ji77) : Int) := od_; have q80 : (ji77) < (8 : Int) := od_; have hx80 := bt_at (⟨#[47, 46, 42, 91, 93, 44, 63, 126]⟩ : ByteArray) (ji77); replace p80 := eq_true p80; replace q80 := eq_true q80) | ((with_reducible refine gate_builtin (b := .append) (xs := #[.tmp 47, .tmp 52]) rfl ?_); at_builtin; refine Kd.R_append (Kd.int .u8) (w0 := w) w.heap.size rfl (.tmp 47) (.tmp 52) 60 5 (.int .u8 0) 1 rfl Try.underlying60 info5 rfl (by decide) (by omega) u3 x3_1 (bt (⟨#[47, 46, 42, 91, 93, 44, 63, 126]⟩ : ByteArray) (ji77)) [.int .u8 (bt (⟨#[47, 46, 42, 91, 93, 44, 63, 126]⟩ : ByteArray) (ji77))] (fun _ => True) (fun _ => False) rfl (by first | (go_simp; done) | (go_simp; rfl)) ?aP (fun _ hk => hk.elim) ?aF ?aO ?aB ?aS ?aL ?_; (case aP => exact rfl); (case aB => exact hs_); (case aF => exact (fun _ _ => trivial)); (case aO => exact (by (with_reducible repeat (first | apply Kd.R_alloc | apply Kd.R_drewN | apply Kd.R_drew)); exact Kd.R_mono (Kd.R_far (p := ⟨gb286, 2, none⟩) (Kd.R_far (p := ⟨gb286, 1, none⟩) (Kd.R_far (p := ⟨gb286, 0, none⟩) (Kd.R_types HO_3.out BK286.out (by decide)) (fun _ hk => hk.2) (.int .i64 ((rd_T48 l0 x8_1).f0))) (fun _ hk => hk.2) (.int .i64 ((rd_T48 l0 x8_1).f1))) (fun _ hk => hk.2) (.string ((rd_T48 l0 x8_1).f2))) (fun _ hk => trivial))); (case aS => exact (below_size hs_)); (case aL => have := LMc81.out; omega); intro v319 w84 ho hb hg hat; rw [← Ny318.out] at ho; replace BK286 := A_ (blk_grown (g := gb286) (o := .cells #[.int .i64 ((rd_T48 l0 x8_1).f0), .int .i64 ((rd_T48 l0 x8_1).f1), .string ((rd_T48 l0 x8_1).f2)] 48 (0, 0)) (pb_ BK286.out) hg (Kd.R_ne HO_3.out BK286.out (by decide))); replace HB := A_ (hb); have HO320 := A_ (ho); clear HO_3; clear ho hb hg hat))
                 go_roundg k1
                 case measure => have := HK1.out; omega
                 case rel => exact ⟨(y318), (wrap64 (x8_1 + 1)), rf_, H', ⟨by have := HK1.out; omega⟩, ⟨fxR_ HO320.out⟩, ⟨hs_⟩⟩
                ·rw [if_neg c81] at H
                 exact absurd H (by simp)
               ·rw [if_neg c79] at H
                exact absurd H (by simp)
              ·rw [if_neg c78] at H
               exact absurd H (by simp)
             ·rw [if_neg c76] at H
              have c76b0 : (((rd_T48 l0 x8_1).f0) == 7) = false := beq_eq_false_iff_ne.mpr c76; have c76b1 : (((rd_T48 l0 x8_1).f0) != 7) = true := bne_iff_ne.mpr c76
              by_cases c85 : ((rd_T48 l0 x8_1).f0) = 8
              ·rw [if_pos c85] at H
               have c85b0 : (((rd_T48 l0 x8_1).f0) == 8) = true := beq_iff_eq.mpr c85; have c85b1 : (((rd_T48 l0 x8_1).f0) != 8) = false := bne_eq_false_iff_eq.mpr c85; clear c85; obtain ⟨ji86, hji86⟩ : ∃ j_ : Int, (wrap64 (((rd_T48 l0 x8_1).f0) - 1)) = j_ := ⟨_, rfl⟩; (replace H : (if 0 ≤ (ji86) then (if (ji86) < 8 then (if x3_1.length < 140737488355328 then (lex_Show.l0 k1 l0 (x3_1 ++ [bt (⟨#[47, 46, 42, 91, 93, 44, 63, 126]⟩ : ByteArray) (ji86)]) l0 (l0.length : Int) (wrap64 (x8_1 + 1))) else (none)) else (none)) else (none)) = some r := by first | (rw [hji86] at H; exact H) | (simp only [hji86] at H ⊢; exact H)); have hji86w : (IntKind.i64.wrap (((rd_T48 l0 x8_1).f0) - 1)) = ji86 := (i64_w _).trans hji86
               by_cases c87 : 0 ≤ (ji86)
               ·rw [if_pos c87] at H
                have c87b0 := decide_eq_true c87; clear c87
                by_cases c88 : (ji86) < 8
                ·rw [if_pos c88] at H
                 have c88b0 := decide_eq_true c88; clear c88
                 by_cases c90 : x3_1.length < 140737488355328
                 ·rw [if_pos c90] at H
                  have LMc90 := A_ c90; clear c90; obtain ⟨y321, hy321⟩ : ∃ y_ : List Int, y_ = (x3_1 ++ [bt (⟨#[47, 46, 42, 91, 93, 44, 63, 126]⟩ : ByteArray) (ji86)]) := ⟨_, rfl⟩; (replace H : (lex_Show.l0 k1 l0 y321 l0 (l0.length : Int) (wrap64 (x8_1 + 1))) = some r := hy_ hy321 H); have Ny321 := A_ hy321; clear hy321; have H' := A_ H; clear H; have p285 : 0 ≤ (x8_1 : Int) := od_; have q285 : x8_1 < (l0.length : Int) := od_; obtain ⟨ad285, e285, hx285_0, hx285_1, hx285_2⟩ := at_T48 HR0.out x8_1 p285 q285
                  cases e285
                  replace hx285_0 := cl_ HB hx285_0; replace hx285_1 := cl_ HB hx285_1; replace hx285_2 := cl_ HB hx285_2; replace p285 := eq_true p285; replace q285 := eq_true q285; go_wp2_with (first | (refine gD 5 ?_; refine bxe_ 5 #[.int .i64 0, .int .i64 0, .string ⟨#[]⟩] 48 ?_; intro gb286 hg w91 hbox hb; replace HO_3 := A_ (Kd.R_below (hrR_ HO_3.out) hb); have BK286 := A_ (hbox); have GW286 := gs_ w hg; have GE286 := gs_ w hg; replace HB := bs_ hb; clear hb hbox hg; have Z92 := bz3_ BK286; have p89 : 0 ≤ ((ji86) : Int) := od_; have q89 : (ji86) < (8 : Int) := od_; have hx89 := bt_at (⟨#[47, 46, 42, 91, 93, 44, 63, 126]⟩ : ByteArray) (ji86); replace p89 := eq_true p89; replace q89 := eq_true q89) | ((with_reducible refine gate_builtin (b := .append) (xs := #[.tmp 47, .tmp 52]) rfl ?_); at_builtin; refine Kd.R_append (Kd.int .u8) (w0 := w) w.heap.size rfl (.tmp 47) (.tmp 52) 60 5 (.int .u8 0) 1 rfl Try.underlying60 info5 rfl (by decide) (by omega) u3 x3_1 (bt (⟨#[47, 46, 42, 91, 93, 44, 63, 126]⟩ : ByteArray) (ji86)) [.int .u8 (bt (⟨#[47, 46, 42, 91, 93, 44, 63, 126]⟩ : ByteArray) (ji86))] (fun _ => True) (fun _ => False) rfl (by first | (go_simp; done) | (go_simp; rfl)) ?aP (fun _ hk => hk.elim) ?aF ?aO ?aB ?aS ?aL ?_; (case aP => exact rfl); (case aB => exact hs_); (case aF => exact (fun _ _ => trivial)); (case aO => exact (by (with_reducible repeat (first | apply Kd.R_alloc | apply Kd.R_drewN | apply Kd.R_drew)); exact Kd.R_mono (Kd.R_far (p := ⟨gb286, 2, none⟩) (Kd.R_far (p := ⟨gb286, 1, none⟩) (Kd.R_far (p := ⟨gb286, 0, none⟩) (Kd.R_types HO_3.out BK286.out (by decide)) (fun _ hk => hk.2) (.int .i64 ((rd_T48 l0 x8_1).f0))) (fun _ hk => hk.2) (.int .i64 ((rd_T48 l0 x8_1).f1))) (fun _ hk => hk.2) (.string ((rd_T48 l0 x8_1).f2))) (fun _ hk => trivial))); (case aS => exact (below_size hs_)); (case aL => have := LMc90.out; omega); intro v322 w93 ho hb hg hat; rw [← Ny321.out] at ho; replace BK286 := A_ (blk_grown (g := gb286) (o := .cells #[.int .i64 ((rd_T48 l0 x8_1).f0), .int .i64 ((rd_T48 l0 x8_1).f1), .string ((rd_T48 l0 x8_1).f2)] 48 (0, 0)) (pb_ BK286.out) hg (Kd.R_ne HO_3.out BK286.out (by decide))); replace HB := A_ (hb); have HO323 := A_ (ho); clear HO_3; clear ho hb hg hat))
                  go_roundg k1
                  case measure => have := HK1.out; omega
                  case rel => exact ⟨(y321), (wrap64 (x8_1 + 1)), rf_, H', ⟨by have := HK1.out; omega⟩, ⟨fxR_ HO323.out⟩, ⟨hs_⟩⟩
                 ·rw [if_neg c90] at H
                  exact absurd H (by simp)
                ·rw [if_neg c88] at H
                 exact absurd H (by simp)
               ·rw [if_neg c87] at H
                exact absurd H (by simp)
              ·rw [if_neg c85] at H
               have c85b0 : (((rd_T48 l0 x8_1).f0) == 8) = false := beq_eq_false_iff_ne.mpr c85; have c85b1 : (((rd_T48 l0 x8_1).f0) != 8) = true := bne_iff_ne.mpr c85; have H' := A_ H; clear H; have p285 : 0 ≤ (x8_1 : Int) := od_; have q285 : x8_1 < (l0.length : Int) := od_; obtain ⟨ad285, e285, hx285_0, hx285_1, hx285_2⟩ := at_T48 HR0.out x8_1 p285 q285
               cases e285
               replace hx285_0 := cl_ HB hx285_0; replace hx285_1 := cl_ HB hx285_1; replace hx285_2 := cl_ HB hx285_2; replace p285 := eq_true p285; replace q285 := eq_true q285; go_wp2_with (first | (refine gD 5 ?_; refine bxe_ 5 #[.int .i64 0, .int .i64 0, .string ⟨#[]⟩] 48 ?_; intro gb286 hg w94 hbox hb; replace HO_3 := A_ (Kd.R_below (hrR_ HO_3.out) hb); have BK286 := A_ (hbox); have GW286 := gs_ w hg; have GE286 := gs_ w hg; replace HB := bs_ hb; clear hb hbox hg; have Z95 := bz3_ BK286)); go_roundg k1
               case measure => have := HK1.out; omega
               case rel => exact ⟨(x3_1), (wrap64 (x8_1 + 1)), rf_, H', ⟨by have := HK1.out; omega⟩, ⟨by (with_reducible repeat (first | apply Kd.R_alloc | apply Kd.R_drewN | apply Kd.R_drew)); exact Kd.R_mono (Kd.R_far (p := ⟨gb286, 2, none⟩) (Kd.R_far (p := ⟨gb286, 1, none⟩) (Kd.R_far (p := ⟨gb286, 0, none⟩) (Kd.R_types HO_3.out BK286.out (by decide)) (fun _ hk => hk.2) (.int .i64 ((rd_T48 l0 x8_1).f0))) (fun _ hk => hk.2) (.int .i64 ((rd_T48 l0 x8_1).f1))) (fun _ hk => hk.2) (.string ((rd_T48 l0 x8_1).f2))) (fun _ hk => trivial)⟩, ⟨hs_⟩⟩
     ·rw [if_neg c4] at H
      exact absurd H (by simp)
    ·rw [if_neg c3] at H
     exact absurd H (by simp)
   ·rw [if_neg c2] at H
    have c2b0 := decide_eq_false c2; have c2b9 := c2b0; (try simp only [hl325_7] at c2b9); clear c2; obtain rfl := Option.some.inj H; have hcv96 := own_string (P := Try.prog) Try.underlying60 Try.underlying5 Try.underlying9 (Kd.own_of_R HO_3.out); go_wp2; go_ret; exact ⟨re_, hs_⟩
def lim : Int := 1099511627776
def mem (l : List S100) (n : Int) : Prop := ∃ r, r ∈ l ∧ r.f0 ≤ n ∧ n ≤ r.f1
def saneF : Int → List S100 → Prop
  | _, [] => True
  | a, r :: t => a + 2 ≤ r.f0 ∧ r.f0 ≤ r.f1 ∧ r.f1 ≤ lim ∧ saneF r.f1 t
def sane (l : List S100) : Prop := saneF (-lim - 2) l
theorem mem_nil (n : Int) : ¬ mem [] n := fun ⟨_, h, _⟩ => by simp at h
theorem mem_cons (r : S100) (t : List S100) (n : Int) : mem (r :: t) n ↔ (r.f0 ≤ n ∧ n ≤ r.f1) ∨ mem t n := by
  constructor
  · rintro ⟨q, hq, h⟩
    rcases List.mem_cons.1 hq with rfl | hq
    · exact .inl h
    · exact .inr ⟨q, hq, h⟩
  · rintro (h | ⟨q, hq, h⟩)
    · exact ⟨r, List.mem_cons_self, h⟩
    · exact ⟨q, List.mem_cons_of_mem _ hq, h⟩
theorem mem_append (s t : List S100) (n : Int) : mem (s ++ t) n ↔ mem s n ∨ mem t n := by
  induction s with
  | nil => simp [mem_nil]
  | cons r s ih => rw [List.cons_append, mem_cons, mem_cons, ih, or_assoc]
theorem saneF_mem : ∀ {a : Int} {l : List S100}, saneF a l → ∀ {n : Int}, mem l n → a + 2 ≤ n ∧ n ≤ lim
  | _, [], _, _, h => absurd h (mem_nil _)
  | a, r :: t, ⟨h1, h2, h3, h4⟩, n, h => by
    rcases (mem_cons _ _ _).1 h with h | h
    · omega
    · have := saneF_mem h4 h
      omega
theorem saneF_le {a b : Int} {l : List S100} (h : saneF a l) (hb : b ≤ a) : saneF b l := by
  cases l with
  | nil => trivial
  | cons r t =>
    obtain ⟨h1, h2, h3, h4⟩ := h
    exact ⟨by omega, h2, h3, h4⟩
def ins (x : S100) : List S100 → List S100
  | [] => [x]
  | q :: t => if q.f1 < x.f0 - 1 then q :: ins x t else if x.f1 + 1 < q.f0 then x :: q :: t else ins ⟨min x.f0 q.f0, max x.f1 q.f1⟩ t
def clamp (r : S100) : S100 := ⟨max r.f0 (-lim), min r.f1 lim⟩
def step (s : List S100) (r : S100) : List S100 := if (clamp r).f0 ≤ (clamp r).f1 then ins (clamp r) s else s
theorem Ev.ift {α : Type} {c : Prop} [Decidable c] {g f : Nat → Option α} {r : α} (hc : c) (h : Ev g r) : Ev (fun k => if c then g k else f k) r := Ev.congr (fun k => if_pos hc) h
theorem Ev.iff_ {α : Type} {c : Prop} [Decidable c] {g f : Nat → Option α} {r : α} (hc : ¬ c) (h : Ev f r) : Ev (fun k => if c then g k else f k) r := Ev.congr (fun k => if_neg hc) h
theorem Ev.bnow {α β : Type} {a : Option α} {f : Nat → α → Option β} {x : α} {r : β} (h : a = some x) (k : Ev (fun n => f n x) r) : Ev (fun n => a.bind (f n)) r := Ev.congr (fun n => by rw [h]; rfl) k
theorem u8eq {x y : UInt8} (h : x.toNat = y.toNat) : x = y := UInt8.toNat_inj.1 h
theorem sane_all {l : List UInt8} (h : saneL l = true) : l.all okB = true ∧ l ≠ [] ∧ l.length ≤ 4 := by
  unfold saneL at h
  simp only [Bool.and_eq_true, decide_eq_true_eq] at h
  exact ⟨h.1.1, h.1.2, h.2⟩
theorem bsize (s : ByteArray) : s.size = s.data.toList.length := by simp
theorem Sane_l0 : ∀ (t p : List S100) (last : Int), (p ++ t).length ≤ 4611686018427387904 → -lim - 2 ≤ last → last ≤ lim →
    ∃ b, Ev (fun k => runs_Sane.l0 k last (p ++ t) ((p ++ t).length : Int) (p.length : Int)) b ∧ (b = true ↔ saneF last t)
  | [], p, last, _, _, _ => ⟨true, Ev.step (f := fun _ => some true) (fun k => by simp only [runs_Sane.l0]; rw [if_neg (at_end p)]) (Ev.now true), by simp [saneF]⟩
  | r :: t, p, last, hn, h1, h2 => by
    have e : ∀ k, runs_Sane.l0 (k + 1) last (p ++ r :: t) ((p ++ r :: t).length : Int) (p.length : Int) = (if r.f0 > r.f1 then some false else if r.f0 < last + 2 then some false else if r.f1 > 1099511627776 then some false else runs_Sane.l0 k r.f1 (p ++ r :: t) ((p ++ r :: t).length : Int) ((p ++ [r]).length : Int)) := fun k => by
      simp only [runs_Sane.l0]
      rw [if_pos (at_lt p r t), if_pos (at_0 p), if_pos (at_lt p r t), at_rd, at_next hn, w64 (by unfold lim at h1; omega) (by unfold lim at h2; omega)]
    by_cases c1 : r.f0 > r.f1
    · exact ⟨false, Ev.step (f := fun _ => some false) (fun k => by rw [e, if_pos c1]) (Ev.now _), by simp [saneF]; omega⟩
    by_cases c2 : r.f0 < last + 2
    · exact ⟨false, Ev.step (f := fun _ => some false) (fun k => by rw [e, if_neg c1, if_pos c2]) (Ev.now _), by simp [saneF]; omega⟩
    by_cases c3 : r.f1 > 1099511627776
    · exact ⟨false, Ev.step (f := fun _ => some false) (fun k => by rw [e, if_neg c1, if_neg c2, if_pos c3]) (Ev.now _), by simp [saneF, lim]; omega⟩
    obtain ⟨b, hb, hs⟩ := Sane_l0 t (p ++ [r]) r.f1 (by rw [← at_app]; exact hn) (by omega) (by unfold lim; omega)
    rw [← at_app] at hb
    refine ⟨b, Ev.step (fun k => by rw [e, if_neg c1, if_neg c2, if_neg c3]) hb, ?_⟩
    rw [hs, saneF]
    unfold lim
    exact ⟨fun h => ⟨by omega, by omega, by omega, h⟩, fun h => h.2.2.2⟩
theorem Sane_f (l : List S100) (hn : l.length ≤ 4611686018427387904) : ∃ b, Ev (fun k => runs_Sane.f k l) b ∧ (b = true ↔ sane l) := by
  obtain ⟨b, hb, hs⟩ := Sane_l0 l [] (-lim - 2) (by simpa using hn) (by omega) (by unfold lim; omega)
  exact ⟨b, hb, hs⟩
theorem mx_max (a b : Int) : mx a b = max a b := by unfold mx; omega
theorem mn_min (a b : Int) : mn a b = min a b := by unfold mn; omega
theorem sknown_s {l : List S100} (hs : sane l) (hn : l.length < 4398046511104) : Ev (fun k => sets_known.f k l) l := by
  obtain ⟨b, hb, h⟩ := Sane_f l (by omega)
  obtain rfl := h.2 hs
  exact Ev.bind hb (Ev.ift rfl (Ev.now _))
theorem mem_one (r : S100) (n : Int) : mem [r] n ↔ r.f0 ≤ n ∧ n ≤ r.f1 := by rw [mem_cons]; simp [mem_nil]
def both (r q : S100) : S100 := ⟨max r.f0 q.f0, min r.f1 q.f1⟩
def meet2 : List S100 → List S100 → List S100
  | [], _ => []
  | _ :: _, [] => []
  | r :: s, q :: t => (if (both r q).f0 ≤ (both r q).f1 then [both r q] else []) ++ (if r.f1 < q.f1 then meet2 s (q :: t) else meet2 (r :: s) t)
termination_by s t => s.length + t.length
theorem meet2_nil (s : List S100) : meet2 s [] = [] := by cases s <;> simp [meet2]
theorem meet2_cons (r : S100) (s : List S100) (q : S100) (t : List S100) : meet2 (r :: s) (q :: t) = (if (both r q).f0 ≤ (both r q).f1 then [both r q] else []) ++ (if r.f1 < q.f1 then meet2 s (q :: t) else meet2 (r :: s) t) := by rw [meet2]
theorem meet2_len : ∀ (m : Nat) (s t : List S100), s.length + t.length = m → (meet2 s t).length ≤ s.length + t.length
  | _, [], t, _ => by simp [meet2]
  | _, s, [], _ => by simp [meet2_nil]
  | m + 1, r :: s, q :: t, e => by
    simp only [List.length_cons] at e
    rw [meet2_cons, List.length_append]
    have h1 : (if (both r q).f0 ≤ (both r q).f1 then [both r q] else []).length ≤ 1 := by split <;> simp
    by_cases c : r.f1 < q.f1
    · rw [if_pos c]
      have := meet2_len m s (q :: t) (by simp only [List.length_cons]; omega)
      simp only [List.length_cons] at this ⊢
      omega
    · rw [if_neg c]
      have := meet2_len m (r :: s) t (by simp only [List.length_cons]; omega)
      simp only [List.length_cons] at this ⊢
      omega
theorem meet2_sane : ∀ (m : Nat) (s t : List S100) (a b : Int), s.length + t.length = m → saneF a s → saneF b t → saneF (max a b) (meet2 s t)
  | _, [], t, _, _, _, _, _ => by simp [meet2, saneF]
  | _, s, [], _, _, _, _, _ => by simp [meet2_nil, saneF]
  | m + 1, r :: s, q :: t, a, b, e, hs, ht => by
    simp only [List.length_cons] at e
    obtain ⟨r1, r2, r3, r4⟩ := hs
    obtain ⟨q1, q2, q3, q4⟩ := ht
    have ht : saneF (if r.f1 < q.f1 then max r.f1 b else max a q.f1) (if r.f1 < q.f1 then meet2 s (q :: t) else meet2 (r :: s) t) := by
      split
      · exact meet2_sane m s (q :: t) _ _ (by simp only [List.length_cons]; omega) r4 ⟨q1, q2, q3, q4⟩
      · exact meet2_sane m (r :: s) t _ _ (by simp only [List.length_cons]; omega) ⟨r1, r2, r3, r4⟩ q4
    rw [meet2_cons]
    by_cases c : (both r q).f0 ≤ (both r q).f1
    · rw [if_pos c]
      simp only [both] at c
      refine ⟨by simp only [both]; omega, by simp only [both]; exact c, by simp only [both]; omega, saneF_le ht ?_⟩
      simp only [both]
      split <;> omega
    · rw [if_neg c, List.nil_append]
      refine saneF_le ht ?_
      split <;> omega
theorem meet2_mem : ∀ (m : Nat) (s t : List S100) (a b : Int), s.length + t.length = m → saneF a s → saneF b t → ∀ n, mem (meet2 s t) n ↔ mem s n ∧ mem t n
  | _, [], t, _, _, _, _, _, n => by simp [meet2, mem_nil]
  | _, s, [], _, _, _, _, _, n => by simp [meet2_nil, mem_nil]
  | m + 1, r :: s, q :: t, a, b, e, hs, ht, n => by
    simp only [List.length_cons] at e
    have hs0 := hs; have ht0 := ht
    obtain ⟨r1, r2, r3, r4⟩ := hs
    obtain ⟨q1, q2, q3, q4⟩ := ht
    have ho : mem (if (both r q).f0 ≤ (both r q).f1 then [both r q] else []) n ↔ (r.f0 ≤ n ∧ n ≤ r.f1) ∧ q.f0 ≤ n ∧ n ≤ q.f1 := by
      by_cases c : (both r q).f0 ≤ (both r q).f1
      · rw [if_pos c, mem_one]; simp only [both]; omega
      · rw [if_neg c]; simp only [both] at c; constructor
        · exact fun h => absurd h (mem_nil _)
        · intro h; omega
    rw [meet2_cons, mem_append, ho]
    by_cases c : r.f1 < q.f1
    · rw [if_pos c, meet2_mem m s (q :: t) _ _ (by simp only [List.length_cons]; omega) r4 ht0 n, mem_cons, mem_cons]
      have h1 : mem t n → q.f1 + 2 ≤ n := fun h => (saneF_mem q4 h).1
      constructor
      · rintro (h | h)
        · exact ⟨.inl h.1, .inl h.2⟩
        · exact ⟨.inr h.1, h.2⟩
      · rintro ⟨h | h, h'⟩
        · rcases h' with h' | h'
          · exact .inl ⟨h, h'⟩
          · have := h1 h'; omega
        · exact .inr ⟨h, h'⟩
    · rw [if_neg c, meet2_mem m (r :: s) t _ _ (by simp only [List.length_cons]; omega) hs0 q4 n, mem_cons, mem_cons]
      have h1 : mem s n → r.f1 + 2 ≤ n := fun h => (saneF_mem r4 h).1
      constructor
      · rintro (h | h)
        · exact ⟨.inl h.1, .inl h.2⟩
        · exact ⟨h.1, .inr h.2⟩
      · rintro ⟨h, h' | h'⟩
        · rcases h with h | h
          · exact .inl ⟨h, h'⟩
          · have := h1 h; omega
        · exact .inr ⟨h, h'⟩
theorem Meet_l0 : ∀ (m : Nat) (s t p q acc : List S100), s.length + t.length = m → (p ++ s).length < 4398046511104 → (q ++ t).length < 4398046511104 → acc.length + s.length + t.length < 8796093022208 →
    Ev (fun k => sets_Meet.l0 k (p ++ s) (q ++ t) acc (p.length : Int) (q.length : Int)) (acc ++ meet2 s t)
  | _, [], t, p, q, acc, _, _, _, _ => by
    refine Ev.step (f := fun k => sets_Meet.j1 k (p ++ []) (q ++ t) acc (p.length : Int) (q.length : Int) false) (fun k => by rw [sets_Meet.l0, if_neg (at_end p)]) ?_
    refine Ev.step (f := fun _ => some (acc ++ meet2 [] t)) (fun k => by rw [sets_Meet.j1, if_neg (by simp)]; simp [meet2]) (Ev.now _)
  | _, r :: s, [], p, q, acc, _, _, _, _ => by
    refine Ev.step (f := fun k => sets_Meet.j1 k (p ++ r :: s) (q ++ []) acc (p.length : Int) (q.length : Int) false) (fun k => by rw [sets_Meet.l0, if_pos (at_lt p r s), decide_eq_false (at_end q)]) ?_
    refine Ev.step (f := fun _ => some (acc ++ meet2 (r :: s) [])) (fun k => by rw [sets_Meet.j1, if_neg (by simp)]; simp [meet2_nil]) (Ev.now _)
  | m + 1, r :: s, x :: t, p, q, acc, e, h1, h2, h3 => by
    simp only [List.length_cons] at e h3
    refine Ev.step (f := fun k => sets_Meet.j1 k (p ++ r :: s) (q ++ x :: t) acc (p.length : Int) (q.length : Int) true) (fun k => by rw [sets_Meet.l0, if_pos (at_lt p r s), decide_eq_true (at_lt q x t)]) ?_
    have hn1 := at_next (p := p) (r := r) (t := s) (by omega)
    have hn2 := at_next (p := q) (r := x) (t := t) (by omega)
    have hgo : ∀ acc' : List S100, acc'.length + (s.length + 1) + (t.length + 1) ≤ acc.length + (s.length + 1) + (t.length + 1) + 1 →
        Ev (fun k => if (r.f1) < (x.f1) then sets_Meet.l0 k (p ++ r :: s) (q ++ x :: t) acc' (wrap64 ((p.length : Int) + 1)) (q.length : Int) else sets_Meet.l0 k (p ++ r :: s) (q ++ x :: t) acc' (p.length : Int) (wrap64 ((q.length : Int) + 1)))
          (acc' ++ (if r.f1 < x.f1 then meet2 s (x :: t) else meet2 (r :: s) t)) := fun acc' ha => by
      by_cases c : r.f1 < x.f1
      · rw [if_pos c]
        refine Ev.ift c ?_
        rw [hn1]
        have := Meet_l0 m s (x :: t) (p ++ [r]) q acc' (by simp only [List.length_cons]; omega) (by rw [← at_app]; exact h1) h2 (by simp only [List.length_cons]; omega)
        rw [← at_app] at this
        exact this
      · rw [if_neg c]
        refine Ev.iff_ c ?_
        rw [hn2]
        have := Meet_l0 m (r :: s) t p (q ++ [x]) acc' (by simp only [List.length_cons]; omega) h1 (by rw [← at_app]; exact h2) (by simp only [List.length_cons]; omega)
        rw [← at_app] at this
        exact this
    rw [meet2_cons]
    by_cases c : (both r x).f0 ≤ (both r x).f1
    · rw [if_pos c, ← List.append_assoc]
      refine Ev.step (fun k => ?_) (hgo (acc ++ [both r x]) (by rw [List.length_append, List.length_singleton]; omega))
      rw [sets_Meet.j1, if_pos rfl, if_pos (at_0 p), if_pos (at_lt p r s), if_pos (at_0 q), if_pos (at_lt q x t), at_rd, at_rd, mx_max, mn_min, if_pos (show max r.f0 x.f0 ≤ min r.f1 x.f1 from c), if_pos (by omega)]
      rfl
    · rw [if_neg c, List.nil_append]
      refine Ev.step (fun k => ?_) (hgo acc (by omega))
      rw [sets_Meet.j1, if_pos rfl, if_pos (at_0 p), if_pos (at_lt p r s), if_pos (at_0 q), if_pos (at_lt q x t), at_rd, at_rd, mx_max, mn_min, if_neg (show ¬ max r.f0 x.f0 ≤ min r.f1 x.f1 from c)]
theorem Meet_s {a b : List S100} (ha : sane a) (hb : sane b) (h : a.length + b.length < 4398046511104) : Ev (fun k => sets_Meet.f k a b) (meet2 a b) ∧ (∀ n, mem (meet2 a b) n ↔ mem a n ∧ mem b n) ∧ sane (meet2 a b) ∧ (meet2 a b).length ≤ a.length + b.length := by
  refine ⟨Ev.bind (sknown_s ha (by omega)) (Ev.bind (sknown_s hb (by omega)) ?_), fun n => ?_, ?_, ?_⟩
  · have := Meet_l0 _ a b [] [] [] rfl (by simp; omega) (by simp; omega) (by simp; omega)
    simpa using this
  · exact meet2_mem _ a b _ _ rfl ha hb n
  · have := meet2_sane _ a b _ _ rfl ha hb
    rw [Int.max_self] at this
    exact this
  · exact meet2_len _ a b rfl
theorem setL_snoc (c : UInt8) : ∀ (l : List UInt8) (out : List S100), setL (l ++ [c]) out = (setL l out).flatMap (stepR c)
  | [], out => rfl
  | x :: l, out => by simp only [List.cons_append, setL]; exact setL_snoc c l _
theorem setL_fine (s : ByteArray) (h : saneL s.data.toList = true) : fine (setL s.data.toList [⟨0, 0⟩]) 10000 := by
  have ho := ok_of (s := s) (congrArg some h)
  have step : ∀ p, p ≤ s.size → ∃ out, setInv s p out := fun p => by
    induction p with
    | zero => exact fun _ => ⟨_, setInv_0 s⟩
    | succ p ih =>
      intro hp
      obtain ⟨out, hi⟩ := ih (by omega)
      exact ⟨_, setInv_step (by omega) (ho p (by omega)) hi⟩
  obtain ⟨out, h1, h2, h3⟩ := step s.size (Nat.le_refl _)
  have hd : setL (s.data.toList.drop s.size) out = out := by rw [List.drop_eq_nil_of_le (by rw [bsize]; exact Nat.le_refl _)]; rfl
  rw [hd] at h1
  rw [← h1]
  have h4 : s.size ≤ 4 := by rw [bsize]; exact (sane_all h).2.2
  have h10 : (10 ^ s.size : Nat) ≤ 10000 := Nat.pow_le_pow_right (n := 10) (by decide) h4
  have : ((10 ^ s.size : Nat) : Int) ≤ 10000 := Int.ofNat_le.2 h10
  exact fun q hq => by obtain ⟨a, b, c⟩ := h2 q hq; exact ⟨a, b, by omega⟩
theorem bt_list (s : ByteArray) (i : Nat) (h : i < s.data.toList.length) : bt s (i : Int) = ((s.data.toList[i]).toNat : Int) := by
  unfold bt
  rw [Int.toNat_natCast, dif_pos (by rw [bsize]; exact h)]
  simp [ByteArray.getElem_eq_getElem_data]
theorem pow_small {m n : Nat} (h : m ≤ n) (hn : n ≤ 4) : (10 ^ m : Nat) ≤ 10000 := Nat.pow_le_pow_right (n := 10) (by decide) (Nat.le_trans h hn)
def refR : List UInt8 → Nat → Bool
  | [], _ => true
  | c :: r, u => (decide (c.toNat = 88) || decide (c.toNat = 48 + u % 10)) && refR r (u / 10)
def refV (s : List UInt8) (n : Int) : Bool := saneL s && decide (0 ≤ n) && decide (n < ((10 ^ s.length : Nat) : Int)) && refR s.reverse n.toNat
def gap : Int → List S100 → Prop
  | _, [] => True
  | a, r :: t => a + 2 ≤ r.f0 ∧ r.f0 ≤ r.f1 ∧ gap r.f1 t
theorem gap_le {a b : Int} {l : List S100} (h : gap a l) (hb : b ≤ a) : gap b l := by
  cases l with
  | nil => trivial
  | cons r t => exact ⟨by have := h.1; omega, h.2.1, h.2.2⟩
theorem gap_app : ∀ {u : List S100} {a c : Int} {v : List S100}, gap a u → (∀ x, x ∈ u → x.f1 ≤ c) → a ≤ c → gap c v → gap a (u ++ v)
  | [], a, c, v, _, _, hc, hv => gap_le hv hc
  | x :: u, a, c, v, ⟨h1, h2, h3⟩, hu, hc, hv => ⟨h1, h2, gap_app h3 (fun y hy => hu y (List.mem_cons_of_mem _ hy)) (hu x List.mem_cons_self) hv⟩
theorem gap_sane : ∀ {l : List S100} {a : Int}, gap a l → (∀ x, x ∈ l → x.f1 ≤ lim) → saneF a l
  | [], _, _, _ => trivial
  | x :: l, a, ⟨h1, h2, h3⟩, h => ⟨h1, h2, h x List.mem_cons_self, gap_sane h3 (fun y hy => h y (List.mem_cons_of_mem _ hy))⟩
theorem gap_ones (c : Int) : ∀ (m : Nat) (lo a : Int), a + 2 ≤ lo * 10 + (c - 48) → gap a ((upto lo m).map (one c))
  | 0, _, _, _ => trivial
  | m + 1, lo, a, h => ⟨h, Int.le_refl _, gap_ones c m (lo + 1) _ (by simp only [one]; omega)⟩
theorem gap_step (c : UInt8) (hc : 48 ≤ c.toNat ∧ c.toNat ≤ 57 ∨ c.toNat = 88) : ∀ (l : List S100) (a : Int), gap a l → gap (10 * a + 9) (l.flatMap (stepR c))
  | [], _, _ => trivial
  | q :: l, a, ⟨h1, h2, h3⟩ => by
    rw [List.flatMap_cons]
    refine gap_app (c := 10 * q.f1 + 9) ?_ ?_ (by omega) (gap_step c hc l q.f1 h3)
    · unfold stepR
      split
      · exact ⟨by simp only; omega, by simp only; omega, trivial⟩
      · exact gap_ones (c.toNat : Int) _ q.f0 _ (by omega)
    · intro x hx
      unfold stepR at hx
      split at hx
      · obtain rfl := List.mem_singleton.1 hx
        simp only; omega
      · obtain ⟨n, hn, rfl⟩ := List.mem_map.1 hx
        have := (upto_mem _ _ _).1 hn
        simp only; omega
theorem gap_set : ∀ (r : List UInt8), (∀ c, c ∈ r → 48 ≤ c.toNat ∧ c.toNat ≤ 57 ∨ c.toNat = 88) → gap (-((10 ^ r.length : Nat) : Int) - 1) (setL r.reverse [(⟨0, 0⟩ : S100)])
  | [], _ => ⟨by decide, Int.le_refl _, trivial⟩
  | c :: r, h => by
    have ih := gap_step c (h c List.mem_cons_self) _ _ (gap_set r (fun x hx => h x (List.mem_cons_of_mem _ hx)))
    rw [List.reverse_cons, setL_snoc, List.length_cons, Nat.pow_succ]
    refine gap_le ih ?_
    rw [Int.natCast_mul]
    generalize ((10 ^ r.length : Nat) : Int) = q
    omega
theorem mem_step (c : UInt8) (hc : 48 ≤ c.toNat ∧ c.toNat ≤ 57 ∨ c.toNat = 88) (l : List S100) (n : Int) : mem (l.flatMap (stepR c)) n ↔ mem l (n / 10) ∧ (c.toNat = 88 ∨ (c.toNat : Int) = 48 + n % 10) := by
  constructor
  · rintro ⟨x, hx, h1, h2⟩
    obtain ⟨q, hq, hx⟩ := List.mem_flatMap.1 hx
    unfold stepR at hx
    by_cases h : c.toNat = 88
    · rw [if_pos h] at hx
      obtain rfl := List.mem_singleton.1 hx
      simp only at h1 h2
      exact ⟨⟨q, hq, by omega, by omega⟩, .inl h⟩
    · rw [if_neg h] at hx
      obtain ⟨m, hm, rfl⟩ := List.mem_map.1 hx
      have hm := (upto_mem _ _ _).1 hm
      simp only at h1 h2
      exact ⟨⟨q, hq, by omega, by omega⟩, .inr (by omega)⟩
  · rintro ⟨⟨q, hq, h1, h2⟩, h⟩
    by_cases h8 : c.toNat = 88
    · exact ⟨⟨q.f0 * 10, q.f1 * 10 + 9⟩, List.mem_flatMap.2 ⟨q, hq, by unfold stepR; rw [if_pos h8]; exact List.mem_singleton.2 rfl⟩, by simp only; omega, by simp only; omega⟩
    · have h9 := h.resolve_left h8
      refine ⟨⟨(n / 10) * 10 + ((c.toNat : Int) - 48), (n / 10) * 10 + ((c.toNat : Int) - 48)⟩, List.mem_flatMap.2 ⟨q, hq, ?_⟩, by simp only; omega, by simp only; omega⟩
      unfold stepR
      rw [if_neg h8]
      exact List.mem_map.2 ⟨n / 10, (upto_mem _ _ _).2 ⟨h1, by omega⟩, rfl⟩
theorem mem_set : ∀ (r : List UInt8), (∀ c, c ∈ r → 48 ≤ c.toNat ∧ c.toNat ≤ 57 ∨ c.toNat = 88) → ∀ n : Int, mem (setL r.reverse [(⟨0, 0⟩ : S100)]) n ↔ 0 ≤ n ∧ n < ((10 ^ r.length : Nat) : Int) ∧ refR r n.toNat = true
  | [], _, n => by
    rw [List.reverse_nil, setL, mem_cons]
    simp [mem_nil, refR]; omega
  | c :: r, h, n => by
    have ih := mem_set r (fun x hx => h x (List.mem_cons_of_mem _ hx)) (n / 10)
    rw [List.reverse_cons, setL_snoc, mem_step c (h c List.mem_cons_self), ih, List.length_cons, Nat.pow_succ, Int.natCast_mul, refR, Bool.and_eq_true, Bool.or_eq_true, decide_eq_true_eq, decide_eq_true_eq]
    generalize ((10 ^ r.length : Nat) : Int) = q
    constructor
    · rintro ⟨⟨h1, h2, h3⟩, h4⟩
      have e : (n / 10).toNat = n.toNat / 10 := by omega
      rw [e] at h3
      exact ⟨by omega, by show n < q * 10; omega, by omega, h3⟩
    · rintro ⟨h1, h2, h4, h3⟩
      have e : (n / 10).toNat = n.toNat / 10 := by omega
      have h2 : n < q * 10 := h2
      rw [e]
      exact ⟨⟨by omega, by omega, h3⟩, by omega⟩
theorem sane_ok {l : List UInt8} (hs : saneL l = true) : ∀ c, c ∈ l.reverse → 48 ≤ c.toNat ∧ c.toNat ≤ 57 ∨ c.toNat = 88 := fun c hc => of_decide_eq_true (List.all_eq_true.1 (sane_all hs).1 c (List.mem_reverse.1 hc))
theorem set_is (s : ByteArray) (hs : saneL s.data.toList = true) : sane (setL s.data.toList [⟨0, 0⟩]) ∧ ∀ n, mem (setL s.data.toList [⟨0, 0⟩]) n ↔ refV s.data.toList n = true := by
  have h1 := gap_set s.data.toList.reverse (sane_ok hs)
  have h2 := mem_set s.data.toList.reverse (sane_ok hs)
  have hf := setL_fine s hs
  rw [List.reverse_reverse, List.length_reverse] at h1 h2
  have hp := pow_small (m := s.data.toList.length) (n := 4) (sane_all hs).2.2 (by omega)
  refine ⟨saneF_le (gap_sane h1 (fun x hx => by have := (hf x hx).2.2; unfold lim; omega)) (by unfold lim; omega), fun n => ?_⟩
  rw [h2 n]
  unfold refV
  rw [hs, Bool.true_and, Bool.and_eq_true, Bool.and_eq_true, decide_eq_true_eq, decide_eq_true_eq, and_assoc]
def setV (s : ByteArray) : List S100 := if saneL s.data.toList = true then setL s.data.toList [⟨0, 0⟩] else []
theorem setL_len (s : ByteArray) (h : saneL s.data.toList = true) : (setL s.data.toList [⟨0, 0⟩]).length ≤ 1000000 := by
  have ho := ok_of (s := s) (congrArg some h)
  have step : ∀ p, p ≤ s.size → ∃ out, setInv s p out := fun p => by
    induction p with
    | zero => exact fun _ => ⟨_, setInv_0 s⟩
    | succ p ih =>
      intro hp
      obtain ⟨out, hi⟩ := ih (by omega)
      exact ⟨_, setInv_step (by omega) (ho p (by omega)) hi⟩
  obtain ⟨out, h1, h2, h3⟩ := step s.size (Nat.le_refl _)
  have hd : setL (s.data.toList.drop s.size) out = out := by rw [List.drop_eq_nil_of_le (by rw [bsize]; exact Nat.le_refl _)]; rfl
  rw [hd] at h1
  rw [← h1]
  have h4 : s.size ≤ 4 := by rw [bsize]; exact (sane_all h).2.2
  have hl : lenB s.size ≤ 1000000 := by
    rcases (by omega : s.size = 0 ∨ s.size = 1 ∨ s.size = 2 ∨ s.size = 3 ∨ s.size = 4) with e | e | e | e | e <;> rw [e] <;> decide
  omega
theorem refV_sane {l : List UInt8} {n : Int} (h : saneL l = false) : refV l n = false := by unfold refV; rw [h]; rfl
theorem setV_is (s : ByteArray) : sane (setV s) ∧ (setV s).length ≤ 1000000 ∧ ∀ n, mem (setV s) n ↔ refV s.data.toList n = true := by
  unfold setV
  by_cases h : saneL s.data.toList = true
  · rw [if_pos h]
    exact ⟨(set_is s h).1, setL_len s h, (set_is s h).2⟩
  · rw [if_neg h]
    refine ⟨trivial, by simp, fun n => ?_⟩
    rw [refV_sane (Bool.eq_false_iff.2 h)]
    simp [mem_nil]
def numsR (r : S100) : List Int := upto r.f0 (r.f1 + 1 - r.f0).toNat
theorem nums_l1 (s : List S100) (i lo hi R' : Int) (hh : hi ≤ 1000) {R : List Int} : ∀ (m : Nat) (x : Int) (acc : List Int), 0 ≤ x → x + m = hi + 1 ∨ (m = 0 ∧ hi < x) → acc.length + m < 17592186044416 →
    Ev (fun k => point_numbers.l0 k (acc ++ upto x m) s (s.length : Int) (wrap64 (i + 1))) R → Ev (fun k => point_numbers.l1 k acc x s (s.length : Int) i lo hi) R
  | 0, x, acc, h0, hx, hl, h => by
    refine Ev.step (f := fun k => point_numbers.l0 k acc s (s.length : Int) (wrap64 (i + 1))) (fun k => by rw [point_numbers.l1, if_neg (by omega)]) ?_
    simpa [upto] using h
  | m + 1, x, acc, h0, hx, hl, h => by
    refine Ev.step (f := fun k => point_numbers.l1 k (acc ++ [x]) (x + 1) s (s.length : Int) i lo hi) (fun k => by rw [point_numbers.l1, if_pos (by omega), if_pos (by omega), w64 (by omega) (by omega)]) ?_
    refine nums_l1 s i lo hi R' hh m (x + 1) (acc ++ [x]) (by omega) (by omega) (by rw [List.length_append, List.length_singleton]; omega) ?_
    rw [List.append_assoc, List.singleton_append]
    exact h
theorem nums_l0 : ∀ (t p : List S100) (acc : List Int), (∀ r, r ∈ t → 1 ≤ r.f0 ∧ r.f1 ≤ 31) → acc.length + 32 * t.length < 17592186044416 → (p ++ t).length ≤ 4611686018427387904 →
    Ev (fun k => point_numbers.l0 k acc (p ++ t) ((p ++ t).length : Int) (p.length : Int)) (acc ++ t.flatMap numsR)
  | [], p, acc, _, _, _ => Ev.step (f := fun _ => some (acc ++ [])) (fun k => by rw [point_numbers.l0, if_neg (at_end p), List.append_nil]) (Ev.now _)
  | r :: t, p, acc, hr, hl, hp => by
    have h1 := hr r List.mem_cons_self
    refine Ev.step (f := fun k => point_numbers.l1 k acc r.f0 (p ++ r :: t) ((p ++ r :: t).length : Int) (p.length : Int) r.f0 r.f1) (fun k => by rw [point_numbers.l0, if_pos (at_lt p r t), if_pos (at_0 p), if_pos (at_lt p r t), at_rd]) ?_
    have hm : (r.f1 + 1 - r.f0).toNat ≤ 31 := by omega
    rw [List.length_cons] at hl
    refine nums_l1 (p ++ r :: t) (p.length : Int) r.f0 r.f1 0 (by omega) (r.f1 + 1 - r.f0).toNat r.f0 acc (by omega) (by omega) (by omega) ?_
    rw [at_next hp]
    have := nums_l0 t (p ++ [r]) (acc ++ numsR r) (fun q hq => hr q (List.mem_cons_of_mem _ hq)) (by rw [List.length_append]; unfold numsR; rw [upto_len]; omega) (by rw [← at_app]; exact hp)
    rw [← at_app] at this
    rw [List.flatMap_cons, ← List.append_assoc]
    exact this
def anyV (l : List UInt8) (i : Int) : Nat → Bool
  | 0 => false
  | m + 1 => refV l i || anyV l (i + 1) m
theorem anyV_iff (l : List UInt8) : ∀ (m : Nat) (i : Int), anyV l i m = true ↔ ∃ n, i ≤ n ∧ n < i + m ∧ refV l n = true
  | 0, i => by
    simp only [anyV]
    exact ⟨fun h => absurd h (by simp), fun ⟨n, h1, h2, _⟩ => by omega⟩
  | m + 1, i => by
    rw [anyV, Bool.or_eq_true, anyV_iff l m (i + 1)]
    constructor
    · rintro (h | ⟨n, h1, h2, h3⟩)
      · exact ⟨i, by omega, by omega, h⟩
      · exact ⟨n, by omega, by omega, h3⟩
    · rintro ⟨n, h1, h2, h3⟩
      rcases (by omega : n = i ∨ i + 1 ≤ n) with rfl | h
      · exact .inl h3
      · exact .inr ⟨n, h, by omega, h3⟩
theorem numbers_f (s : ByteArray) (m : Nat) (hm : 1 ≤ m ∧ m ≤ 31) : ∃ L : List Int, Ev (fun k => point_numbers.f k s (m : Int)) L ∧ (L ≠ [] ↔ anyV s.data.toList 1 m = true) := by
  obtain ⟨h1, h2, h3⟩ := setV_is s
  have hb : sane [(⟨1, (m : Int)⟩ : S100)] := ⟨by show -lim - 2 + 2 ≤ (1 : Int); unfold lim; omega, by show (1 : Int) ≤ (m : Int); omega, by show (m : Int) ≤ lim; unfold lim; omega, trivial⟩
  obtain ⟨e1, e2, e3, e4⟩ := Meet_s h1 hb (by simp; omega)
  have hin : ∀ r, r ∈ meet2 (setV s) [(⟨1, (m : Int)⟩ : S100)] → r.f0 ≤ r.f1 ∧ 1 ≤ r.f0 ∧ r.f1 ≤ (m : Int) := fun r hr => by
    have hle : r.f0 ≤ r.f1 := by
      have : ∀ {a : Int} {l : List S100}, saneF a l → ∀ q, q ∈ l → q.f0 ≤ q.f1 := by
        intro a l
        induction l generalizing a with
        | nil => intro _ q hq; cases hq
        | cons x t ih =>
          intro h q hq
          rcases List.mem_cons.1 hq with rfl | hq
          · exact h.2.1
          · exact ih h.2.2.2 q hq
      exact this e3 r hr
    have ha := (e2 r.f0).1 ⟨r, hr, Int.le_refl _, hle⟩
    have hc := (e2 r.f1).1 ⟨r, hr, hle, Int.le_refl _⟩
    have ha := (mem_one _ _).1 ha.2
    have hc := (mem_one _ _).1 hc.2
    simp only at ha hc
    exact ⟨hle, ha.1, hc.2⟩
  refine ⟨(meet2 (setV s) [(⟨1, (m : Int)⟩ : S100)]).flatMap numsR, ?_, ?_⟩
  · refine Ev.bnow (x := setV s) rfl ?_
    refine Ev.bind (Ev.bind e1 (Ev.now _)) ?_
    have := nums_l0 (meet2 (setV s) [(⟨1, (m : Int)⟩ : S100)]) [] [] (fun r hr => ⟨(hin r hr).2.1, by have := (hin r hr).2.2; omega⟩) (by simp at e4 ⊢; omega) (by simp at e4 ⊢; omega)
    simpa using this
  · rw [anyV_iff]
    constructor
    · intro h
      obtain ⟨n, hn⟩ := List.exists_mem_of_ne_nil _ h
      obtain ⟨r, hr, hn⟩ := List.mem_flatMap.1 hn
      have hn := (upto_mem _ _ _).1 hn
      obtain ⟨a, b, c⟩ := hin r hr
      have hmem := (e2 n).1 ⟨r, hr, hn.1, by omega⟩
      exact ⟨n, by omega, by omega, (h3 n).1 hmem.1⟩
    · rintro ⟨n, ha, hc, hv⟩
      obtain ⟨r, hr, hn1, hn2⟩ := (e2 n).2 ⟨(h3 n).2 hv, (mem_one _ _).2 ⟨by simp only; omega, by simp only; omega⟩⟩
      intro he
      have : n ∈ (meet2 (setV s) [(⟨1, (m : Int)⟩ : S100)]).flatMap numsR := List.mem_flatMap.2 ⟨r, hr, (upto_mem _ _ _).2 ⟨hn1, by omega⟩⟩
      rw [he] at this
      cases this
def someV (s : ByteArray) (n : Int) (m : Nat) : Bool := decide ((s.size : Int) = n) && anyV s.data.toList 1 m
theorem some_f (s : ByteArray) (n : Int) (m : Nat) (hm : 1 ≤ m ∧ m ≤ 31) : Ev (fun k => point_some.f k s n (m : Int)) (someV s n m) := by
  unfold someV
  by_cases h : (s.size : Int) = n
  · rw [decide_eq_true h, Bool.true_and]
    refine Ev.ift h ?_
    obtain ⟨L, h1, h2⟩ := numbers_f s m hm
    refine Ev.bind h1 (Ev.eq (Ev.now _) ?_)
    cases hv : anyV s.data.toList 1 m with
    | true =>
      have := h2.2 hv
      cases L with
      | nil => exact absurd rfl this
      | cons x t => exact decide_eq_true (by simp)
    | false =>
      cases L with
      | nil => rfl
      | cons x t => exact absurd (h2.1 (by simp)) (by rw [hv]; simp)
  · rw [decide_eq_false h, Bool.false_and]
    exact Ev.iff_ h (Ev.now _)
def emptyV (s : ByteArray) : Bool := s.toList == ([] : List UInt8)
def ptV (p : S24) : Bool := saneL p.f1.data.toList && (
  if p.f0 = 0 then decide ((p.f1.size : Int) = 4) && (someV p.f2 2 12 && someV p.f3 2 31)
  else if p.f0 = 1 then decide ((p.f1.size : Int) = 4) && (someV p.f2 2 12 && emptyV p.f3)
  else if p.f0 = 2 then decide ((p.f1.size : Int) = 4) && (someV p.f2 1 4 && emptyV p.f3)
  else if p.f0 = 3 then decide ((p.f1.size : Int) = 4) && (emptyV p.f2 && emptyV p.f3)
  else if p.f0 = 4 then decide ((p.f1.size : Int) = 3) && (emptyV p.f2 && emptyV p.f3)
  else if p.f0 = 5 then decide ((p.f1.size : Int) = 2) && (emptyV p.f2 && emptyV p.f3)
  else false)
theorem Ev.cond {c : Prop} [Decidable c] {g : Nat → Option Bool} {r : Bool} (h : c → Ev g r) : Ev (fun k => if c then g k else some false) (decide c && r) := by
  by_cases hc : c
  · rw [decide_eq_true hc, Bool.true_and]; exact Ev.ift hc (h hc)
  · rw [decide_eq_false hc, Bool.false_and]; exact Ev.iff_ hc (Ev.now _)
theorem Ev.andb {a : Nat → Option Bool} {g : Nat → Option Bool} {x r : Bool} (h1 : Ev a x) (h2 : Ev g r) : Ev (fun k => (a k).bind fun t => if t = true then g k else some false) (x && r) := by
  refine Ev.bind h1 ?_
  cases x with
  | true => rw [Bool.true_and]; exact Ev.ift rfl h2
  | false => exact Ev.iff_ (by simp) (Ev.now _)
theorem Ev.pick {c : Prop} [Decidable c] {g f : Nat → Option Bool} {r q : Bool} (h1 : Ev g r) (h2 : Ev f q) : Ev (fun k => if c then g k else f k) (if c then r else q) := by
  by_cases hc : c
  · rw [if_pos hc]; exact Ev.ift hc h1
  · rw [if_neg hc]; exact Ev.iff_ hc h2
theorem Ev.self {a : Nat → Option Bool} {x : Bool} (h : Ev a x) : Ev (fun k => (a k).bind fun t => some t) x := Ev.bind h (Ev.now _)
theorem bare_and (a b : ByteArray) : (if a.toList = ([] : List UInt8) then emptyV b else false) = (emptyV a && emptyV b) := by
  unfold emptyV
  by_cases h : a.toList = []
  · rw [if_pos h, h]; rfl
  · rw [if_neg h]
    have : (a.toList == ([] : List UInt8)) = false := by cases hl : a.toList with
      | nil => exact absurd hl h
      | cons x t => rfl
    rw [this]; rfl
theorem ptSane_f (p : S24) : Ev (fun k => point_Sane.f k p.f0 p.f1 p.f2 p.f3) (ptV p) := by
  unfold ptV
  refine Ev.bnow (x := saneL p.f1.data.toList) rfl ?_
  have hj : ∀ b : Bool, b = (emptyV p.f2 && emptyV p.f3) → Ev (fun k => point_Sane.j0 k b p.f0 p.f1 p.f2 p.f3) (
      if p.f0 = 0 then decide ((p.f1.size : Int) = 4) && (someV p.f2 2 12 && someV p.f3 2 31)
      else if p.f0 = 1 then decide ((p.f1.size : Int) = 4) && (someV p.f2 2 12 && emptyV p.f3)
      else if p.f0 = 2 then decide ((p.f1.size : Int) = 4) && (someV p.f2 1 4 && emptyV p.f3)
      else if p.f0 = 3 then decide ((p.f1.size : Int) = 4) && (emptyV p.f2 && emptyV p.f3)
      else if p.f0 = 4 then decide ((p.f1.size : Int) = 3) && (emptyV p.f2 && emptyV p.f3)
      else if p.f0 = 5 then decide ((p.f1.size : Int) = 2) && (emptyV p.f2 && emptyV p.f3)
      else false) := fun b hb => by
    subst hb
    refine Ev.step (fun k => by rw [point_Sane.j0]) ?_
    refine Ev.pick (Ev.cond fun _ => Ev.andb (some_f p.f2 2 12 (by omega)) (Ev.self (some_f p.f3 2 31 (by omega)))) ?_
    refine Ev.pick (Ev.cond fun _ => Ev.andb (some_f p.f2 2 12 (by omega)) (Ev.now _)) ?_
    refine Ev.pick (Ev.cond fun _ => Ev.andb (some_f p.f2 1 4 (by omega)) (Ev.now _)) ?_
    refine Ev.pick (Ev.cond fun _ => Ev.now _) ?_
    refine Ev.pick (Ev.cond fun _ => Ev.now _) ?_
    exact Ev.pick (Ev.cond fun _ => Ev.now _) (Ev.now _)
  cases hs : saneL p.f1.data.toList with
  | false => exact Ev.iff_ (by simp) (Ev.now _)
  | true =>
    rw [Bool.true_and]
    refine Ev.ift rfl ?_
    have hb := bare_and p.f2 p.f3
    by_cases h : p.f2.toList = ([] : List UInt8)
    · rw [if_pos h] at hb
      exact Ev.ift h (hj _ hb)
    · rw [if_neg h] at hb
      exact Ev.iff_ h (hj _ hb)
end Go.Proofs.Ytjgjhekpiijniaa.A