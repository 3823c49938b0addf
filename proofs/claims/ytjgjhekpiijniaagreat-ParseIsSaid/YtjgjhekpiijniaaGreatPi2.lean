/- Walks of functions, and plain facts about what they compute. No conditions. -/
import Derived.Test.YtjgjhekpiijniaaGreatPi1
import Derived.Deep.RegionLaw
set_option linter.unusedVariables false
set_option linter.unusedSimpArgs false
namespace Go.Proofs.YtjgjhekpiijniaaGreat.A
open Go.RowKit Go.Proofs.YtjgjhekpiijniaaGreatW.PrintWords Go.Proofs.YtjgjhekpiijniaaGreatW.PrintLast Go.Proofs.YtjgjhekpiijniaaGreatW.PrintMore
attribute [local go_sem] isSome_setCell fld46_0 fld46_1 fld46_2
def IsQ (w0 W : World) (g : Nat) (t : List S46) (m a e : Int) : Prop := ∃ A c p, W.heap[g]? = some (.cells #[.slice A (p ++ t).length c, .int .i64 (p.length : Int), .int .i64 m, .int .i64 a, .int .i64 e] 53 (0, 0)) ∧ w0.heap.size ≤ g ∧ (p ++ t).length < 4611686018427387904 ∧ Kd.C k46 w0 A (p ++ t).length (p ++ t)
section
variable {w0 W W1 : World} {g : Nat} {t : List S46} {m a e : Int}
theorem IsQ.below (h : IsQ w0 W g t m a e) (hb : Below W.heap.size W W1) : IsQ w0 W1 g t m a e := by
  obtain ⟨A, c, p, h1, h2⟩ := h
  exact ⟨A, c, p, blk_below h1 hb, h2⟩
theorem IsQ.drew (h : IsQ w0 W g t m a e) : IsQ w0 W.drew g t m a e := h
theorem IsQ.far (h : IsQ w0 W g t m a e) {p : Addr} (hne : g ≠ p.block) (u : Value) : IsQ w0 (W.setCell p u) g t m a e := by
  obtain ⟨A, c, p, h1, h2⟩ := h
  exact ⟨A, c, p, blk_far h1 hne u, h2⟩
theorem IsQ.lt (h : IsQ w0 W g t m a e) : g < W.heap.size := by
  obtain ⟨A, c, p, h1, _⟩ := h
  exact blk_lt h1
theorem IsQ.ge (h : IsQ w0 W g t m a e) : w0.heap.size ≤ g := by
  obtain ⟨A, c, p, _, h2, _⟩ := h
  exact h2
theorem IsQ.setM (h : IsQ w0 W g t m a e) (x : Int) : IsQ w0 (W.setCell ⟨g, 2, none⟩ (.int .i64 x)) g t x a e := by
  obtain ⟨A, c, p, h1, h2⟩ := h
  exact ⟨A, c, p, by simpa using blk_set h1 2 (.int .i64 x), h2⟩
theorem IsQ.setA (h : IsQ w0 W g t m a e) (x : Int) : IsQ w0 (W.setCell ⟨g, 3, none⟩ (.int .i64 x)) g t m x e := by
  obtain ⟨A, c, p, h1, h2⟩ := h
  exact ⟨A, c, p, by simpa using blk_set h1 3 (.int .i64 x), h2⟩
theorem IsQ.setE (h : IsQ w0 W g t m a e) (x : Int) : IsQ w0 (W.setCell ⟨g, 4, none⟩ (.int .i64 x)) g t m a x := by
  obtain ⟨A, c, p, h1, h2⟩ := h
  exact ⟨A, c, p, by simpa using blk_set h1 4 (.int .i64 x), h2⟩
theorem IsQ.parts {x : S46} (h : IsQ w0 W g (x :: t) m a e) (hB0 : Below w0.heap.size w0 W) : ∃ (ad : Addr) (n c : Nat) (i : Int), W.heap[g]? = some (.cells #[.slice (some ad) n c, .int .i64 i, .int .i64 m, .int .i64 a, .int .i64 e] 53 (0, 0)) ∧ 0 ≤ i ∧ i < (n : Int) ∧ i < 4611686018427387904
    ∧ W.cell? (ad.add (i.toNat * 3)) = some (.int .i64 x.f0) ∧ W.cell? ⟨(ad.add (i.toNat * 3)).block, (ad.add (i.toNat * 3)).off + 1, none⟩ = some (.int .i64 x.f1) ∧ W.cell? ⟨(ad.add (i.toNat * 3)).block, (ad.add (i.toNat * 3)).off + 2, none⟩ = some (.string x.f2)
    ∧ (∀ W', W'.heap[g]? = some (.cells #[.slice (some ad) n c, .int .i64 (i + 1), .int .i64 m, .int .i64 a, .int .i64 e] 53 (0, 0)) → IsQ w0 W' g t m a e) := by
  obtain ⟨A, c, p, hG, hg, hl, hC⟩ := h
  have hlt : ((p.length : Nat) : Int) < ((p ++ x :: t).length : Int) := by simp; omega
  obtain ⟨ad, ea, hx0, hx1, hx2⟩ := at_T46 hC (p.length : Int) (by omega) hlt
  have hr : rd_T46 (p ++ x :: t) (p.length : Int) = x := by simp [rd_T46]
  rw [hr] at hx0 hx1 hx2
  subst ea
  refine ⟨ad, _, c, _, hG, by omega, hlt, by omega, pw_cell_below hB0 hx0, pw_cell_below hB0 hx1, pw_cell_below hB0 hx2, fun W' h' => ⟨some ad, c, p ++ [x], ?_, hg, ?_, ?_⟩⟩
  · have e1 : (p ++ [x]) ++ t = p ++ x :: t := by simp
    have e2 : (((p ++ [x]).length : Nat) : Int) = (p.length : Int) + 1 := by simp
    rw [e1, e2]; exact h'
  · have e1 : (p ++ [x]) ++ t = p ++ x :: t := by simp
    rw [e1]; exact hl
  · have e1 : (p ++ [x]) ++ t = p ++ x :: t := by simp
    rw [e1]; exact hC
end
structure KQ (w0 w w' : World) (g : Nat) (t : List S46) (m a e : Int) : Prop where
  hI : IsQ w0 w' g t m a e
  hB : Below w0.heap.size w0 w'
  hK : KeepBut w w' g none
section
variable {w0 w W W1 : World} {g q : Nat} {t t' : List S46} {m a e m' a' e' : Int}
theorem KQ.start (hI : IsQ w0 w g t m a e) (hB0 : Below w0.heap.size w0 w) : KQ w0 w w g t m a e := ⟨hI, hB0, KeepBut.refl _ _ _⟩
theorem KQ.below (h : KQ w0 w W g t m a e) (hb : Below W.heap.size W W1) : KQ w0 w W1 g t m a e := ⟨h.hI.below hb, below_step h.hB hb, h.hK.trans (KeepBut.of_below hb g none) (.inl rfl)⟩
theorem KQ.trans (h : KQ w0 w W g t m a e) (k : KQ w0 W W1 g t' m' a' e') : KQ w0 w W1 g t' m' a' e' := ⟨k.hI, k.hB, h.hK.trans k.hK (.inl rfl)⟩
theorem KQ.new (h : KQ w0 w W g t m a e) (hq : q = W.heap.size) : NQ w0 w g q := ⟨by rw [hq]; exact Nat.ne_of_lt h.hI.lt, by rw [hq]; exact h.hK.1, by rw [hq]; exact h.hB.size⟩
theorem KQ.far (h : KQ w0 w W g t m a e) (n : NQ w0 w g q) (j : Nat) (u : Value) : KQ w0 w (W.setCell ⟨q, j, none⟩ u) g t m a e := ⟨h.hI.far (p := ⟨q, j, none⟩) n.1 u, below_set h.hB n.2.2, keep_far (p := ⟨q, j, none⟩) h.hK n.2.1 u⟩
theorem KQ.blk {o : Obj} (k : KQ w0 w W g t m a e) (hb : w.heap[q]? = some o) (n : NQ w0 W1 g q) : W.heap[q]? = some o := k.hK.blk hb (Ne.symm n.1) (by simp)
theorem KQ.far4 (h : KQ w0 w W g t m a e) (n : NQ w0 w g q) (a1 b c d : Value) : KQ w0 w ((((W.setCell ⟨q, 0, none⟩ a1).setCell ⟨q, 1, none⟩ b).setCell ⟨q, 2, none⟩ c).setCell ⟨q, 3, none⟩ d) g t m a e := (((h.far n 0 a1).far n 1 b).far n 2 c).far n 3 d
theorem KQ.all8 (h : KQ w0 w W g t m a e) (n : NQ w0 w g q) (a1 b c d f i j k : Value) : KQ w0 w ((((((((W.setCell ⟨q, 0, none⟩ a1).setCell ⟨q, 1, none⟩ b).setCell ⟨q, 2, none⟩ c).setCell ⟨q, 3, none⟩ d).setCell ⟨q, 4, none⟩ f).setCell ⟨q, 5, none⟩ i).setCell ⟨q, 6, none⟩ j).setCell ⟨q, 7, none⟩ k) g t m a e :=
  (((((((h.far n 0 a1).far n 1 b).far n 2 c).far n 3 d).far n 4 f).far n 5 i).far n 6 j).far n 7 k
theorem KQ.drew (h : KQ w0 w W g t m a e) : KQ w0 w W.drew g t m a e := ⟨h.hI.drew, below_drew h.hB, keep_drew h.hK⟩
theorem KQ.setG (h : KQ w0 w W g t m a e) (j : Nat) (u : Value) (hI : IsQ w0 (W.setCell ⟨g, j, none⟩ u) g t' m' a' e') : KQ w0 w (W.setCell ⟨g, j, none⟩ u) g t' m' a' e' := ⟨hI, below_set h.hB h.hI.ge, h.hK.set_ j _⟩
theorem KQ.step {x : S46} {ad : Addr} {n c : Nat} {i : Int} (h : KQ w0 w W g (x :: t) m a e) (hG : W.heap[g]? = some (.cells #[.slice (some ad) n c, .int .i64 i, .int .i64 m, .int .i64 a, .int .i64 e] 53 (0, 0)))
    (hN : ∀ W', W'.heap[g]? = some (.cells #[.slice (some ad) n c, .int .i64 (i + 1), .int .i64 m, .int .i64 a, .int .i64 e] 53 (0, 0)) → IsQ w0 W' g t m a e) : KQ w0 w (W.setCell ⟨g, 1, none⟩ (.int .i64 (i + 1))) g t m a e := h.setG 1 _ (hN _ (by simpa using blk_set hG 1 (.int .i64 (i + 1))))
end
theorem ltT {i : Int} {n : Nat} (h0 : 0 ≤ i) (h : i < (n : Int)) : (i.toNat < n) = True := eq_true (by omega)
set_option maxHeartbeats 8000000 in
set_option maxRecDepth 100000 in
theorem rparser_kind.calls (g : Nat) (x : S46) (t : List S46) (m a e : Int) (w0 w : World) (hI : IsQ w0 w g (x :: t) m a e) (hB0 : Below w0.heap.size w0 w) :
    Calls Tryz.prog 22 #[.pointer (some ⟨g, 0, none⟩)] w fun e' w' => e' = .returned (.int .i64 x.f0) ∧ Below w.heap.size w w' := by
  have hu46 := Tryz.underlying46
  obtain ⟨ad, n, c, i, hG, i0, i1, i2, hx0, hx1, hx2, hN⟩ := hI.parts hB0
  have hp0 := (blk_cell hG 0).trans rfl
  have hp1 := (blk_cell hG 1).trans rfl
  have d0 : decide (0 ≤ i) = true := decide_eq_true i0
  have d1 : decide (i < (n : Int)) = true := decide_eq_true i1
  have d2 := ltT i0 i1
  clear hG hN hI hB0
  have HB := A_ (Below.refl w.heap.size w)
  go_enter Tryz.func22, Tryz.ntmps22
  go_wp2
  go_region
  go_wp2
  go_ret
  exact ⟨rfl, hs_⟩
theorem KQ.mono {w0 w W : World} {g : Nat} {t : List S46} {m a e a' e' : Int} (h : KQ w0 w W g t m a e) (ha : a = a') (he : e = e') : KQ w0 w W g t m a' e' := by subst ha; subst he; exact h
set_option maxHeartbeats 8000000 in
set_option maxRecDepth 100000 in
theorem rparser_fail.calls (g : Nat) (x : S46) (t : List S46) (m er : Int) (w0 w : World) (hI : IsQ w0 w g (x :: t) m 0 0) (hB0 : Below w0.heap.size w0 w) :
    Calls Tryz.prog 23 #[.pointer (some ⟨g, 0, none⟩), .int .i64 er] w fun e' w' => e' = .returned (.agg #[.int .i64 pz.f0, .int .i64 pz.f1.f0, .string pz.f1.f1, .string pz.f1.f2, .string pz.f1.f3, .bool pz.f2, .bool pz.f3, .slice none 0 0]) ∧ KQ w0 w w' g (x :: t) m x.f1 (eNot x er) := by
  have HP := A_ (KQ.start hI hB0)
  clear hI hB0
  by_cases c : x.f0 = 9
  · have hE : eNot x er = 4 := if_pos c
    rw [hE]
    have c0 : (x.f0 == 9) = true := beq_iff_eq.mpr c
    clear c hE
    go_enter Tryz.func23, Tryz.ntmps23; go_wp2_with (first | ((with_reducible refine gD 4 ?_); refine bxe_ 4 z8_ 27 ?_; intro gb hgb w2 hbox hb; have BK := A_ hbox; have NB := A_ (HP.out.new hgb); replace HP := A_ (HP.out.below hb); obtain ⟨ad, n, c, i, hG, i0, i1, i2, hx0, hx1, hx2, hN⟩ := HP.out.hI.parts HP.out.hB; have HG := A_ hG; have HN := A_ hN; have hp0 := (blk_cell hG 0).trans rfl; have hp1 := (blk_cell hG 1).trans rfl; have hp2 := (blk_cell hG 2).trans rfl; have hp3 := (blk_cell hG 3).trans rfl; have hp4 := (blk_cell hG 4).trans rfl; have hf1 := blk_frozen hG 1; have hf2 := blk_frozen hG 2; have hf3 := blk_frozen hG 3; have hf4 := blk_frozen hG 4; have d0 := decide_eq_true i0; have d1 := decide_eq_true i1; have d2 := ltT i0 i1; clear hG hN; clear hb hbox hgb)); clear hp0 hp1 hp2 hp3 hp4 hf1 hf2 hf3 hf4 hx0 hx1 hx2 d0 d1 d2 i0 i1 i2; clear HG HN; replace HP := A_ (HP.out.setG 4 (.int .i64 er) (HP.out.hI.setE er)); replace BK := A_ (blk_far (p := ⟨g, 4, none⟩) BK.out (Ne.symm NB.out.1) (.int .i64 er)); obtain ⟨ad, n, c, i, hG, i0, i1, i2, hx0, hx1, hx2, hN⟩ := HP.out.hI.parts HP.out.hB; have HG := A_ hG; have HN := A_ hN; have hp0 := (blk_cell hG 0).trans rfl; have hp1 := (blk_cell hG 1).trans rfl; have hp2 := (blk_cell hG 2).trans rfl; have hp3 := (blk_cell hG 3).trans rfl; have hp4 := (blk_cell hG 4).trans rfl; have hf1 := blk_frozen hG 1; have hf2 := blk_frozen hG 2; have hf3 := blk_frozen hG 3; have hf4 := blk_frozen hG 4; have d0 := decide_eq_true i0; have d1 := decide_eq_true i1; have d2 := ltT i0 i1; clear hG hN; go_region; clear hp0 hp1 hp2 hp3 hp4 hf1 hf2 hf3 hf4 hx0 hx1 hx2 d0 d1 d2 i0 i1 i2; clear HG HN; replace HP := A_ (HP.out.setG 3 (.int .i64 x.f1) (HP.out.hI.setA x.f1)).drew; replace BK := A_ (blk_drew (blk_far (p := ⟨g, 3, none⟩) BK.out (Ne.symm NB.out.1) (.int .i64 x.f1)))
    go_wp2_with (first | ((with_reducible refine gD 29 ?_); refine gL 29 Tryz.func22 #[.pointer (some ⟨g, 0, none⟩)] ?_; (with_reducible refine (rparser_kind.calls g x t m x.f1 er w0 _ HP.out.hI HP.out.hB).mono ?_); rintro e1 w1 ⟨rfl, hb⟩; refine ⟨_, rfl, ?_⟩; replace HP := A_ (HP.out.below hb); replace BK := A_ (blk_below BK.out hb); obtain ⟨ad, n, c, i, hG, i0, i1, i2, hx0, hx1, hx2, hN⟩ := HP.out.hI.parts HP.out.hB; have HG := A_ hG; have HN := A_ hN; have hp0 := (blk_cell hG 0).trans rfl; have hp1 := (blk_cell hG 1).trans rfl; have hp2 := (blk_cell hG 2).trans rfl; have hp3 := (blk_cell hG 3).trans rfl; have hp4 := (blk_cell hG 4).trans rfl; have hf1 := blk_frozen hG 1; have hf2 := blk_frozen hG 2; have hf3 := blk_frozen hG 3; have hf4 := blk_frozen hG 4; have d0 := decide_eq_true i0; have d1 := decide_eq_true i1; have d2 := ltT i0 i1; clear hG hN; have Z := bz8_ BK; have ne1 := NB.out.1; have ne2 := Ne.symm ne1; clear hx0 hx1 hx2; clear hb))
    refine bodyPost_ret (results_cell_row rfl _ _ gb 27 z8_ (0, 0) _ rfl (put8_ (blk_far (p := ⟨g, 4, none⟩) BK.out (Ne.symm NB.out.1) (.int .i64 4)) ..) Tryz.underlying27 rfl (by kernel_rfl)) rfl ?_
    exact ⟨rfl, (HP.out.setG 4 (.int .i64 4) (HP.out.hI.setE 4)).all8 NB.out ..⟩
  · have hE : eNot x er = er := if_neg c
    rw [hE]
    have c0 : (x.f0 == 9) = false := beq_eq_false_iff_ne.mpr c
    clear c hE
    go_enter Tryz.func23, Tryz.ntmps23; go_wp2_with (first | ((with_reducible refine gD 4 ?_); refine bxe_ 4 z8_ 27 ?_; intro gb hgb w2 hbox hb; have BK := A_ hbox; have NB := A_ (HP.out.new hgb); replace HP := A_ (HP.out.below hb); obtain ⟨ad, n, c, i, hG, i0, i1, i2, hx0, hx1, hx2, hN⟩ := HP.out.hI.parts HP.out.hB; have HG := A_ hG; have HN := A_ hN; have hp0 := (blk_cell hG 0).trans rfl; have hp1 := (blk_cell hG 1).trans rfl; have hp2 := (blk_cell hG 2).trans rfl; have hp3 := (blk_cell hG 3).trans rfl; have hp4 := (blk_cell hG 4).trans rfl; have hf1 := blk_frozen hG 1; have hf2 := blk_frozen hG 2; have hf3 := blk_frozen hG 3; have hf4 := blk_frozen hG 4; have d0 := decide_eq_true i0; have d1 := decide_eq_true i1; have d2 := ltT i0 i1; clear hG hN; clear hb hbox hgb)); clear hp0 hp1 hp2 hp3 hp4 hf1 hf2 hf3 hf4 hx0 hx1 hx2 d0 d1 d2 i0 i1 i2; clear HG HN; replace HP := A_ (HP.out.setG 4 (.int .i64 er) (HP.out.hI.setE er)); replace BK := A_ (blk_far (p := ⟨g, 4, none⟩) BK.out (Ne.symm NB.out.1) (.int .i64 er)); obtain ⟨ad, n, c, i, hG, i0, i1, i2, hx0, hx1, hx2, hN⟩ := HP.out.hI.parts HP.out.hB; have HG := A_ hG; have HN := A_ hN; have hp0 := (blk_cell hG 0).trans rfl; have hp1 := (blk_cell hG 1).trans rfl; have hp2 := (blk_cell hG 2).trans rfl; have hp3 := (blk_cell hG 3).trans rfl; have hp4 := (blk_cell hG 4).trans rfl; have hf1 := blk_frozen hG 1; have hf2 := blk_frozen hG 2; have hf3 := blk_frozen hG 3; have hf4 := blk_frozen hG 4; have d0 := decide_eq_true i0; have d1 := decide_eq_true i1; have d2 := ltT i0 i1; clear hG hN; go_region; clear hp0 hp1 hp2 hp3 hp4 hf1 hf2 hf3 hf4 hx0 hx1 hx2 d0 d1 d2 i0 i1 i2; clear HG HN; replace HP := A_ (HP.out.setG 3 (.int .i64 x.f1) (HP.out.hI.setA x.f1)).drew; replace BK := A_ (blk_drew (blk_far (p := ⟨g, 3, none⟩) BK.out (Ne.symm NB.out.1) (.int .i64 x.f1)))
    go_wp2_with (first | ((with_reducible refine gD 29 ?_); refine gL 29 Tryz.func22 #[.pointer (some ⟨g, 0, none⟩)] ?_; (with_reducible refine (rparser_kind.calls g x t m x.f1 er w0 _ HP.out.hI HP.out.hB).mono ?_); rintro e1 w1 ⟨rfl, hb⟩; refine ⟨_, rfl, ?_⟩; replace HP := A_ (HP.out.below hb); replace BK := A_ (blk_below BK.out hb); obtain ⟨ad, n, c, i, hG, i0, i1, i2, hx0, hx1, hx2, hN⟩ := HP.out.hI.parts HP.out.hB; have HG := A_ hG; have HN := A_ hN; have hp0 := (blk_cell hG 0).trans rfl; have hp1 := (blk_cell hG 1).trans rfl; have hp2 := (blk_cell hG 2).trans rfl; have hp3 := (blk_cell hG 3).trans rfl; have hp4 := (blk_cell hG 4).trans rfl; have hf1 := blk_frozen hG 1; have hf2 := blk_frozen hG 2; have hf3 := blk_frozen hG 3; have hf4 := blk_frozen hG 4; have d0 := decide_eq_true i0; have d1 := decide_eq_true i1; have d2 := ltT i0 i1; clear hG hN; have Z := bz8_ BK; have ne1 := NB.out.1; have ne2 := Ne.symm ne1; clear hx0 hx1 hx2; clear hb))
    refine bodyPost_ret (results_cell_row rfl _ _ gb 27 z8_ (0, 0) _ rfl (put8_ BK.out ..) Tryz.underlying27 rfl (by kernel_rfl)) rfl ?_
    exact ⟨rfl, HP.out.all8 NB.out ..⟩
set_option maxHeartbeats 8000000 in
set_option maxRecDepth 100000 in
theorem rparser_begins.many (g : Nat) (x : S46) (t : List S46) (m : Int) (w0 w : World) (hm : m = 64) (hI : IsQ w0 w g (x :: t) m 0 0) (hB0 : Below w0.heap.size w0 w) :
    Calls Tryz.prog 62 #[.pointer (some ⟨g, 0, none⟩)] w fun e' w' => e' = .returned (.bool false) ∧ KQ w0 w w' g (x :: t) m x.f1 (eNot x 6) := by
  have HP := A_ (KQ.start hI hB0)
  clear hI hB0
  have c0 : (m == 64) = true := beq_iff_eq.mpr hm
  clear hm
  obtain ⟨ad, n, c, i, hG, i0, i1, i2, hx0, hx1, hx2, hN⟩ := HP.out.hI.parts HP.out.hB; have HG := A_ hG; have HN := A_ hN; have hp0 := (blk_cell hG 0).trans rfl; have hp1 := (blk_cell hG 1).trans rfl; have hp2 := (blk_cell hG 2).trans rfl; have hp3 := (blk_cell hG 3).trans rfl; have hp4 := (blk_cell hG 4).trans rfl; have hf1 := blk_frozen hG 1; have hf2 := blk_frozen hG 2; have hf3 := blk_frozen hG 3; have hf4 := blk_frozen hG 4; have d0 := decide_eq_true i0; have d1 := decide_eq_true i1; have d2 := ltT i0 i1; clear hG hN
  go_enter Tryz.func62, Tryz.ntmps62
  go_wp2_with (first | ((with_reducible refine gC 23 ?_); refine gL 9 Tryz.func23 #[.pointer (some ⟨g, 0, none⟩), .int .i64 6] ?_; (with_reducible refine (rparser_fail.calls g x t m 6 w0 _ HP.out.hI HP.out.hB).mono ?_); rintro e1 w1 ⟨rfl, hP⟩; refine ⟨_, rfl, ?_⟩; replace HP := A_ (HP.out.trans hP); clear hP))
  go_ret
  exact ⟨rfl, HP.out⟩
set_option maxHeartbeats 8000000 in
set_option maxRecDepth 100000 in
theorem rparser_begins.one (g : Nat) (x : S46) (t : List S46) (m : Int) (w0 w : World) (hm : ¬ m = 64) (hI : IsQ w0 w g (x :: t) m 0 0) (hB0 : Below w0.heap.size w0 w) :
    Calls Tryz.prog 62 #[.pointer (some ⟨g, 0, none⟩)] w fun e' w' => e' = .returned (.bool true) ∧ KQ w0 w w' g (x :: t) (wrap64 (m + 1)) 0 0 := by
  have HP := A_ (KQ.start hI hB0)
  clear hI hB0
  have c0 : (m == 64) = false := beq_eq_false_iff_ne.mpr hm
  clear hm
  obtain ⟨ad, n, c, i, hG, i0, i1, i2, hx0, hx1, hx2, hN⟩ := HP.out.hI.parts HP.out.hB; have HG := A_ hG; have HN := A_ hN; have hp0 := (blk_cell hG 0).trans rfl; have hp1 := (blk_cell hG 1).trans rfl; have hp2 := (blk_cell hG 2).trans rfl; have hp3 := (blk_cell hG 3).trans rfl; have hp4 := (blk_cell hG 4).trans rfl; have hf1 := blk_frozen hG 1; have hf2 := blk_frozen hG 2; have hf3 := blk_frozen hG 3; have hf4 := blk_frozen hG 4; have d0 := decide_eq_true i0; have d1 := decide_eq_true i1; have d2 := ltT i0 i1; clear hG hN
  go_enter Tryz.func62, Tryz.ntmps62
  go_wp2
  go_ret
  exact ⟨rfl, HP.out.setG 2 _ (HP.out.hI.setM _)⟩
theorem NQ.pair {w0 w W : World} {g q : Nat} {t : List S46} {m a e : Int} (h : KQ w0 w W g t m a e) (n : NQ w0 w g q) : g ≠ q ∧ q ≠ g := ⟨n.1, Ne.symm n.1⟩
set_option maxHeartbeats 8000000 in
set_option maxRecDepth 100000 in
theorem rparser_marks.calls (g : Nat) (t t' : List S46) (p : S24) (a b : Bool) (n : S27) (m : Int) (w0 w : World) (hI : IsQ w0 w g t m 0 0) (hB0 : Below w0.heap.size w0 w) (h : pMarked t p a b = some (n, t')) :
    Calls Tryz.prog 74 #[.pointer (some ⟨g, 0, none⟩), .agg #[.int .i64 0, .int .i64 p.f0, .string p.f1, .string p.f2, .string p.f3, .bool a, .bool b, .slice none 0 0]] w fun e' w' => e' = .returned (.agg #[.int .i64 0, .int .i64 p.f0, .string p.f1, .string p.f2, .string p.f3, .bool n.f2, .bool n.f3, .slice none 0 0]) ∧ KQ w0 w w' g t' m 0 0 := by
  have HP := A_ (KQ.start hI hB0)
  have H' := A_ h
  clear hI hB0 h
  go_enter Tryz.func74, Tryz.ntmps74
  go_wp2_with (first | ((with_reducible refine gD 3 ?_); refine bxe_ 3 #[.int .i64 0, .int .i64 p.f0, .string p.f1, .string p.f2, .string p.f3, .bool a, .bool b, .slice none 0 0] 27 ?_; intro ga hga w2 hbox hb; have BA := A_ hbox; have NA := A_ (HP.out.new hga); replace HP := A_ (HP.out.below hb); clear hb hbox hga) | ((with_reducible refine gD 4 ?_); refine bxe_ 4 z8_ 27 ?_; intro gb hgb w3 hbox hb; have BK := A_ hbox; have NB := A_ (HP.out.new hgb); have NAB := A_ (show ga ≠ gb from by rw [hgb]; exact Nat.ne_of_lt (blk_lt BA.out)); replace HP := A_ (HP.out.below hb); replace BA := A_ (blk_below BA.out hb); clear hb hbox hgb))
  (try simp only [Act.put, List.setIfInBounds_toArray, List.set_cons_zero, List.set_cons_succ])
  go_loopg [5] t.length (fun kq v5 w' => ∃ (t1 : List S46) (a1 b1 : Bool), Aside0 (t1.length = kq) ∧ Aside0 (pMarked t1 p a1 b1 = some (n, t')) ∧ Aside0 (w'.heap[ga]? = some (.cells #[.int .i64 0, .int .i64 p.f0, .string p.f1, .string p.f2, .string p.f3, .bool a1, .bool b1, .slice none 0 0] 27 (0, 0))) ∧ Aside0 (w'.heap[gb]? = some (.cells z8_ 27 (0, 0))) ∧ Aside0 (KQ w0 w w' g t1 m 0 0))
  case atStart => exact ⟨t, a, b, ⟨rfl⟩, H', BA, BK, HP⟩
  case round =>
    clear H' BA BK HP
    obtain ⟨t1, a1, b1, HL, HA, BA, BK, HP⟩ := hrel
    have nab := NAB.out
    have nba := Ne.symm nab
    have nga := NA.out.1
    have nag := Ne.symm nga
    have ngb := NB.out.1
    have nbg := Ne.symm ngb
    have ZA := bz8_ BA
    have ZB := bz8_ BK
    cases t1 with
    | nil => exact absurd HA.out (by simp [pMarked])
    | cons x u =>
      have H := HA.out
      clear HA
      rw [pMarked] at H
      by_cases c : x.f0 = 7
      · rw [if_pos c] at H
        have c7 : (x.f0 == 7) = true := beq_iff_eq.mpr c
        have c8 : (x.f0 == 8) = false := by rw [beq_eq_false_iff_ne, c]; decide
        clear c
        cases a1 with
        | false =>
          rw [if_pos rfl] at H
          have H' := A_ H
          clear H
          go_wp2_with (first | ((with_reducible refine gD 6 ?_); refine gL 6 Tryz.func22 #[.pointer (some ⟨g, 0, none⟩)] ?_; (with_reducible refine (rparser_kind.calls g x u m 0 0 w0 _ HP.out.hI HP.out.hB).mono ?_); rintro e1 w1 ⟨rfl, hb⟩; refine ⟨_, rfl, ?_⟩; replace HP := A_ (HP.out.below hb); replace BA := A_ (blk_below BA.out hb); replace BK := A_ (blk_below BK.out hb); have ZA := bz8_ BA; have ZB := bz8_ BK; clear hb) | (go_at_call 22; (with_reducible refine (rparser_kind.calls g x u m 0 0 w0 _ HP.out.hI HP.out.hB).mono ?_); rintro e1 w1 ⟨rfl, hb⟩; replace HP := A_ (HP.out.below hb); replace BA := A_ (blk_below BA.out hb); replace BK := A_ (blk_below BK.out hb); have ZA := bz8_ BA; have ZB := bz8_ BK; clear hb) | ((with_reducible refine gD 24 ?_); refine gL 24 Tryz.func22 #[.pointer (some ⟨g, 0, none⟩)] ?_; (with_reducible refine (rparser_kind.calls g x u m 0 0 w0 _ HP.out.hI HP.out.hB).mono ?_); rintro e1 w1 ⟨rfl, hb⟩; refine ⟨_, rfl, ?_⟩; replace HP := A_ (HP.out.below hb); replace BA := A_ (blk_below BA.out hb); replace BK := A_ (blk_below BK.out hb); have ZA := bz8_ BA; have ZB := bz8_ BK; obtain ⟨ad, n, c, i, hG, i0, i1, i2, hx0, hx1, hx2, hN⟩ := HP.out.hI.parts HP.out.hB; have HG := A_ hG; have HN := A_ hN; have hp0 := (blk_cell hG 0).trans rfl; have hp1 := (blk_cell hG 1).trans rfl; have hp2 := (blk_cell hG 2).trans rfl; have hp3 := (blk_cell hG 3).trans rfl; have hp4 := (blk_cell hG 4).trans rfl; have hf1 := blk_frozen hG 1; have hf2 := blk_frozen hG 2; have hf3 := blk_frozen hG 3; have hf4 := blk_frozen hG 4; have d0 := decide_eq_true i0; have d1 := decide_eq_true i1; have d2 := ltT i0 i1; clear hG hN; clear hx0 hx1 hx2; clear hb))
          go_roundg u.length
          case measure => have := HL.out; simp at this; omega
          case rel => exact ⟨u, true, b1, ⟨rfl⟩, H', A_ (blk_far (p := ⟨g, 1, none⟩) (blk_put BA.out 5 (.bool true) rfl) nag _), A_ (blk_far (p := ⟨g, 1, none⟩) (blk_far (p := ⟨ga, 5, none⟩) BK.out nba _) nbg _), A_ ((HP.out.far NA.out 5 _).step (blk_far (p := ⟨ga, 5, none⟩) HG.out nga _) HN.out)⟩
        | true =>
          rw [if_neg (by simp)] at H
          obtain ⟨rfl, rfl⟩ := by simpa using H
          clear H
          go_wp2_with (first | ((with_reducible refine gD 6 ?_); refine gL 6 Tryz.func22 #[.pointer (some ⟨g, 0, none⟩)] ?_; (with_reducible refine (rparser_kind.calls g x u m 0 0 w0 _ HP.out.hI HP.out.hB).mono ?_); rintro e1 w1 ⟨rfl, hb⟩; refine ⟨_, rfl, ?_⟩; replace HP := A_ (HP.out.below hb); replace BA := A_ (blk_below BA.out hb); replace BK := A_ (blk_below BK.out hb); have ZA := bz8_ BA; have ZB := bz8_ BK; clear hb) | (go_at_call 22; (with_reducible refine (rparser_kind.calls g x u m 0 0 w0 _ HP.out.hI HP.out.hB).mono ?_); rintro e1 w1 ⟨rfl, hb⟩; replace HP := A_ (HP.out.below hb); replace BA := A_ (blk_below BA.out hb); replace BK := A_ (blk_below BK.out hb); have ZA := bz8_ BA; have ZB := bz8_ BK; clear hb) | ((with_reducible refine gD 24 ?_); refine gL 24 Tryz.func22 #[.pointer (some ⟨g, 0, none⟩)] ?_; (with_reducible refine (rparser_kind.calls g x u m 0 0 w0 _ HP.out.hI HP.out.hB).mono ?_); rintro e1 w1 ⟨rfl, hb⟩; refine ⟨_, rfl, ?_⟩; replace HP := A_ (HP.out.below hb); replace BA := A_ (blk_below BA.out hb); replace BK := A_ (blk_below BK.out hb); have ZA := bz8_ BA; have ZB := bz8_ BK; obtain ⟨ad, n, c, i, hG, i0, i1, i2, hx0, hx1, hx2, hN⟩ := HP.out.hI.parts HP.out.hB; have HG := A_ hG; have HN := A_ hN; have hp0 := (blk_cell hG 0).trans rfl; have hp1 := (blk_cell hG 1).trans rfl; have hp2 := (blk_cell hG 2).trans rfl; have hp3 := (blk_cell hG 3).trans rfl; have hp4 := (blk_cell hG 4).trans rfl; have hf1 := blk_frozen hG 1; have hf2 := blk_frozen hG 2; have hf3 := blk_frozen hG 3; have hf4 := blk_frozen hG 4; have d0 := decide_eq_true i0; have d1 := decide_eq_true i1; have d2 := ltT i0 i1; clear hG hN; clear hx0 hx1 hx2; clear hb))
          refine bodyPost_ret (results_cell_row rfl _ _ gb 27 #[.int .i64 0, .int .i64 p.f0, .string p.f1, .string p.f2, .string p.f3, .bool _, .bool _, .slice none 0 0] (0, 0) _ rfl (pb_ BK.out) Tryz.underlying27 rfl (by kernel_rfl)) rfl ?_; exact ⟨rfl, HP.out.all8 NB.out ..⟩
      · rw [if_neg c] at H
        have c7 : (x.f0 == 7) = false := beq_eq_false_iff_ne.mpr c
        clear c
        by_cases c : x.f0 = 8
        · rw [if_pos c] at H
          have c8 : (x.f0 == 8) = true := beq_iff_eq.mpr c
          clear c
          cases b1 with
          | false =>
            rw [if_pos rfl] at H
            have H' := A_ H
            clear H
            go_wp2_with (first | ((with_reducible refine gD 6 ?_); refine gL 6 Tryz.func22 #[.pointer (some ⟨g, 0, none⟩)] ?_; (with_reducible refine (rparser_kind.calls g x u m 0 0 w0 _ HP.out.hI HP.out.hB).mono ?_); rintro e1 w1 ⟨rfl, hb⟩; refine ⟨_, rfl, ?_⟩; replace HP := A_ (HP.out.below hb); replace BA := A_ (blk_below BA.out hb); replace BK := A_ (blk_below BK.out hb); have ZA := bz8_ BA; have ZB := bz8_ BK; clear hb) | (go_at_call 22; (with_reducible refine (rparser_kind.calls g x u m 0 0 w0 _ HP.out.hI HP.out.hB).mono ?_); rintro e1 w1 ⟨rfl, hb⟩; replace HP := A_ (HP.out.below hb); replace BA := A_ (blk_below BA.out hb); replace BK := A_ (blk_below BK.out hb); have ZA := bz8_ BA; have ZB := bz8_ BK; clear hb) | ((with_reducible refine gD 24 ?_); refine gL 24 Tryz.func22 #[.pointer (some ⟨g, 0, none⟩)] ?_; (with_reducible refine (rparser_kind.calls g x u m 0 0 w0 _ HP.out.hI HP.out.hB).mono ?_); rintro e1 w1 ⟨rfl, hb⟩; refine ⟨_, rfl, ?_⟩; replace HP := A_ (HP.out.below hb); replace BA := A_ (blk_below BA.out hb); replace BK := A_ (blk_below BK.out hb); have ZA := bz8_ BA; have ZB := bz8_ BK; obtain ⟨ad, n, c, i, hG, i0, i1, i2, hx0, hx1, hx2, hN⟩ := HP.out.hI.parts HP.out.hB; have HG := A_ hG; have HN := A_ hN; have hp0 := (blk_cell hG 0).trans rfl; have hp1 := (blk_cell hG 1).trans rfl; have hp2 := (blk_cell hG 2).trans rfl; have hp3 := (blk_cell hG 3).trans rfl; have hp4 := (blk_cell hG 4).trans rfl; have hf1 := blk_frozen hG 1; have hf2 := blk_frozen hG 2; have hf3 := blk_frozen hG 3; have hf4 := blk_frozen hG 4; have d0 := decide_eq_true i0; have d1 := decide_eq_true i1; have d2 := ltT i0 i1; clear hG hN; clear hx0 hx1 hx2; clear hb))
            go_roundg u.length
            case measure => have := HL.out; simp at this; omega
            case rel => exact ⟨u, a1, true, ⟨rfl⟩, H', A_ (blk_far (p := ⟨g, 1, none⟩) (blk_put BA.out 6 (.bool true) rfl) nag _), A_ (blk_far (p := ⟨g, 1, none⟩) (blk_far (p := ⟨ga, 6, none⟩) BK.out nba _) nbg _), A_ ((HP.out.far NA.out 6 _).step (blk_far (p := ⟨ga, 6, none⟩) HG.out nga _) HN.out)⟩
          | true =>
            rw [if_neg (by simp)] at H
            obtain ⟨rfl, rfl⟩ := by simpa using H
            clear H
            go_wp2_with (first | ((with_reducible refine gD 6 ?_); refine gL 6 Tryz.func22 #[.pointer (some ⟨g, 0, none⟩)] ?_; (with_reducible refine (rparser_kind.calls g x u m 0 0 w0 _ HP.out.hI HP.out.hB).mono ?_); rintro e1 w1 ⟨rfl, hb⟩; refine ⟨_, rfl, ?_⟩; replace HP := A_ (HP.out.below hb); replace BA := A_ (blk_below BA.out hb); replace BK := A_ (blk_below BK.out hb); have ZA := bz8_ BA; have ZB := bz8_ BK; clear hb) | (go_at_call 22; (with_reducible refine (rparser_kind.calls g x u m 0 0 w0 _ HP.out.hI HP.out.hB).mono ?_); rintro e1 w1 ⟨rfl, hb⟩; replace HP := A_ (HP.out.below hb); replace BA := A_ (blk_below BA.out hb); replace BK := A_ (blk_below BK.out hb); have ZA := bz8_ BA; have ZB := bz8_ BK; clear hb) | ((with_reducible refine gD 24 ?_); refine gL 24 Tryz.func22 #[.pointer (some ⟨g, 0, none⟩)] ?_; (with_reducible refine (rparser_kind.calls g x u m 0 0 w0 _ HP.out.hI HP.out.hB).mono ?_); rintro e1 w1 ⟨rfl, hb⟩; refine ⟨_, rfl, ?_⟩; replace HP := A_ (HP.out.below hb); replace BA := A_ (blk_below BA.out hb); replace BK := A_ (blk_below BK.out hb); have ZA := bz8_ BA; have ZB := bz8_ BK; obtain ⟨ad, n, c, i, hG, i0, i1, i2, hx0, hx1, hx2, hN⟩ := HP.out.hI.parts HP.out.hB; have HG := A_ hG; have HN := A_ hN; have hp0 := (blk_cell hG 0).trans rfl; have hp1 := (blk_cell hG 1).trans rfl; have hp2 := (blk_cell hG 2).trans rfl; have hp3 := (blk_cell hG 3).trans rfl; have hp4 := (blk_cell hG 4).trans rfl; have hf1 := blk_frozen hG 1; have hf2 := blk_frozen hG 2; have hf3 := blk_frozen hG 3; have hf4 := blk_frozen hG 4; have d0 := decide_eq_true i0; have d1 := decide_eq_true i1; have d2 := ltT i0 i1; clear hG hN; clear hx0 hx1 hx2; clear hb))
            refine bodyPost_ret (results_cell_row rfl _ _ gb 27 #[.int .i64 0, .int .i64 p.f0, .string p.f1, .string p.f2, .string p.f3, .bool _, .bool _, .slice none 0 0] (0, 0) _ rfl (pb_ BK.out) Tryz.underlying27 rfl (by kernel_rfl)) rfl ?_; exact ⟨rfl, HP.out.all8 NB.out ..⟩
        · rw [if_neg c] at H
          have c8 : (x.f0 == 8) = false := beq_eq_false_iff_ne.mpr c
          clear c
          obtain ⟨rfl, rfl⟩ := by simpa using H
          clear H
          go_wp2_with (first | ((with_reducible refine gD 6 ?_); refine gL 6 Tryz.func22 #[.pointer (some ⟨g, 0, none⟩)] ?_; (with_reducible refine (rparser_kind.calls g x u m 0 0 w0 _ HP.out.hI HP.out.hB).mono ?_); rintro e1 w1 ⟨rfl, hb⟩; refine ⟨_, rfl, ?_⟩; replace HP := A_ (HP.out.below hb); replace BA := A_ (blk_below BA.out hb); replace BK := A_ (blk_below BK.out hb); have ZA := bz8_ BA; have ZB := bz8_ BK; clear hb) | (go_at_call 22; (with_reducible refine (rparser_kind.calls g x u m 0 0 w0 _ HP.out.hI HP.out.hB).mono ?_); rintro e1 w1 ⟨rfl, hb⟩; replace HP := A_ (HP.out.below hb); replace BA := A_ (blk_below BA.out hb); replace BK := A_ (blk_below BK.out hb); have ZA := bz8_ BA; have ZB := bz8_ BK; clear hb) | ((with_reducible refine gD 24 ?_); refine gL 24 Tryz.func22 #[.pointer (some ⟨g, 0, none⟩)] ?_; (with_reducible refine (rparser_kind.calls g x u m 0 0 w0 _ HP.out.hI HP.out.hB).mono ?_); rintro e1 w1 ⟨rfl, hb⟩; refine ⟨_, rfl, ?_⟩; replace HP := A_ (HP.out.below hb); replace BA := A_ (blk_below BA.out hb); replace BK := A_ (blk_below BK.out hb); have ZA := bz8_ BA; have ZB := bz8_ BK; obtain ⟨ad, n, c, i, hG, i0, i1, i2, hx0, hx1, hx2, hN⟩ := HP.out.hI.parts HP.out.hB; have HG := A_ hG; have HN := A_ hN; have hp0 := (blk_cell hG 0).trans rfl; have hp1 := (blk_cell hG 1).trans rfl; have hp2 := (blk_cell hG 2).trans rfl; have hp3 := (blk_cell hG 3).trans rfl; have hp4 := (blk_cell hG 4).trans rfl; have hf1 := blk_frozen hG 1; have hf2 := blk_frozen hG 2; have hf3 := blk_frozen hG 3; have hf4 := blk_frozen hG 4; have d0 := decide_eq_true i0; have d1 := decide_eq_true i1; have d2 := ltT i0 i1; clear hG hN; clear hx0 hx1 hx2; clear hb))
          refine bodyPost_ret (results_cell_row rfl _ _ gb 27 #[.int .i64 0, .int .i64 p.f0, .string p.f1, .string p.f2, .string p.f3, .bool _, .bool _, .slice none 0 0] (0, 0) _ rfl (pb_ BK.out) Tryz.underlying27 rfl (by kernel_rfl)) rfl ?_; exact ⟨rfl, HP.out.all8 NB.out ..⟩
theorem keepS {W0 : World} {a b c : Addr} {x y z : Value} (h0 : W0.cell? a = some x) (h1 : W0.cell? b = some y) (h2 : W0.cell? c = some z) : ∀ w', Below W0.heap.size W0 w' → Below W0.heap.size W0 w' ∧ w'.cell? a = some x ∧ w'.cell? b = some y ∧ w'.cell? c = some z := fun w' hb => ⟨hb, pw_cell_below hb h0, pw_cell_below hb h1, pw_cell_below hb h2⟩
set_option maxHeartbeats 8000000 in
set_option maxRecDepth 100000 in
theorem rparser_end.calls (k : Nat) (g : Nat) (t : List S46) (m : Int) (r : QR) (w0 w : World) (hI : IsQ w0 w g t m 0 0) (hB0 : Below w0.heap.size w0 w) (h : qEnd k m t = some r) :
    Calls Tryz.prog 63 #[.pointer (some ⟨g, 0, none⟩)] w fun e' w' => e' = .returned (.agg #[.int .i64 r.n.f0, .int .i64 r.n.f1.f0, .string r.n.f1.f1, .string r.n.f1.f2, .string r.n.f1.f3, .bool r.n.f2, .bool r.n.f3, .slice none 0 0]) ∧ KQ w0 w w' g r.t r.m (r.x.getD (0, 0)).1 (r.x.getD (0, 0)).2 := by
  have HP := A_ (KQ.start hI hB0)
  clear hI hB0
  cases t with
  | nil => cases h
  | cons x t =>
    rw [qEnd] at h
    by_cases c0 : x.f0 = 0
    · rw [if_pos c0] at h
      have k0 : (x.f0 == 0) = true := beq_iff_eq.mpr c0
      have k0' : (x.f0 != 0) = false := bne_eq_false_iff_eq.mpr c0
      clear c0
      by_cases cm : m = 64
      · rw [if_pos cm] at h
        have HM := A_ cm
        clear cm
        obtain rfl := Option.some.inj h; clear h; go_enter Tryz.func63, Tryz.ntmps63; go_wp2_with (first | ((with_reducible refine gD 2 ?_); refine bxe_ 2 z8_ 27 ?_; intro gb hgb w2 hbox hb; have BK := A_ hbox; have NB := A_ (HP.out.new hgb); have ngb := NB.out.1; have nbg := Ne.symm ngb; replace HP := A_ (HP.out.below hb); clear hb hbox hgb) | ((with_reducible refine gD 7 ?_); refine gL 7 Tryz.func22 #[.pointer (some ⟨g, 0, none⟩)] ?_; (with_reducible refine (rparser_kind.calls g x t m 0 0 w0 _ HP.out.hI HP.out.hB).mono ?_); rintro e1 w1 ⟨rfl, hb⟩; refine ⟨_, rfl, ?_⟩; replace HP := A_ (HP.out.below hb); replace BK := A_ (blk_below BK.out hb); clear hb) | ((with_reducible refine gD 21 ?_); refine gL 21 Tryz.func62 #[.pointer (some ⟨g, 0, none⟩)] ?_; (with_reducible refine (rparser_begins.many g x t m w0 _ HM.out HP.out.hI HP.out.hB).mono ?_); rintro e1 w1 ⟨rfl, hP⟩; refine ⟨_, rfl, ?_⟩; replace BK := A_ (hP.blk BK.out NB.out); replace HP := A_ (HP.out.trans hP); have Z := bz8_ BK; clear hP)); refine bodyPost_ret (results_cell_row rfl _ _ gb 27 z8_ (0, 0) _ rfl (put8_ BK.out ..) Tryz.underlying27 rfl (by kernel_rfl)) rfl ?_; exact ⟨rfl, HP.out.all8 NB.out ..⟩
      · rw [if_neg cm] at h
        have HM := A_ cm
        clear cm
        obtain ⟨⟨p0, p1, p2, p3, ok⟩, hR, h2⟩ := Option.bind_eq_some_iff.mp h
        have HR := A_ hR
        clear h hR
        go_enter Tryz.func63, Tryz.ntmps63; go_upto_region 7 with (first | ((with_reducible refine gD 2 ?_); refine bxe_ 2 z8_ 27 ?_; intro gb hgb w2 hbox hb; have BK := A_ hbox; have NB := A_ (HP.out.new hgb); have ngb := NB.out.1; have nbg := Ne.symm ngb; replace HP := A_ (HP.out.below hb); clear hb hbox hgb) | ((with_reducible refine gD 7 ?_); refine gL 7 Tryz.func22 #[.pointer (some ⟨g, 0, none⟩)] ?_; (with_reducible refine (rparser_kind.calls g x t m 0 0 w0 _ HP.out.hI HP.out.hB).mono ?_); rintro e1 w1 ⟨rfl, hb⟩; refine ⟨_, rfl, ?_⟩; replace HP := A_ (HP.out.below hb); replace BK := A_ (blk_below BK.out hb); clear hb) | ((with_reducible refine gD 21 ?_); refine gL 21 Tryz.func62 #[.pointer (some ⟨g, 0, none⟩)] ?_; (with_reducible refine (rparser_begins.one g x t m w0 _ HM.out HP.out.hI HP.out.hB).mono ?_); rintro e3 w3 ⟨rfl, hP⟩; refine ⟨_, rfl, ?_⟩; replace BK := A_ (hP.blk BK.out NB.out); replace HP := A_ (HP.out.trans hP); clear hP)); (try simp only [Act.put, List.setIfInBounds_toArray, List.set_cons_zero, List.set_cons_succ]); go_cut [4, 5] (fun v4 v5 wc => ∃ gp, v4 = .pointer (some ⟨gp, 0, none⟩) ∧ v5 = .bool ok ∧ w3.heap.size ≤ gp ∧ wc.heap[gp]? = some (.cells #[.int .i64 p0, .string p1, .string p2, .string p3] 24 (0, 0)) ∧ Below w3.heap.size w3 wc); (case first => (obtain ⟨ad, n, c, i, hG, i0, i1, i2, hx0, hx1, hx2, hN⟩ := HP.out.hI.parts HP.out.hB; have HG := A_ hG; have HN := A_ hN; have hp0 := (blk_cell hG 0).trans rfl; have hp1 := (blk_cell hG 1).trans rfl; have hp2 := (blk_cell hG 2).trans rfl; have hp3 := (blk_cell hG 3).trans rfl; have hp4 := (blk_cell hG 4).trans rfl; have hf1 := blk_frozen hG 1; have hf2 := blk_frozen hG 2; have hf3 := blk_frozen hG 3; have hf4 := blk_frozen hG 4; have d0 := decide_eq_true i0; have d1 := decide_eq_true i1; have d2 := ltT i0 i1; clear hG hN; have HB := A_ (Below.refl w3.heap.size w3); have G3 := A_ (Nat.le_refl w3.heap.size); go_region_held3 (fun w' => Below w3.heap.size w3 w' ∧ w'.cell? ⟨g, 0, none⟩ = some (.slice (some ad) n c) ∧ w'.cell? ⟨g, 1, none⟩ = some (.int .i64 i) ∧ w'.cell? ⟨(ad.add (i.toNat * 3)).block, (ad.add (i.toNat * 3)).off + 2, none⟩ = some (.string x.f2)) (exact keepS hp0 hp1 hx2 _ hs_) (first | (go_at_call 73; (with_reducible refine (lustrumref08_Read.calls k x.f2 p0 p1 p2 p3 ok _ HR.out).mono ?_); rintro e1 w1 ⟨rfl, hb⟩; have HB := A_ (below_step (show Below w3.heap.size w3 _ from hs_) hb); have G1 := A_ (below_size HB.out); (try (have BPz := A_ (blk_below (blk_drew (blk_new w3 (.cells #[.int .i64 0, .string ⟨#[]⟩, .string ⟨#[]⟩, .string ⟨#[]⟩] 24 (0, 0)))) hb); have Zp := bz4_ BPz)); clear hb)); all_goals (go_wp2; go_meet); all_goals first | exact ⟨_, rfl, rfl, G1.out, blk_new w1 _, hs_⟩ | exact ⟨_, rfl, rfl, Nat.le_refl _, put4_ BPz.out .., hs_⟩)); obtain ⟨gp, rfl, rfl, hgp, hbp, hb⟩ := hcut; have BP := A_ hbp; have GPE := A_ hgp; have NBP := A_ (show gb ≠ gp from Nat.ne_of_lt (Nat.lt_of_lt_of_le (blk_lt BK.out) hgp)); have NP := A_ (show NQ w0 w g gp from ⟨Nat.ne_of_lt (Nat.lt_of_lt_of_le HP.out.hI.lt hgp), Nat.le_trans HP.out.hK.1 hgp, Nat.le_trans HP.out.hB.size hgp⟩); replace HP := A_ (HP.out.below hb); replace BK := A_ (blk_below BK.out hb); clear hgp hbp hb
        cases ok with
        | false =>
          obtain rfl := Option.some.inj ((if_neg (by simp)).symm.trans h2)
          clear h2
          go_wp2_with (first | ((with_reducible refine gD 44 ?_); refine gL 44 Tryz.func23 #[.pointer (some ⟨g, 0, none⟩), .int .i64 2] ?_; (with_reducible refine (rparser_fail.calls g x t (wrap64 (m + 1)) 2 w0 _ HP.out.hI HP.out.hB).mono ?_); rintro e1 w1 ⟨rfl, hP⟩; refine ⟨_, rfl, ?_⟩; replace BK := A_ (hP.blk BK.out NB.out); replace HP := A_ (HP.out.trans hP); have Z := bz8_ BK; clear hP))
          refine bodyPost_ret (results_cell_row rfl _ _ gb 27 z8_ (0, 0) _ rfl (put8_ BK.out ..) Tryz.underlying27 rfl (by kernel_rfl)) rfl ?_; exact ⟨rfl, HP.out.all8 NB.out ..⟩
        | true =>
          have h3 := (if_pos rfl).symm.trans h2
          clear h2
          obtain ⟨⟨n1, t'⟩, hM, h4⟩ := Option.bind_eq_some_iff.mp h3
          clear h3
          obtain ⟨a', b', rfl⟩ : ∃ a' b', n1 = ⟨0, ⟨p0, p1, p2, p3⟩, a', b', []⟩ := ⟨_, _, pMarked_form _ _ _ _ _ _ hM⟩
          have HMk := A_ (show pMarked t ⟨p0, p1, p2, p3⟩ false false = some (⟨0, ⟨p0, p1, p2, p3⟩, a', b', []⟩, t') from hM)
          clear hM
          obtain rfl := Option.some.inj h4
          clear h4
          obtain ⟨ad, n, c, i, hG, i0, i1, i2, hx0, hx1, hx2, hN⟩ := HP.out.hI.parts HP.out.hB; have HG := A_ hG; have HN := A_ hN; have hp0 := (blk_cell hG 0).trans rfl; have hp1 := (blk_cell hG 1).trans rfl; have hp2 := (blk_cell hG 2).trans rfl; have hp3 := (blk_cell hG 3).trans rfl; have hp4 := (blk_cell hG 4).trans rfl; have hf1 := blk_frozen hG 1; have hf2 := blk_frozen hG 2; have hf3 := blk_frozen hG 3; have hf4 := blk_frozen hG 4; have d0 := decide_eq_true i0; have d1 := decide_eq_true i1; have d2 := ltT i0 i1; clear hG hN
          have Zp := bz4_ BP
          have ngp := NP.out.1
          have npg := Ne.symm ngp
          clear hx0 hx1 hx2
          go_wp2_with (first | ((with_reducible refine gD 55 ?_); refine gL 55 Tryz.func74 #[.pointer (some ⟨g, 0, none⟩), .agg #[.int .i64 0, .int .i64 p0, .string p1, .string p2, .string p3, .bool false, .bool false, .slice none 0 0]] ?_; replace HP := A_ (HP.out.step HG.out HN.out); replace BK := A_ (blk_far (p := ⟨g, 1, none⟩) BK.out nbg (.int .i64 (i + 1))); (with_reducible refine (rparser_marks.calls g t t' ⟨p0, p1, p2, p3⟩ false false _ _ w0 _ HP.out.hI HP.out.hB HMk.out).mono ?_); rintro e1 w4 ⟨rfl, hP⟩; refine ⟨_, rfl, ?_⟩; replace BK := A_ (hP.blk BK.out NB.out); replace HP := A_ (HP.out.trans hP); have Z := bz8_ BK; clear hP))
          refine bodyPost_ret (results_cell_row rfl _ _ gb 27 #[.int .i64 0, .int .i64 p0, .string p1, .string p2, .string p3, .bool a', .bool b', .slice none 0 0] (0, 0) _ rfl (put8_ BK.out ..) Tryz.underlying27 rfl (by kernel_rfl)) rfl ?_
          exact ⟨rfl, HP.out.all8 NB.out ..⟩
    rw [if_neg c0] at h
    have k0 : (x.f0 == 0) = false := beq_eq_false_iff_ne.mpr c0
    have k0' : (x.f0 != 0) = true := bne_iff_ne.mpr c0
    clear c0
    by_cases c0 : x.f0 = 2
    · rw [if_pos c0] at h
      have k2 : (x.f0 == 2) = true := beq_iff_eq.mpr c0
      have k2' : (x.f0 != 2) = false := bne_eq_false_iff_eq.mpr c0
      clear c0
      by_cases cm : m = 64
      · rw [if_pos cm] at h
        have HM := A_ cm
        clear cm
        obtain rfl := Option.some.inj h; clear h; go_enter Tryz.func63, Tryz.ntmps63; go_wp2_with (first | ((with_reducible refine gD 2 ?_); refine bxe_ 2 z8_ 27 ?_; intro gb hgb w2 hbox hb; have BK := A_ hbox; have NB := A_ (HP.out.new hgb); have ngb := NB.out.1; have nbg := Ne.symm ngb; replace HP := A_ (HP.out.below hb); clear hb hbox hgb) | ((with_reducible refine gD 7 ?_); refine gL 7 Tryz.func22 #[.pointer (some ⟨g, 0, none⟩)] ?_; (with_reducible refine (rparser_kind.calls g x t m 0 0 w0 _ HP.out.hI HP.out.hB).mono ?_); rintro e1 w1 ⟨rfl, hb⟩; refine ⟨_, rfl, ?_⟩; replace HP := A_ (HP.out.below hb); replace BK := A_ (blk_below BK.out hb); clear hb) | ((with_reducible refine gD 21 ?_); refine gL 21 Tryz.func62 #[.pointer (some ⟨g, 0, none⟩)] ?_; (with_reducible refine (rparser_begins.many g x t m w0 _ HM.out HP.out.hI HP.out.hB).mono ?_); rintro e1 w1 ⟨rfl, hP⟩; refine ⟨_, rfl, ?_⟩; replace BK := A_ (hP.blk BK.out NB.out); replace HP := A_ (HP.out.trans hP); have Z := bz8_ BK; clear hP)); refine bodyPost_ret (results_cell_row rfl _ _ gb 27 z8_ (0, 0) _ rfl (put8_ BK.out ..) Tryz.underlying27 rfl (by kernel_rfl)) rfl ?_; exact ⟨rfl, HP.out.all8 NB.out ..⟩
      · rw [if_neg cm] at h
        have HM := A_ cm
        clear cm
        obtain rfl := Option.some.inj h
        clear h
        go_enter Tryz.func63, Tryz.ntmps63
        go_wp2_with (first | ((with_reducible refine gD 2 ?_); refine bxe_ 2 z8_ 27 ?_; intro gb hgb w2 hbox hb; have BK := A_ hbox; have NB := A_ (HP.out.new hgb); have ngb := NB.out.1; have nbg := Ne.symm ngb; replace HP := A_ (HP.out.below hb); clear hb hbox hgb) | ((with_reducible refine gD 7 ?_); refine gL 7 Tryz.func22 #[.pointer (some ⟨g, 0, none⟩)] ?_; (with_reducible refine (rparser_kind.calls g x t m 0 0 w0 _ HP.out.hI HP.out.hB).mono ?_); rintro e1 w1 ⟨rfl, hb⟩; refine ⟨_, rfl, ?_⟩; replace HP := A_ (HP.out.below hb); replace BK := A_ (blk_below BK.out hb); clear hb) | ((with_reducible refine gD 21 ?_); refine gL 21 Tryz.func62 #[.pointer (some ⟨g, 0, none⟩)] ?_; (with_reducible refine (rparser_begins.one g x t m w0 _ HM.out HP.out.hI HP.out.hB).mono ?_); rintro e1 w1 ⟨rfl, hP⟩; refine ⟨_, rfl, ?_⟩; replace BK := A_ (hP.blk BK.out NB.out); replace HP := A_ (HP.out.trans hP); have Z := bz8_ BK; obtain ⟨ad, n, c, i, hG, i0, i1, i2, hx0, hx1, hx2, hN⟩ := HP.out.hI.parts HP.out.hB; have HG := A_ hG; have HN := A_ hN; have hp0 := (blk_cell hG 0).trans rfl; have hp1 := (blk_cell hG 1).trans rfl; have hp2 := (blk_cell hG 2).trans rfl; have hp3 := (blk_cell hG 3).trans rfl; have hp4 := (blk_cell hG 4).trans rfl; have hf1 := blk_frozen hG 1; have hf2 := blk_frozen hG 2; have hf3 := blk_frozen hG 3; have hf4 := blk_frozen hG 4; have d0 := decide_eq_true i0; have d1 := decide_eq_true i1; have d2 := ltT i0 i1; clear hG hN; clear hP))
        refine bodyPost_ret (results_cell_row rfl _ _ gb 27 #[.int .i64 3, .int .i64 0, .string ⟨#[]⟩, .string ⟨#[]⟩, .string ⟨#[]⟩, .bool false, .bool false, .slice none 0 0] (0, 0) _ rfl (put8_ (blk_far (p := ⟨g, 1, none⟩) BK.out nbg _) ..) Tryz.underlying27 rfl (by kernel_rfl)) rfl ?_; exact ⟨rfl, (HP.out.step HG.out HN.out).all8 NB.out ..⟩
    rw [if_neg c0] at h
    have k2 : (x.f0 == 2) = false := beq_eq_false_iff_ne.mpr c0
    have k2' : (x.f0 != 2) = true := bne_iff_ne.mpr c0
    clear c0
    by_cases c0 : x.f0 = 3
    · rw [if_pos c0] at h
      have k3 : (x.f0 == 3) = true := beq_iff_eq.mpr c0
      have k3' : (x.f0 != 3) = false := bne_eq_false_iff_eq.mpr c0
      clear c0
      by_cases cm : m = 64
      · rw [if_pos cm] at h
        have HM := A_ cm
        clear cm
        obtain rfl := Option.some.inj h; clear h; go_enter Tryz.func63, Tryz.ntmps63; go_wp2_with (first | ((with_reducible refine gD 2 ?_); refine bxe_ 2 z8_ 27 ?_; intro gb hgb w2 hbox hb; have BK := A_ hbox; have NB := A_ (HP.out.new hgb); have ngb := NB.out.1; have nbg := Ne.symm ngb; replace HP := A_ (HP.out.below hb); clear hb hbox hgb) | ((with_reducible refine gD 7 ?_); refine gL 7 Tryz.func22 #[.pointer (some ⟨g, 0, none⟩)] ?_; (with_reducible refine (rparser_kind.calls g x t m 0 0 w0 _ HP.out.hI HP.out.hB).mono ?_); rintro e1 w1 ⟨rfl, hb⟩; refine ⟨_, rfl, ?_⟩; replace HP := A_ (HP.out.below hb); replace BK := A_ (blk_below BK.out hb); clear hb) | ((with_reducible refine gD 21 ?_); refine gL 21 Tryz.func62 #[.pointer (some ⟨g, 0, none⟩)] ?_; (with_reducible refine (rparser_begins.many g x t m w0 _ HM.out HP.out.hI HP.out.hB).mono ?_); rintro e1 w1 ⟨rfl, hP⟩; refine ⟨_, rfl, ?_⟩; replace BK := A_ (hP.blk BK.out NB.out); replace HP := A_ (HP.out.trans hP); have Z := bz8_ BK; clear hP)); refine bodyPost_ret (results_cell_row rfl _ _ gb 27 z8_ (0, 0) _ rfl (put8_ BK.out ..) Tryz.underlying27 rfl (by kernel_rfl)) rfl ?_; exact ⟨rfl, HP.out.all8 NB.out ..⟩
      · rw [if_neg cm] at h
        have HM := A_ cm
        clear cm
        obtain rfl := Option.some.inj h
        clear h
        go_enter Tryz.func63, Tryz.ntmps63
        go_wp2_with (first | ((with_reducible refine gD 2 ?_); refine bxe_ 2 z8_ 27 ?_; intro gb hgb w2 hbox hb; have BK := A_ hbox; have NB := A_ (HP.out.new hgb); have ngb := NB.out.1; have nbg := Ne.symm ngb; replace HP := A_ (HP.out.below hb); clear hb hbox hgb) | ((with_reducible refine gD 7 ?_); refine gL 7 Tryz.func22 #[.pointer (some ⟨g, 0, none⟩)] ?_; (with_reducible refine (rparser_kind.calls g x t m 0 0 w0 _ HP.out.hI HP.out.hB).mono ?_); rintro e1 w1 ⟨rfl, hb⟩; refine ⟨_, rfl, ?_⟩; replace HP := A_ (HP.out.below hb); replace BK := A_ (blk_below BK.out hb); clear hb) | ((with_reducible refine gD 21 ?_); refine gL 21 Tryz.func62 #[.pointer (some ⟨g, 0, none⟩)] ?_; (with_reducible refine (rparser_begins.one g x t m w0 _ HM.out HP.out.hI HP.out.hB).mono ?_); rintro e1 w1 ⟨rfl, hP⟩; refine ⟨_, rfl, ?_⟩; replace BK := A_ (hP.blk BK.out NB.out); replace HP := A_ (HP.out.trans hP); have Z := bz8_ BK; obtain ⟨ad, n, c, i, hG, i0, i1, i2, hx0, hx1, hx2, hN⟩ := HP.out.hI.parts HP.out.hB; have HG := A_ hG; have HN := A_ hN; have hp0 := (blk_cell hG 0).trans rfl; have hp1 := (blk_cell hG 1).trans rfl; have hp2 := (blk_cell hG 2).trans rfl; have hp3 := (blk_cell hG 3).trans rfl; have hp4 := (blk_cell hG 4).trans rfl; have hf1 := blk_frozen hG 1; have hf2 := blk_frozen hG 2; have hf3 := blk_frozen hG 3; have hf4 := blk_frozen hG 4; have d0 := decide_eq_true i0; have d1 := decide_eq_true i1; have d2 := ltT i0 i1; clear hG hN; clear hP))
        refine bodyPost_ret (results_cell_row rfl _ _ gb 27 #[.int .i64 4, .int .i64 0, .string ⟨#[]⟩, .string ⟨#[]⟩, .string ⟨#[]⟩, .bool false, .bool false, .slice none 0 0] (0, 0) _ rfl (put8_ (blk_far (p := ⟨g, 1, none⟩) BK.out nbg _) ..) Tryz.underlying27 rfl (by kernel_rfl)) rfl ?_; exact ⟨rfl, (HP.out.step HG.out HN.out).all8 NB.out ..⟩
    rw [if_neg c0] at h
    have k3 : (x.f0 == 3) = false := beq_eq_false_iff_ne.mpr c0
    have k3' : (x.f0 != 3) = true := bne_iff_ne.mpr c0
    clear c0
    obtain rfl := Option.some.inj h
    clear h
    go_enter Tryz.func63, Tryz.ntmps63
    go_wp2_with (first | ((with_reducible refine gD 2 ?_); refine bxe_ 2 z8_ 27 ?_; intro gb hgb w2 hbox hb; have BK := A_ hbox; have NB := A_ (HP.out.new hgb); have ngb := NB.out.1; have nbg := Ne.symm ngb; replace HP := A_ (HP.out.below hb); clear hb hbox hgb) | ((with_reducible refine gD 7 ?_); refine gL 7 Tryz.func22 #[.pointer (some ⟨g, 0, none⟩)] ?_; (with_reducible refine (rparser_kind.calls g x t m 0 0 w0 _ HP.out.hI HP.out.hB).mono ?_); rintro e1 w1 ⟨rfl, hb⟩; refine ⟨_, rfl, ?_⟩; replace HP := A_ (HP.out.below hb); replace BK := A_ (blk_below BK.out hb); clear hb) | ((with_reducible refine gD 19 ?_); refine gL 19 Tryz.func23 #[.pointer (some ⟨g, 0, none⟩), .int .i64 3] ?_; (with_reducible refine (rparser_fail.calls g x t m 3 w0 _ HP.out.hI HP.out.hB).mono ?_); rintro e1 w1 ⟨rfl, hP⟩; refine ⟨_, rfl, ?_⟩; replace BK := A_ (hP.blk BK.out NB.out); replace HP := A_ (HP.out.trans hP); have Z := bz8_ BK; clear hP))
    refine bodyPost_ret (results_cell_row rfl _ _ gb 27 z8_ (0, 0) _ rfl (put8_ BK.out ..) Tryz.underlying27 rfl (by kernel_rfl)) rfl ?_; exact ⟨rfl, HP.out.all8 NB.out ..⟩
theorem eNot_no0 (x : S46) (c : Int) (h : c ≠ 0) : eNot x c ≠ 0 := by unfold eNot; split <;> omega
theorem qEnd_facts {k : Nat} {t : List S46} {m : Int} {r : QR} (h : qEnd k m t = some r) : r.n.f4 = [] ∧ ∀ y, r.x = some y → y.2 ≠ 0 := by
  cases t with
  | nil => cases h
  | cons x t =>
    have bad : ∀ (c : Int) (q : QR), c ≠ 0 → some (⟨pz, some (x.f1, eNot x c), q.t, q.m⟩ : QR) = some r → r.n.f4 = [] ∧ ∀ y, r.x = some y → y.2 ≠ 0 := fun c q hc hq => by
      obtain rfl := Option.some.inj hq
      exact ⟨rfl, fun y hy => by obtain rfl := Option.some.inj hy; exact eNot_no0 _ _ hc⟩
    rw [qEnd] at h
    split at h
    · split at h
      · exact bad 6 ⟨pz, none, x :: t, m⟩ (by decide) h
      · obtain ⟨p, _, h2⟩ := Option.bind_eq_some_iff.mp h
        split at h2
        · obtain ⟨q, hq, h3⟩ := Option.bind_eq_some_iff.mp h2
          obtain rfl := Option.some.inj h3
          refine ⟨?_, fun y hy => by cases hy⟩
          show q.1.f4 = []
          rw [pMarked_form _ _ _ _ q.1 q.2 hq]
        · exact bad 2 ⟨pz, none, x :: t, wrap64 (m + 1)⟩ (by decide) h2
    · split at h
      · split at h
        · exact bad 6 ⟨pz, none, x :: t, m⟩ (by decide) h
        · obtain rfl := Option.some.inj h; exact ⟨rfl, fun y hy => by cases hy⟩
      · split at h
        · split at h
          · exact bad 6 ⟨pz, none, x :: t, m⟩ (by decide) h
          · obtain rfl := Option.some.inj h; exact ⟨rfl, fun y hy => by cases hy⟩
        · exact bad 3 ⟨pz, none, x :: t, m⟩ (by decide) h
theorem fk_nil (W : World) (ok : Nat → Prop) (n : S27) (h : n.f4 = []) : Kd.FK k27 W ok n [.int .i64 n.f0, .int .i64 n.f1.f0, .string n.f1.f1, .string n.f1.f2, .string n.f1.f3, .bool n.f2, .bool n.f3, .slice none 0 0] := by
  obtain ⟨a, p, e, f, l⟩ := n
  obtain rfl : l = [] := h
  exact k27_mkF _ _ ⟨a, p, e, f, []⟩ (Nat.le_refl _) (Kd.V_F (Kd.V_nil k27 27 W W.heap.size ok))
def ToldQ (r : QR) (g : Nat) (w0 w : World) (e' : Ending) (w' : World) : Prop := ∃ v, e' = .returned (.agg #[.int .i64 r.n.f0, .int .i64 r.n.f1.f0, .string r.n.f1.f1, .string r.n.f1.f2, .string r.n.f1.f3, .bool r.n.f2, .bool r.n.f3, v]) ∧ Kd.V k27 27 w' w.heap.size (fun q => w.heap.size ≤ q) v r.n.f4 ∧ KQ w0 w w' g r.t r.m (r.x.getD (0, 0)).1 (r.x.getD (0, 0)).2
set_option maxHeartbeats 8000000 in
set_option maxRecDepth 100000 in
theorem rparser_span.calls (k : Nat) (g : Nat) (t : List S46) (m : Int) (r : QR) (w0 w : World) (hI : IsQ w0 w g t m 0 0) (hB0 : Below w0.heap.size w0 w) (h : qSpan k m t = some r) :
    Calls Tryz.prog 42 #[.pointer (some ⟨g, 0, none⟩)] w (ToldQ r g w0 w) := by
  have HP := A_ (KQ.start hI hB0)
  clear hI hB0
  obtain ⟨⟨n1, x1, t1, m1⟩, h1, h2⟩ := Option.bind_eq_some_iff.mp h
  clear h
  have HN1 := A_ (qEnd_facts h1).1
  have HX1 := A_ (qEnd_facts h1).2
  have H1 := A_ h1
  clear h1
  cases x1 with
  | some y =>
    obtain rfl := Option.some.inj h2
    clear h2
    have ke : (y.2 != 0) = true := bne_iff_ne.mpr (HX1.out y rfl)
    go_enter Tryz.func42, Tryz.ntmps42
    go_wp2_with (first | ((with_reducible refine gD 2 ?_); refine bxe_ 2 z8_ 27 ?_; intro gb hgb w2 hbox hb; have BK := A_ hbox; have NB := A_ (HP.out.new hgb); have ngb := NB.out.1; have nbg := Ne.symm ngb; replace HP := A_ (HP.out.below hb); clear hb hbox hgb) | ((with_reducible refine gD 6 ?_); refine gL 6 Tryz.func63 #[.pointer (some ⟨g, 0, none⟩)] ?_; (with_reducible refine (rparser_end.calls k g t m _ w0 _ HP.out.hI HP.out.hB H1.out).mono ?_); rintro e3 w3 ⟨rfl, hP⟩; refine ⟨_, rfl, ?_⟩; replace BK := A_ (hP.blk BK.out NB.out); replace HP := A_ (HP.out.trans hP); clear hP) | ((with_reducible refine gD 3 ?_); refine bxe_ 3 z8_ 27 ?_; intro ga hga w4 hbox hb; have BA := A_ hbox; have NA := A_ (HP.out.new hga); have NBA := A_ (show gb ≠ ga from by rw [hga]; exact Nat.ne_of_lt (blk_lt BK.out)); have nba := NBA.out; have nab := Ne.symm nba; have nga := NA.out.1; have nag := Ne.symm nga; replace HP := A_ (HP.out.below hb); replace BK := A_ (blk_below BK.out hb); have Z := bz8_ BA; have ZK := bz8_ BK; obtain ⟨A9, c9, p9, hG9, hg9⟩ := HP.out.hI; have hp4 := (blk_cell hG9 4).trans rfl; clear hG9 hg9; clear hb hbox hga))
    refine bodyPost_ret (results_cell_row rfl _ _ gb 27 #[.int .i64 n1.f0, .int .i64 n1.f1.f0, .string n1.f1.f1, .string n1.f1.f2, .string n1.f1.f3, .bool n1.f2, .bool n1.f3, .slice none 0 0] (0, 0) _ rfl (put8_ (far8_ BK.out NBA.out ..) ..) Tryz.underlying27 rfl (by kernel_rfl)) rfl ?_
    refine ⟨_, rfl, ?_, (HP.out.all8 NA.out ..).all8 NB.out ..⟩
    rw [HN1.out]
    exact Kd.V_nil _ _ _ _ _
  | none =>
    cases t1 with
    | nil => cases h2
    | cons y u =>
      by_cases cy : y.f0 = 1
      · have k1 : (y.f0 != 1) = false := bne_eq_false_iff_eq.mpr cy
        replace h2 := (if_pos cy).symm.trans h2
        clear cy
        by_cases cm : m1 = 64
        · replace h2 := (if_pos cm).symm.trans h2
          have HM := A_ cm
          clear cm
          obtain rfl := Option.some.inj h2
          clear h2
          go_enter Tryz.func42, Tryz.ntmps42
          go_wp2_with (first | ((with_reducible refine gD 2 ?_); refine bxe_ 2 z8_ 27 ?_; intro gb hgb w2 hbox hb; have BK := A_ hbox; have NB := A_ (HP.out.new hgb); have ngb := NB.out.1; have nbg := Ne.symm ngb; replace HP := A_ (HP.out.below hb); clear hb hbox hgb) | ((with_reducible refine gD 6 ?_); refine gL 6 Tryz.func63 #[.pointer (some ⟨g, 0, none⟩)] ?_; (with_reducible refine (rparser_end.calls k g t m _ w0 _ HP.out.hI HP.out.hB H1.out).mono ?_); rintro e3 w3 ⟨rfl, hP⟩; refine ⟨_, rfl, ?_⟩; replace BK := A_ (hP.blk BK.out NB.out); replace HP := A_ (HP.out.trans hP); clear hP) | ((with_reducible refine gD 3 ?_); refine bxe_ 3 z8_ 27 ?_; intro ga hga w4 hbox hb; have BA := A_ hbox; have NA := A_ (HP.out.new hga); have NBA := A_ (show gb ≠ ga from by rw [hga]; exact Nat.ne_of_lt (blk_lt BK.out)); have nba := NBA.out; have nab := Ne.symm nba; have nga := NA.out.1; have nag := Ne.symm nga; replace HP := A_ (HP.out.below hb); replace BK := A_ (blk_below BK.out hb); have Z := bz8_ BA; have ZK := bz8_ BK; obtain ⟨A9, c9, p9, hG9, hg9⟩ := HP.out.hI; have hp4 := (blk_cell hG9 4).trans rfl; clear hG9 hg9; clear hb hbox hga) | ((with_reducible refine gD 14 ?_); refine gL 14 Tryz.func22 #[.pointer (some ⟨g, 0, none⟩)] ?_; clear Z ZK; replace HP := A_ (HP.out.all8 NA.out (.int .i64 n1.f0) (.int .i64 n1.f1.f0) (.string n1.f1.f1) (.string n1.f1.f2) (.string n1.f1.f3) (.bool n1.f2) (.bool n1.f3) (.slice none 0 0)); replace BK := A_ (far8_ BK.out NBA.out (.int .i64 n1.f0) (.int .i64 n1.f1.f0) (.string n1.f1.f1) (.string n1.f1.f2) (.string n1.f1.f3) (.bool n1.f2) (.bool n1.f3) (.slice none 0 0)); replace BA := A_ (put8_ BA.out (.int .i64 n1.f0) (.int .i64 n1.f1.f0) (.string n1.f1.f1) (.string n1.f1.f2) (.string n1.f1.f3) (.bool n1.f2) (.bool n1.f3) (.slice none 0 0)); (with_reducible refine (rparser_kind.calls g y u m1 0 0 w0 _ HP.out.hI HP.out.hB).mono ?_); rintro e5 w5 ⟨rfl, hb⟩; refine ⟨_, rfl, ?_⟩; replace HP := A_ (HP.out.below hb); replace BK := A_ (blk_below BK.out hb); replace BA := A_ (blk_below BA.out hb); have Z := bz8_ BA; have ZK := bz8_ BK; clear hb) | ((with_reducible refine gD 23 ?_); refine gL 23 Tryz.func62 #[.pointer (some ⟨g, 0, none⟩)] ?_; (with_reducible refine (rparser_begins.many g y u m1 w0 _ HM.out HP.out.hI HP.out.hB).mono ?_); rintro e6 w6 ⟨rfl, hP⟩; refine ⟨_, rfl, ?_⟩; replace BK := A_ (hP.blk BK.out NB.out); replace HP := A_ (HP.out.trans hP); clear Z ZK; have ZK := bz8_ BK; clear hP))
          refine bodyPost_ret (results_cell_row rfl _ _ gb 27 z8_ (0, 0) _ rfl (put8_ BK.out ..) Tryz.underlying27 rfl (by kernel_rfl)) rfl ?_; exact ⟨_, rfl, Kd.V_nil _ _ _ _ _, HP.out.all8 NB.out ..⟩
        · replace h2 := (if_neg cm).symm.trans h2
          have HM := A_ cm
          clear cm
          obtain ⟨⟨n2, x2, t2, m2⟩, h3, h4⟩ := Option.bind_eq_some_iff.mp h2
          clear h2
          have HN2 := A_ (qEnd_facts h3).1
          have H3 := A_ h3
          clear h3
          obtain rfl := Option.some.inj h4
          clear h4
          go_enter Tryz.func42, Tryz.ntmps42
          go_wp2_with (first | ((with_reducible refine gD 2 ?_); refine bxe_ 2 z8_ 27 ?_; intro gb hgb w2 hbox hb; have BK := A_ hbox; have NB := A_ (HP.out.new hgb); have ngb := NB.out.1; have nbg := Ne.symm ngb; replace HP := A_ (HP.out.below hb); clear hb hbox hgb) | ((with_reducible refine gD 6 ?_); refine gL 6 Tryz.func63 #[.pointer (some ⟨g, 0, none⟩)] ?_; (with_reducible refine (rparser_end.calls k g t m _ w0 _ HP.out.hI HP.out.hB H1.out).mono ?_); rintro e3 w3 ⟨rfl, hP⟩; refine ⟨_, rfl, ?_⟩; replace BK := A_ (hP.blk BK.out NB.out); replace HP := A_ (HP.out.trans hP); clear hP) | ((with_reducible refine gD 3 ?_); refine bxe_ 3 z8_ 27 ?_; intro ga hga w4 hbox hb; have BA := A_ hbox; have NA := A_ (HP.out.new hga); have NBA := A_ (show gb ≠ ga from by rw [hga]; exact Nat.ne_of_lt (blk_lt BK.out)); have nba := NBA.out; have nab := Ne.symm nba; have nga := NA.out.1; have nag := Ne.symm nga; replace HP := A_ (HP.out.below hb); replace BK := A_ (blk_below BK.out hb); have Z := bz8_ BA; have ZK := bz8_ BK; obtain ⟨A9, c9, p9, hG9, hg9⟩ := HP.out.hI; have hp4 := (blk_cell hG9 4).trans rfl; clear hG9 hg9; clear hb hbox hga) | ((with_reducible refine gD 14 ?_); refine gL 14 Tryz.func22 #[.pointer (some ⟨g, 0, none⟩)] ?_; clear Z ZK; replace HP := A_ (HP.out.all8 NA.out (.int .i64 n1.f0) (.int .i64 n1.f1.f0) (.string n1.f1.f1) (.string n1.f1.f2) (.string n1.f1.f3) (.bool n1.f2) (.bool n1.f3) (.slice none 0 0)); replace BK := A_ (far8_ BK.out NBA.out (.int .i64 n1.f0) (.int .i64 n1.f1.f0) (.string n1.f1.f1) (.string n1.f1.f2) (.string n1.f1.f3) (.bool n1.f2) (.bool n1.f3) (.slice none 0 0)); replace BA := A_ (put8_ BA.out (.int .i64 n1.f0) (.int .i64 n1.f1.f0) (.string n1.f1.f1) (.string n1.f1.f2) (.string n1.f1.f3) (.bool n1.f2) (.bool n1.f3) (.slice none 0 0)); (with_reducible refine (rparser_kind.calls g y u m1 0 0 w0 _ HP.out.hI HP.out.hB).mono ?_); rintro e5 w5 ⟨rfl, hb⟩; refine ⟨_, rfl, ?_⟩; replace HP := A_ (HP.out.below hb); replace BK := A_ (blk_below BK.out hb); replace BA := A_ (blk_below BA.out hb); have Z := bz8_ BA; have ZK := bz8_ BK; clear hb) | ((with_reducible refine gD 23 ?_); refine gL 23 Tryz.func62 #[.pointer (some ⟨g, 0, none⟩)] ?_; (with_reducible refine (rparser_begins.one g y u m1 w0 _ HM.out HP.out.hI HP.out.hB).mono ?_); rintro e6 w6 ⟨rfl, hP⟩; refine ⟨_, rfl, ?_⟩; replace BK := A_ (hP.blk BK.out NB.out); replace BA := A_ (hP.blk BA.out NA.out); replace HP := A_ (HP.out.trans hP); clear Z ZK hp4; obtain ⟨ad, n, c, i, hG, i0, i1, i2, hx0, hx1, hx2, hN⟩ := HP.out.hI.parts HP.out.hB; have HG := A_ hG; have HN := A_ hN; have hp0 := (blk_cell hG 0).trans rfl; have hp1 := (blk_cell hG 1).trans rfl; have hp2 := (blk_cell hG 2).trans rfl; have hp3 := (blk_cell hG 3).trans rfl; have hp4 := (blk_cell hG 4).trans rfl; have hf1 := blk_frozen hG 1; have hf2 := blk_frozen hG 2; have hf3 := blk_frozen hG 3; have hf4 := blk_frozen hG 4; have d0 := decide_eq_true i0; have d1 := decide_eq_true i1; have d2 := ltT i0 i1; clear hG hN hx0 hx1 hx2; clear hP) | ((with_reducible refine gD 34 ?_); refine gL 34 Tryz.func63 #[.pointer (some ⟨g, 0, none⟩)] ?_; replace HP := A_ (HP.out.step HG.out HN.out); replace BK := A_ (blk_far (p := ⟨g, 1, none⟩) BK.out nbg (.int .i64 (i + 1))); replace BA := A_ (blk_far (p := ⟨g, 1, none⟩) BA.out nag (.int .i64 (i + 1))); (with_reducible refine (rparser_end.calls k g u (wrap64 (m1 + 1)) _ w0 _ HP.out.hI HP.out.hB H3.out).mono ?_); rintro e7 w7 ⟨rfl, hP⟩; refine ⟨_, rfl, ?_⟩; replace BK := A_ (hP.blk BK.out NB.out); replace BA := A_ (hP.blk BA.out NA.out); replace HP := A_ (HP.out.trans hP); clear hP hp0 hp1 hp2 hp3 hp4 hf1 hf2 hf3 hf4 d0 d1 d2 HG HN) | ((with_reducible refine gD 4 ?_); refine bxe_ 4 z8_ 27 ?_; intro gc hgc w8 hbox hb; have BC := A_ hbox; have NC := A_ (HP.out.new hgc); have NBC := A_ (show gb ≠ gc from by rw [hgc]; exact Nat.ne_of_lt (blk_lt BK.out)); have NAC := A_ (show ga ≠ gc from by rw [hgc]; exact Nat.ne_of_lt (blk_lt BA.out)); have nac := NAC.out; have nca := Ne.symm nac; replace HP := A_ (HP.out.below hb); replace BK := A_ (blk_below BK.out hb); replace BA := A_ (blk_below BA.out hb); have ZA := bz8_ BA; have ZC := bz8_ BC; clear hb hbox hgc) | ((with_reducible refine gD 37 ?_); replace HP := A_ (HP.out.all8 NC.out (.int .i64 n2.f0) (.int .i64 n2.f1.f0) (.string n2.f1.f1) (.string n2.f1.f2) (.string n2.f1.f3) (.bool n2.f2) (.bool n2.f3) (.slice none 0 0)); replace BK := A_ (far8_ BK.out NBC.out (.int .i64 n2.f0) (.int .i64 n2.f1.f0) (.string n2.f1.f1) (.string n2.f1.f2) (.string n2.f1.f3) (.bool n2.f2) (.bool n2.f3) (.slice none 0 0)); clear ZA ZC; refine Kd.N_lit k27 _ 27 ?hg (N' := 37) ?hd (xs := [n1, n2]) (inner := [.int .i64 n1.f0, .int .i64 n1.f1.f0, .string n1.f1.f1, .string n1.f1.f2, .string n1.f1.f3, .bool n1.f2, .bool n1.f3, .slice none 0 0, .int .i64 n2.f0, .int .i64 n2.f1.f0, .string n2.f1.f1, .string n2.f1.f2, .string n2.f1.f3, .bool n2.f2, .bool n2.f3, .slice none 0 0]) (ok := fun q => w.heap.size ≤ q ∧ q ≠ gb) (okp := fun q => w.heap.size ≤ q ∧ q ≠ gb) ?hr ?hp (fun _ hk => hk) ⟨HP.out.hK.1, Ne.symm (Nat.ne_of_lt (blk_lt BK.out))⟩ (Below.refl _ _) (Nat.le_refl _) (by simp) ?_; (case hd => rfl); (case hg => rfl); (case hr => first | (go_simp; done) | (go_simp; rfl)); (case hp => exact Reps.c8 (fk_nil _ _ n1 HN1.out) (Reps.c8 (fk_nil _ _ n2 HN2.out) (Reps.none _ _))); intro v9 w9 ho hb hg_ hnew_; clear hg_ hnew_; obtain ⟨A5, c5, rfl⟩ : ∃ A5 c5, v9 = .slice A5 2 c5 := Kd.N_slice ho; have HV := A_ (Kd.N_V (base' := w.heap.size) ho); replace HP := A_ (HP.out.below hb); replace BK := A_ (blk_below BK.out hb); have ZK := bz8_ BK; clear ho hb))
          refine bodyPost_ret (results_cell_row rfl _ _ gb 27 #[.int .i64 1, .int .i64 0, .string ⟨#[]⟩, .string ⟨#[]⟩, .string ⟨#[]⟩, .bool false, .bool false, .slice A5 2 c5] (0, 0) _ rfl (put8_ BK.out ..) Tryz.underlying27 rfl (by kernel_rfl)) rfl ?_
          have r1 := V_all8 HV.out (fun q hq => hq.2) (.int .i64 1) (.int .i64 0) (.string ⟨#[]⟩) (.string ⟨#[]⟩) (.string ⟨#[]⟩) (.bool false) (.bool false) (.slice A5 2 c5)
          exact ⟨_, rfl, V_base (Kd.V_mono r1 (fun q hq => hq.1)), HP.out.all8 NB.out ..⟩
      · have k1 : (y.f0 != 1) = true := bne_iff_ne.mpr cy
        replace h2 := (if_neg cy).symm.trans h2
        clear cy
        by_cases cn : n1.f0 = 0
        · replace h2 := (if_pos cn).symm.trans h2
          have k2 : (n1.f0 != 0) = false := bne_eq_false_iff_eq.mpr cn
          clear cn
          obtain rfl := Option.some.inj h2
          clear h2
          go_enter Tryz.func42, Tryz.ntmps42
          go_wp2_with (first | ((with_reducible refine gD 2 ?_); refine bxe_ 2 z8_ 27 ?_; intro gb hgb w2 hbox hb; have BK := A_ hbox; have NB := A_ (HP.out.new hgb); have ngb := NB.out.1; have nbg := Ne.symm ngb; replace HP := A_ (HP.out.below hb); clear hb hbox hgb) | ((with_reducible refine gD 6 ?_); refine gL 6 Tryz.func63 #[.pointer (some ⟨g, 0, none⟩)] ?_; (with_reducible refine (rparser_end.calls k g t m _ w0 _ HP.out.hI HP.out.hB H1.out).mono ?_); rintro e3 w3 ⟨rfl, hP⟩; refine ⟨_, rfl, ?_⟩; replace BK := A_ (hP.blk BK.out NB.out); replace HP := A_ (HP.out.trans hP); clear hP) | ((with_reducible refine gD 3 ?_); refine bxe_ 3 z8_ 27 ?_; intro ga hga w4 hbox hb; have BA := A_ hbox; have NA := A_ (HP.out.new hga); have NBA := A_ (show gb ≠ ga from by rw [hga]; exact Nat.ne_of_lt (blk_lt BK.out)); have nba := NBA.out; have nab := Ne.symm nba; have nga := NA.out.1; have nag := Ne.symm nga; replace HP := A_ (HP.out.below hb); replace BK := A_ (blk_below BK.out hb); have Z := bz8_ BA; have ZK := bz8_ BK; obtain ⟨A9, c9, p9, hG9, hg9⟩ := HP.out.hI; have hp4 := (blk_cell hG9 4).trans rfl; clear hG9 hg9; clear hb hbox hga) | ((with_reducible refine gD 14 ?_); refine gL 14 Tryz.func22 #[.pointer (some ⟨g, 0, none⟩)] ?_; clear Z ZK; replace HP := A_ (HP.out.all8 NA.out (.int .i64 n1.f0) (.int .i64 n1.f1.f0) (.string n1.f1.f1) (.string n1.f1.f2) (.string n1.f1.f3) (.bool n1.f2) (.bool n1.f3) (.slice none 0 0)); replace BK := A_ (far8_ BK.out NBA.out (.int .i64 n1.f0) (.int .i64 n1.f1.f0) (.string n1.f1.f1) (.string n1.f1.f2) (.string n1.f1.f3) (.bool n1.f2) (.bool n1.f3) (.slice none 0 0)); replace BA := A_ (put8_ BA.out (.int .i64 n1.f0) (.int .i64 n1.f1.f0) (.string n1.f1.f1) (.string n1.f1.f2) (.string n1.f1.f3) (.bool n1.f2) (.bool n1.f3) (.slice none 0 0)); (with_reducible refine (rparser_kind.calls g y u m1 0 0 w0 _ HP.out.hI HP.out.hB).mono ?_); rintro e5 w5 ⟨rfl, hb⟩; refine ⟨_, rfl, ?_⟩; replace HP := A_ (HP.out.below hb); replace BK := A_ (blk_below BK.out hb); replace BA := A_ (blk_below BA.out hb); have Z := bz8_ BA; have ZK := bz8_ BK; clear hb))
          refine bodyPost_ret (results_cell_row rfl _ _ gb 27 #[.int .i64 n1.f0, .int .i64 n1.f1.f0, .string n1.f1.f1, .string n1.f1.f2, .string n1.f1.f3, .bool n1.f2, .bool n1.f3, .slice none 0 0] (0, 0) _ rfl (put8_ BK.out ..) Tryz.underlying27 rfl (by kernel_rfl)) rfl ?_
          refine ⟨_, rfl, ?_, HP.out.all8 NB.out ..⟩
          rw [HN1.out]
          exact Kd.V_nil _ _ _ _ _
        · replace h2 := (if_neg cn).symm.trans h2
          have k2 : (n1.f0 != 0) = true := bne_iff_ne.mpr cn
          clear cn
          obtain rfl := Option.some.inj h2
          clear h2
          go_enter Tryz.func42, Tryz.ntmps42
          go_wp2_with (first | ((with_reducible refine gD 2 ?_); refine bxe_ 2 z8_ 27 ?_; intro gb hgb w2 hbox hb; have BK := A_ hbox; have NB := A_ (HP.out.new hgb); have ngb := NB.out.1; have nbg := Ne.symm ngb; replace HP := A_ (HP.out.below hb); clear hb hbox hgb) | ((with_reducible refine gD 6 ?_); refine gL 6 Tryz.func63 #[.pointer (some ⟨g, 0, none⟩)] ?_; (with_reducible refine (rparser_end.calls k g t m _ w0 _ HP.out.hI HP.out.hB H1.out).mono ?_); rintro e3 w3 ⟨rfl, hP⟩; refine ⟨_, rfl, ?_⟩; replace BK := A_ (hP.blk BK.out NB.out); replace HP := A_ (HP.out.trans hP); clear hP) | ((with_reducible refine gD 3 ?_); refine bxe_ 3 z8_ 27 ?_; intro ga hga w4 hbox hb; have BA := A_ hbox; have NA := A_ (HP.out.new hga); have NBA := A_ (show gb ≠ ga from by rw [hga]; exact Nat.ne_of_lt (blk_lt BK.out)); have nba := NBA.out; have nab := Ne.symm nba; have nga := NA.out.1; have nag := Ne.symm nga; replace HP := A_ (HP.out.below hb); replace BK := A_ (blk_below BK.out hb); have Z := bz8_ BA; have ZK := bz8_ BK; obtain ⟨A9, c9, p9, hG9, hg9⟩ := HP.out.hI; have hp4 := (blk_cell hG9 4).trans rfl; clear hG9 hg9; clear hb hbox hga) | ((with_reducible refine gD 14 ?_); refine gL 14 Tryz.func22 #[.pointer (some ⟨g, 0, none⟩)] ?_; clear Z ZK; replace HP := A_ (HP.out.all8 NA.out (.int .i64 n1.f0) (.int .i64 n1.f1.f0) (.string n1.f1.f1) (.string n1.f1.f2) (.string n1.f1.f3) (.bool n1.f2) (.bool n1.f3) (.slice none 0 0)); replace BK := A_ (far8_ BK.out NBA.out (.int .i64 n1.f0) (.int .i64 n1.f1.f0) (.string n1.f1.f1) (.string n1.f1.f2) (.string n1.f1.f3) (.bool n1.f2) (.bool n1.f3) (.slice none 0 0)); replace BA := A_ (put8_ BA.out (.int .i64 n1.f0) (.int .i64 n1.f1.f0) (.string n1.f1.f1) (.string n1.f1.f2) (.string n1.f1.f3) (.bool n1.f2) (.bool n1.f3) (.slice none 0 0)); (with_reducible refine (rparser_kind.calls g y u m1 0 0 w0 _ HP.out.hI HP.out.hB).mono ?_); rintro e5 w5 ⟨rfl, hb⟩; refine ⟨_, rfl, ?_⟩; replace HP := A_ (HP.out.below hb); replace BK := A_ (blk_below BK.out hb); replace BA := A_ (blk_below BA.out hb); have Z := bz8_ BA; have ZK := bz8_ BK; clear hb) | ((with_reducible refine gD 20 ?_); refine gL 20 Tryz.func23 #[.pointer (some ⟨g, 0, none⟩), .int .i64 3] ?_; (with_reducible refine (rparser_fail.calls g y u m1 3 w0 _ HP.out.hI HP.out.hB).mono ?_); rintro e6 w6 ⟨rfl, hP⟩; refine ⟨_, rfl, ?_⟩; replace BK := A_ (hP.blk BK.out NB.out); replace HP := A_ (HP.out.trans hP); clear Z ZK; have ZK := bz8_ BK; clear hP))
          refine bodyPost_ret (results_cell_row rfl _ _ gb 27 z8_ (0, 0) _ rfl (put8_ BK.out ..) Tryz.underlying27 rfl (by kernel_rfl)) rfl ?_; exact ⟨_, rfl, Kd.V_nil _ _ _ _ _, HP.out.all8 NB.out ..⟩
theorem KQ.grown {w0 w W W1 : World} {g : Nat} {t : List S46} {m a e : Int} {row : Option Nat} (h : KQ w0 w W g t m a e) (hg : W.grownBy W1 row) (hr : ∀ k, row = some k → w.heap.size ≤ k) (h0 : w0.heap.size ≤ w.heap.size) (hlt : g < w.heap.size) : KQ w0 w W1 g t m a e := by
  obtain ⟨⟨A, c, p, hG, hI⟩, hB, hK⟩ := h
  refine ⟨⟨A, c, p, blk_grown hG hg (fun e => ?_), hI⟩, hB.grown hg hB.size (fun k e => Nat.le_trans h0 (hr k e)), hK.trans (KeepBut.of_grown hg g) ?_⟩
  · have := hr g e.symm
    omega
  · cases row with
    | none => exact .inl rfl
    | some k => exact .inr ⟨k, rfl, hr k rfl⟩
theorem qSpan_err {k : Nat} {t : List S46} {m : Int} {r : QR} (h : qSpan k m t = some r) : ∀ y, r.x = some y → y.2 ≠ 0 := by
  obtain ⟨⟨n1, x1, t1, m1⟩, h1, h2⟩ := Option.bind_eq_some_iff.mp h
  have H1 := (qEnd_facts h1).2
  cases x1 with
  | some y => obtain rfl := Option.some.inj h2; exact H1
  | none =>
    cases t1 with
    | nil => cases h2
    | cons y u =>
      simp only at h2
      split at h2
      · split at h2
        · obtain rfl := Option.some.inj h2; exact fun y hy => by obtain rfl := Option.some.inj hy; exact eNot_no0 _ _ (by decide)
        · obtain ⟨s, h3, h4⟩ := Option.bind_eq_some_iff.mp h2
          obtain rfl := Option.some.inj h4
          exact (qEnd_facts h3).2
      · split at h2
        · obtain rfl := Option.some.inj h2; exact fun y hy => by cases hy
        · obtain rfl := Option.some.inj h2; exact fun y hy => by obtain rfl := Option.some.inj hy; exact eNot_no0 _ _ (by decide)
theorem qExpr_err : ∀ k, (∀ (m d : Int) (t : List S46) (r : QR), qExpr k m d t = some r → ∀ y, r.x = some y → y.2 ≠ 0) ∧ (∀ (m d : Int) (x : S46) (t : List S46) (r : QR), qList k m d x t = some r → ∀ y, r.x = some y → y.2 ≠ 0) ∧ (∀ (m d : Int) (t : List S46) (l : List S27) (r : QR), qItems k m d t l = some r → ∀ y, r.x = some y → y.2 ≠ 0)
  | 0 => ⟨fun _ _ _ _ h => by simp [qExpr] at h, fun _ _ _ _ _ h => by simp [qList] at h, fun _ _ _ _ _ h => by simp [qItems] at h⟩
  | k + 1 => by
    obtain ⟨i1, i2, i3⟩ := qExpr_err k
    refine ⟨fun m d t r h => ?_, fun m d x t r h => ?_, fun m d t l r h => ?_⟩
    · cases t with
      | nil => simp [qExpr] at h
      | cons x t =>
        rw [qExpr] at h
        split at h
        · exact i2 _ _ _ _ _ h
        · exact qSpan_err h
    · rw [qList] at h
      split at h
      · obtain rfl := Option.some.inj h; exact fun y hy => by obtain rfl := Option.some.inj hy; exact eNot_no0 _ _ (by decide)
      · split at h
        · obtain rfl := Option.some.inj h; exact fun y hy => by obtain rfl := Option.some.inj hy; exact eNot_no0 _ _ (by decide)
        · exact i3 _ _ _ _ _ h
    · cases t with
      | nil => simp [qItems] at h
      | cons x t =>
        rw [qItems] at h
        obtain ⟨⟨n1, x1, t1, m1⟩, h1, h2⟩ := Option.bind_eq_some_iff.mp h
        have H1 := i1 _ _ _ _ h1
        split at h2
        · cases x1 with
          | some y => obtain rfl := Option.some.inj h2; exact H1
          | none =>
            cases t1 with
            | nil => cases h2
            | cons y u =>
              simp only at h2
              split at h2
              · obtain rfl := Option.some.inj h2; exact fun y hy => by cases hy
              · split at h2
                · exact i3 _ _ _ _ _ h2
                · obtain rfl := Option.some.inj h2; exact fun y hy => by obtain rfl := Option.some.inj hy; exact eNot_no0 _ _ (by decide)
        · cases h2
abbrev ExprQ (k : Nat) : Prop := ∀ (g : Nat) (t : List S46) (m d : Int) (r : QR) (w0 w : World), IsQ w0 w g t m 0 0 → Below w0.heap.size w0 w → qExpr k m d t = some r → Calls Tryz.prog 21 #[.pointer (some ⟨g, 0, none⟩), .int .i64 d] w (ToldQ r g w0 w)
set_option maxHeartbeats 8000000 in
set_option maxRecDepth 100000 in
theorem rparser_list.calls (k : Nat) (ih : ∀ j, j < k → ExprQ j) (g : Nat) (x : S46) (t : List S46) (m d : Int) (r : QR) (w0 w : World) (hI : IsQ w0 w g (x :: t) m 0 0) (hB0 : Below w0.heap.size w0 w) (h : qList k m d x t = some r) :
    Calls Tryz.prog 41 #[.pointer (some ⟨g, 0, none⟩), .int .i64 d] w (ToldQ r g w0 w) := by
  have G0 := A_ hB0.size
  have GL := A_ hI.lt
  have HP := A_ (KQ.start hI hB0)
  have IH := A_ ih
  clear hI hB0 ih
  cases k with
  | zero => cases h
  | succ k =>
    rw [qList] at h
    by_cases c0 : d = 8
    · rw [if_pos c0] at h
      have k0 : (d == 8) = true := beq_iff_eq.mpr c0
      clear c0
      obtain rfl := Option.some.inj h
      clear h
      go_enter Tryz.func41, Tryz.ntmps41
      go_wp2_with (first | ((with_reducible refine gD 4 ?_); refine bxe_ 4 z8_ 27 ?_; intro gb hgb w2 hbox hb; have BK := A_ hbox; have NB := A_ (HP.out.new hgb); have ngb := NB.out.1; have nbg := Ne.symm ngb; replace HP := A_ (HP.out.below hb); have ZK := bz8_ BK; clear hb hbox hgb) | ((with_reducible refine gD 9 ?_); refine gL 9 Tryz.func23 #[.pointer (some ⟨g, 0, none⟩), .int .i64 5] ?_; (with_reducible refine (rparser_fail.calls g x t m 5 w0 _ HP.out.hI HP.out.hB).mono ?_); rintro e6 w6 ⟨rfl, hP⟩; refine ⟨_, rfl, ?_⟩; replace BK := A_ (hP.blk BK.out NB.out); replace HP := A_ (HP.out.trans hP); clear ZK; have ZK := bz8_ BK; clear hP))
      refine bodyPost_ret (results_cell_row rfl _ _ gb 27 z8_ (0, 0) _ rfl (put8_ BK.out ..) Tryz.underlying27 rfl (by kernel_rfl)) rfl ?_; exact ⟨_, rfl, Kd.V_nil _ _ _ _ _, HP.out.all8 NB.out ..⟩
    rw [if_neg c0] at h
    have k0 : (d == 8) = false := beq_eq_false_iff_ne.mpr c0
    clear c0
    by_cases cm : m = 64
    · rw [if_pos cm] at h
      have HM := A_ cm
      clear cm
      obtain rfl := Option.some.inj h
      clear h
      go_enter Tryz.func41, Tryz.ntmps41
      go_wp2_with (first | ((with_reducible refine gD 4 ?_); refine bxe_ 4 z8_ 27 ?_; intro gb hgb w2 hbox hb; have BK := A_ hbox; have NB := A_ (HP.out.new hgb); have ngb := NB.out.1; have nbg := Ne.symm ngb; replace HP := A_ (HP.out.below hb); have ZK := bz8_ BK; clear hb hbox hgb) | ((with_reducible refine gD 11 ?_); refine gL 11 Tryz.func62 #[.pointer (some ⟨g, 0, none⟩)] ?_; (with_reducible refine (rparser_begins.many g x t m w0 _ HM.out HP.out.hI HP.out.hB).mono ?_); rintro e6 w6 ⟨rfl, hP⟩; refine ⟨_, rfl, ?_⟩; replace BK := A_ (hP.blk BK.out NB.out); replace HP := A_ (HP.out.trans hP); clear ZK; have ZK := bz8_ BK; clear hP))
      refine bodyPost_ret (results_cell_row rfl _ _ gb 27 z8_ (0, 0) _ rfl (put8_ BK.out ..) Tryz.underlying27 rfl (by kernel_rfl)) rfl ?_; exact ⟨_, rfl, Kd.V_nil _ _ _ _ _, HP.out.all8 NB.out ..⟩
    rw [if_neg cm] at h
    have HM := A_ cm
    have H' := A_ h
    clear cm h
    go_enter Tryz.func41, Tryz.ntmps41
    go_wp2_with (first | ((with_reducible refine gD 4 ?_); refine bxe_ 4 z8_ 27 ?_; intro gb hgb w2 hbox hb; have BK := A_ hbox; have NB := A_ (HP.out.new hgb); have ngb := NB.out.1; have nbg := Ne.symm ngb; replace HP := A_ (HP.out.below hb); have ZK := bz8_ BK; clear hb hbox hgb) | ((with_reducible refine gD 11 ?_); refine gL 11 Tryz.func62 #[.pointer (some ⟨g, 0, none⟩)] ?_; (with_reducible refine (rparser_begins.one g x t m w0 _ HM.out HP.out.hI HP.out.hB).mono ?_); rintro e6 w6 ⟨rfl, hP⟩; refine ⟨_, rfl, ?_⟩; replace BK := A_ (hP.blk BK.out NB.out); replace HP := A_ (HP.out.trans hP); clear ZK; have ZK := bz8_ BK; clear hP) | ((with_reducible refine gD 5 ?_); refine bxe_ 5 z8_ 27 ?_; intro ga hga w7 hbox hb; have BA := A_ hbox; have NA := A_ (HP.out.new hga); have NBA := A_ (show gb ≠ ga from by rw [hga]; exact Nat.ne_of_lt (blk_lt BK.out)); have nba := NBA.out; have nab := Ne.symm nba; have nga := NA.out.1; have nag := Ne.symm nga; replace HP := A_ (HP.out.below hb); replace BK := A_ (blk_below BK.out hb); have Z := bz8_ BA; clear ZK; have ZK := bz8_ BK; clear hb hbox hga))
    (try simp only [Act.put, List.setIfInBounds_toArray, List.set_cons_zero, List.set_cons_succ])
    go_loopg [15] k (fun kq v15 w' => ∃ (t1 : List S46) (m1 : Int) (l1 : List S27) (u5 : Value), Aside0 (qItems kq m1 (wrap64 (d + 1)) t1 l1 = some r) ∧ Aside0 (kq ≤ k) ∧ Aside0 (Kd.N k27 27 w' w.heap.size (fun q => w.heap.size ≤ q ∧ q ≠ gb ∧ q ≠ ga) u5 l1) ∧ Aside0 (w'.heap[gb]? = some (.cells z8_ 27 (0, 0))) ∧ Aside0 (w'.heap[ga]? = some (.cells #[.int .i64 2, .int .i64 0, .string ⟨#[]⟩, .string ⟨#[]⟩, .string ⟨#[]⟩, .bool false, .bool false, u5] 27 (0, 0))) ∧ Aside0 (KQ w0 w w' g t1 m1 0 0))
    case atStart => exact ⟨x :: t, wrap64 (m + 1), [], _, H', ⟨Nat.le_refl _⟩, ⟨Kd.N_nil _ _ _ _ _⟩, ⟨far8_ BK.out NBA.out (.int .i64 2) (.int .i64 0) (.string ⟨#[]⟩) (.string ⟨#[]⟩) (.string ⟨#[]⟩) (.bool false) (.bool false) (.slice none 0 0)⟩, ⟨put8_ BA.out (.int .i64 2) (.int .i64 0) (.string ⟨#[]⟩) (.string ⟨#[]⟩) (.string ⟨#[]⟩) (.bool false) (.bool false) (.slice none 0 0)⟩, ⟨HP.out.all8 NA.out (.int .i64 2) (.int .i64 0) (.string ⟨#[]⟩) (.string ⟨#[]⟩) (.string ⟨#[]⟩) (.bool false) (.bool false) (.slice none 0 0)⟩⟩
    case round =>
      clear H' BK BA HP Z ZK
      obtain ⟨t1, m1, l1, u5, HA, HK1, HN, BK, BA, HP⟩ := hrel
      cases gk with
      | zero => exact absurd HA.out (by simp [qItems])
      | succ k1 =>
      cases t1 with
      | nil => exact absurd HA.out (by simp [qItems])
      | cons y0 t1 =>
      have H := HA.out
      clear HA
      rw [qItems] at H
      obtain ⟨⟨n1, x1, t2, m2⟩, h1, h2⟩ := Option.bind_eq_some_iff.mp H
      clear H
      have HX1 := A_ ((qExpr_err _).1 _ _ _ _ h1)
      have H1 := A_ h1
      clear h1
      by_cases cl : l1.length < 1466015503701
      · replace h2 := (if_pos cl).symm.trans h2
        have HLN := A_ cl
        clear cl
        have Z := bz8_ BA
        have ZK := bz8_ BK
        obtain ⟨ad, n, c, i, hG, i0, i1, i2, hx0, hx1, hx2, hN⟩ := HP.out.hI.parts HP.out.hB; have HG := A_ hG; have HNx := A_ hN; have hp0 := (blk_cell hG 0).trans rfl; have hp1 := (blk_cell hG 1).trans rfl; have hp2 := (blk_cell hG 2).trans rfl; have hp3 := (blk_cell hG 3).trans rfl; have hp4 := (blk_cell hG 4).trans rfl; have hf1 := blk_frozen hG 1; have hf2 := blk_frozen hG 2; have hf3 := blk_frozen hG 3; have hf4 := blk_frozen hG 4; have d0 := decide_eq_true i0; have d1 := decide_eq_true i1; have d2 := ltT i0 i1; clear hG hN hx0 hx1 hx2
        go_upto_region 8 with (fail)
        (try simp only [Act.put, List.setIfInBounds_toArray, List.set_cons_zero, List.set_cons_succ])
        replace HP := A_ (HP.out.step HG.out HNx.out)
        replace BK := A_ (blk_far (p := ⟨g, 1, none⟩) BK.out nbg (.int .i64 (i + 1)))
        replace BA := A_ (blk_far (p := ⟨g, 1, none⟩) BA.out nag (.int .i64 (i + 1)))
        replace HN := A_ (Kd.N_far (p := ⟨g, 1, none⟩) HN.out (fun q hq => Ne.symm (Nat.ne_of_lt (Nat.lt_of_lt_of_le GL.out hq.1))) (.int .i64 (i + 1)))
        clear Z ZK
        clear hp0 hp1 hp2 hp3 hp4 hf1 hf2 hf3 hf4 d0 d1 d2; clear HG HNx
        go_cut [34] (fun v34 wc => ∃ u6 : Value, Aside0 (Kd.N k27 27 wc w.heap.size (fun q => w.heap.size ≤ q ∧ q ≠ gb ∧ q ≠ ga) u6 (l1 ++ [n1])) ∧ Aside0 (wc.heap[gb]? = some (.cells z8_ 27 (0, 0))) ∧ Aside0 (wc.heap[ga]? = some (.cells #[.int .i64 2, .int .i64 0, .string ⟨#[]⟩, .string ⟨#[]⟩, .string ⟨#[]⟩, .bool false, .bool false, u6] 27 (0, 0))) ∧ Aside0 (KQ w0 w wc g t2 m2 (x1.getD (0, 0)).1 (x1.getD (0, 0)).2))
        case first =>
          have Z := bz8_ BA
          go_region_law (first | (refine Kd.N_append_step k27 w.heap.size (by rfl) (.tmp 28) (.tmp 33) 25 27 (.agg #[(.int .i64 0), (.int .i64 0), (.string ⟨#[]⟩), (.string ⟨#[]⟩), (.string ⟨#[]⟩), (.bool false), (.bool false), (.slice none 0 0)]) 96 rfl Tryz.underlying25 info27 rfl (by decide) (by omega) u5 l1 n1 [.int .i64 n1.f0, .int .i64 n1.f1.f0, .string n1.f1.f1, .string n1.f1.f2, .string n1.f1.f3, .bool n1.f2, .bool n1.f3, .slice A1 n1.f4.length c1] (fun q => w.heap.size ≤ q ∧ q ≠ gb ∧ q ≠ ga) (fun q => w.heap.size ≤ q ∧ q ≠ gb ∧ q ≠ ga ∧ some q ≠ u5.ownBlock) rfl ?aX ?aP ?aK ?aF ?aO (Below.refl _ _) ?aS ?aL ?_; (case aX => rfl); (case aP => exact k27_mkF _ _ n1 (Kd.V_at HV.out).2.1 (Kd.V_F HV.out)); (case aK => exact fun q hq => ⟨⟨hq.1, hq.2.1, hq.2.2.1⟩, hq.2.2.2⟩); (case aF => exact fun q hq => ⟨Nat.le_trans HP.out.hK.1 hq, Ne.symm (Nat.ne_of_lt (Nat.lt_of_lt_of_le (blk_lt BK.out) hq)), Ne.symm (Nat.ne_of_lt (Nat.lt_of_lt_of_le (blk_lt BA.out) hq))⟩); (case aO => exact HN.out); (case aS => exact HP.out.hK.1); (case aL => have := HLN.out; omega); intro v6 w6 ho hb hg hat; obtain ⟨A6, c6, rfl⟩ : ∃ A6 c6, v6 = .slice A6 (l1.length + 1) c6 := (by obtain ⟨Aq, cq, e⟩ := Kd.N_slice ho; exact ⟨Aq, cq, by rw [e, List.length_append]; rfl⟩); clear Z; replace BK := A_ (blk_grown BK.out hg (Kd.N_away HN.out (fun _ hk => hk.2.1))); replace BA := A_ (blk_grown BA.out hg (Kd.N_away HN.out (fun _ hk => hk.2.2))); replace HP := A_ (KQ.grown HP.out hg (fun q e => (HN.out.1 q e).1) G0.out GL.out); replace HN := A_ ho; have Z := bz8_ BA; clear Z2 nw1 nw2; clear ho hb hg hat) | (go_simp; go_at_call 21; first | (replace HP := A_ HP.out.drew; replace BK := A_ (blk_drew BK.out); replace BA := A_ (blk_drew BA.out); replace HN := A_ (Kd.N_drew HN.out); (have e64 : IntKind.i64.wrap (d + 1) = wrap64 (d + 1) := i64_w _; (try rw [e64]); clear e64; (with_reducible refine (IH.out k1 (by have := HK1.out; omega) g t1 m1 (wrap64 (d + 1)) _ w0 _ HP.out.hI HP.out.hB H1.out).mono ?_); rintro e5 w5 ⟨v5, rfl, hV, hP⟩; obtain ⟨A1, c1, rfl⟩ : ∃ A1 c1, v5 = .slice A1 n1.f4.length c1 := Kd.V_slice hV; have HV := A_ (Kd.V_mono (ok' := fun q => w.heap.size ≤ q ∧ q ≠ gb ∧ q ≠ ga ∧ some q ≠ u5.ownBlock) hV (fun q hq => ⟨Nat.le_trans HP.out.hK.1 hq, Ne.symm (Nat.ne_of_lt (Nat.lt_of_lt_of_le (blk_lt BK.out) hq)), Ne.symm (Nat.ne_of_lt (Nat.lt_of_lt_of_le (blk_lt BA.out) hq)), fun e => Nat.lt_irrefl _ (Nat.lt_of_lt_of_le (Kd.N_lt HN.out q e.symm) hq)⟩)); replace HN := A_ (Kd.N_keep HN.out hP.hK (fun q hq => Ne.symm (Nat.ne_of_lt (Nat.lt_of_lt_of_le GL.out hq.1)))); replace BK := A_ (hP.blk BK.out NB.out); replace BA := A_ (hP.blk BA.out NA.out); replace HP := A_ (HP.out.trans hP); clear Z; have Z := bz8_ BA; have nw1 : w5.heap.size ≠ ga := Nat.ne_of_gt (blk_lt BA.out); have nw2 : ga ≠ w5.heap.size := Ne.symm nw1; have Z2 := bz8_ (A_ (blk_alloc BA.out (.cells #[.int .i64 n1.f0, .int .i64 n1.f1.f0, .string n1.f1.f1, .string n1.f1.f2, .string n1.f1.f3, .bool n1.f2, .bool n1.f3, .slice A1 n1.f4.length c1] 27 (0, 0)))); clear hV hP)) | (have e64 : IntKind.i64.wrap (d + 1) = wrap64 (d + 1) := i64_w _; (try rw [e64]); clear e64; (with_reducible refine (IH.out k1 (by have := HK1.out; omega) g t1 m1 (wrap64 (d + 1)) _ w0 _ HP.out.hI HP.out.hB H1.out).mono ?_); rintro e5 w5 ⟨v5, rfl, hV, hP⟩; obtain ⟨A1, c1, rfl⟩ : ∃ A1 c1, v5 = .slice A1 n1.f4.length c1 := Kd.V_slice hV; have HV := A_ (Kd.V_mono (ok' := fun q => w.heap.size ≤ q ∧ q ≠ gb ∧ q ≠ ga ∧ some q ≠ u5.ownBlock) hV (fun q hq => ⟨Nat.le_trans HP.out.hK.1 hq, Ne.symm (Nat.ne_of_lt (Nat.lt_of_lt_of_le (blk_lt BK.out) hq)), Ne.symm (Nat.ne_of_lt (Nat.lt_of_lt_of_le (blk_lt BA.out) hq)), fun e => Nat.lt_irrefl _ (Nat.lt_of_lt_of_le (Kd.N_lt HN.out q e.symm) hq)⟩)); replace HN := A_ (Kd.N_keep HN.out hP.hK (fun q hq => Ne.symm (Nat.ne_of_lt (Nat.lt_of_lt_of_le GL.out hq.1)))); replace BK := A_ (hP.blk BK.out NB.out); replace BA := A_ (hP.blk BA.out NA.out); replace HP := A_ (HP.out.trans hP); clear Z; have Z := bz8_ BA; have nw1 : w5.heap.size ≠ ga := Nat.ne_of_gt (blk_lt BA.out); have nw2 : ga ≠ w5.heap.size := Ne.symm nw1; have Z2 := bz8_ (A_ (blk_alloc BA.out (.cells #[.int .i64 n1.f0, .int .i64 n1.f1.f0, .string n1.f1.f1, .string n1.f1.f2, .string n1.f1.f3, .bool n1.f2, .bool n1.f3, .slice A1 n1.f4.length c1] 27 (0, 0)))); clear hV hP)))
          all_goals (go_wp2; go_meet)
          all_goals exact ⟨_, A_ (Kd.N_far (p := ⟨ga, 7, none⟩) HN.out (fun q hq => hq.2.2) _), A_ (blk_far (p := ⟨ga, 7, none⟩) BK.out nba _), A_ (blk_put BA.out 7 _ rfl), A_ (HP.out.far NA.out 7 _)⟩
        obtain ⟨u6, HN2, BK2, BA2, HP2⟩ := hcut
        clear HN BK BA HP
        have HN := HN2
        have BK := BK2
        have BA := BA2
        have HP := HP2
        clear HN2 BK2 BA2 HP2
        obtain ⟨A6, c6, rfl⟩ : ∃ A6 c6, u6 = .slice A6 (l1.length + 1) c6 := (by obtain ⟨Aq, cq, e⟩ := Kd.N_slice HN.out; exact ⟨Aq, cq, by rw [e, List.length_append]; rfl⟩)
        have Z := bz8_ BA
        have ZK := bz8_ BK
        cases x1 with
        | some y =>
          obtain rfl := Option.some.inj h2
          clear h2
          have ke : (y.2 != 0) = true := bne_iff_ne.mpr (HX1.out y rfl)
          obtain ⟨A9, c9, p9, hG9, hg9⟩ := HP.out.hI; have hp4 := (blk_cell hG9 4).trans rfl; clear hG9 hg9
          go_wp2
          refine bodyPost_ret (results_cell_row rfl _ _ gb 27 #[.int .i64 2, .int .i64 0, .string ⟨#[]⟩, .string ⟨#[]⟩, .string ⟨#[]⟩, .bool false, .bool false, .slice A6 (l1.length + 1) c6] (0, 0) _ rfl (put8_ BK.out ..) Tryz.underlying27 rfl (by kernel_rfl)) rfl ?_
          have p1 := V_all8 (Kd.N_V (base' := w.heap.size) HN.out) (fun q hq => hq.2.1) (.int .i64 2) (.int .i64 0) (.string ⟨#[]⟩) (.string ⟨#[]⟩) (.string ⟨#[]⟩) (.bool false) (.bool false) (.slice A6 (l1.length + 1) c6)
          exact ⟨_, rfl, V_base (Kd.V_mono p1 (fun q hq => hq.1)), HP.out.all8 NB.out ..⟩
        | none =>
          cases t2 with
          | nil => cases h2
          | cons y u =>
          obtain ⟨ad, n, c, i, hG, i0, i1, i2, hx0, hx1, hx2, hN⟩ := HP.out.hI.parts HP.out.hB; have HG := A_ hG; have HNx := A_ hN; have hp0 := (blk_cell hG 0).trans rfl; have hp1 := (blk_cell hG 1).trans rfl; have hp2 := (blk_cell hG 2).trans rfl; have hp3 := (blk_cell hG 3).trans rfl; have hp4 := (blk_cell hG 4).trans rfl; have hf1 := blk_frozen hG 1; have hf2 := blk_frozen hG 2; have hf3 := blk_frozen hG 3; have hf4 := blk_frozen hG 4; have d0 := decide_eq_true i0; have d1 := decide_eq_true i1; have d2 := ltT i0 i1; clear hG hN hx0 hx1 hx2
          by_cases cy : y.f0 = 5
          · replace h2 := (if_pos cy).symm.trans h2
            have k5 : (y.f0 == 5) = true := beq_iff_eq.mpr cy
            clear cy
            obtain rfl := Option.some.inj h2
            clear h2
            go_wp2_with (first | ((with_reducible refine gD 43 ?_); refine gL 43 Tryz.func22 #[.pointer (some ⟨g, 0, none⟩)] ?_; (with_reducible refine (rparser_kind.calls g y u m2 0 0 w0 _ HP.out.hI HP.out.hB).mono ?_); rintro e8 w8 ⟨rfl, hb⟩; refine ⟨_, rfl, ?_⟩; replace HP := A_ (HP.out.below hb); replace BK := A_ (blk_below BK.out hb); replace BA := A_ (blk_below BA.out hb); replace HN := A_ (Kd.N_below HN.out hb); clear hp0 hp1 hp2 hp3 hp4 hf1 hf2 hf3 hf4 d0 d1 d2; clear HG HNx; clear Z ZK; have Z := bz8_ BA; have ZK := bz8_ BK; obtain ⟨ad, n, c, i, hG, i0, i1, i2, hx0, hx1, hx2, hN⟩ := HP.out.hI.parts HP.out.hB; have HG := A_ hG; have HNx := A_ hN; have hp0 := (blk_cell hG 0).trans rfl; have hp1 := (blk_cell hG 1).trans rfl; have hp2 := (blk_cell hG 2).trans rfl; have hp3 := (blk_cell hG 3).trans rfl; have hp4 := (blk_cell hG 4).trans rfl; have hf1 := blk_frozen hG 1; have hf2 := blk_frozen hG 2; have hf3 := blk_frozen hG 3; have hf4 := blk_frozen hG 4; have d0 := decide_eq_true i0; have d1 := decide_eq_true i1; have d2 := ltT i0 i1; clear hG hN hx0 hx1 hx2; clear hb))
            refine bodyPost_ret (results_cell_row rfl _ _ gb 27 #[.int .i64 2, .int .i64 0, .string ⟨#[]⟩, .string ⟨#[]⟩, .string ⟨#[]⟩, .bool false, .bool false, .slice A6 (l1.length + 1) c6] (0, 0) _ rfl (put8_ (blk_far (p := ⟨g, 1, none⟩) BK.out nbg _) ..) Tryz.underlying27 rfl (by kernel_rfl)) rfl ?_
            have p0 := Kd.N_far (p := ⟨g, 1, none⟩) HN.out (fun q hq => Ne.symm (Nat.ne_of_lt (Nat.lt_of_lt_of_le GL.out hq.1))) (.int .i64 (i + 1))
            have p1 := V_all8 (Kd.N_V (base' := w.heap.size) p0) (fun q hq => hq.2.1) (.int .i64 2) (.int .i64 0) (.string ⟨#[]⟩) (.string ⟨#[]⟩) (.string ⟨#[]⟩) (.bool false) (.bool false) (.slice A6 (l1.length + 1) c6)
            exact ⟨_, rfl, V_base (Kd.V_mono p1 (fun q hq => hq.1)), (HP.out.step HG.out HNx.out).all8 NB.out ..⟩
          · replace h2 := (if_neg cy).symm.trans h2
            have k5 : (y.f0 == 5) = false := beq_eq_false_iff_ne.mpr cy
            clear cy
            by_cases cy : y.f0 = 6
            · replace h2 := (if_pos cy).symm.trans h2
              have k6 : (y.f0 != 6) = false := bne_eq_false_iff_eq.mpr cy
              clear cy
              have H' := A_ h2
              clear h2
              go_wp2_with (first | ((with_reducible refine gD 43 ?_); refine gL 43 Tryz.func22 #[.pointer (some ⟨g, 0, none⟩)] ?_; (with_reducible refine (rparser_kind.calls g y u m2 0 0 w0 _ HP.out.hI HP.out.hB).mono ?_); rintro e8 w8 ⟨rfl, hb⟩; refine ⟨_, rfl, ?_⟩; replace HP := A_ (HP.out.below hb); replace BK := A_ (blk_below BK.out hb); replace BA := A_ (blk_below BA.out hb); replace HN := A_ (Kd.N_below HN.out hb); clear hp0 hp1 hp2 hp3 hp4 hf1 hf2 hf3 hf4 d0 d1 d2; clear HG HNx; clear Z ZK; have Z := bz8_ BA; have ZK := bz8_ BK; obtain ⟨ad, n, c, i, hG, i0, i1, i2, hx0, hx1, hx2, hN⟩ := HP.out.hI.parts HP.out.hB; have HG := A_ hG; have HNx := A_ hN; have hp0 := (blk_cell hG 0).trans rfl; have hp1 := (blk_cell hG 1).trans rfl; have hp2 := (blk_cell hG 2).trans rfl; have hp3 := (blk_cell hG 3).trans rfl; have hp4 := (blk_cell hG 4).trans rfl; have hf1 := blk_frozen hG 1; have hf2 := blk_frozen hG 2; have hf3 := blk_frozen hG 3; have hf4 := blk_frozen hG 4; have d0 := decide_eq_true i0; have d1 := decide_eq_true i1; have d2 := ltT i0 i1; clear hG hN hx0 hx1 hx2; clear hb) | ((with_reducible refine gD 54 ?_); refine gL 54 Tryz.func22 #[.pointer (some ⟨g, 0, none⟩)] ?_; (with_reducible refine (rparser_kind.calls g y u m2 0 0 w0 _ HP.out.hI HP.out.hB).mono ?_); rintro e8 w8 ⟨rfl, hb⟩; refine ⟨_, rfl, ?_⟩; replace HP := A_ (HP.out.below hb); replace BK := A_ (blk_below BK.out hb); replace BA := A_ (blk_below BA.out hb); replace HN := A_ (Kd.N_below HN.out hb); clear hp0 hp1 hp2 hp3 hp4 hf1 hf2 hf3 hf4 d0 d1 d2; clear HG HNx; clear Z ZK; have Z := bz8_ BA; have ZK := bz8_ BK; obtain ⟨ad, n, c, i, hG, i0, i1, i2, hx0, hx1, hx2, hN⟩ := HP.out.hI.parts HP.out.hB; have HG := A_ hG; have HNx := A_ hN; have hp0 := (blk_cell hG 0).trans rfl; have hp1 := (blk_cell hG 1).trans rfl; have hp2 := (blk_cell hG 2).trans rfl; have hp3 := (blk_cell hG 3).trans rfl; have hp4 := (blk_cell hG 4).trans rfl; have hf1 := blk_frozen hG 1; have hf2 := blk_frozen hG 2; have hf3 := blk_frozen hG 3; have hf4 := blk_frozen hG 4; have d0 := decide_eq_true i0; have d1 := decide_eq_true i1; have d2 := ltT i0 i1; clear hG hN hx0 hx1 hx2; clear hb))
              go_roundg k1
              case measure => have := HK1.out; omega
              case rel => exact ⟨y :: u, m2, l1 ++ [n1], .slice A6 (l1.length + 1) c6, H', ⟨by have := HK1.out; omega⟩, HN, BK, BA, HP⟩
            · replace h2 := (if_neg cy).symm.trans h2
              have k6 : (y.f0 != 6) = true := bne_iff_ne.mpr cy
              clear cy
              obtain rfl := Option.some.inj h2
              clear h2
              go_wp2_with (first | ((with_reducible refine gD 43 ?_); refine gL 43 Tryz.func22 #[.pointer (some ⟨g, 0, none⟩)] ?_; (with_reducible refine (rparser_kind.calls g y u m2 0 0 w0 _ HP.out.hI HP.out.hB).mono ?_); rintro e8 w8 ⟨rfl, hb⟩; refine ⟨_, rfl, ?_⟩; replace HP := A_ (HP.out.below hb); replace BK := A_ (blk_below BK.out hb); replace BA := A_ (blk_below BA.out hb); replace HN := A_ (Kd.N_below HN.out hb); clear hp0 hp1 hp2 hp3 hp4 hf1 hf2 hf3 hf4 d0 d1 d2; clear HG HNx; clear Z ZK; have Z := bz8_ BA; have ZK := bz8_ BK; obtain ⟨ad, n, c, i, hG, i0, i1, i2, hx0, hx1, hx2, hN⟩ := HP.out.hI.parts HP.out.hB; have HG := A_ hG; have HNx := A_ hN; have hp0 := (blk_cell hG 0).trans rfl; have hp1 := (blk_cell hG 1).trans rfl; have hp2 := (blk_cell hG 2).trans rfl; have hp3 := (blk_cell hG 3).trans rfl; have hp4 := (blk_cell hG 4).trans rfl; have hf1 := blk_frozen hG 1; have hf2 := blk_frozen hG 2; have hf3 := blk_frozen hG 3; have hf4 := blk_frozen hG 4; have d0 := decide_eq_true i0; have d1 := decide_eq_true i1; have d2 := ltT i0 i1; clear hG hN hx0 hx1 hx2; clear hb) | ((with_reducible refine gD 54 ?_); refine gL 54 Tryz.func22 #[.pointer (some ⟨g, 0, none⟩)] ?_; (with_reducible refine (rparser_kind.calls g y u m2 0 0 w0 _ HP.out.hI HP.out.hB).mono ?_); rintro e8 w8 ⟨rfl, hb⟩; refine ⟨_, rfl, ?_⟩; replace HP := A_ (HP.out.below hb); replace BK := A_ (blk_below BK.out hb); replace BA := A_ (blk_below BA.out hb); replace HN := A_ (Kd.N_below HN.out hb); clear hp0 hp1 hp2 hp3 hp4 hf1 hf2 hf3 hf4 d0 d1 d2; clear HG HNx; clear Z ZK; have Z := bz8_ BA; have ZK := bz8_ BK; obtain ⟨ad, n, c, i, hG, i0, i1, i2, hx0, hx1, hx2, hN⟩ := HP.out.hI.parts HP.out.hB; have HG := A_ hG; have HNx := A_ hN; have hp0 := (blk_cell hG 0).trans rfl; have hp1 := (blk_cell hG 1).trans rfl; have hp2 := (blk_cell hG 2).trans rfl; have hp3 := (blk_cell hG 3).trans rfl; have hp4 := (blk_cell hG 4).trans rfl; have hf1 := blk_frozen hG 1; have hf2 := blk_frozen hG 2; have hf3 := blk_frozen hG 3; have hf4 := blk_frozen hG 4; have d0 := decide_eq_true i0; have d1 := decide_eq_true i1; have d2 := ltT i0 i1; clear hG hN hx0 hx1 hx2; clear hb) | ((with_reducible refine gD 57 ?_); refine gL 57 Tryz.func23 #[.pointer (some ⟨g, 0, none⟩), .int .i64 3] ?_; (with_reducible refine (rparser_fail.calls g y u m2 3 w0 _ HP.out.hI HP.out.hB).mono ?_); rintro e9 w9 ⟨rfl, hP⟩; refine ⟨_, rfl, ?_⟩; replace BK := A_ (hP.blk BK.out NB.out); replace HP := A_ (HP.out.trans hP); clear hp0 hp1 hp2 hp3 hp4 hf1 hf2 hf3 hf4 d0 d1 d2; clear HG HNx; clear Z ZK; have ZK := bz8_ BK; clear hP))
              refine bodyPost_ret (results_cell_row rfl _ _ gb 27 z8_ (0, 0) _ rfl (put8_ BK.out ..) Tryz.underlying27 rfl (by kernel_rfl)) rfl ?_; exact ⟨_, rfl, Kd.V_nil _ _ _ _ _, HP.out.all8 NB.out ..⟩
      · replace h2 := (if_neg cl).symm.trans h2
        cases h2
set_option maxHeartbeats 8000000 in
set_option maxRecDepth 100000 in
theorem rparser_expr.calls (k : Nat) : ExprQ k := by
  induction k using Nat.strongRecOn with
  | _ k ih =>
  intro g t m d r w0 w hI hB0 h
  have HP := A_ (KQ.start hI hB0)
  have IH := A_ ih
  clear hI hB0 ih
  cases k with
  | zero => cases h
  | succ k =>
  cases t with
  | nil => cases h
  | cons x t =>
  rw [qExpr] at h
  by_cases c : x.f0 = 4
  · rw [if_pos c] at h
    have k4 : (x.f0 == 4) = true := beq_iff_eq.mpr c
    have HL := A_ h
    clear c h
    go_enter Tryz.func21, Tryz.ntmps21
    go_wp2_with (first | ((with_reducible refine gD 4 ?_); refine bxe_ 4 z8_ 27 ?_; intro gb hgb w2 hbox hb; have BK := A_ hbox; have NB := A_ (HP.out.new hgb); have ngb := NB.out.1; have nbg := Ne.symm ngb; replace HP := A_ (HP.out.below hb); have ZK := bz8_ BK; clear hb hbox hgb) | ((with_reducible refine gD 6 ?_); refine gL 6 Tryz.func22 #[.pointer (some ⟨g, 0, none⟩)] ?_; (with_reducible refine (rparser_kind.calls g x t m 0 0 w0 _ HP.out.hI HP.out.hB).mono ?_); rintro e8 w8 ⟨rfl, hb⟩; refine ⟨_, rfl, ?_⟩; replace HP := A_ (HP.out.below hb); replace BK := A_ (blk_below BK.out hb); clear ZK; clear hb) | ((with_reducible refine gD 10 ?_); refine gL 10 Tryz.func41 #[.pointer (some ⟨g, 0, none⟩), .int .i64 d] ?_; (with_reducible refine (rparser_list.calls k (fun j hj => IH.out j (Nat.lt_succ_of_lt hj)) g x t m d r w0 _ HP.out.hI HP.out.hB HL.out).mono ?_); rintro e9 w9 ⟨v1, rfl, hV, hP⟩; refine ⟨_, rfl, ?_⟩; obtain ⟨A1, c1, rfl⟩ : ∃ A1 c1, v1 = .slice A1 r.n.f4.length c1 := Kd.V_slice hV; have HV := A_ (Kd.V_mono (ok' := fun q => w.heap.size ≤ q ∧ q ≠ gb) hV (fun q hq => ⟨Nat.le_trans HP.out.hK.1 hq, Ne.symm (Nat.ne_of_lt (Nat.lt_of_lt_of_le (blk_lt BK.out) hq))⟩)); replace BK := A_ (hP.blk BK.out NB.out); replace HP := A_ (HP.out.trans hP); have ZK := bz8_ BK; clear hV hP))
    refine bodyPost_ret (results_cell_row rfl _ _ gb 27 #[.int .i64 r.n.f0, .int .i64 r.n.f1.f0, .string r.n.f1.f1, .string r.n.f1.f2, .string r.n.f1.f3, .bool r.n.f2, .bool r.n.f3, .slice A1 r.n.f4.length c1] (0, 0) _ rfl (put8_ BK.out ..) Tryz.underlying27 rfl (by kernel_rfl)) rfl ?_; have p1 := V_all8 HV.out (fun q hq => hq.2) (.int .i64 r.n.f0) (.int .i64 r.n.f1.f0) (.string r.n.f1.f1) (.string r.n.f1.f2) (.string r.n.f1.f3) (.bool r.n.f2) (.bool r.n.f3) (.slice A1 r.n.f4.length c1); exact ⟨_, rfl, V_base (Kd.V_mono p1 (fun q hq => hq.1)), HP.out.all8 NB.out ..⟩
  · rw [if_neg c] at h
    have k4 : (x.f0 == 4) = false := beq_eq_false_iff_ne.mpr c
    have HL := A_ h
    clear c h
    go_enter Tryz.func21, Tryz.ntmps21
    go_wp2_with (first | ((with_reducible refine gD 4 ?_); refine bxe_ 4 z8_ 27 ?_; intro gb hgb w2 hbox hb; have BK := A_ hbox; have NB := A_ (HP.out.new hgb); have ngb := NB.out.1; have nbg := Ne.symm ngb; replace HP := A_ (HP.out.below hb); have ZK := bz8_ BK; clear hb hbox hgb) | ((with_reducible refine gD 6 ?_); refine gL 6 Tryz.func22 #[.pointer (some ⟨g, 0, none⟩)] ?_; (with_reducible refine (rparser_kind.calls g x t m 0 0 w0 _ HP.out.hI HP.out.hB).mono ?_); rintro e8 w8 ⟨rfl, hb⟩; refine ⟨_, rfl, ?_⟩; replace HP := A_ (HP.out.below hb); replace BK := A_ (blk_below BK.out hb); clear ZK; clear hb) | ((with_reducible refine gD 12 ?_); refine gL 12 Tryz.func42 #[.pointer (some ⟨g, 0, none⟩)] ?_; (with_reducible refine (rparser_span.calls k g (x :: t) m r w0 _ HP.out.hI HP.out.hB HL.out).mono ?_); rintro e9 w9 ⟨v1, rfl, hV, hP⟩; refine ⟨_, rfl, ?_⟩; obtain ⟨A1, c1, rfl⟩ : ∃ A1 c1, v1 = .slice A1 r.n.f4.length c1 := Kd.V_slice hV; have HV := A_ (Kd.V_mono (ok' := fun q => w.heap.size ≤ q ∧ q ≠ gb) hV (fun q hq => ⟨Nat.le_trans HP.out.hK.1 hq, Ne.symm (Nat.ne_of_lt (Nat.lt_of_lt_of_le (blk_lt BK.out) hq))⟩)); replace BK := A_ (hP.blk BK.out NB.out); replace HP := A_ (HP.out.trans hP); have ZK := bz8_ BK; clear hV hP))
    refine bodyPost_ret (results_cell_row rfl _ _ gb 27 #[.int .i64 r.n.f0, .int .i64 r.n.f1.f0, .string r.n.f1.f1, .string r.n.f1.f2, .string r.n.f1.f3, .bool r.n.f2, .bool r.n.f3, .slice A1 r.n.f4.length c1] (0, 0) _ rfl (put8_ BK.out ..) Tryz.underlying27 rfl (by kernel_rfl)) rfl ?_; have p1 := V_all8 HV.out (fun q hq => hq.2) (.int .i64 r.n.f0) (.int .i64 r.n.f1.f0) (.string r.n.f1.f1) (.string r.n.f1.f2) (.string r.n.f1.f3) (.bool r.n.f2) (.bool r.n.f3) (.slice A1 r.n.f4.length c1); exact ⟨_, rfl, V_base (Kd.V_mono p1 (fun q hq => hq.1)), HP.out.all8 NB.out ..⟩
end Go.Proofs.YtjgjhekpiijniaaGreat.A
namespace Go.Proofs.YtjgjhekpiijniaaGreat.A
open Go.RowKit Go.Proofs.YtjgjhekpiijniaaGreatW.PrintWords Go.Proofs.YtjgjhekpiijniaaGreatW.PrintLast Go.Proofs.YtjgjhekpiijniaaGreatW.PrintMore
attribute [local go_sem] max2_int min2_int max_two min_two max_three min_three max_four min_four
set_option maxHeartbeats 8000000 in
set_option maxRecDepth 100000 in
theorem lustrumref09_letter.calls (a0 : Int) (r : Bool) (w : World) (h : lustrumref09_letter.f a0 = some r) :
  Calls Tryz.prog 60 #[.int .u8 a0] w fun e w' => e = .returned (.bool r) ∧ Drawn0 w w' := by
 have H : (if a0 ≥ 48 then (if a0 ≤ 57 then (some true) else (if a0 = 88 then (some true) else (if a0 = 45 then (some true) else (if a0 = 115 then (some true) else (if a0 = 100 then (some true) else (some (a0 == 99))))))) else (if a0 = 88 then (some true) else (if a0 = 45 then (some true) else (if a0 = 115 then (some true) else (if a0 = 100 then (some true) else (some (a0 == 99))))))) = some r := h; clear h
 by_cases c2 : a0 ≥ 48
 ·rw [if_pos c2] at H
  have c2b0 := decide_eq_true c2; clear c2
  by_cases c3 : a0 ≤ 57
  ·rw [if_pos c3] at H
   have c3b0 := decide_eq_true c3; clear c3; obtain rfl := Option.some.inj H; go_enter Tryz.func60, Tryz.ntmps60; go_wp2; go_ret; exact ⟨by first | rfl | (simp; done) | (simp [*]; done), by repeat (first | exact Drawn0.refl _ | apply Drawn0.step)⟩
  ·rw [if_neg c3] at H
   have c3b0 := decide_eq_false c3; clear c3
   by_cases c4 : a0 = 88
   ·rw [if_pos c4] at H
    have c4b0 : (a0 == 88) = true := beq_iff_eq.mpr c4; have c4b1 : (a0 != 88) = false := bne_eq_false_iff_eq.mpr c4; clear c4; obtain rfl := Option.some.inj H; go_enter Tryz.func60, Tryz.ntmps60; go_wp2; go_ret; exact ⟨by first | rfl | (simp; done) | (simp [*]; done), by repeat (first | exact Drawn0.refl _ | apply Drawn0.step)⟩
   ·rw [if_neg c4] at H
    have c4b0 : (a0 == 88) = false := beq_eq_false_iff_ne.mpr c4; have c4b1 : (a0 != 88) = true := bne_iff_ne.mpr c4
    by_cases c5 : a0 = 45
    ·rw [if_pos c5] at H
     have c5b0 : (a0 == 45) = true := beq_iff_eq.mpr c5; have c5b1 : (a0 != 45) = false := bne_eq_false_iff_eq.mpr c5; clear c5; obtain rfl := Option.some.inj H; go_enter Tryz.func60, Tryz.ntmps60; go_wp2; go_ret; exact ⟨by first | rfl | (simp; done) | (simp [*]; done), by repeat (first | exact Drawn0.refl _ | apply Drawn0.step)⟩
    ·rw [if_neg c5] at H
     have c5b0 : (a0 == 45) = false := beq_eq_false_iff_ne.mpr c5; have c5b1 : (a0 != 45) = true := bne_iff_ne.mpr c5
     by_cases c6 : a0 = 115
     ·rw [if_pos c6] at H
      have c6b0 : (a0 == 115) = true := beq_iff_eq.mpr c6; have c6b1 : (a0 != 115) = false := bne_eq_false_iff_eq.mpr c6; clear c6; obtain rfl := Option.some.inj H; go_enter Tryz.func60, Tryz.ntmps60; go_wp2; go_ret; exact ⟨by first | rfl | (simp; done) | (simp [*]; done), by repeat (first | exact Drawn0.refl _ | apply Drawn0.step)⟩
     ·rw [if_neg c6] at H
      have c6b0 : (a0 == 115) = false := beq_eq_false_iff_ne.mpr c6; have c6b1 : (a0 != 115) = true := bne_iff_ne.mpr c6
      by_cases c7 : a0 = 100
      ·rw [if_pos c7] at H
       have c7b0 : (a0 == 100) = true := beq_iff_eq.mpr c7; have c7b1 : (a0 != 100) = false := bne_eq_false_iff_eq.mpr c7; clear c7; obtain rfl := Option.some.inj H; go_enter Tryz.func60, Tryz.ntmps60; go_wp2; go_ret; exact ⟨by first | rfl | (simp; done) | (simp [*]; done), by repeat (first | exact Drawn0.refl _ | apply Drawn0.step)⟩
      ·rw [if_neg c7] at H
       have c7b0 : (a0 == 100) = false := beq_eq_false_iff_ne.mpr c7; have c7b1 : (a0 != 100) = true := bne_iff_ne.mpr c7; obtain rfl := Option.some.inj H; go_enter Tryz.func60, Tryz.ntmps60; go_wp2; go_ret; exact ⟨by first | rfl | (simp; done) | (simp [*]; done), by repeat (first | exact Drawn0.refl _ | apply Drawn0.step)⟩
 ·rw [if_neg c2] at H
  have c2b0 := decide_eq_false c2; clear c2
  by_cases c8 : a0 = 88
  ·rw [if_pos c8] at H
   have c8b0 : (a0 == 88) = true := beq_iff_eq.mpr c8; have c8b1 : (a0 != 88) = false := bne_eq_false_iff_eq.mpr c8; clear c8; obtain rfl := Option.some.inj H; go_enter Tryz.func60, Tryz.ntmps60; go_wp2; go_ret; exact ⟨by first | rfl | (simp; done) | (simp [*]; done), by repeat (first | exact Drawn0.refl _ | apply Drawn0.step)⟩
  ·rw [if_neg c8] at H
   have c8b0 : (a0 == 88) = false := beq_eq_false_iff_ne.mpr c8; have c8b1 : (a0 != 88) = true := bne_iff_ne.mpr c8
   by_cases c9 : a0 = 45
   ·rw [if_pos c9] at H
    have c9b0 : (a0 == 45) = true := beq_iff_eq.mpr c9; have c9b1 : (a0 != 45) = false := bne_eq_false_iff_eq.mpr c9; clear c9; obtain rfl := Option.some.inj H; go_enter Tryz.func60, Tryz.ntmps60; go_wp2; go_ret; exact ⟨by first | rfl | (simp; done) | (simp [*]; done), by repeat (first | exact Drawn0.refl _ | apply Drawn0.step)⟩
   ·rw [if_neg c9] at H
    have c9b0 : (a0 == 45) = false := beq_eq_false_iff_ne.mpr c9; have c9b1 : (a0 != 45) = true := bne_iff_ne.mpr c9
    by_cases c10 : a0 = 115
    ·rw [if_pos c10] at H
     have c10b0 : (a0 == 115) = true := beq_iff_eq.mpr c10; have c10b1 : (a0 != 115) = false := bne_eq_false_iff_eq.mpr c10; clear c10; obtain rfl := Option.some.inj H; go_enter Tryz.func60, Tryz.ntmps60; go_wp2; go_ret; exact ⟨by first | rfl | (simp; done) | (simp [*]; done), by repeat (first | exact Drawn0.refl _ | apply Drawn0.step)⟩
    ·rw [if_neg c10] at H
     have c10b0 : (a0 == 115) = false := beq_eq_false_iff_ne.mpr c10; have c10b1 : (a0 != 115) = true := bne_iff_ne.mpr c10
     by_cases c11 : a0 = 100
     ·rw [if_pos c11] at H
      have c11b0 : (a0 == 100) = true := beq_iff_eq.mpr c11; have c11b1 : (a0 != 100) = false := bne_eq_false_iff_eq.mpr c11; clear c11; obtain rfl := Option.some.inj H; go_enter Tryz.func60, Tryz.ntmps60; go_wp2; go_ret; exact ⟨by first | rfl | (simp; done) | (simp [*]; done), by repeat (first | exact Drawn0.refl _ | apply Drawn0.step)⟩
     ·rw [if_neg c11] at H
      have c11b0 : (a0 == 100) = false := beq_eq_false_iff_ne.mpr c11; have c11b1 : (a0 != 100) = true := bne_iff_ne.mpr c11; obtain rfl := Option.some.inj H; go_enter Tryz.func60, Tryz.ntmps60; go_wp2; go_ret; exact ⟨by first | rfl | (simp; done) | (simp [*]; done), by repeat (first | exact Drawn0.refl _ | apply Drawn0.step)⟩
set_option maxHeartbeats 8000000 in
set_option maxRecDepth 100000 in
theorem lustrumref09_sign.calls (a0 r : Int) (w : World) (h : lustrumref09_sign.f a0 = some r) :
  Calls Tryz.prog 61 #[.int .u8 a0] w fun e w' => e = .returned (.int .i64 r) ∧ Drawn0 w w' := by
 have H : (if a0 = 47 then (some 1) else (if a0 = 42 then (some 3) else (if a0 = 91 then (some 4) else (if a0 = 93 then (some 5) else (if a0 = 44 then (some 6) else (if a0 = 63 then (some 7) else (if a0 = 126 then (some 8) else (some (-1))))))))) = some r := h; clear h
 by_cases c2 : a0 = 47
 ·rw [if_pos c2] at H
  have c2b0 : (a0 == 47) = true := beq_iff_eq.mpr c2; have c2b1 : (a0 != 47) = false := bne_eq_false_iff_eq.mpr c2; clear c2; obtain rfl := Option.some.inj H; go_enter Tryz.func61, Tryz.ntmps61; go_wp2; go_ret; exact ⟨by first | rfl | (simp; done) | (simp [*]; done), by repeat (first | exact Drawn0.refl _ | apply Drawn0.step)⟩
 ·rw [if_neg c2] at H
  have c2b0 : (a0 == 47) = false := beq_eq_false_iff_ne.mpr c2; have c2b1 : (a0 != 47) = true := bne_iff_ne.mpr c2
  by_cases c3 : a0 = 42
  ·rw [if_pos c3] at H
   have c3b0 : (a0 == 42) = true := beq_iff_eq.mpr c3; have c3b1 : (a0 != 42) = false := bne_eq_false_iff_eq.mpr c3; clear c3; obtain rfl := Option.some.inj H; go_enter Tryz.func61, Tryz.ntmps61; go_wp2; go_ret; exact ⟨by first | rfl | (simp; done) | (simp [*]; done), by repeat (first | exact Drawn0.refl _ | apply Drawn0.step)⟩
  ·rw [if_neg c3] at H
   have c3b0 : (a0 == 42) = false := beq_eq_false_iff_ne.mpr c3; have c3b1 : (a0 != 42) = true := bne_iff_ne.mpr c3
   by_cases c4 : a0 = 91
   ·rw [if_pos c4] at H
    have c4b0 : (a0 == 91) = true := beq_iff_eq.mpr c4; have c4b1 : (a0 != 91) = false := bne_eq_false_iff_eq.mpr c4; clear c4; obtain rfl := Option.some.inj H; go_enter Tryz.func61, Tryz.ntmps61; go_wp2; go_ret; exact ⟨by first | rfl | (simp; done) | (simp [*]; done), by repeat (first | exact Drawn0.refl _ | apply Drawn0.step)⟩
   ·rw [if_neg c4] at H
    have c4b0 : (a0 == 91) = false := beq_eq_false_iff_ne.mpr c4; have c4b1 : (a0 != 91) = true := bne_iff_ne.mpr c4
    by_cases c5 : a0 = 93
    ·rw [if_pos c5] at H
     have c5b0 : (a0 == 93) = true := beq_iff_eq.mpr c5; have c5b1 : (a0 != 93) = false := bne_eq_false_iff_eq.mpr c5; clear c5; obtain rfl := Option.some.inj H; go_enter Tryz.func61, Tryz.ntmps61; go_wp2; go_ret; exact ⟨by first | rfl | (simp; done) | (simp [*]; done), by repeat (first | exact Drawn0.refl _ | apply Drawn0.step)⟩
    ·rw [if_neg c5] at H
     have c5b0 : (a0 == 93) = false := beq_eq_false_iff_ne.mpr c5; have c5b1 : (a0 != 93) = true := bne_iff_ne.mpr c5
     by_cases c6 : a0 = 44
     ·rw [if_pos c6] at H
      have c6b0 : (a0 == 44) = true := beq_iff_eq.mpr c6; have c6b1 : (a0 != 44) = false := bne_eq_false_iff_eq.mpr c6; clear c6; obtain rfl := Option.some.inj H; go_enter Tryz.func61, Tryz.ntmps61; go_wp2; go_ret; exact ⟨by first | rfl | (simp; done) | (simp [*]; done), by repeat (first | exact Drawn0.refl _ | apply Drawn0.step)⟩
     ·rw [if_neg c6] at H
      have c6b0 : (a0 == 44) = false := beq_eq_false_iff_ne.mpr c6; have c6b1 : (a0 != 44) = true := bne_iff_ne.mpr c6
      by_cases c7 : a0 = 63
      ·rw [if_pos c7] at H
       have c7b0 : (a0 == 63) = true := beq_iff_eq.mpr c7; have c7b1 : (a0 != 63) = false := bne_eq_false_iff_eq.mpr c7; clear c7; obtain rfl := Option.some.inj H; go_enter Tryz.func61, Tryz.ntmps61; go_wp2; go_ret; exact ⟨by first | rfl | (simp; done) | (simp [*]; done), by repeat (first | exact Drawn0.refl _ | apply Drawn0.step)⟩
      ·rw [if_neg c7] at H
       have c7b0 : (a0 == 63) = false := beq_eq_false_iff_ne.mpr c7; have c7b1 : (a0 != 63) = true := bne_iff_ne.mpr c7
       by_cases c8 : a0 = 126
       ·rw [if_pos c8] at H
        have c8b0 : (a0 == 126) = true := beq_iff_eq.mpr c8; have c8b1 : (a0 != 126) = false := bne_eq_false_iff_eq.mpr c8; clear c8; obtain rfl := Option.some.inj H; go_enter Tryz.func61, Tryz.ntmps61; go_wp2; go_ret; exact ⟨by first | rfl | (simp; done) | (simp [*]; done), by repeat (first | exact Drawn0.refl _ | apply Drawn0.step)⟩
       ·rw [if_neg c8] at H
        have c8b0 : (a0 == 126) = false := beq_eq_false_iff_ne.mpr c8; have c8b1 : (a0 != 126) = true := bne_iff_ne.mpr c8; obtain rfl := Option.some.inj H; go_enter Tryz.func61, Tryz.ntmps61; go_wp2; go_ret; exact ⟨by first | rfl | (simp; done) | (simp [*]; done), by repeat (first | exact Drawn0.refl _ | apply Drawn0.step)⟩
end Go.Proofs.YtjgjhekpiijniaaGreat.A
namespace Go.Proofs.YtjgjhekpiijniaaGreat.A
open Go.RowKit Go.Proofs.YtjgjhekpiijniaaGreatW.PrintWords Go.Proofs.YtjgjhekpiijniaaGreatW.PrintLast Go.Proofs.YtjgjhekpiijniaaGreatW.PrintMore
attribute [local go_sem] max2_int min2_int max_two min_two max_three min_three max_four min_four
attribute [local go_sem] isSome_setCell
set_option maxHeartbeats 8000000 in
set_option maxRecDepth 100000 in
theorem lustrumref09_one.calls (k : Nat) (a0 : ByteArray) (a1 r1 r2 : Int) (r3 : ByteArray) (r4 : Int) (w : World) (h : lustrumref09_one.f k a0 a1 = some (r1, r2, r3, r4)) :
  Calls Tryz.prog 40 #[.string a0, .int .i64 a1] w fun e w' => e = .returned (.tuple #[.agg #[.int .i64 r1, .int .i64 r2, .string r3], .int .i64 r4]) ∧ Below w.heap.size w w' := by
 have hu46 := Tryz.underlying46; have HB := A_ (Below.refl w.heap.size w); have H : (lustrumref09_one.l0 k a0 a1 0) = some (r1, r2, r3, r4) := h; clear h; have HC3 := A_ H; clear H; go_enter Tryz.func40, Tryz.ntmps40; go_upto_block 0 with (first | ((with_reducible refine gD 4 ?_); refine bxe_ 4 #[.int .i64 0, .int .i64 0, .string ⟨#[]⟩] 46 ?_; intro gb101 hg w4 hbox hb; have BK101 := A_ (hbox); have GW101 := gs_ w hg; have GE101 := gs_ w hg; replace HB := bs_ hb; clear hb hbox hg)); (try simp only [Act.put, List.setIfInBounds_toArray, List.set_cons_zero, List.set_cons_succ]); go_cut [6] (fun v6 wc => ∃ (kq : Nat) (x6_2 : Int), v6 = .int .i64 x6_2 ∧ Aside0 (lustrumref09_one.j1 kq a0 a1 x6_2 = some (r1, r2, r3, r4)) ∧ Aside0 (kq ≤ k) ∧ Aside0 (wc.heap[gb101]? = some (.cells #[.int .i64 0, .int .i64 0, .string ⟨#[]⟩] 46 (0, 0))) ∧ Aside0 (Below w.heap.size w wc))
 case first =>
  have H := HC3.out; clear HC3; have H' := A_ H; clear H; go_wp2; go_loopg [6] k (fun kq v6 w' => ∃ (x6_1 : Int), v6 = .int .i64 x6_1 ∧ Aside0 (lustrumref09_one.l0 kq a0 a1 x6_1 = some (r1, r2, r3, r4)) ∧ Aside0 (kq ≤ k) ∧ Aside0 (w'.heap[gb101]? = some (.cells #[.int .i64 0, .int .i64 0, .string ⟨#[]⟩] 46 (0, 0))) ∧ Aside0 (Below w.heap.size w w'))
  case atStart => exact ⟨(0), rf_, H', ⟨Nat.le_refl _⟩, ⟨bl_ BK101.out⟩, ⟨hs_⟩⟩
  case round =>
   clear H'; (try clear p2); (try clear c4); obtain ⟨x6_1, rfl, HA, HK1, BK101, HB⟩ := hrel
   cases gk with
   | zero => exact absurd HA.out (by simp [lustrumref09_one.l0])
   | succ k1 =>
    have H := HA.out; clear HA; simp only [lustrumref09_one.l0] at H
    by_cases c5 : (wrap64 (a1 + x6_1)) < (a0.size : Int)
    ·rw [if_pos c5] at H
     have c5b0 := decide_eq_true c5; clear c5; (first | rw [c5b0] | (simp only [i64_w, i32_w]; rw [c5b0]) | skip); obtain ⟨ji6, hji6⟩ : ∃ j_ : Int, (wrap64 (a1 + x6_1)) = j_ := ⟨_, rfl⟩; (replace H : (if 0 ≤ (ji6) then ((lustrumref09_letter.f (bt a0 (ji6))).bind fun t102 => (if t102 = true then (lustrumref09_one.l0 k1 a0 a1 (wrap64 (x6_1 + 1))) else (lustrumref09_one.j1 k1 a0 a1 x6_1))) else (none)) = some (r1, r2, r3, r4) := by first | (rw [hji6] at H; exact H) | (simp only [hji6] at H ⊢; exact H)); (try rw [hji6] at c5b0); have hji6w : (IntKind.i64.wrap (a1 + x6_1)) = ji6 := (i64_w _).trans hji6
     by_cases c7 : 0 ≤ (ji6)
     ·rw [if_pos c7] at H
      have c7b0 := decide_eq_true c7; clear c7; obtain ⟨t102, A9, H⟩ := bi_ H
      by_cases c10 : t102 = true
      ·subst c10
       (have H1 : (lustrumref09_one.l0 k1 a0 a1 (wrap64 (x6_1 + 1))) = some (r1, r2, r3, r4) := by rw [if_pos rfl] at H; exact H); clear H; have H := H1; clear H1; have H' := A_ H; clear H; have p8 : 0 ≤ ((ji6) : Int) := od_; have q8 : (ji6) < (a0.size : Int) := od_; have hx8 := bt_at a0 (ji6); replace p8 := eq_true p8; replace q8 := eq_true q8; go_wp2_with (first | (go_at_call 60; (with_reducible refine (lustrumref09_letter.calls (bt a0 (ji6)) true _ A9.out).mono ?_); rintro e w' ⟨rfl, ⟨nd, rfl⟩⟩)); go_roundg k1
       case measure => have := HK1.out; omega
       case rel => exact ⟨(wrap64 (x6_1 + 1)), rf_, H', ⟨by have := HK1.out; omega⟩, ⟨bl_ BK101.out⟩, ⟨hs_⟩⟩
      ·replace c10 := Bool.eq_false_iff.mpr c10
       subst c10; (have H1 : (lustrumref09_one.j1 k1 a0 a1 x6_1) = some (r1, r2, r3, r4) := by rw [if_neg (show ¬ (false = true) by decide)] at H; exact H); clear H; have H := H1; clear H1; have H' := A_ H; clear H; have p8 : 0 ≤ ((ji6) : Int) := od_; have q8 : (ji6) < (a0.size : Int) := od_; have hx8 := bt_at a0 (ji6); replace p8 := eq_true p8; replace q8 := eq_true q8; go_wp2_with (first | (go_at_call 60; (with_reducible refine (lustrumref09_letter.calls (bt a0 (ji6)) false _ A9.out).mono ?_); rintro e w' ⟨rfl, ⟨nd, rfl⟩⟩)); go_meet
       case rel => exact ⟨_, (x6_1), rf_, H', ⟨by have := HK1.out; first | omega | exact Nat.le_refl _⟩, ⟨bl_ BK101.out⟩, ⟨hs_⟩⟩
     ·rw [if_neg c7] at H
      exact absurd H (by simp)
    ·rw [if_neg c5] at H
     have c5b0 := decide_eq_false c5; clear c5; (first | rw [c5b0] | (simp only [i64_w, i32_w]; rw [c5b0]) | skip); have H' := A_ H; clear H; go_wp2; go_meet
     case rel => exact ⟨_, (x6_1), rf_, H', ⟨by have := HK1.out; first | omega | exact Nat.le_refl _⟩, ⟨bl_ BK101.out⟩, ⟨hs_⟩⟩
 case rest =>
  clear HC3; (try clear c1); (try clear p2); (try clear c4); (try clear c5); (try clear c5b0); (try clear p6); (try clear c7); (try clear c7b0); (try clear p8); (try clear q8); (try clear hx8); (try clear c10); (try clear p2); (try clear p8); (try clear q8); obtain ⟨kq, x6_2, rfl, HA, HJ2, BK101, HB⟩ := hcut
  cases kq with
  | zero => exact absurd HA.out (by simp [lustrumref09_one.j1])
  | succ kj2 =>
   have H := HA.out; clear HA; simp only [lustrumref09_one.j1] at H
   by_cases c11 : x6_2 > 0
   ·rw [if_pos c11] at H
    have c11b0 := decide_eq_true c11; clear c11
    by_cases c12 : 0 ≤ a1
    ·rw [if_pos c12] at H
     have c12b0 := eq_true c12; have c12b1 := decide_eq_true c12; clear c12
     by_cases c13 : a1 ≤ (wrap64 (a1 + x6_2))
     ·rw [if_pos c13] at H
      have c13b0 := eq_true c13; have c13b1 := decide_eq_true c13
      by_cases c14 : (wrap64 (a1 + x6_2)) ≤ (a0.size : Int)
      ·rw [if_pos c14] at H
       have c14b0 := eq_true c14; have c14b1 := decide_eq_true c14; simp only [Option.some.injEq, Prod.mk.injEq] at H; obtain ⟨rfl, rfl, rfl, rfl⟩ := H; have Z15 := bz3_ BK101; go_wp2; refine bodyPost_ret (results_ct rfl _ _ gb101 46 #[.int .i64 0, .int .i64 a1, .string (a0.extract (a1 : Int).toNat ((wrap64 (a1 + x6_2)) : Int).toNat)] (0, 0) _ rfl (pb_ BK101.out) Tryz.underlying46 rfl (by kernel_rfl)) rfl ?_; exact ⟨re_, hs_⟩
      ·rw [if_neg c14] at H
       exact absurd H (by simp)
     ·rw [if_neg c13] at H
      exact absurd H (by simp)
    ·rw [if_neg c12] at H
     exact absurd H (by simp)
   ·rw [if_neg c11] at H
    have c11b0 := decide_eq_false c11; clear c11
    by_cases c16 : 0 ≤ a1
    ·rw [if_pos c16] at H
     have c16b0 := decide_eq_true c16; clear c16
     by_cases c17 : a1 < (a0.size : Int)
     ·rw [if_pos c17] at H
      have c17b0 := decide_eq_true c17; clear c17
      by_cases c19 : (bt a0 a1) = 46
      ·rw [if_pos c19] at H
       have c19b0 : ((bt a0 a1) == 46) = true := beq_iff_eq.mpr c19; have c19b1 : ((bt a0 a1) != 46) = false := bne_eq_false_iff_eq.mpr c19; clear c19; have HC20 := A_ H; clear H; have p18 : 0 ≤ (a1 : Int) := od_; have q18 : a1 < (a0.size : Int) := od_; have hx18 := bt_at a0 a1; replace p18 := eq_true p18; replace q18 := eq_true q18; go_upto_region 7 with (fail); go_cut [50] (fun v50 wc => ∃ (kq : Nat) (x50_19 : Bool), v50 = .bool x50_19 ∧ Aside0 (lustrumref09_one.j2 kq a1 x50_19 = some (r1, r2, r3, r4)) ∧ Aside0 (kq ≤ kj2) ∧ Aside0 (wc.heap[gb101]? = some (.cells #[.int .i64 0, .int .i64 0, .string ⟨#[]⟩] 46 (0, 0))) ∧ Aside0 (Below w.heap.size w wc))
       case first =>
        have H := HC20.out; clear HC20
        by_cases c21 : (wrap64 (a1 + 1)) < (a0.size : Int)
        ·rw [if_pos c21] at H
         have c21b0 := decide_eq_true c21; clear c21; (first | rw [c21b0] | (simp only [i64_w, i32_w]; rw [c21b0]) | skip); obtain ⟨ji22, hji22⟩ : ∃ j_ : Int, (wrap64 (a1 + 1)) = j_ := ⟨_, rfl⟩; (replace H : (if 0 ≤ (ji22) then (lustrumref09_one.j2 kj2 a1 ((bt a0 (ji22)) == 46)) else (none)) = some (r1, r2, r3, r4) := by first | (rw [hji22] at H; exact H) | (simp only [hji22] at H ⊢; exact H)); (try rw [hji22] at c21b0); have hji22w : (IntKind.i64.wrap (a1 + 1)) = ji22 := (i64_w _).trans hji22
         by_cases c23 : 0 ≤ (ji22)
         ·rw [if_pos c23] at H
          have c23b0 := decide_eq_true c23; clear c23; have H' := A_ H; clear H; have p24 : 0 ≤ ((ji22) : Int) := od_; have q24 : (ji22) < (a0.size : Int) := od_; have hx24 := bt_at a0 (ji22); replace p24 := eq_true p24; replace q24 := eq_true q24; go_wp2; go_meet
          case rel => exact ⟨_, (((bt a0 (ji22)) == 46)), (by first | rfl | (simp; done) | (simp only [← hji22] <;> (first | rfl | simp)) | (simp [*]; done)), H', ⟨by have := HJ2.out; first | omega | exact Nat.le_refl _⟩, ⟨bl_ BK101.out⟩, ⟨hs_⟩⟩
         ·rw [if_neg c23] at H
          exact absurd H (by simp)
        ·rw [if_neg c21] at H
         have c21b0 := decide_eq_false c21; clear c21; (first | rw [c21b0] | (simp only [i64_w, i32_w]; rw [c21b0]) | skip); have H' := A_ H; clear H; go_wp2; go_meet
         case rel => exact ⟨_, (false), rf_, H', ⟨by have := HJ2.out; first | omega | exact Nat.le_refl _⟩, ⟨bl_ BK101.out⟩, ⟨hs_⟩⟩
       case rest =>
        clear HC20; (try clear c1); (try clear p1); (try clear q1); (try clear hx1); (try clear c2); (try clear p2); (try clear q2); (try clear hx2); (try clear c4); (try clear c5); (try clear c5b0); (try clear p6); (try clear c7); (try clear c7b0); (try clear p8); (try clear q8); (try clear hx8); (try clear c10); (try clear c11); (try clear c11b0); (try clear c12); (try clear c12b0); (try clear c12b1); (try clear c13); (try clear c13b0); (try clear c13b1); (try clear c14); (try clear c14b0); (try clear c14b1); (try clear c16); (try clear c16b0); (try clear c17); (try clear c17b0); (try clear p18); (try clear q18); (try clear hx18); (try clear c19); (try clear c19b0); (try clear c19b1); (try clear c21); (try clear c21b0); (try clear c23); (try clear c23b0); (try clear p24); (try clear q24); (try clear hx24); (try clear Z15); (try clear p18); (try clear p2); (try clear p24); (try clear p6); (try clear p8); (try clear q18); (try clear q24); (try clear q8); obtain ⟨kq, x50_19, rfl, HA, HJ19, BK101, HB⟩ := hcut
        cases kq with
        | zero => exact absurd HA.out (by simp [lustrumref09_one.j2])
        | succ kj19 =>
         have H := HA.out; clear HA; simp only [lustrumref09_one.j2] at H
         by_cases c25 : x50_19 = true
         ·subst c25
          (have H1 : (some (2, a1, (⟨#[]⟩ : ByteArray), 2)) = some (r1, r2, r3, r4) := by rw [if_pos rfl] at H; exact H); clear H; have H := H1; clear H1; simp only [Option.some.injEq, Prod.mk.injEq] at H; obtain ⟨rfl, rfl, rfl, rfl⟩ := H; have Z26 := bz3_ BK101; go_wp2; refine bodyPost_ret (results_ct rfl _ _ gb101 46 #[.int .i64 2, .int .i64 a1, .string ⟨#[]⟩] (0, 0) _ rfl (pb_ BK101.out) Tryz.underlying46 rfl (by kernel_rfl)) rfl ?_; exact ⟨re_, hs_⟩
         ·replace c25 := Bool.eq_false_iff.mpr c25
          subst c25; (have H1 : (some (0, 0, (⟨#[]⟩ : ByteArray), 0)) = some (r1, r2, r3, r4) := by rw [if_neg (show ¬ (false = true) by decide)] at H; exact H); clear H; have H := H1; clear H1; simp only [Option.some.injEq, Prod.mk.injEq] at H; obtain ⟨rfl, rfl, rfl, rfl⟩ := H; have Z27 := bz3_ BK101; go_wp2; refine bodyPost_ret (results_ct rfl _ _ gb101 46 #[.int .i64 0, .int .i64 0, .string ⟨#[]⟩] (0, 0) _ rfl (pb_ BK101.out) Tryz.underlying46 rfl (by kernel_rfl)) rfl ?_; exact ⟨re_, hs_⟩
      ·rw [if_neg c19] at H
       have c19b0 : ((bt a0 a1) == 46) = false := beq_eq_false_iff_ne.mpr c19; have c19b1 : ((bt a0 a1) != 46) = true := bne_iff_ne.mpr c19; obtain ⟨t103, A29, H⟩ := bi_ H
       by_cases c30 : t103 < 0
       ·rw [if_pos c30] at H
        have c30b0 := decide_eq_true c30; clear c30; simp only [Option.some.injEq, Prod.mk.injEq] at H; obtain ⟨rfl, rfl, rfl, rfl⟩ := H; have p18 : 0 ≤ (a1 : Int) := od_; have q18 : a1 < (a0.size : Int) := od_; have hx18 := bt_at a0 a1; replace p18 := eq_true p18; replace q18 := eq_true q18; have p28 : 0 ≤ (a1 : Int) := od_; have q28 : a1 < (a0.size : Int) := od_; have hx28 := bt_at a0 a1; replace p28 := eq_true p28; replace q28 := eq_true q28; go_wp2_with (first | ((with_reducible refine gC 61 ?_); refine goesL_ (some 57) rfl rfl Tryz.func61 (by kernel_rfl) rfl #[.int .u8 (bt a0 a1)] rfl ml_ ?_; (with_reducible refine (lustrumref09_sign.calls (bt a0 a1) t103 _ A29.out).mono ?_); rintro e w' ⟨rfl, ⟨nd, rfl⟩⟩; refine ⟨_, rfl, ?_⟩; (try (rw [drewN_self wc]; generalize hq_ : World.drewN wc _ = wc; have m0_ : Aside0 (wc.heap[gb101]? = some (.cells #[.int .i64 0, .int .i64 0, .string ⟨#[]⟩] 46 (0, 0))) := ⟨by rw [← hq_]; exact (bl_ BK101.out)⟩; have m1_ : Aside0 (Below w.heap.size w wc) := ⟨by rw [← hq_]; exact hs_⟩; clear BK101 HB hq_; have BK101 := m0_; have HB := m1_; clear m0_ m1_)); have Z31 := bz3_ BK101)); refine bodyPost_ret (results_ct rfl _ _ gb101 46 #[.int .i64 0, .int .i64 0, .string ⟨#[]⟩] (0, 0) _ rfl (pb_ BK101.out) Tryz.underlying46 rfl (by kernel_rfl)) rfl ?_; exact ⟨re_, hs_⟩
       ·rw [if_neg c30] at H
        have c30b0 := decide_eq_false c30; clear c30; simp only [Option.some.injEq, Prod.mk.injEq] at H; obtain ⟨rfl, rfl, rfl, rfl⟩ := H; have p18 : 0 ≤ (a1 : Int) := od_; have q18 : a1 < (a0.size : Int) := od_; have hx18 := bt_at a0 a1; replace p18 := eq_true p18; replace q18 := eq_true q18; have p28 : 0 ≤ (a1 : Int) := od_; have q28 : a1 < (a0.size : Int) := od_; have hx28 := bt_at a0 a1; replace p28 := eq_true p28; replace q28 := eq_true q28; go_wp2_with (first | ((with_reducible refine gC 61 ?_); refine goesL_ (some 57) rfl rfl Tryz.func61 (by kernel_rfl) rfl #[.int .u8 (bt a0 a1)] rfl ml_ ?_; (with_reducible refine (lustrumref09_sign.calls (bt a0 a1) t103 _ A29.out).mono ?_); rintro e w' ⟨rfl, ⟨nd, rfl⟩⟩; refine ⟨_, rfl, ?_⟩; (try (rw [drewN_self wc]; generalize hq_ : World.drewN wc _ = wc; have m0_ : Aside0 (wc.heap[gb101]? = some (.cells #[.int .i64 0, .int .i64 0, .string ⟨#[]⟩] 46 (0, 0))) := ⟨by rw [← hq_]; exact (bl_ BK101.out)⟩; have m1_ : Aside0 (Below w.heap.size w wc) := ⟨by rw [← hq_]; exact hs_⟩; clear BK101 HB hq_; have BK101 := m0_; have HB := m1_; clear m0_ m1_)); have Z32 := bz3_ BK101)); refine bodyPost_ret (results_ct rfl _ _ gb101 46 #[.int .i64 t103, .int .i64 a1, .string ⟨#[]⟩] (0, 0) _ rfl (pb_ BK101.out) Tryz.underlying46 rfl (by kernel_rfl)) rfl ?_; exact ⟨re_, hs_⟩
     ·rw [if_neg c17] at H
      exact absurd H (by simp)
    ·rw [if_neg c16] at H
     exact absurd H (by simp)
set_option maxHeartbeats 8000000 in
set_option maxRecDepth 100000 in
theorem lustrumref09_All.calls (k : Nat) (a0 : ByteArray) (r1 : List (S46)) (r2 r3 : Int) (w : World) (h : lustrumref09_All.f k a0 = some (r1, r2, r3)) :
  Calls Tryz.prog 20 #[.string a0] w fun e w' => ∃ v0_ : Value, e = .returned (.tuple #[v0_, .int .i64 r2, .int .i64 r3]) ∧ Kd.R k46 46 w' w.heap.size (fun _ => True) v0_ r1 ∧ Below w.heap.size w w' := by
 have hu46 := Tryz.underlying46; have HB := A_ (Below.refl w.heap.size w); have H : (if (a0.size : Int) > 2000 then (some (([] : List (S46)), 2000, 7)) else (lustrumref09_All.l0 k a0 ([] : List (S46)) 0)) = some (r1, r2, r3) := h; clear h
 by_cases c2 : (a0.size : Int) > 2000
 ·rw [if_pos c2] at H
  have c2b0 := decide_eq_true c2; have c2b1 : decide (2000 < a0.size) = true := decide_eq_true (by omega); clear c2; simp only [Option.some.injEq, Prod.mk.injEq] at H; obtain ⟨rfl, rfl, rfl⟩ := H; go_enter Tryz.func20, Tryz.ntmps20; go_wp2; go_ret3; exact ⟨_, by first | rfl | (simp [errW_none, errW_some] <;> rfl) | (simp [*, errW_none, errW_some] <;> rfl), by first | exact Kd.R_nil _ _ _ _ _ | exact Kd.N_nil _ _ _ _ _ | exact Kd.V_nil _ _ _ _ _ | exact Kd.Q_nil _ _ _ _ _ | exact Kd.S_nil _ _ _ _ _, hs_⟩
 ·rw [if_neg c2] at H
  have c2b0 := decide_eq_false c2; have c2b1 : decide (2000 < a0.size) = false := decide_eq_false (by omega); clear c2; have H' := A_ H; clear H; go_enter Tryz.func20, Tryz.ntmps20; go_wp2; go_loopg [5, 6] k (fun kq v5 v6 w' => ∃ (x5_1 : List (S46)) (x6_1 : Int), v6 = .int .i64 x6_1 ∧ Aside0 (lustrumref09_All.l0 kq a0 x5_1 x6_1 = some (r1, r2, r3)) ∧ Aside0 (kq ≤ k) ∧ Aside0 (Kd.R k46 46 w' w.heap.size (fun _ => True) v5 x5_1) ∧ Aside0 (Below w.heap.size w w'))
  case atStart => exact ⟨(([] : List (S46))), (0), rf_, H', ⟨Nat.le_refl _⟩, ⟨by first | exact Kd.R_nil _ _ _ _ _ | exact Kd.N_nil _ _ _ _ _ | exact Kd.V_nil _ _ _ _ _ | exact Kd.Q_nil _ _ _ _ _ | exact Kd.S_nil _ _ _ _ _⟩, ⟨hs_⟩⟩
  case round =>
   clear H'; (try clear c2); (try clear c2b0); (try clear c2b1); (try clear p2); obtain ⟨x5_1, x6_1, rfl, HA, HK1, HO_5, HB⟩ := hrel
   cases gk with
   | zero => exact absurd HA.out (by simp [lustrumref09_All.l0])
   | succ k1 =>
    have H := HA.out; clear HA; simp only [lustrumref09_All.l0] at H
    by_cases c3 : x6_1 < (a0.size : Int)
    ·rw [if_pos c3] at H
     have c3b0 := decide_eq_true c3; clear c3
     by_cases c4 : 0 ≤ x6_1
     ·rw [if_pos c4] at H
      have c4b0 := decide_eq_true c4; clear c4
      by_cases c6 : (bt a0 x6_1) = 32
      ·rw [if_pos c6] at H
       have c6b0 : ((bt a0 x6_1) == 32) = true := beq_iff_eq.mpr c6; have c6b1 : ((bt a0 x6_1) != 32) = false := bne_eq_false_iff_eq.mpr c6; clear c6; have H' := A_ H; clear H; have p5 : 0 ≤ (x6_1 : Int) := od_; have q5 : x6_1 < (a0.size : Int) := od_; have hx5 := bt_at a0 x6_1; replace p5 := eq_true p5; replace q5 := eq_true q5; go_wp2; go_roundg k1
       case measure => have := HK1.out; omega
       case rel => exact ⟨(x5_1), (wrap64 (x6_1 + 1)), rf_, H', ⟨by have := HK1.out; omega⟩, ⟨fxR_ HO_5.out⟩, ⟨hs_⟩⟩
      ·rw [if_neg c6] at H
       have c6b0 : ((bt a0 x6_1) == 32) = false := beq_eq_false_iff_ne.mpr c6; have c6b1 : ((bt a0 x6_1) != 32) = true := bne_iff_ne.mpr c6; obtain ⟨⟨t107, t108, t109, t110⟩, A7, H⟩ := bi_ H
       by_cases c8 : t110 = 0
       ·rw [if_pos c8] at H
        have c8b0 : (t110 == 0) = true := beq_iff_eq.mpr c8; have c8b1 : (t110 != 0) = false := bne_eq_false_iff_eq.mpr c8; clear c8; simp only [Option.some.injEq, Prod.mk.injEq] at H; obtain ⟨rfl, rfl, rfl⟩ := H; have p5 : 0 ≤ (x6_1 : Int) := od_; have q5 : x6_1 < (a0.size : Int) := od_; have hx5 := bt_at a0 x6_1; replace p5 := eq_true p5; replace q5 := eq_true q5; go_wp2_with (first | ((with_reducible refine gC 40 ?_); refine goesL_ (some 25) rfl rfl Tryz.func40 (by kernel_rfl) rfl #[.string a0, .int .i64 x6_1] rfl ml_ ?_; (with_reducible refine (lustrumref09_one.calls k1 a0 x6_1 t107 t108 t109 t110 _ A7.out).mono ?_); rintro e w9 ⟨rfl, hb⟩; refine ⟨_, rfl, ?_⟩; replace HO_5 := A_ (Kd.R_below (fxR_ HO_5.out) hb); replace HB := bs_ hb; (try clear hb)) | ((with_reducible refine gD 7 ?_); refine bxe_ 7 #[.int .i64 0, .int .i64 0, .string ⟨#[]⟩] 46 ?_; intro gb111 hg w10 hbox hb; replace HO_5 := A_ (Kd.R_below (Kd.R_elderB (fxR_ HO_5.out) gb111 (Nat.le_of_eq hg.symm)) hb); have BK111 := A_ (hbox); have GW111 := gs_ w hg; have GE111 := gs_ w hg; replace HB := bs_ hb; clear hb hbox hg; have Z11 := bz3_ BK111)); go_ret3; exact ⟨_, by first | rfl | (simp [errW_none, errW_some] <;> rfl) | (simp [*, errW_none, errW_some] <;> rfl), by first | exact Kd.R_nil _ _ _ _ _ | exact Kd.N_nil _ _ _ _ _ | exact Kd.V_nil _ _ _ _ _ | exact Kd.Q_nil _ _ _ _ _ | exact Kd.S_nil _ _ _ _ _, hs_⟩
       ·rw [if_neg c8] at H
        have c8b0 : (t110 == 0) = false := beq_eq_false_iff_ne.mpr c8; have c8b1 : (t110 != 0) = true := bne_iff_ne.mpr c8
        by_cases c12 : x5_1.length < 4398046511104
        ·rw [if_pos c12] at H
         have LMc12 := A_ c12; clear c12; obtain ⟨y112, hy112⟩ : ∃ y_ : List (S46), y_ = (x5_1 ++ [(⟨t107, t108, t109⟩ : S46)]) := ⟨_, rfl⟩; (replace H : (lustrumref09_All.l0 k1 a0 y112 (wrap64 (x6_1 + t110))) = some (r1, r2, r3) := by first | (rw [hy112]; with_reducible exact H) | (have H2_ := (Option.bind_some _ _).symm.trans H; rw [hy112]; with_reducible exact H2_) | (have H2_ := (Option.bind_some _ _).symm.trans H; with_reducible exact H2_) | with_reducible exact H | (rw [hy112]; exact H) | exact H); have Ny112 := A_ hy112; clear hy112; have H' := A_ H; clear H; have p5 : 0 ≤ (x6_1 : Int) := od_; have q5 : x6_1 < (a0.size : Int) := od_; have hx5 := bt_at a0 x6_1; replace p5 := eq_true p5; replace q5 := eq_true q5; go_wp2_with (first | ((with_reducible refine gC 40 ?_); refine goesL_ (some 25) rfl rfl Tryz.func40 (by kernel_rfl) rfl #[.string a0, .int .i64 x6_1] rfl ml_ ?_; (with_reducible refine (lustrumref09_one.calls k1 a0 x6_1 t107 t108 t109 t110 _ A7.out).mono ?_); rintro e w13 ⟨rfl, hb⟩; refine ⟨_, rfl, ?_⟩; replace HO_5 := A_ (Kd.R_below (fxR_ HO_5.out) hb); replace HB := bs_ hb; (try clear hb)) | ((with_reducible refine gD 7 ?_); refine bxe_ 7 #[.int .i64 0, .int .i64 0, .string ⟨#[]⟩] 46 ?_; intro gb111 hg w14 hbox hb; replace HO_5 := A_ (Kd.R_below (Kd.R_elderB (fxR_ HO_5.out) gb111 (Nat.le_of_eq hg.symm)) hb); have BK111 := A_ (hbox); have GW111 := gs_ w hg; have GE111 := gs_ w hg; replace HB := bs_ hb; clear hb hbox hg; have Z15 := bz3_ BK111) | ((with_reducible refine gate_builtin (b := .append) (xs := #[.tmp 31, .tmp 33]) rfl ?_); at_builtin; refine Kd.R_append k46 (w0 := w) w.heap.size rfl (.tmp 31) (.tmp 33) 36 46 (.agg #[(.int .i64 0), (.int .i64 0), (.string ⟨#[]⟩)]) 32 rfl Tryz.underlying36 info46 rfl (by decide) (by omega) u5 x5_1 (⟨t107, t108, t109⟩ : S46) [.int .i64 t107, .int .i64 t108, .string t109] (fun k_ => k_ ≠ gb111) (fun _ => False) rfl (by first | (go_simp; done) | (go_simp; rfl)) ?aP (fun _ hk => hk.elim) ?aF ?aO ?aB ?aS ?aL ?_; (case aP => exact k46_mkM _ _ _ (⟨t107, t108, t109⟩ : S46)); (case aB => exact hs_); (case aF => exact (fun k_ hk => fb_ BK111 k_ hk)); (case aO => exact (fpR_ HO_5.out)); (case aS => exact (below_size hs_)); (case aL => have := LMc12.out; omega); intro v113 w16 ho hb hg hat; rw [← Ny112.out] at ho; replace BK111 := A_ (blk_grown (g := gb111) (o := .cells #[.int .i64 t107, .int .i64 t108, .string t109] 46 (0, 0)) (pb_ BK111.out) hg (Kd.R_away HO_5.out (fun _ hk => hk.2))); replace HB := A_ (hb); have HO114 := A_ (ho); clear HO_5; clear ho hb hg hat))
         go_roundg k1
         case measure => have := HK1.out; omega
         case rel => exact ⟨(y112), (wrap64 (x6_1 + t110)), rf_, H', ⟨by have := HK1.out; omega⟩, ⟨by (with_reducible repeat (first | apply Kd.R_alloc | apply Kd.R_drewN | apply Kd.R_drew)); exact Kd.R_mono HO114.out (fun _ hk => trivial)⟩, ⟨hs_⟩⟩
        ·rw [if_neg c12] at H
         exact absurd H (by simp)
     ·rw [if_neg c4] at H
      exact absurd H (by simp)
    ·rw [if_neg c3] at H
     have c3b0 := decide_eq_false c3; clear c3
     by_cases c17 : x5_1.length < 4398046511104
     ·rw [if_pos c17] at H
      have LMc17 := A_ c17; clear c17; obtain ⟨y104, hy104⟩ : ∃ y_ : List (S46), y_ = (x5_1 ++ [(⟨9, (a0.size : Int), (⟨#[]⟩ : ByteArray)⟩ : S46)]) := ⟨_, rfl⟩; (replace H : (some (y104, (a0.size : Int), 0)) = some (r1, r2, r3) := by first | (rw [hy104]; with_reducible exact H) | (have H2_ := (Option.bind_some _ _).symm.trans H; rw [hy104]; with_reducible exact H2_) | (have H2_ := (Option.bind_some _ _).symm.trans H; with_reducible exact H2_) | with_reducible exact H | (rw [hy104]; exact H) | exact H); have Ny104 := A_ hy104; clear hy104; simp only [Option.some.injEq, Prod.mk.injEq] at H; obtain ⟨rfl, rfl, rfl⟩ := H; go_wp2_with (first | ((with_reducible refine gate_builtin (b := .append) (xs := #[.tmp 38, .tmp 42]) rfl ?_); at_builtin; refine Kd.R_append k46 (w0 := w) w.heap.size rfl (.tmp 38) (.tmp 42) 36 46 (.agg #[(.int .i64 0), (.int .i64 0), (.string ⟨#[]⟩)]) 32 rfl Tryz.underlying36 info46 rfl (by decide) (by omega) u5 x5_1 (⟨9, (a0.size : Int), (⟨#[]⟩ : ByteArray)⟩ : S46) [.int .i64 9, .int .i64 (a0.size : Int), .string ⟨#[]⟩] (fun _ => True) (fun _ => False) rfl rfl ?aP (fun _ hk => hk.elim) ?aF ?aO ?aB ?aS ?aL ?_; (case aP => exact k46_mkM _ _ _ (⟨9, (a0.size : Int), (⟨#[]⟩ : ByteArray)⟩ : S46)); (case aB => exact hs_); (case aF => exact (fun _ _ => trivial)); (case aO => exact (fxR_ HO_5.out)); (case aS => exact (below_size hs_)); (case aL => have := LMc17.out; omega); intro v105 w18 ho hb hg hat; rw [← Ny104.out] at ho; replace HB := A_ (hb); have HO106 := A_ (ho); clear HO_5; clear ho hb hg hat)); go_ret3; exact ⟨_, by first | rfl | (simp [errW_none, errW_some] <;> rfl) | (simp [*, errW_none, errW_some] <;> rfl), fxR_ HO106.out, hs_⟩
     ·rw [if_neg c17] at H
      exact absurd H (by simp)
end Go.Proofs.YtjgjhekpiijniaaGreat.A
namespace Go.Proofs.YtjgjhekpiijniaaGreat.A
open Go.RowKit Go.Proofs.YtjgjhekpiijniaaGreatW.PrintWords Go.Proofs.YtjgjhekpiijniaaGreatW.PrintLast Go.Proofs.YtjgjhekpiijniaaGreatW.PrintMore
attribute [local go_sem] isSome_setCell fld46_0 fld46_1 fld46_2
theorem IsQ.make {W W1 : World} {g : Nat} {A : Option Addr} {c : Nat} {t : List S46} {b : Nat} {ok : Nat → Prop} (ho : Kd.R k46 46 W b ok (.slice A t.length c) t) (hl : t.length < 4611686018427387904) (hg : g = W.heap.size) (hb : W1.heap[g]? = some (.cells #[.slice A t.length c, .int .i64 0, .int .i64 0, .int .i64 0, .int .i64 0] 53 (0, 0))) : IsQ W W1 g t 0 0 0 := by
  obtain ⟨_, hc, hC⟩ := Kd.R_reads' ho
  exact ⟨A, c, [], hb, Nat.le_of_eq hg.symm, hl, hC⟩
theorem IsQ.cells {w0 W : World} {g : Nat} {t : List S46} {m a e : Int} (h : IsQ w0 W g t m a e) : ∃ v0 v1, W.heap[g]? = some (.cells #[v0, v1, .int .i64 m, .int .i64 a, .int .i64 e] 53 (0, 0)) := by
  obtain ⟨A, c, p, hG, _⟩ := h
  exact ⟨_, _, hG⟩
set_option maxHeartbeats 8000000 in
set_option maxRecDepth 100000 in
theorem lustrumref13_Parse.calls (k : Nat) (a0 : ByteArray) (r1 r2 : Int) (r3 r4 r5 : ByteArray) (r6 r7 : Bool) (r8 : List S27) (r9 r10 : Int) (w : World) (h : lustrumref13_Parse.f k a0 = some (r1, r2, r3, r4, r5, r6, r7, r8, r9, r10)) :
    Calls Tryz.prog 9 #[.string a0] w fun e w' => ∃ v7_ : Value, e = .returned (.tuple #[.agg #[.int .i64 r1, .int .i64 r2, .string r3, .string r4, .string r5, .bool r6, .bool r7, v7_], .int .i64 r9, .int .i64 r10]) ∧ Kd.V k27 27 w' w.heap.size (fun k_ => w.heap.size ≤ k_) v7_ r8 ∧ Below w.heap.size w w' := by
  have HB := A_ (Below.refl w.heap.size w)
  obtain ⟨⟨L1, L2, L3⟩, hL, h2⟩ := Option.bind_eq_some_iff.mp h
  clear h
  have HL := A_ hL
  clear hL
  by_cases c : L3 = 0
  · replace h2 := (if_pos c).symm.trans h2
    have k3 : (L3 != 0) = false := bne_eq_false_iff_eq.mpr c
    clear c
    by_cases cl : L1.length < 4611686018427387904
    · replace h2 := (if_pos cl).symm.trans h2
      have HLL := A_ cl
      clear cl
      obtain ⟨⟨n1, x1, t1, m1⟩, hE, h3⟩ := Option.bind_eq_some_iff.mp h2
      clear h2
      have HE := A_ hE
      clear hE
      cases x1 with
      | some y =>
        by_cases ce : y.2 = 0
        · replace h3 := (if_pos ce).symm.trans h3
          cases h3
        replace h3 := (if_neg ce).symm.trans h3
        have k4 : (y.2 != 0) = true := bne_iff_ne.mpr ce
        have k5 : (y.2 == 0) = false := beq_eq_false_iff_ne.mpr ce
        clear ce
        simp only [Option.some.injEq, Prod.mk.injEq] at h3
        obtain ⟨rfl, rfl, rfl, rfl, rfl, rfl, rfl, rfl, rfl, rfl⟩ := h3
        go_enter Tryz.func9, Tryz.ntmps9
        go_wp2_with (first | ((with_reducible refine gD 2 ?_); refine bxe_ 2 z8_ 27 ?_; intro gb hgb w2 hbox hb; have BK := A_ hbox; have GE := A_ (show w.heap.size ≤ gb from by rw [hgb]; exact HB.out.size); replace HB := A_ (below_step HB.out hb); clear hb hbox hgb) | ((with_reducible refine gC 20 ?_); refine gL 12 Tryz.func20 #[.string a0] ?_; (with_reducible refine (lustrumref09_All.calls k a0 L1 L2 L3 _ HL.out).mono ?_); rintro e1 w1 ⟨v0, rfl, ho, hb⟩; refine ⟨_, rfl, ?_⟩; obtain ⟨A0, c0, rfl⟩ := Kd.R_slice ho; have HO := A_ ho; replace HB := A_ (below_step HB.out hb); replace BK := A_ (blk_below BK.out hb); have ZK := bz8_ BK; clear ho hb) | ((with_reducible refine gD 23 ?_); refine bxe_ 23 #[.slice A0 L1.length c0, .int .i64 0, .int .i64 0, .int .i64 0, .int .i64 0] 53 ?_; intro gp hgp w4 hbox hb; have HP := A_ (KQ.start (IsQ.make HO.out HLL.out hgp hbox) hb); have HW := HB; have HW0 := A_ hb; have NBP := A_ (show gb ≠ gp from by rw [hgp]; exact Nat.ne_of_lt (blk_lt BK.out)); have GP := A_ (show w.heap.size ≤ gp from by rw [hgp]; exact HB.out.size); replace BK := A_ (blk_below BK.out hb); clear hb hbox hgp HO ZK) | ((with_reducible refine gC 21 ?_); refine gL 25 Tryz.func21 #[.pointer (some ⟨gp, 0, none⟩), .int .i64 0] ?_; (with_reducible refine (rparser_expr.calls k gp L1 0 0 _ _ _ HP.out.hI HP.out.hB HE.out).mono ?_); rintro e5 w5 ⟨v1, rfl, hV, hP⟩; refine ⟨_, rfl, ?_⟩; obtain ⟨A1, c1, rfl⟩ : ∃ A1 c1, v1 = .slice A1 n1.f4.length c1 := Kd.V_slice hV; have HV := A_ (Kd.V_mono (ok' := fun q => w.heap.size ≤ q ∧ q ≠ gb) hV (fun q hq => ⟨Nat.le_trans (Nat.le_trans HW.out.size HW0.out.size) hq, Ne.symm (Nat.ne_of_lt (Nat.lt_of_lt_of_le (blk_lt BK.out) hq))⟩)); replace BK := A_ (hP.hK.blk BK.out NBP.out (by simp)); replace HB := A_ (below_step HW.out hP.hB); replace HP := A_ hP; clear hV hP) | ((with_reducible refine gD 9 ?_); refine bxe_ 9 z8_ 27 ?_; intro ga hga w6 hbox hb; have BA := A_ hbox; have NBA := A_ (show gb ≠ ga from by rw [hga]; exact Nat.ne_of_lt (blk_lt BK.out)); have nba := NBA.out; have nab := Ne.symm nba; have NA := A_ (HP.out.new hga); have npa := NA.out.1; have nap := Ne.symm npa; have nbp := NBP.out; have npb := Ne.symm nbp; have GA := A_ (show w.heap.size ≤ ga from by rw [hga]; exact HB.out.size); replace HV := A_ (Kd.V_below (Kd.V_elderB HV.out ga (Nat.le_of_eq hga.symm)) hb); replace HP := A_ (HP.out.below hb); replace HB := A_ (below_step HB.out hb); replace BK := A_ (blk_below BK.out hb); have Z := bz8_ BA; have ZK := bz8_ BK; obtain ⟨v0_, v1_, hG9⟩ := HP.out.hI.cells; have hp3 := (blk_cell hG9 3).trans rfl; have hp4 := (blk_cell hG9 4).trans rfl; have HG9 := A_ hG9; clear hG9; clear hb hbox hga))
        go_region_held3 (fun w' => w'.cell? ⟨gp, 3, none⟩ = some (.int .i64 y.1) ∧ w'.cell? ⟨gp, 4, none⟩ = some (.int .i64 y.2)) (first | (with_reducible exact ⟨(blk_cell (far8_ HG9.out npa (.int .i64 n1.f0) (.int .i64 n1.f1.f0) (.string n1.f1.f1) (.string n1.f1.f2) (.string n1.f1.f3) (.bool n1.f2) (.bool n1.f3) (.slice A1 n1.f4.length c1)) 3).trans rfl, (blk_cell (far8_ HG9.out npa (.int .i64 n1.f0) (.int .i64 n1.f1.f0) (.string n1.f1.f1) (.string n1.f1.f2) (.string n1.f1.f3) (.bool n1.f2) (.bool n1.f3) (.slice A1 n1.f4.length c1)) 4).trans rfl⟩) | (with_reducible exact ⟨(blk_cell (blk_drew (far8_ HG9.out npa (.int .i64 n1.f0) (.int .i64 n1.f1.f0) (.string n1.f1.f1) (.string n1.f1.f2) (.string n1.f1.f3) (.bool n1.f2) (.bool n1.f3) (.slice A1 n1.f4.length c1))) 3).trans rfl, (blk_cell (blk_drew (far8_ HG9.out npa (.int .i64 n1.f0) (.int .i64 n1.f1.f0) (.string n1.f1.f1) (.string n1.f1.f2) (.string n1.f1.f3) (.bool n1.f2) (.bool n1.f3) (.slice A1 n1.f4.length c1))) 4).trans rfl⟩) | (with_reducible exact ⟨(blk_cell (blk_drew (far8_ (far8_ HG9.out npa (.int .i64 n1.f0) (.int .i64 n1.f1.f0) (.string n1.f1.f1) (.string n1.f1.f2) (.string n1.f1.f3) (.bool n1.f2) (.bool n1.f3) (.slice A1 n1.f4.length c1)) npb (.int .i64 0) (.int .i64 0) (.string ⟨#[]⟩) (.string ⟨#[]⟩) (.string ⟨#[]⟩) (.bool false) (.bool false) (.slice none 0 0))) 3).trans rfl, (blk_cell (blk_drew (far8_ (far8_ HG9.out npa (.int .i64 n1.f0) (.int .i64 n1.f1.f0) (.string n1.f1.f1) (.string n1.f1.f2) (.string n1.f1.f3) (.bool n1.f2) (.bool n1.f3) (.slice A1 n1.f4.length c1)) npb (.int .i64 0) (.int .i64 0) (.string ⟨#[]⟩) (.string ⟨#[]⟩) (.string ⟨#[]⟩) (.bool false) (.bool false) (.slice none 0 0))) 4).trans rfl⟩)) (fail)
        go_wp2
        refine bodyPost_ret (results_ctt rfl _ _ gb 27 z8_ (0, 0) _ rfl (blk_drew (put8_ (far8_ BK.out NBA.out (.int .i64 n1.f0) (.int .i64 n1.f1.f0) (.string n1.f1.f1) (.string n1.f1.f2) (.string n1.f1.f3) (.bool n1.f2) (.bool n1.f3) (.slice A1 n1.f4.length c1)) (.int .i64 0) (.int .i64 0) (.string ⟨#[]⟩) (.string ⟨#[]⟩) (.string ⟨#[]⟩) (.bool false) (.bool false) (.slice none 0 0))) Tryz.underlying27 rfl (by kernel_rfl)) rfl ?_
        have p1 := below_drew (below8 (below8 HB.out GA.out (.int .i64 n1.f0) (.int .i64 n1.f1.f0) (.string n1.f1.f1) (.string n1.f1.f2) (.string n1.f1.f3) (.bool n1.f2) (.bool n1.f3) (.slice A1 n1.f4.length c1)) GE.out (.int .i64 0) (.int .i64 0) (.string ⟨#[]⟩) (.string ⟨#[]⟩) (.string ⟨#[]⟩) (.bool false) (.bool false) (.slice none 0 0))
        exact ⟨_, rfl, Kd.V_nil _ _ _ _ _, p1⟩
      | none =>
        cases t1 with
        | nil => cases h3
        | cons y u =>
        by_cases cy : y.f0 = 9
        · replace h3 := (if_pos cy).symm.trans h3
          have k9 : (y.f0 != 9) = false := bne_eq_false_iff_eq.mpr cy
          clear cy
          simp only [Option.some.injEq, Prod.mk.injEq] at h3
          obtain ⟨rfl, rfl, rfl, rfl, rfl, rfl, rfl, rfl, rfl, rfl⟩ := h3
          go_enter Tryz.func9, Tryz.ntmps9
          go_wp2_with (first | ((with_reducible refine gD 2 ?_); refine bxe_ 2 z8_ 27 ?_; intro gb hgb w2 hbox hb; have BK := A_ hbox; have GE := A_ (show w.heap.size ≤ gb from by rw [hgb]; exact HB.out.size); replace HB := A_ (below_step HB.out hb); clear hb hbox hgb) | ((with_reducible refine gC 20 ?_); refine gL 12 Tryz.func20 #[.string a0] ?_; (with_reducible refine (lustrumref09_All.calls k a0 L1 L2 L3 _ HL.out).mono ?_); rintro e1 w1 ⟨v0, rfl, ho, hb⟩; refine ⟨_, rfl, ?_⟩; obtain ⟨A0, c0, rfl⟩ := Kd.R_slice ho; have HO := A_ ho; replace HB := A_ (below_step HB.out hb); replace BK := A_ (blk_below BK.out hb); have ZK := bz8_ BK; clear ho hb) | ((with_reducible refine gD 23 ?_); refine bxe_ 23 #[.slice A0 L1.length c0, .int .i64 0, .int .i64 0, .int .i64 0, .int .i64 0] 53 ?_; intro gp hgp w4 hbox hb; have HP := A_ (KQ.start (IsQ.make HO.out HLL.out hgp hbox) hb); have HW := HB; have HW0 := A_ hb; have NBP := A_ (show gb ≠ gp from by rw [hgp]; exact Nat.ne_of_lt (blk_lt BK.out)); have GP := A_ (show w.heap.size ≤ gp from by rw [hgp]; exact HB.out.size); replace BK := A_ (blk_below BK.out hb); clear hb hbox hgp HO ZK) | ((with_reducible refine gC 21 ?_); refine gL 25 Tryz.func21 #[.pointer (some ⟨gp, 0, none⟩), .int .i64 0] ?_; (with_reducible refine (rparser_expr.calls k gp L1 0 0 _ _ _ HP.out.hI HP.out.hB HE.out).mono ?_); rintro e5 w5 ⟨v1, rfl, hV, hP⟩; refine ⟨_, rfl, ?_⟩; obtain ⟨A1, c1, rfl⟩ : ∃ A1 c1, v1 = .slice A1 n1.f4.length c1 := Kd.V_slice hV; have HV := A_ (Kd.V_mono (ok' := fun q => w.heap.size ≤ q ∧ q ≠ gb) hV (fun q hq => ⟨Nat.le_trans (Nat.le_trans HW.out.size HW0.out.size) hq, Ne.symm (Nat.ne_of_lt (Nat.lt_of_lt_of_le (blk_lt BK.out) hq))⟩)); replace BK := A_ (hP.hK.blk BK.out NBP.out (by simp)); replace HB := A_ (below_step HW.out hP.hB); replace HP := A_ hP; clear hV hP) | ((with_reducible refine gD 9 ?_); refine bxe_ 9 z8_ 27 ?_; intro ga hga w6 hbox hb; have BA := A_ hbox; have NBA := A_ (show gb ≠ ga from by rw [hga]; exact Nat.ne_of_lt (blk_lt BK.out)); have nba := NBA.out; have nab := Ne.symm nba; have NA := A_ (HP.out.new hga); have npa := NA.out.1; have nap := Ne.symm npa; have nbp := NBP.out; have npb := Ne.symm nbp; have GA := A_ (show w.heap.size ≤ ga from by rw [hga]; exact HB.out.size); replace HV := A_ (Kd.V_below (Kd.V_elderB HV.out ga (Nat.le_of_eq hga.symm)) hb); replace HP := A_ (HP.out.below hb); replace HB := A_ (below_step HB.out hb); replace BK := A_ (blk_below BK.out hb); have Z := bz8_ BA; have ZK := bz8_ BK; obtain ⟨v0_, v1_, hG9⟩ := HP.out.hI.cells; have hp3 := (blk_cell hG9 3).trans rfl; have hp4 := (blk_cell hG9 4).trans rfl; have HG9 := A_ hG9; clear hG9; clear hb hbox hga) | (go_at_call 22; clear Z ZK hp3 hp4 HG9; replace HP := A_ (HP.out.all8 NA.out (.int .i64 n1.f0) (.int .i64 n1.f1.f0) (.string n1.f1.f1) (.string n1.f1.f2) (.string n1.f1.f3) (.bool n1.f2) (.bool n1.f3) (.slice A1 n1.f4.length c1)); replace HB := A_ (below8 HB.out GA.out (.int .i64 n1.f0) (.int .i64 n1.f1.f0) (.string n1.f1.f1) (.string n1.f1.f2) (.string n1.f1.f3) (.bool n1.f2) (.bool n1.f3) (.slice A1 n1.f4.length c1)); replace BK := A_ (far8_ BK.out NBA.out (.int .i64 n1.f0) (.int .i64 n1.f1.f0) (.string n1.f1.f1) (.string n1.f1.f2) (.string n1.f1.f3) (.bool n1.f2) (.bool n1.f3) (.slice A1 n1.f4.length c1)); replace BA := A_ (put8_ BA.out (.int .i64 n1.f0) (.int .i64 n1.f1.f0) (.string n1.f1.f1) (.string n1.f1.f2) (.string n1.f1.f3) (.bool n1.f2) (.bool n1.f3) (.slice A1 n1.f4.length c1)); replace HV := A_ (V_all8 HV.out (fun q hq => hq.2) (.int .i64 n1.f0) (.int .i64 n1.f1.f0) (.string n1.f1.f1) (.string n1.f1.f2) (.string n1.f1.f3) (.bool n1.f2) (.bool n1.f3) (.slice A1 n1.f4.length c1)); (with_reducible refine (rparser_kind.calls gp y u m1 0 0 _ _ HP.out.hI HP.out.hB).mono ?_); rintro e7 w7 ⟨rfl, hb⟩; replace HP := A_ (HP.out.below hb); replace HB := A_ (below_step HB.out hb); replace BK := A_ (blk_below BK.out hb); replace BA := A_ (blk_below BA.out hb); replace HV := A_ (Kd.V_below HV.out hb); have Z := bz8_ BA; have ZK := bz8_ BK; obtain ⟨v0_, v1_, hG9⟩ := HP.out.hI.cells; have hp3 := (blk_cell hG9 3).trans rfl; have hp4 := (blk_cell hG9 4).trans rfl; have HG9 := A_ hG9; clear hG9; clear hb))
          refine bodyPost_ret (results_ctt rfl _ _ gb 27 #[.int .i64 n1.f0, .int .i64 n1.f1.f0, .string n1.f1.f1, .string n1.f1.f2, .string n1.f1.f3, .bool n1.f2, .bool n1.f3, .slice A1 n1.f4.length c1] (0, 0) _ rfl (put8_ BK.out ..) Tryz.underlying27 rfl (by kernel_rfl)) rfl ?_
          have p1 := V_all8 HV.out (fun q hq => hq.1.2) (.int .i64 n1.f0) (.int .i64 n1.f1.f0) (.string n1.f1.f1) (.string n1.f1.f2) (.string n1.f1.f3) (.bool n1.f2) (.bool n1.f3) (.slice A1 n1.f4.length c1)
          have p2 := below8 HB.out GE.out (.int .i64 n1.f0) (.int .i64 n1.f1.f0) (.string n1.f1.f1) (.string n1.f1.f2) (.string n1.f1.f3) (.bool n1.f2) (.bool n1.f3) (.slice A1 n1.f4.length c1)
          exact ⟨_, rfl, V_base (Kd.V_mono p1 (fun q hq => hq.1.1)), p2⟩
        · replace h3 := (if_neg cy).symm.trans h3
          have k9 : (y.f0 != 9) = true := bne_iff_ne.mpr cy
          have hE : eNot y 3 = 3 := if_neg cy
          have HE3 := A_ hE
          clear cy hE
          simp only [Option.some.injEq, Prod.mk.injEq] at h3
          obtain ⟨rfl, rfl, rfl, rfl, rfl, rfl, rfl, rfl, rfl, rfl⟩ := h3
          go_enter Tryz.func9, Tryz.ntmps9
          go_wp2_with (first | ((with_reducible refine gD 2 ?_); refine bxe_ 2 z8_ 27 ?_; intro gb hgb w2 hbox hb; have BK := A_ hbox; have GE := A_ (show w.heap.size ≤ gb from by rw [hgb]; exact HB.out.size); replace HB := A_ (below_step HB.out hb); clear hb hbox hgb) | ((with_reducible refine gC 20 ?_); refine gL 12 Tryz.func20 #[.string a0] ?_; (with_reducible refine (lustrumref09_All.calls k a0 L1 L2 L3 _ HL.out).mono ?_); rintro e1 w1 ⟨v0, rfl, ho, hb⟩; refine ⟨_, rfl, ?_⟩; obtain ⟨A0, c0, rfl⟩ := Kd.R_slice ho; have HO := A_ ho; replace HB := A_ (below_step HB.out hb); replace BK := A_ (blk_below BK.out hb); have ZK := bz8_ BK; clear ho hb) | ((with_reducible refine gD 23 ?_); refine bxe_ 23 #[.slice A0 L1.length c0, .int .i64 0, .int .i64 0, .int .i64 0, .int .i64 0] 53 ?_; intro gp hgp w4 hbox hb; have HP := A_ (KQ.start (IsQ.make HO.out HLL.out hgp hbox) hb); have HW := HB; have HW0 := A_ hb; have NBP := A_ (show gb ≠ gp from by rw [hgp]; exact Nat.ne_of_lt (blk_lt BK.out)); have GP := A_ (show w.heap.size ≤ gp from by rw [hgp]; exact HB.out.size); replace BK := A_ (blk_below BK.out hb); clear hb hbox hgp HO ZK) | ((with_reducible refine gC 21 ?_); refine gL 25 Tryz.func21 #[.pointer (some ⟨gp, 0, none⟩), .int .i64 0] ?_; (with_reducible refine (rparser_expr.calls k gp L1 0 0 _ _ _ HP.out.hI HP.out.hB HE.out).mono ?_); rintro e5 w5 ⟨v1, rfl, hV, hP⟩; refine ⟨_, rfl, ?_⟩; obtain ⟨A1, c1, rfl⟩ : ∃ A1 c1, v1 = .slice A1 n1.f4.length c1 := Kd.V_slice hV; have HV := A_ (Kd.V_mono (ok' := fun q => w.heap.size ≤ q ∧ q ≠ gb) hV (fun q hq => ⟨Nat.le_trans (Nat.le_trans HW.out.size HW0.out.size) hq, Ne.symm (Nat.ne_of_lt (Nat.lt_of_lt_of_le (blk_lt BK.out) hq))⟩)); replace BK := A_ (hP.hK.blk BK.out NBP.out (by simp)); replace HB := A_ (below_step HW.out hP.hB); replace HP := A_ hP; clear hV hP) | ((with_reducible refine gD 9 ?_); refine bxe_ 9 z8_ 27 ?_; intro ga hga w6 hbox hb; have BA := A_ hbox; have NBA := A_ (show gb ≠ ga from by rw [hga]; exact Nat.ne_of_lt (blk_lt BK.out)); have nba := NBA.out; have nab := Ne.symm nba; have NA := A_ (HP.out.new hga); have npa := NA.out.1; have nap := Ne.symm npa; have nbp := NBP.out; have npb := Ne.symm nbp; have GA := A_ (show w.heap.size ≤ ga from by rw [hga]; exact HB.out.size); replace HV := A_ (Kd.V_below (Kd.V_elderB HV.out ga (Nat.le_of_eq hga.symm)) hb); replace HP := A_ (HP.out.below hb); replace HB := A_ (below_step HB.out hb); replace BK := A_ (blk_below BK.out hb); have Z := bz8_ BA; have ZK := bz8_ BK; obtain ⟨v0_, v1_, hG9⟩ := HP.out.hI.cells; have hp3 := (blk_cell hG9 3).trans rfl; have hp4 := (blk_cell hG9 4).trans rfl; have HG9 := A_ hG9; clear hG9; clear hb hbox hga) | (go_at_call 22; clear Z ZK hp3 hp4 HG9; replace HP := A_ (HP.out.all8 NA.out (.int .i64 n1.f0) (.int .i64 n1.f1.f0) (.string n1.f1.f1) (.string n1.f1.f2) (.string n1.f1.f3) (.bool n1.f2) (.bool n1.f3) (.slice A1 n1.f4.length c1)); replace HB := A_ (below8 HB.out GA.out (.int .i64 n1.f0) (.int .i64 n1.f1.f0) (.string n1.f1.f1) (.string n1.f1.f2) (.string n1.f1.f3) (.bool n1.f2) (.bool n1.f3) (.slice A1 n1.f4.length c1)); replace BK := A_ (far8_ BK.out NBA.out (.int .i64 n1.f0) (.int .i64 n1.f1.f0) (.string n1.f1.f1) (.string n1.f1.f2) (.string n1.f1.f3) (.bool n1.f2) (.bool n1.f3) (.slice A1 n1.f4.length c1)); replace BA := A_ (put8_ BA.out (.int .i64 n1.f0) (.int .i64 n1.f1.f0) (.string n1.f1.f1) (.string n1.f1.f2) (.string n1.f1.f3) (.bool n1.f2) (.bool n1.f3) (.slice A1 n1.f4.length c1)); replace HV := A_ (V_all8 HV.out (fun q hq => hq.2) (.int .i64 n1.f0) (.int .i64 n1.f1.f0) (.string n1.f1.f1) (.string n1.f1.f2) (.string n1.f1.f3) (.bool n1.f2) (.bool n1.f3) (.slice A1 n1.f4.length c1)); (with_reducible refine (rparser_kind.calls gp y u m1 0 0 _ _ HP.out.hI HP.out.hB).mono ?_); rintro e7 w7 ⟨rfl, hb⟩; replace HP := A_ (HP.out.below hb); replace HB := A_ (below_step HB.out hb); replace BK := A_ (blk_below BK.out hb); replace BA := A_ (blk_below BA.out hb); replace HV := A_ (Kd.V_below HV.out hb); have Z := bz8_ BA; have ZK := bz8_ BK; obtain ⟨v0_, v1_, hG9⟩ := HP.out.hI.cells; have hp3 := (blk_cell hG9 3).trans rfl; have hp4 := (blk_cell hG9 4).trans rfl; have HG9 := A_ hG9; clear hG9; clear hb) | ((with_reducible refine gD 37 ?_); refine gL 37 Tryz.func23 #[.pointer (some ⟨gp, 0, none⟩), .int .i64 3] ?_; (with_reducible refine (rparser_fail.calls gp y u m1 3 _ _ HP.out.hI HP.out.hB).mono ?_); rintro e7 w7 ⟨rfl, hP⟩; rw [HE3.out] at hP; refine ⟨_, rfl, ?_⟩; replace BK := A_ (hP.hK.blk BK.out NBP.out (by simp)); replace HP := A_ (HP.out.trans hP); replace HB := A_ (below_step HW.out HP.out.hB); clear Z ZK hp3 hp4 HG9; have ZK := bz8_ BK; obtain ⟨v0_, v1_, hG9⟩ := HP.out.hI.cells; have hp3 := (blk_cell hG9 3).trans rfl; have hp4 := (blk_cell hG9 4).trans rfl; have HG9 := A_ hG9; clear hG9; clear hP))
          go_region_held3 (fun w' => w'.cell? ⟨gp, 3, none⟩ = some (.int .i64 y.f1) ∧ w'.cell? ⟨gp, 4, none⟩ = some (.int .i64 3)) (first | (with_reducible exact ⟨(blk_cell HG9.out 3).trans rfl, (blk_cell HG9.out 4).trans rfl⟩) | (with_reducible exact ⟨(blk_cell (blk_drew HG9.out) 3).trans rfl, (blk_cell (blk_drew HG9.out) 4).trans rfl⟩) | (with_reducible exact ⟨(blk_cell (blk_drew (far8_ HG9.out npb (.int .i64 0) (.int .i64 0) (.string ⟨#[]⟩) (.string ⟨#[]⟩) (.string ⟨#[]⟩) (.bool false) (.bool false) (.slice none 0 0))) 3).trans rfl, (blk_cell (blk_drew (far8_ HG9.out npb (.int .i64 0) (.int .i64 0) (.string ⟨#[]⟩) (.string ⟨#[]⟩) (.string ⟨#[]⟩) (.bool false) (.bool false) (.slice none 0 0))) 4).trans rfl⟩)) (fail)
          go_wp2
          refine bodyPost_ret (results_ctt rfl _ _ gb 27 z8_ (0, 0) _ rfl (blk_drew (put8_ BK.out (.int .i64 0) (.int .i64 0) (.string ⟨#[]⟩) (.string ⟨#[]⟩) (.string ⟨#[]⟩) (.bool false) (.bool false) (.slice none 0 0))) Tryz.underlying27 rfl (by kernel_rfl)) rfl ?_
          have p1 := below_drew (below8 HB.out GE.out (.int .i64 0) (.int .i64 0) (.string ⟨#[]⟩) (.string ⟨#[]⟩) (.string ⟨#[]⟩) (.bool false) (.bool false) (.slice none 0 0))
          exact ⟨_, rfl, Kd.V_nil _ _ _ _ _, p1⟩
    · replace h2 := (if_neg cl).symm.trans h2
      cases h2
  · replace h2 := (if_neg c).symm.trans h2
    have k3 : (L3 != 0) = true := bne_iff_ne.mpr c
    clear c
    simp only [Option.some.injEq, Prod.mk.injEq] at h2
    obtain ⟨rfl, rfl, rfl, rfl, rfl, rfl, rfl, rfl, rfl, rfl⟩ := h2
    go_enter Tryz.func9, Tryz.ntmps9
    go_wp2_with (first | ((with_reducible refine gD 2 ?_); refine bxe_ 2 z8_ 27 ?_; intro gb hgb w2 hbox hb; have BK := A_ hbox; have GE := A_ (show w.heap.size ≤ gb from by rw [hgb]; exact HB.out.size); replace HB := A_ (below_step HB.out hb); clear hb hbox hgb) | ((with_reducible refine gC 20 ?_); refine gL 12 Tryz.func20 #[.string a0] ?_; (with_reducible refine (lustrumref09_All.calls k a0 L1 L2 L3 _ HL.out).mono ?_); rintro e1 w1 ⟨v0, rfl, ho, hb⟩; refine ⟨_, rfl, ?_⟩; obtain ⟨A0, c0, rfl⟩ := Kd.R_slice ho; have HO := A_ ho; replace HB := A_ (below_step HB.out hb); replace BK := A_ (blk_below BK.out hb); have ZK := bz8_ BK; clear ho hb))
    refine bodyPost_ret (results_ctt rfl _ _ gb 27 z8_ (0, 0) _ rfl (put8_ BK.out ..) Tryz.underlying27 rfl (by kernel_rfl)) rfl ?_
    exact ⟨_, rfl, Kd.V_nil _ _ _ _ _, below8 HB.out GE.out ..⟩
def lim : Int := 1099511627776
def mem (l : List S120) (n : Int) : Prop := ∃ r, r ∈ l ∧ r.f0 ≤ n ∧ n ≤ r.f1
def saneF : Int → List S120 → Prop
  | _, [] => True
  | a, r :: t => a + 2 ≤ r.f0 ∧ r.f0 ≤ r.f1 ∧ r.f1 ≤ lim ∧ saneF r.f1 t
def sane (l : List S120) : Prop := saneF (-lim - 2) l
theorem mem_nil (n : Int) : ¬ mem [] n := fun ⟨_, h, _⟩ => by simp at h
theorem mem_cons (r : S120) (t : List S120) (n : Int) : mem (r :: t) n ↔ (r.f0 ≤ n ∧ n ≤ r.f1) ∨ mem t n := by
  constructor
  · rintro ⟨q, hq, h⟩
    rcases List.mem_cons.1 hq with rfl | hq
    · exact .inl h
    · exact .inr ⟨q, hq, h⟩
  · rintro (h | ⟨q, hq, h⟩)
    · exact ⟨r, List.mem_cons_self, h⟩
    · exact ⟨q, List.mem_cons_of_mem _ hq, h⟩
theorem mem_append (s t : List S120) (n : Int) : mem (s ++ t) n ↔ mem s n ∨ mem t n := by
  induction s with
  | nil => simp [mem_nil]
  | cons r s ih => rw [List.cons_append, mem_cons, mem_cons, ih, or_assoc]
theorem saneF_mem : ∀ {a : Int} {l : List S120}, saneF a l → ∀ {n : Int}, mem l n → a + 2 ≤ n ∧ n ≤ lim
  | _, [], _, _, h => absurd h (mem_nil _)
  | a, r :: t, ⟨h1, h2, h3, h4⟩, n, h => by
    rcases (mem_cons _ _ _).1 h with h | h
    · omega
    · have := saneF_mem h4 h
      omega
theorem saneF_le {a b : Int} {l : List S120} (h : saneF a l) (hb : b ≤ a) : saneF b l := by
  cases l with
  | nil => trivial
  | cons r t =>
    obtain ⟨h1, h2, h3, h4⟩ := h
    exact ⟨by omega, h2, h3, h4⟩
def ins (x : S120) : List S120 → List S120
  | [] => [x]
  | q :: t => if q.f1 < x.f0 - 1 then q :: ins x t else if x.f1 + 1 < q.f0 then x :: q :: t else ins ⟨min x.f0 q.f0, max x.f1 q.f1⟩ t
def clamp (r : S120) : S120 := ⟨max r.f0 (-lim), min r.f1 lim⟩
def step (s : List S120) (r : S120) : List S120 := if (clamp r).f0 ≤ (clamp r).f1 then ins (clamp r) s else s
theorem Ev.ift {α : Type} {c : Prop} [Decidable c] {g f : Nat → Option α} {r : α} (hc : c) (h : Ev g r) : Ev (fun k => if c then g k else f k) r := Ev.congr (fun k => if_pos hc) h
theorem Ev.iff_ {α : Type} {c : Prop} [Decidable c] {g f : Nat → Option α} {r : α} (hc : ¬ c) (h : Ev f r) : Ev (fun k => if c then g k else f k) r := Ev.congr (fun k => if_neg hc) h
theorem Ev.bnow {α β : Type} {a : Option α} {f : Nat → α → Option β} {x : α} {r : β} (h : a = some x) (k : Ev (fun n => f n x) r) : Ev (fun n => a.bind (f n)) r := Ev.congr (fun n => by rw [h]; rfl) k
theorem u8eq {x y : UInt8} (h : x.toNat = y.toNat) : x = y := UInt8.toNat_inj.1 h
theorem sane_all {l : List UInt8} (h : saneL l = true) : l.all okB = true ∧ l ≠ [] ∧ l.length ≤ 4 := by
  unfold saneL at h
  simp only [Bool.and_eq_true, decide_eq_true_eq] at h
  exact ⟨h.1.1, h.1.2, h.2⟩
theorem bsize (s : ByteArray) : s.size = s.data.toList.length := by simp
theorem Sane_l0 : ∀ (t p : List S120) (last : Int), (p ++ t).length ≤ 4611686018427387904 → -lim - 2 ≤ last → last ≤ lim →
    ∃ b, Ev (fun k => runs_Sane.l0 k last (p ++ t) ((p ++ t).length : Int) (p.length : Int)) b ∧ (b = true ↔ saneF last t)
  | [], p, last, _, _, _ => ⟨true, Ev.step (f := fun _ => some true) (fun k => by simp only [runs_Sane.l0]; rw [if_neg (at_end p)]) (Ev.now true), by simp [saneF]⟩
  | r :: t, p, last, hn, h1, h2 => by
    have e : ∀ k, runs_Sane.l0 (k + 1) last (p ++ r :: t) ((p ++ r :: t).length : Int) (p.length : Int) = (if r.f0 > r.f1 then some false else if r.f0 < last + 2 then some false else if r.f1 > 1099511627776 then some false else runs_Sane.l0 k r.f1 (p ++ r :: t) ((p ++ r :: t).length : Int) ((p ++ [r]).length : Int)) := fun k => by
      simp only [runs_Sane.l0]
      rw [if_pos (at_lt p r t), if_pos (at_0 p), if_pos (at_lt p r t), at_rd, at_next hn, w64 (by unfold lim at h1; omega) (by unfold lim at h2; omega)]
    by_cases c1 : r.f0 > r.f1
    · exact ⟨false, Ev.step (f := fun _ => some false) (fun k => by rw [e, if_pos c1]) (Ev.now _), by simp [saneF]; omega⟩
    by_cases c2 : r.f0 < last + 2
    · exact ⟨false, Ev.step (f := fun _ => some false) (fun k => by rw [e, if_neg c1, if_pos c2]) (Ev.now _), by simp [saneF]; omega⟩
    by_cases c3 : r.f1 > 1099511627776
    · exact ⟨false, Ev.step (f := fun _ => some false) (fun k => by rw [e, if_neg c1, if_neg c2, if_pos c3]) (Ev.now _), by simp [saneF, lim]; omega⟩
    obtain ⟨b, hb, hs⟩ := Sane_l0 t (p ++ [r]) r.f1 (by rw [← at_app]; exact hn) (by omega) (by unfold lim; omega)
    rw [← at_app] at hb
    refine ⟨b, Ev.step (fun k => by rw [e, if_neg c1, if_neg c2, if_neg c3]) hb, ?_⟩
    rw [hs, saneF]
    unfold lim
    exact ⟨fun h => ⟨by omega, by omega, by omega, h⟩, fun h => h.2.2.2⟩
theorem Sane_f (l : List S120) (hn : l.length ≤ 4611686018427387904) : ∃ b, Ev (fun k => runs_Sane.f k l) b ∧ (b = true ↔ sane l) := by
  obtain ⟨b, hb, hs⟩ := Sane_l0 l [] (-lim - 2) (by simpa using hn) (by omega) (by unfold lim; omega)
  exact ⟨b, hb, hs⟩
theorem mx_max (a b : Int) : mx a b = max a b := by unfold mx; omega
theorem mn_min (a b : Int) : mn a b = min a b := by unfold mn; omega
theorem sknown_s {l : List S120} (hs : sane l) (hn : l.length < 4398046511104) : Ev (fun k => sets_known.f k l) l := by
  obtain ⟨b, hb, h⟩ := Sane_f l (by omega)
  obtain rfl := h.2 hs
  exact Ev.bind hb (Ev.ift rfl (Ev.now _))
theorem mem_one (r : S120) (n : Int) : mem [r] n ↔ r.f0 ≤ n ∧ n ≤ r.f1 := by rw [mem_cons]; simp [mem_nil]
def both (r q : S120) : S120 := ⟨max r.f0 q.f0, min r.f1 q.f1⟩
def meet2 : List S120 → List S120 → List S120
  | [], _ => []
  | _ :: _, [] => []
  | r :: s, q :: t => (if (both r q).f0 ≤ (both r q).f1 then [both r q] else []) ++ (if r.f1 < q.f1 then meet2 s (q :: t) else meet2 (r :: s) t)
termination_by s t => s.length + t.length
theorem meet2_nil (s : List S120) : meet2 s [] = [] := by cases s <;> simp [meet2]
theorem meet2_cons (r : S120) (s : List S120) (q : S120) (t : List S120) : meet2 (r :: s) (q :: t) = (if (both r q).f0 ≤ (both r q).f1 then [both r q] else []) ++ (if r.f1 < q.f1 then meet2 s (q :: t) else meet2 (r :: s) t) := by rw [meet2]
theorem meet2_len : ∀ (m : Nat) (s t : List S120), s.length + t.length = m → (meet2 s t).length ≤ s.length + t.length
  | _, [], t, _ => by simp [meet2]
  | _, s, [], _ => by simp [meet2_nil]
  | m + 1, r :: s, q :: t, e => by
    simp only [List.length_cons] at e
    rw [meet2_cons, List.length_append]
    have h1 : (if (both r q).f0 ≤ (both r q).f1 then [both r q] else []).length ≤ 1 := by split <;> simp
    by_cases c : r.f1 < q.f1
    · rw [if_pos c]
      have := meet2_len m s (q :: t) (by simp only [List.length_cons]; omega)
      simp only [List.length_cons] at this ⊢
      omega
    · rw [if_neg c]
      have := meet2_len m (r :: s) t (by simp only [List.length_cons]; omega)
      simp only [List.length_cons] at this ⊢
      omega
theorem meet2_sane : ∀ (m : Nat) (s t : List S120) (a b : Int), s.length + t.length = m → saneF a s → saneF b t → saneF (max a b) (meet2 s t)
  | _, [], t, _, _, _, _, _ => by simp [meet2, saneF]
  | _, s, [], _, _, _, _, _ => by simp [meet2_nil, saneF]
  | m + 1, r :: s, q :: t, a, b, e, hs, ht => by
    simp only [List.length_cons] at e
    obtain ⟨r1, r2, r3, r4⟩ := hs
    obtain ⟨q1, q2, q3, q4⟩ := ht
    have ht : saneF (if r.f1 < q.f1 then max r.f1 b else max a q.f1) (if r.f1 < q.f1 then meet2 s (q :: t) else meet2 (r :: s) t) := by
      split
      · exact meet2_sane m s (q :: t) _ _ (by simp only [List.length_cons]; omega) r4 ⟨q1, q2, q3, q4⟩
      · exact meet2_sane m (r :: s) t _ _ (by simp only [List.length_cons]; omega) ⟨r1, r2, r3, r4⟩ q4
    rw [meet2_cons]
    by_cases c : (both r q).f0 ≤ (both r q).f1
    · rw [if_pos c]
      simp only [both] at c
      refine ⟨by simp only [both]; omega, by simp only [both]; exact c, by simp only [both]; omega, saneF_le ht ?_⟩
      simp only [both]
      split <;> omega
    · rw [if_neg c, List.nil_append]
      refine saneF_le ht ?_
      split <;> omega
theorem meet2_mem : ∀ (m : Nat) (s t : List S120) (a b : Int), s.length + t.length = m → saneF a s → saneF b t → ∀ n, mem (meet2 s t) n ↔ mem s n ∧ mem t n
  | _, [], t, _, _, _, _, _, n => by simp [meet2, mem_nil]
  | _, s, [], _, _, _, _, _, n => by simp [meet2_nil, mem_nil]
  | m + 1, r :: s, q :: t, a, b, e, hs, ht, n => by
    simp only [List.length_cons] at e
    have hs0 := hs; have ht0 := ht
    obtain ⟨r1, r2, r3, r4⟩ := hs
    obtain ⟨q1, q2, q3, q4⟩ := ht
    have ho : mem (if (both r q).f0 ≤ (both r q).f1 then [both r q] else []) n ↔ (r.f0 ≤ n ∧ n ≤ r.f1) ∧ q.f0 ≤ n ∧ n ≤ q.f1 := by
      by_cases c : (both r q).f0 ≤ (both r q).f1
      · rw [if_pos c, mem_one]; simp only [both]; omega
      · rw [if_neg c]; simp only [both] at c; constructor
        · exact fun h => absurd h (mem_nil _)
        · intro h; omega
    rw [meet2_cons, mem_append, ho]
    by_cases c : r.f1 < q.f1
    · rw [if_pos c, meet2_mem m s (q :: t) _ _ (by simp only [List.length_cons]; omega) r4 ht0 n, mem_cons, mem_cons]
      have h1 : mem t n → q.f1 + 2 ≤ n := fun h => (saneF_mem q4 h).1
      constructor
      · rintro (h | h)
        · exact ⟨.inl h.1, .inl h.2⟩
        · exact ⟨.inr h.1, h.2⟩
      · rintro ⟨h | h, h'⟩
        · rcases h' with h' | h'
          · exact .inl ⟨h, h'⟩
          · have := h1 h'; omega
        · exact .inr ⟨h, h'⟩
    · rw [if_neg c, meet2_mem m (r :: s) t _ _ (by simp only [List.length_cons]; omega) hs0 q4 n, mem_cons, mem_cons]
      have h1 : mem s n → r.f1 + 2 ≤ n := fun h => (saneF_mem r4 h).1
      constructor
      · rintro (h | h)
        · exact ⟨.inl h.1, .inl h.2⟩
        · exact ⟨h.1, .inr h.2⟩
      · rintro ⟨h, h' | h'⟩
        · rcases h with h | h
          · exact .inl ⟨h, h'⟩
          · have := h1 h; omega
        · exact .inr ⟨h, h'⟩
theorem Meet_l0 : ∀ (m : Nat) (s t p q acc : List S120), s.length + t.length = m → (p ++ s).length < 4398046511104 → (q ++ t).length < 4398046511104 → acc.length + s.length + t.length < 8796093022208 →
    Ev (fun k => sets_Meet.l0 k (p ++ s) (q ++ t) acc (p.length : Int) (q.length : Int)) (acc ++ meet2 s t)
  | _, [], t, p, q, acc, _, _, _, _ => by
    refine Ev.step (f := fun k => sets_Meet.j1 k (p ++ []) (q ++ t) acc (p.length : Int) (q.length : Int) false) (fun k => by rw [sets_Meet.l0, if_neg (at_end p)]) ?_
    refine Ev.step (f := fun _ => some (acc ++ meet2 [] t)) (fun k => by rw [sets_Meet.j1, if_neg (by simp)]; simp [meet2]) (Ev.now _)
  | _, r :: s, [], p, q, acc, _, _, _, _ => by
    refine Ev.step (f := fun k => sets_Meet.j1 k (p ++ r :: s) (q ++ []) acc (p.length : Int) (q.length : Int) false) (fun k => by rw [sets_Meet.l0, if_pos (at_lt p r s), decide_eq_false (at_end q)]) ?_
    refine Ev.step (f := fun _ => some (acc ++ meet2 (r :: s) [])) (fun k => by rw [sets_Meet.j1, if_neg (by simp)]; simp [meet2_nil]) (Ev.now _)
  | m + 1, r :: s, x :: t, p, q, acc, e, h1, h2, h3 => by
    simp only [List.length_cons] at e h3
    refine Ev.step (f := fun k => sets_Meet.j1 k (p ++ r :: s) (q ++ x :: t) acc (p.length : Int) (q.length : Int) true) (fun k => by rw [sets_Meet.l0, if_pos (at_lt p r s), decide_eq_true (at_lt q x t)]) ?_
    have hn1 := at_next (p := p) (r := r) (t := s) (by omega)
    have hn2 := at_next (p := q) (r := x) (t := t) (by omega)
    have hgo : ∀ acc' : List S120, acc'.length + (s.length + 1) + (t.length + 1) ≤ acc.length + (s.length + 1) + (t.length + 1) + 1 →
        Ev (fun k => if (r.f1) < (x.f1) then sets_Meet.l0 k (p ++ r :: s) (q ++ x :: t) acc' (wrap64 ((p.length : Int) + 1)) (q.length : Int) else sets_Meet.l0 k (p ++ r :: s) (q ++ x :: t) acc' (p.length : Int) (wrap64 ((q.length : Int) + 1)))
          (acc' ++ (if r.f1 < x.f1 then meet2 s (x :: t) else meet2 (r :: s) t)) := fun acc' ha => by
      by_cases c : r.f1 < x.f1
      · rw [if_pos c]
        refine Ev.ift c ?_
        rw [hn1]
        have := Meet_l0 m s (x :: t) (p ++ [r]) q acc' (by simp only [List.length_cons]; omega) (by rw [← at_app]; exact h1) h2 (by simp only [List.length_cons]; omega)
        rw [← at_app] at this
        exact this
      · rw [if_neg c]
        refine Ev.iff_ c ?_
        rw [hn2]
        have := Meet_l0 m (r :: s) t p (q ++ [x]) acc' (by simp only [List.length_cons]; omega) h1 (by rw [← at_app]; exact h2) (by simp only [List.length_cons]; omega)
        rw [← at_app] at this
        exact this
    rw [meet2_cons]
    by_cases c : (both r x).f0 ≤ (both r x).f1
    · rw [if_pos c, ← List.append_assoc]
      refine Ev.step (fun k => ?_) (hgo (acc ++ [both r x]) (by rw [List.length_append, List.length_singleton]; omega))
      rw [sets_Meet.j1, if_pos rfl, if_pos (at_0 p), if_pos (at_lt p r s), if_pos (at_0 q), if_pos (at_lt q x t), at_rd, at_rd, mx_max, mn_min, if_pos (show max r.f0 x.f0 ≤ min r.f1 x.f1 from c), if_pos (by omega)]
      rfl
    · rw [if_neg c, List.nil_append]
      refine Ev.step (fun k => ?_) (hgo acc (by omega))
      rw [sets_Meet.j1, if_pos rfl, if_pos (at_0 p), if_pos (at_lt p r s), if_pos (at_0 q), if_pos (at_lt q x t), at_rd, at_rd, mx_max, mn_min, if_neg (show ¬ max r.f0 x.f0 ≤ min r.f1 x.f1 from c)]
theorem Meet_s {a b : List S120} (ha : sane a) (hb : sane b) (h : a.length + b.length < 4398046511104) : Ev (fun k => sets_Meet.f k a b) (meet2 a b) ∧ (∀ n, mem (meet2 a b) n ↔ mem a n ∧ mem b n) ∧ sane (meet2 a b) ∧ (meet2 a b).length ≤ a.length + b.length := by
  refine ⟨Ev.bind (sknown_s ha (by omega)) (Ev.bind (sknown_s hb (by omega)) ?_), fun n => ?_, ?_, ?_⟩
  · have := Meet_l0 _ a b [] [] [] rfl (by simp; omega) (by simp; omega) (by simp; omega)
    simpa using this
  · exact meet2_mem _ a b _ _ rfl ha hb n
  · have := meet2_sane _ a b _ _ rfl ha hb
    rw [Int.max_self] at this
    exact this
  · exact meet2_len _ a b rfl
theorem setL_snoc (c : UInt8) : ∀ (l : List UInt8) (out : List S120), setL (l ++ [c]) out = (setL l out).flatMap (stepR c)
  | [], out => rfl
  | x :: l, out => by simp only [List.cons_append, setL]; exact setL_snoc c l _
theorem setL_fine (s : ByteArray) (h : saneL s.data.toList = true) : fine (setL s.data.toList [⟨0, 0⟩]) 10000 := by
  have ho := ok_of (s := s) (congrArg some h)
  have step : ∀ p, p ≤ s.size → ∃ out, setInv s p out := fun p => by
    induction p with
    | zero => exact fun _ => ⟨_, setInv_0 s⟩
    | succ p ih =>
      intro hp
      obtain ⟨out, hi⟩ := ih (by omega)
      exact ⟨_, setInv_step (by omega) (ho p (by omega)) hi⟩
  obtain ⟨out, h1, h2, h3⟩ := step s.size (Nat.le_refl _)
  have hd : setL (s.data.toList.drop s.size) out = out := by rw [List.drop_eq_nil_of_le (by rw [bsize]; exact Nat.le_refl _)]; rfl
  rw [hd] at h1
  rw [← h1]
  have h4 : s.size ≤ 4 := by rw [bsize]; exact (sane_all h).2.2
  have h10 : (10 ^ s.size : Nat) ≤ 10000 := Nat.pow_le_pow_right (n := 10) (by decide) h4
  have : ((10 ^ s.size : Nat) : Int) ≤ 10000 := Int.ofNat_le.2 h10
  exact fun q hq => by obtain ⟨a, b, c⟩ := h2 q hq; exact ⟨a, b, by omega⟩
theorem bt_list (s : ByteArray) (i : Nat) (h : i < s.data.toList.length) : bt s (i : Int) = ((s.data.toList[i]).toNat : Int) := by
  unfold bt
  rw [Int.toNat_natCast, dif_pos (by rw [bsize]; exact h)]
  simp [ByteArray.getElem_eq_getElem_data]
theorem rSane_l0 (s : ByteArray) (hs : s.size ≤ 9223372036854775807) : ∀ (m i : Nat), i + m = s.size → Ev (fun k => lustrumref06_Sane.l0 k s (i : Int)) ((s.data.toList.drop i).all okB && decide (1 ≤ s.size) && decide (s.size ≤ 4))
  | 0, i, e => by
    rw [List.drop_eq_nil_of_le (by rw [← bsize]; omega)]
    refine Ev.step (f := fun _ => some (decide (1 ≤ s.size) && decide (s.size ≤ 4))) (fun k => ?_) (Ev.now _)
    rw [lustrumref06_Sane.l0, if_neg (by omega)]
    by_cases h : 1 ≤ s.size
    · rw [if_pos (by omega), decide_eq_true h, Bool.true_and]
      exact congrArg some (decide_eq_decide.2 (by omega))
    · rw [if_neg (by omega), decide_eq_false h]; rfl
  | m + 1, i, e => by
    have hi : i < s.data.toList.length := by rw [← bsize]; omega
    have ih := rSane_l0 s hs m (i + 1) (by omega)
    have hb := bt_list s i hi
    have hw : wrap64 ((i : Int) + 1) = ((i + 1 : Nat) : Int) := by rw [w64 (by omega) (by omega)]; rfl
    rw [List.drop_eq_getElem_cons hi, List.all_cons]
    have base : ∀ k, lustrumref06_Sane.l0 (k + 1) s (i : Int) = (if okB (s.data.toList[i]) = true then lustrumref06_Sane.l0 k s ((i + 1 : Nat) : Int) else some false) := fun k => by
      rw [lustrumref06_Sane.l0, if_pos (by omega), if_pos (by omega), hb, hw]
      unfold okB
      by_cases h1 : ((s.data.toList[i]).toNat : Int) < 48
      · rw [if_pos h1]
        by_cases h2 : ((s.data.toList[i]).toNat : Int) = 88
        · omega
        · rw [if_neg h2, if_neg (by rw [decide_eq_true_eq]; omega)]
      · rw [if_neg h1]
        by_cases h3 : ((s.data.toList[i]).toNat : Int) > 57
        · rw [if_pos h3]
          by_cases h2 : ((s.data.toList[i]).toNat : Int) = 88
          · rw [if_pos h2, if_pos (by rw [decide_eq_true_eq]; omega)]
          · rw [if_neg h2, if_neg (by rw [decide_eq_true_eq]; omega)]
        · rw [if_neg h3, if_pos (by rw [decide_eq_true_eq]; omega)]
    cases hk : okB (s.data.toList[i]) with
    | true => exact Ev.step (fun k => by rw [base, hk, if_pos rfl]) (by simpa using ih)
    | false => exact Ev.step (f := fun _ => some false) (fun k => by rw [base, hk, if_neg (by simp)]) (by simpa using Ev.now false)
theorem rSane_f (s : ByteArray) (hs : s.size ≤ 9223372036854775807) : Ev (fun k => lustrumref06_Sane.f k s) (saneL s.data.toList) := by
  have h := rSane_l0 s hs s.size 0 (by omega)
  have e : ((s.data.toList.drop 0).all okB && decide (1 ≤ s.size) && decide (s.size ≤ 4)) = saneL s.data.toList := by
    unfold saneL
    rw [List.drop_zero, ← bsize]
    congr 2
    exact decide_eq_decide.2 (by rw [bsize]; cases s.data.toList <;> simp)
  rw [e] at h
  exact h
theorem pow_small {m n : Nat} (h : m ≤ n) (hn : n ≤ 4) : (10 ^ m : Nat) ≤ 10000 := Nat.pow_le_pow_right (n := 10) (by decide) (Nat.le_trans h hn)
theorem most_l0 (n : Nat) (hn : n ≤ 4) : ∀ (m i : Nat), i + m = n → Ev (fun k => lustrumref06_most.l0 k (n : Int) ((10 ^ i : Nat) : Int) (i : Int)) ((10 ^ n : Nat) : Int)
  | 0, i, e => by
    obtain rfl : i = n := by omega
    exact Ev.step (f := fun _ => some ((10 ^ i : Nat) : Int)) (fun k => by rw [lustrumref06_most.l0, if_neg (by omega)]) (Ev.now _)
  | m + 1, i, e => by
    have ih := most_l0 n hn m (i + 1) (by omega)
    have hp := pow_small (m := i) (n := n) (by omega) hn
    refine Ev.step (fun k => ?_) ih
    have e1 : wrap64 (((10 ^ i : Nat) : Int) * 10) = ((10 ^ (i + 1) : Nat) : Int) := by
      rw [Nat.pow_succ, Int.natCast_mul]
      generalize (10 ^ i : Nat) = q at hp ⊢
      rw [w64 (by omega) (by omega)]; rfl
    have e2 : wrap64 ((i : Int) + 1) = ((i + 1 : Nat) : Int) := by rw [w64 (by omega) (by omega)]; rfl
    rw [lustrumref06_most.l0, if_pos (by omega), e1, e2]
theorem most_f (n : Nat) (hn : n ≤ 4) : Ev (fun k => lustrumref06_most.f k (n : Int)) ((10 ^ n : Nat) : Int) := most_l0 n hn n 0 (by omega)
def refR : List UInt8 → Nat → Bool
  | [], _ => true
  | c :: r, u => (decide (c.toNat = 88) || decide (c.toNat = 48 + u % 10)) && refR r (u / 10)
def refV (s : List UInt8) (n : Int) : Bool := saneL s && decide (0 ≤ n) && decide (n < ((10 ^ s.length : Nat) : Int)) && refR s.reverse n.toNat
theorem tdiv10 {u : Nat} (hu : u < 4611686018427387904) : wrap64 (Int.tdiv (u : Int) 10) = ((u / 10 : Nat) : Int) := by
  rw [Int.tdiv_eq_ediv_of_nonneg (by omega), w64 (by omega) (by omega)]; omega
theorem tmod10 (u : Nat) : Int.tmod (u : Int) 10 = ((u % 10 : Nat) : Int) := by rw [Int.tmod_eq_emod_of_nonneg (by omega)]; omega
theorem byte48 (c : UInt8) : wrap64 (wrap64 (c.toNat : Int) - 48) = (c.toNat : Int) - 48 := by
  have : c.toNat < 256 := c.toNat_lt
  rw [w64 (x := (c.toNat : Int)) (by omega) (by omega), w64 (by omega) (by omega)]
theorem dig_iff {c u : Nat} : (c : Int) - 48 = ((u % 10 : Nat) : Int) ↔ c = 48 + u % 10 := by omega
theorem dig_ne {c : Nat} (h : ¬ c = 88) : ¬ (c : Int) = 88 := by omega
theorem rMatch_l0 (s : ByteArray) (hs : saneL s.data.toList = true) : ∀ (m u : Nat), m ≤ s.data.toList.length → u < 4611686018427387904 → Ev (fun k => lustrumref06_Match.l0 k s (u : Int) ((m : Int) - 1)) (refR (s.data.toList.take m).reverse u)
  | 0, u, _, _ => Ev.step (f := fun _ => some true) (fun k => by rw [lustrumref06_Match.l0, if_neg (by omega)]) (Ev.now _)
  | m + 1, u, hm, hu => by
    have hi : m < s.data.toList.length := by omega
    have h4 := (sane_all hs).2.2
    have hb := bt_list s m hi
    have hz := bsize s
    have ih := rMatch_l0 s hs m (u / 10) (by omega) (by omega)
    have ht : (s.data.toList.take (m + 1)).reverse = s.data.toList[m] :: (s.data.toList.take m).reverse := by
      rw [List.take_succ_eq_append_getElem hi, List.reverse_append]; rfl
    have hok := of_decide_eq_true (List.all_eq_true.1 (sane_all hs).1 (s.data.toList[m]) (List.getElem_mem hi))
    rw [ht, refR]
    have e : ((m + 1 : Nat) : Int) - 1 = (m : Int) := by omega
    have e1 : wrap64 ((m : Int) - 1) = (m : Int) - 1 := w64 (by omega) (by omega)
    have g1 : (m : Int) ≥ 0 := by omega
    have g2 : (m : Int) < (s.size : Int) := by omega
    rw [e]
    by_cases h : (s.data.toList[m]).toNat = 88
    · rw [decide_eq_true h, Bool.true_or, Bool.true_and]
      refine Ev.step (fun k => ?_) ih
      rw [lustrumref06_Match.l0, if_pos g1, if_pos g1, if_pos g2, hb, if_pos (by rw [h]; rfl), e1, tdiv10 hu]
    · rw [decide_eq_false h, Bool.false_or]
      by_cases hd : (s.data.toList[m]).toNat = 48 + u % 10
      · rw [decide_eq_true hd, Bool.true_and]
        refine Ev.step (fun k => ?_) ih
        rw [lustrumref06_Match.l0, if_pos g1, if_pos g1, if_pos g2, hb, if_neg (dig_ne h), byte48, tmod10, if_pos (dig_iff.2 hd), e1, tdiv10 hu]
      · rw [decide_eq_false hd, Bool.false_and]
        refine Ev.step (f := fun _ => some false) (fun k => ?_) (Ev.now _)
        rw [lustrumref06_Match.l0, if_pos g1, if_pos g1, if_pos g2, hb, if_neg (dig_ne h), byte48, tmod10, if_neg (fun h' => hd (dig_iff.1 h'))]
theorem rMatch_f (s : ByteArray) (hz : s.size ≤ 9223372036854775807) (n : Int) (hn : n ≤ 9223372036854775807) : Ev (fun k => lustrumref06_Match.f k s n) (refV s.data.toList n) := by
  refine Ev.bind (rSane_f s hz) ?_
  have out : Ev (fun k => lustrumref06_Match.j0 k s n true) false := Ev.step (f := fun _ => some false) (fun k => by rw [lustrumref06_Match.j0, if_pos rfl]) (Ev.now _)
  unfold refV
  by_cases hs : saneL s.data.toList = true
  · rw [hs, Bool.true_and]
    have h4 := (sane_all hs).2.2
    have hb := bsize s
    refine Ev.ift rfl ?_
    by_cases h0 : n < 0
    · rw [decide_eq_false (p := 0 ≤ n) (by omega)]
      exact Ev.ift h0 out
    · rw [decide_eq_true (p := 0 ≤ n) (by omega), Bool.true_and]
      refine Ev.iff_ h0 ?_
      rw [hb]
      refine Ev.bind (most_f s.data.toList.length h4) ?_
      have hp := pow_small (m := s.data.toList.length) (n := 4) h4 (by omega)
      by_cases h1 : n ≥ ((10 ^ s.data.toList.length : Nat) : Int)
      · rw [decide_eq_true h1, decide_eq_false (p := n < _) (by omega)]
        exact out
      · rw [decide_eq_false h1, decide_eq_true (p := n < _) (by omega), Bool.true_and]
        obtain ⟨u, rfl⟩ := Int.eq_ofNat_of_zero_le (by omega : 0 ≤ n)
        have h := rMatch_l0 s hs s.data.toList.length u (Nat.le_refl _) (by generalize (10 ^ s.data.toList.length : Nat) = q at h1 hp; simp at h1; omega)
        rw [List.take_length] at h
        refine Ev.step (fun k => ?_) h
        rw [lustrumref06_Match.j0, if_neg (by simp), hb, w64 (by omega) (by omega)]
  · rw [Bool.eq_false_iff.mpr hs]
    exact Ev.iff_ (by simp) out
def gap : Int → List S120 → Prop
  | _, [] => True
  | a, r :: t => a + 2 ≤ r.f0 ∧ r.f0 ≤ r.f1 ∧ gap r.f1 t
theorem gap_le {a b : Int} {l : List S120} (h : gap a l) (hb : b ≤ a) : gap b l := by
  cases l with
  | nil => trivial
  | cons r t => exact ⟨by have := h.1; omega, h.2.1, h.2.2⟩
theorem gap_app : ∀ {u : List S120} {a c : Int} {v : List S120}, gap a u → (∀ x, x ∈ u → x.f1 ≤ c) → a ≤ c → gap c v → gap a (u ++ v)
  | [], a, c, v, _, _, hc, hv => gap_le hv hc
  | x :: u, a, c, v, ⟨h1, h2, h3⟩, hu, hc, hv => ⟨h1, h2, gap_app h3 (fun y hy => hu y (List.mem_cons_of_mem _ hy)) (hu x List.mem_cons_self) hv⟩
theorem gap_sane : ∀ {l : List S120} {a : Int}, gap a l → (∀ x, x ∈ l → x.f1 ≤ lim) → saneF a l
  | [], _, _, _ => trivial
  | x :: l, a, ⟨h1, h2, h3⟩, h => ⟨h1, h2, h x List.mem_cons_self, gap_sane h3 (fun y hy => h y (List.mem_cons_of_mem _ hy))⟩
theorem gap_ones (c : Int) : ∀ (m : Nat) (lo a : Int), a + 2 ≤ lo * 10 + (c - 48) → gap a ((upto lo m).map (one c))
  | 0, _, _, _ => trivial
  | m + 1, lo, a, h => ⟨h, Int.le_refl _, gap_ones c m (lo + 1) _ (by simp only [one]; omega)⟩
theorem gap_step (c : UInt8) (hc : 48 ≤ c.toNat ∧ c.toNat ≤ 57 ∨ c.toNat = 88) : ∀ (l : List S120) (a : Int), gap a l → gap (10 * a + 9) (l.flatMap (stepR c))
  | [], _, _ => trivial
  | q :: l, a, ⟨h1, h2, h3⟩ => by
    rw [List.flatMap_cons]
    refine gap_app (c := 10 * q.f1 + 9) ?_ ?_ (by omega) (gap_step c hc l q.f1 h3)
    · unfold stepR
      split
      · exact ⟨by simp only; omega, by simp only; omega, trivial⟩
      · exact gap_ones (c.toNat : Int) _ q.f0 _ (by omega)
    · intro x hx
      unfold stepR at hx
      split at hx
      · obtain rfl := List.mem_singleton.1 hx
        simp only; omega
      · obtain ⟨n, hn, rfl⟩ := List.mem_map.1 hx
        have := (upto_mem _ _ _).1 hn
        simp only; omega
theorem gap_set : ∀ (r : List UInt8), (∀ c, c ∈ r → 48 ≤ c.toNat ∧ c.toNat ≤ 57 ∨ c.toNat = 88) → gap (-((10 ^ r.length : Nat) : Int) - 1) (setL r.reverse [(⟨0, 0⟩ : S120)])
  | [], _ => ⟨by decide, Int.le_refl _, trivial⟩
  | c :: r, h => by
    have ih := gap_step c (h c List.mem_cons_self) _ _ (gap_set r (fun x hx => h x (List.mem_cons_of_mem _ hx)))
    rw [List.reverse_cons, setL_snoc, List.length_cons, Nat.pow_succ]
    refine gap_le ih ?_
    rw [Int.natCast_mul]
    generalize ((10 ^ r.length : Nat) : Int) = q
    omega
theorem mem_step (c : UInt8) (hc : 48 ≤ c.toNat ∧ c.toNat ≤ 57 ∨ c.toNat = 88) (l : List S120) (n : Int) : mem (l.flatMap (stepR c)) n ↔ mem l (n / 10) ∧ (c.toNat = 88 ∨ (c.toNat : Int) = 48 + n % 10) := by
  constructor
  · rintro ⟨x, hx, h1, h2⟩
    obtain ⟨q, hq, hx⟩ := List.mem_flatMap.1 hx
    unfold stepR at hx
    by_cases h : c.toNat = 88
    · rw [if_pos h] at hx
      obtain rfl := List.mem_singleton.1 hx
      simp only at h1 h2
      exact ⟨⟨q, hq, by omega, by omega⟩, .inl h⟩
    · rw [if_neg h] at hx
      obtain ⟨m, hm, rfl⟩ := List.mem_map.1 hx
      have hm := (upto_mem _ _ _).1 hm
      simp only at h1 h2
      exact ⟨⟨q, hq, by omega, by omega⟩, .inr (by omega)⟩
  · rintro ⟨⟨q, hq, h1, h2⟩, h⟩
    by_cases h8 : c.toNat = 88
    · exact ⟨⟨q.f0 * 10, q.f1 * 10 + 9⟩, List.mem_flatMap.2 ⟨q, hq, by unfold stepR; rw [if_pos h8]; exact List.mem_singleton.2 rfl⟩, by simp only; omega, by simp only; omega⟩
    · have h9 := h.resolve_left h8
      refine ⟨⟨(n / 10) * 10 + ((c.toNat : Int) - 48), (n / 10) * 10 + ((c.toNat : Int) - 48)⟩, List.mem_flatMap.2 ⟨q, hq, ?_⟩, by simp only; omega, by simp only; omega⟩
      unfold stepR
      rw [if_neg h8]
      exact List.mem_map.2 ⟨n / 10, (upto_mem _ _ _).2 ⟨h1, by omega⟩, rfl⟩
theorem mem_set : ∀ (r : List UInt8), (∀ c, c ∈ r → 48 ≤ c.toNat ∧ c.toNat ≤ 57 ∨ c.toNat = 88) → ∀ n : Int, mem (setL r.reverse [(⟨0, 0⟩ : S120)]) n ↔ 0 ≤ n ∧ n < ((10 ^ r.length : Nat) : Int) ∧ refR r n.toNat = true
  | [], _, n => by
    rw [List.reverse_nil, setL, mem_cons]
    simp [mem_nil, refR]; omega
  | c :: r, h, n => by
    have ih := mem_set r (fun x hx => h x (List.mem_cons_of_mem _ hx)) (n / 10)
    rw [List.reverse_cons, setL_snoc, mem_step c (h c List.mem_cons_self), ih, List.length_cons, Nat.pow_succ, Int.natCast_mul, refR, Bool.and_eq_true, Bool.or_eq_true, decide_eq_true_eq, decide_eq_true_eq]
    generalize ((10 ^ r.length : Nat) : Int) = q
    constructor
    · rintro ⟨⟨h1, h2, h3⟩, h4⟩
      have e : (n / 10).toNat = n.toNat / 10 := by omega
      rw [e] at h3
      exact ⟨by omega, by show n < q * 10; omega, by omega, h3⟩
    · rintro ⟨h1, h2, h4, h3⟩
      have e : (n / 10).toNat = n.toNat / 10 := by omega
      have h2 : n < q * 10 := h2
      rw [e]
      exact ⟨⟨by omega, by omega, h3⟩, by omega⟩
theorem sane_ok {l : List UInt8} (hs : saneL l = true) : ∀ c, c ∈ l.reverse → 48 ≤ c.toNat ∧ c.toNat ≤ 57 ∨ c.toNat = 88 := fun c hc => of_decide_eq_true (List.all_eq_true.1 (sane_all hs).1 c (List.mem_reverse.1 hc))
theorem set_is (s : ByteArray) (hs : saneL s.data.toList = true) : sane (setL s.data.toList [⟨0, 0⟩]) ∧ ∀ n, mem (setL s.data.toList [⟨0, 0⟩]) n ↔ refV s.data.toList n = true := by
  have h1 := gap_set s.data.toList.reverse (sane_ok hs)
  have h2 := mem_set s.data.toList.reverse (sane_ok hs)
  have hf := setL_fine s hs
  rw [List.reverse_reverse, List.length_reverse] at h1 h2
  have hp := pow_small (m := s.data.toList.length) (n := 4) (sane_all hs).2.2 (by omega)
  refine ⟨saneF_le (gap_sane h1 (fun x hx => by have := (hf x hx).2.2; unfold lim; omega)) (by unfold lim; omega), fun n => ?_⟩
  rw [h2 n]
  unfold refV
  rw [hs, Bool.true_and, Bool.and_eq_true, Bool.and_eq_true, decide_eq_true_eq, decide_eq_true_eq, and_assoc]
def setV (s : ByteArray) : List S120 := if saneL s.data.toList = true then setL s.data.toList [⟨0, 0⟩] else []
theorem setL_len (s : ByteArray) (h : saneL s.data.toList = true) : (setL s.data.toList [⟨0, 0⟩]).length ≤ 1000000 := by
  have ho := ok_of (s := s) (congrArg some h)
  have step : ∀ p, p ≤ s.size → ∃ out, setInv s p out := fun p => by
    induction p with
    | zero => exact fun _ => ⟨_, setInv_0 s⟩
    | succ p ih =>
      intro hp
      obtain ⟨out, hi⟩ := ih (by omega)
      exact ⟨_, setInv_step (by omega) (ho p (by omega)) hi⟩
  obtain ⟨out, h1, h2, h3⟩ := step s.size (Nat.le_refl _)
  have hd : setL (s.data.toList.drop s.size) out = out := by rw [List.drop_eq_nil_of_le (by rw [bsize]; exact Nat.le_refl _)]; rfl
  rw [hd] at h1
  rw [← h1]
  have h4 : s.size ≤ 4 := by rw [bsize]; exact (sane_all h).2.2
  have hl : lenB s.size ≤ 1000000 := by
    rcases (by omega : s.size = 0 ∨ s.size = 1 ∨ s.size = 2 ∨ s.size = 3 ∨ s.size = 4) with e | e | e | e | e <;> rw [e] <;> decide
  omega
theorem refV_sane {l : List UInt8} {n : Int} (h : saneL l = false) : refV l n = false := by unfold refV; rw [h]; rfl
theorem setV_is (s : ByteArray) : sane (setV s) ∧ (setV s).length ≤ 1000000 ∧ ∀ n, mem (setV s) n ↔ refV s.data.toList n = true := by
  unfold setV
  by_cases h : saneL s.data.toList = true
  · rw [if_pos h]
    exact ⟨(set_is s h).1, setL_len s h, (set_is s h).2⟩
  · rw [if_neg h]
    refine ⟨trivial, by simp, fun n => ?_⟩
    rw [refV_sane (Bool.eq_false_iff.2 h)]
    simp [mem_nil]
def numsR (r : S120) : List Int := upto r.f0 (r.f1 + 1 - r.f0).toNat
theorem nums_l1 (s : List S120) (i lo hi R' : Int) (hh : hi ≤ 1000) {R : List Int} : ∀ (m : Nat) (x : Int) (acc : List Int), 0 ≤ x → x + m = hi + 1 ∨ (m = 0 ∧ hi < x) → acc.length + m < 17592186044416 →
    Ev (fun k => point_numbers.l0 k (acc ++ upto x m) s (s.length : Int) (wrap64 (i + 1))) R → Ev (fun k => point_numbers.l1 k acc x s (s.length : Int) i lo hi) R
  | 0, x, acc, h0, hx, hl, h => by
    refine Ev.step (f := fun k => point_numbers.l0 k acc s (s.length : Int) (wrap64 (i + 1))) (fun k => by rw [point_numbers.l1, if_neg (by omega)]) ?_
    simpa [upto] using h
  | m + 1, x, acc, h0, hx, hl, h => by
    refine Ev.step (f := fun k => point_numbers.l1 k (acc ++ [x]) (x + 1) s (s.length : Int) i lo hi) (fun k => by rw [point_numbers.l1, if_pos (by omega), if_pos (by omega), w64 (by omega) (by omega)]) ?_
    refine nums_l1 s i lo hi R' hh m (x + 1) (acc ++ [x]) (by omega) (by omega) (by rw [List.length_append, List.length_singleton]; omega) ?_
    rw [List.append_assoc, List.singleton_append]
    exact h
theorem nums_l0 : ∀ (t p : List S120) (acc : List Int), (∀ r, r ∈ t → 1 ≤ r.f0 ∧ r.f1 ≤ 31) → acc.length + 32 * t.length < 17592186044416 → (p ++ t).length ≤ 4611686018427387904 →
    Ev (fun k => point_numbers.l0 k acc (p ++ t) ((p ++ t).length : Int) (p.length : Int)) (acc ++ t.flatMap numsR)
  | [], p, acc, _, _, _ => Ev.step (f := fun _ => some (acc ++ [])) (fun k => by rw [point_numbers.l0, if_neg (at_end p), List.append_nil]) (Ev.now _)
  | r :: t, p, acc, hr, hl, hp => by
    have h1 := hr r List.mem_cons_self
    refine Ev.step (f := fun k => point_numbers.l1 k acc r.f0 (p ++ r :: t) ((p ++ r :: t).length : Int) (p.length : Int) r.f0 r.f1) (fun k => by rw [point_numbers.l0, if_pos (at_lt p r t), if_pos (at_0 p), if_pos (at_lt p r t), at_rd]) ?_
    have hm : (r.f1 + 1 - r.f0).toNat ≤ 31 := by omega
    rw [List.length_cons] at hl
    refine nums_l1 (p ++ r :: t) (p.length : Int) r.f0 r.f1 0 (by omega) (r.f1 + 1 - r.f0).toNat r.f0 acc (by omega) (by omega) (by omega) ?_
    rw [at_next hp]
    have := nums_l0 t (p ++ [r]) (acc ++ numsR r) (fun q hq => hr q (List.mem_cons_of_mem _ hq)) (by rw [List.length_append]; unfold numsR; rw [upto_len]; omega) (by rw [← at_app]; exact hp)
    rw [← at_app] at this
    rw [List.flatMap_cons, ← List.append_assoc]
    exact this
def anyV (l : List UInt8) (i : Int) : Nat → Bool
  | 0 => false
  | m + 1 => refV l i || anyV l (i + 1) m
theorem anyV_iff (l : List UInt8) : ∀ (m : Nat) (i : Int), anyV l i m = true ↔ ∃ n, i ≤ n ∧ n < i + m ∧ refV l n = true
  | 0, i => by
    simp only [anyV]
    exact ⟨fun h => absurd h (by simp), fun ⟨n, h1, h2, _⟩ => by omega⟩
  | m + 1, i => by
    rw [anyV, Bool.or_eq_true, anyV_iff l m (i + 1)]
    constructor
    · rintro (h | ⟨n, h1, h2, h3⟩)
      · exact ⟨i, by omega, by omega, h⟩
      · exact ⟨n, by omega, by omega, h3⟩
    · rintro ⟨n, h1, h2, h3⟩
      rcases (by omega : n = i ∨ i + 1 ≤ n) with rfl | h
      · exact .inl h3
      · exact .inr ⟨n, h, by omega, h3⟩
theorem numbers_f (s : ByteArray) (m : Nat) (hm : 1 ≤ m ∧ m ≤ 31) : ∃ L : List Int, Ev (fun k => point_numbers.f k s (m : Int)) L ∧ (L ≠ [] ↔ anyV s.data.toList 1 m = true) := by
  obtain ⟨h1, h2, h3⟩ := setV_is s
  have hb : sane [(⟨1, (m : Int)⟩ : S120)] := ⟨by show -lim - 2 + 2 ≤ (1 : Int); unfold lim; omega, by show (1 : Int) ≤ (m : Int); omega, by show (m : Int) ≤ lim; unfold lim; omega, trivial⟩
  obtain ⟨e1, e2, e3, e4⟩ := Meet_s h1 hb (by simp; omega)
  have hin : ∀ r, r ∈ meet2 (setV s) [(⟨1, (m : Int)⟩ : S120)] → r.f0 ≤ r.f1 ∧ 1 ≤ r.f0 ∧ r.f1 ≤ (m : Int) := fun r hr => by
    have hle : r.f0 ≤ r.f1 := by
      have : ∀ {a : Int} {l : List S120}, saneF a l → ∀ q, q ∈ l → q.f0 ≤ q.f1 := by
        intro a l
        induction l generalizing a with
        | nil => intro _ q hq; cases hq
        | cons x t ih =>
          intro h q hq
          rcases List.mem_cons.1 hq with rfl | hq
          · exact h.2.1
          · exact ih h.2.2.2 q hq
      exact this e3 r hr
    have ha := (e2 r.f0).1 ⟨r, hr, Int.le_refl _, hle⟩
    have hc := (e2 r.f1).1 ⟨r, hr, hle, Int.le_refl _⟩
    have ha := (mem_one _ _).1 ha.2
    have hc := (mem_one _ _).1 hc.2
    simp only at ha hc
    exact ⟨hle, ha.1, hc.2⟩
  refine ⟨(meet2 (setV s) [(⟨1, (m : Int)⟩ : S120)]).flatMap numsR, ?_, ?_⟩
  · refine Ev.bnow (x := setV s) rfl ?_
    refine Ev.bind (Ev.bind e1 (Ev.now _)) ?_
    have := nums_l0 (meet2 (setV s) [(⟨1, (m : Int)⟩ : S120)]) [] [] (fun r hr => ⟨(hin r hr).2.1, by have := (hin r hr).2.2; omega⟩) (by simp at e4 ⊢; omega) (by simp at e4 ⊢; omega)
    simpa using this
  · rw [anyV_iff]
    constructor
    · intro h
      obtain ⟨n, hn⟩ := List.exists_mem_of_ne_nil _ h
      obtain ⟨r, hr, hn⟩ := List.mem_flatMap.1 hn
      have hn := (upto_mem _ _ _).1 hn
      obtain ⟨a, b, c⟩ := hin r hr
      have hmem := (e2 n).1 ⟨r, hr, hn.1, by omega⟩
      exact ⟨n, by omega, by omega, (h3 n).1 hmem.1⟩
    · rintro ⟨n, ha, hc, hv⟩
      obtain ⟨r, hr, hn1, hn2⟩ := (e2 n).2 ⟨(h3 n).2 hv, (mem_one _ _).2 ⟨by simp only; omega, by simp only; omega⟩⟩
      intro he
      have : n ∈ (meet2 (setV s) [(⟨1, (m : Int)⟩ : S120)]).flatMap numsR := List.mem_flatMap.2 ⟨r, hr, (upto_mem _ _ _).2 ⟨hn1, by omega⟩⟩
      rw [he] at this
      cases this
def someV (s : ByteArray) (n : Int) (m : Nat) : Bool := decide ((s.size : Int) = n) && anyV s.data.toList 1 m
theorem some_f (s : ByteArray) (n : Int) (m : Nat) (hm : 1 ≤ m ∧ m ≤ 31) : Ev (fun k => point_some.f k s n (m : Int)) (someV s n m) := by
  unfold someV
  by_cases h : (s.size : Int) = n
  · rw [decide_eq_true h, Bool.true_and]
    refine Ev.ift h ?_
    obtain ⟨L, h1, h2⟩ := numbers_f s m hm
    refine Ev.bind h1 (Ev.eq (Ev.now _) ?_)
    cases hv : anyV s.data.toList 1 m with
    | true =>
      have := h2.2 hv
      cases L with
      | nil => exact absurd rfl this
      | cons x t => exact decide_eq_true (by simp)
    | false =>
      cases L with
      | nil => rfl
      | cons x t => exact absurd (h2.1 (by simp)) (by rw [hv]; simp)
  · rw [decide_eq_false h, Bool.false_and]
    exact Ev.iff_ h (Ev.now _)
theorem rsome_l0 (s : ByteArray) (hz : s.size ≤ 9223372036854775807) (most : Int) (hm : most ≤ 31) : ∀ (m : Nat) (i : Int), 0 ≤ i → i + m = most + 1 → Ev (fun k => lustrumref08_some.l0 k s most i) (anyV s.data.toList i m)
  | 0, i, h0, h => Ev.step (f := fun _ => some false) (fun k => by rw [lustrumref08_some.l0, if_neg (by omega)]) (Ev.now _)
  | m + 1, i, h0, h => by
    refine Ev.step (f := fun k => (lustrumref06_Match.f k s i).bind fun t => if t = true then some true else lustrumref08_some.l0 k s most (i + 1)) (fun k => by rw [lustrumref08_some.l0, if_pos (by omega), w64 (by omega) (by omega)]) ?_
    refine Ev.bind (rMatch_f s hz i (by omega)) ?_
    rw [anyV]
    cases hv : refV s.data.toList i with
    | true => exact Ev.ift rfl (Ev.now _)
    | false => exact Ev.iff_ (by simp) (rsome_l0 s hz most hm m (i + 1) (by omega) (by omega))
theorem rsome_f (s : ByteArray) (hz : s.size ≤ 9223372036854775807) (n : Int) (m : Nat) (hm : 1 ≤ m ∧ m ≤ 31) : Ev (fun k => lustrumref08_some.f k s n (m : Int)) (someV s n m) := by
  unfold someV
  by_cases h : (s.size : Int) = n
  · rw [decide_eq_true h, Bool.true_and]
    exact Ev.ift h (rsome_l0 s hz m (by omega) m 1 (by omega) (by omega))
  · rw [decide_eq_false h, Bool.false_and]
    exact Ev.iff_ h (Ev.now _)
def emptyV (s : ByteArray) : Bool := s.toList == ([] : List UInt8)
def ptV (p : S24) : Bool := saneL p.f1.data.toList && (
  if p.f0 = 0 then decide ((p.f1.size : Int) = 4) && (someV p.f2 2 12 && someV p.f3 2 31)
  else if p.f0 = 1 then decide ((p.f1.size : Int) = 4) && (someV p.f2 2 12 && emptyV p.f3)
  else if p.f0 = 2 then decide ((p.f1.size : Int) = 4) && (someV p.f2 1 4 && emptyV p.f3)
  else if p.f0 = 3 then decide ((p.f1.size : Int) = 4) && (emptyV p.f2 && emptyV p.f3)
  else if p.f0 = 4 then decide ((p.f1.size : Int) = 3) && (emptyV p.f2 && emptyV p.f3)
  else if p.f0 = 5 then decide ((p.f1.size : Int) = 2) && (emptyV p.f2 && emptyV p.f3)
  else false)
theorem Ev.cond {c : Prop} [Decidable c] {g : Nat → Option Bool} {r : Bool} (h : c → Ev g r) : Ev (fun k => if c then g k else some false) (decide c && r) := by
  by_cases hc : c
  · rw [decide_eq_true hc, Bool.true_and]; exact Ev.ift hc (h hc)
  · rw [decide_eq_false hc, Bool.false_and]; exact Ev.iff_ hc (Ev.now _)
theorem Ev.andb {a : Nat → Option Bool} {g : Nat → Option Bool} {x r : Bool} (h1 : Ev a x) (h2 : Ev g r) : Ev (fun k => (a k).bind fun t => if t = true then g k else some false) (x && r) := by
  refine Ev.bind h1 ?_
  cases x with
  | true => rw [Bool.true_and]; exact Ev.ift rfl h2
  | false => exact Ev.iff_ (by simp) (Ev.now _)
theorem Ev.pick {c : Prop} [Decidable c] {g f : Nat → Option Bool} {r q : Bool} (h1 : Ev g r) (h2 : Ev f q) : Ev (fun k => if c then g k else f k) (if c then r else q) := by
  by_cases hc : c
  · rw [if_pos hc]; exact Ev.ift hc h1
  · rw [if_neg hc]; exact Ev.iff_ hc h2
theorem Ev.self {a : Nat → Option Bool} {x : Bool} (h : Ev a x) : Ev (fun k => (a k).bind fun t => some t) x := Ev.bind h (Ev.now _)
theorem bare_and (a b : ByteArray) : (if a.toList = ([] : List UInt8) then emptyV b else false) = (emptyV a && emptyV b) := by
  unfold emptyV
  by_cases h : a.toList = []
  · rw [if_pos h, h]; rfl
  · rw [if_neg h]
    have : (a.toList == ([] : List UInt8)) = false := by cases hl : a.toList with
      | nil => exact absurd hl h
      | cons x t => rfl
    rw [this]; rfl
theorem ptSane_f (p : S24) : Ev (fun k => point_Sane.f k p.f0 p.f1 p.f2 p.f3) (ptV p) := by
  unfold ptV
  refine Ev.bnow (x := saneL p.f1.data.toList) rfl ?_
  have hj : ∀ b : Bool, b = (emptyV p.f2 && emptyV p.f3) → Ev (fun k => point_Sane.j0 k b p.f0 p.f1 p.f2 p.f3) (
      if p.f0 = 0 then decide ((p.f1.size : Int) = 4) && (someV p.f2 2 12 && someV p.f3 2 31)
      else if p.f0 = 1 then decide ((p.f1.size : Int) = 4) && (someV p.f2 2 12 && emptyV p.f3)
      else if p.f0 = 2 then decide ((p.f1.size : Int) = 4) && (someV p.f2 1 4 && emptyV p.f3)
      else if p.f0 = 3 then decide ((p.f1.size : Int) = 4) && (emptyV p.f2 && emptyV p.f3)
      else if p.f0 = 4 then decide ((p.f1.size : Int) = 3) && (emptyV p.f2 && emptyV p.f3)
      else if p.f0 = 5 then decide ((p.f1.size : Int) = 2) && (emptyV p.f2 && emptyV p.f3)
      else false) := fun b hb => by
    subst hb
    refine Ev.step (fun k => by rw [point_Sane.j0]) ?_
    refine Ev.pick (Ev.cond fun _ => Ev.andb (some_f p.f2 2 12 (by omega)) (Ev.self (some_f p.f3 2 31 (by omega)))) ?_
    refine Ev.pick (Ev.cond fun _ => Ev.andb (some_f p.f2 2 12 (by omega)) (Ev.now _)) ?_
    refine Ev.pick (Ev.cond fun _ => Ev.andb (some_f p.f2 1 4 (by omega)) (Ev.now _)) ?_
    refine Ev.pick (Ev.cond fun _ => Ev.now _) ?_
    refine Ev.pick (Ev.cond fun _ => Ev.now _) ?_
    exact Ev.pick (Ev.cond fun _ => Ev.now _) (Ev.now _)
  cases hs : saneL p.f1.data.toList with
  | false => exact Ev.iff_ (by simp) (Ev.now _)
  | true =>
    rw [Bool.true_and]
    refine Ev.ift rfl ?_
    have hb := bare_and p.f2 p.f3
    by_cases h : p.f2.toList = ([] : List UInt8)
    · rw [if_pos h] at hb
      exact Ev.ift h (hj _ hb)
    · rw [if_neg h] at hb
      exact Ev.iff_ h (hj _ hb)
theorem rptSane_f (p : S24) (h1 : p.f1.size ≤ 9223372036854775807) (h2 : p.f2.size ≤ 9223372036854775807) (h3 : p.f3.size ≤ 9223372036854775807) : Ev (fun k => lustrumref08_Sane.f k p.f0 p.f1 p.f2 p.f3) (ptV p) := by
  unfold ptV
  refine Ev.andb (rSane_f p.f1 h1) ?_
  have hbare : Ev (fun _ : Nat => if p.f2.toList = ([] : List UInt8) then some (p.f3.toList == ([] : List UInt8)) else some false) (emptyV p.f2 && emptyV p.f3) := by
    rw [← bare_and]
    exact Ev.pick (Ev.now _) (Ev.now _)
  refine Ev.pick (Ev.cond fun _ => Ev.andb (rsome_f p.f2 h2 2 12 (by omega)) (Ev.self (rsome_f p.f3 h3 2 31 (by omega)))) ?_
  refine Ev.pick (Ev.cond fun _ => Ev.andb (rsome_f p.f2 h2 2 12 (by omega)) (Ev.now _)) ?_
  refine Ev.pick (Ev.cond fun _ => Ev.andb (rsome_f p.f2 h2 1 4 (by omega)) (Ev.now _)) ?_
  refine Ev.pick (Ev.cond fun _ => hbare) ?_
  refine Ev.pick (Ev.cond fun _ => hbare) ?_
  exact Ev.pick (Ev.cond fun _ => hbare) (Ev.now _)
mutual
def nd : S27 → Nat
  | ⟨_, _, _, _, l⟩ => ndL l + 1
def ndL : List S27 → Nat
  | [] => 0
  | x :: l => nd x + ndL l
end
mutual
def dp : S27 → Nat
  | ⟨k, _, _, _, l⟩ => if k = 2 then dpL l + 1 else dpL l
def dpL : List S27 → Nat
  | [] => 0
  | x :: l => max (dp x) (dpL l)
end
mutual
def sm : S27 → S27 → Bool
  | ⟨k, p, a, t, l⟩, n => decide (k = n.f0) && (decide (p.f0 = n.f1.f0) && (decide (p.f1.toList = n.f1.f1.toList) && (decide (p.f2.toList = n.f1.f2.toList) && decide (p.f3.toList = n.f1.f3.toList)))) && (a == n.f2) && (t == n.f3) && smL l n.f4
def smL : List S27 → List S27 → Bool
  | [], [] => true
  | x :: l, y :: m => sm x y && smL l m
  | _, _ => false
end
def bareV (n : S27) : Bool := decide (n.f1.f0 = 0) && (emptyV n.f1.f1 && (emptyV n.f1.f2 && emptyV n.f1.f3)) && !n.f2 && !n.f3
def endV (n : S27) : Bool := decide (n.f4 = []) && (if n.f0 = 0 then ptV n.f1 else if n.f0 = 3 ∨ n.f0 = 4 then bareV n else false)
def two : List S27 → Bool
  | [x, y] => endV x && endV y
  | _ => false
mutual
def rt : S27 → Bool
  | ⟨k, p, a, t, l⟩ => if k = 0 then endV ⟨k, p, a, t, l⟩ else if k = 1 then bareV ⟨k, p, a, t, l⟩ && two l else if k = 2 then bareV ⟨k, p, a, t, l⟩ && (decide (l ≠ []) && rtL l) else false
def rtL : List S27 → Bool
  | [] => true
  | x :: l => rt x && rtL l
end
theorem nd_eq (n : S27) : nd n = ndL n.f4 + 1 := by cases n; rw [nd]
theorem dp_eq (n : S27) : dp n = if n.f0 = 2 then dpL n.f4 + 1 else dpL n.f4 := by cases n; rw [dp]
theorem sm_eq (a n : S27) : sm a n = (decide (a.f0 = n.f0) && (decide (a.f1.f0 = n.f1.f0) && (decide (a.f1.f1.toList = n.f1.f1.toList) && (decide (a.f1.f2.toList = n.f1.f2.toList) && decide (a.f1.f3.toList = n.f1.f3.toList)))) && (a.f2 == n.f2) && (a.f3 == n.f3) && smL a.f4 n.f4) := by cases a; rw [sm]
theorem rt_eq (n : S27) : rt n = if n.f0 = 0 then endV n else if n.f0 = 1 then bareV n && two n.f4 else if n.f0 = 2 then bareV n && (decide (n.f4 ≠ []) && rtL n.f4) else false := by cases n; rw [rt]
theorem nd_pos (n : S27) : 1 ≤ nd n := by rw [nd_eq]; omega
theorem len_nd : ∀ l : List S27, l.length ≤ ndL l
  | [] => Nat.le_refl _
  | x :: l => by have h1 := nd_pos x; have h2 := len_nd l; rw [ndL, List.length_cons]; omega
inductive wfN : S27 → Prop
  | mk (n : S27) (h1 : n.f1.f1.size ≤ 140737488351232) (h2 : n.f1.f2.size ≤ 140737488351232) (h3 : n.f1.f3.size ≤ 140737488351232) (hl : n.f4.length ≤ 1466015503711) (hc : ∀ x, x ∈ n.f4 → wfN x) : wfN n
theorem wfN.s1 {n : S27} (h : wfN n) : n.f1.f1.size ≤ 140737488351232 := by cases h; assumption
theorem wfN.s2 {n : S27} (h : wfN n) : n.f1.f2.size ≤ 140737488351232 := by cases h; assumption
theorem wfN.s3 {n : S27} (h : wfN n) : n.f1.f3.size ≤ 140737488351232 := by cases h; assumption
theorem wfN.len {n : S27} (h : wfN n) : n.f4.length ≤ 1466015503711 := by cases h; assumption
theorem wfN.all {n : S27} (h : wfN n) : ∀ x, x ∈ n.f4 → wfN x := by cases h; assumption
theorem at_rd26 (p : List S27) (r : S27) (t : List S27) : rd_T27 (p ++ r :: t) (p.length : Int) = r := by simp [rd_T27]
abbrev cn1 (k : Nat) (n : S27) (c : Int) : Option Int := tree_Count_1.f k n.f0 n.f1.f0 n.f1.f1 n.f1.f2 n.f1.f3 n.f2 n.f3 n.f4 c
abbrev dp1 (k : Nat) (n : S27) (i c : Int) : Option Int := tree_Deep_1.f k n.f0 n.f1.f0 n.f1.f1 n.f1.f2 n.f1.f3 n.f2 n.f3 n.f4 i c
abbrev tCount (k : Nat) (n : S27) : Option Int := tree_Count.f k n.f0 n.f1.f0 n.f1.f1 n.f1.f2 n.f1.f3 n.f2 n.f3 n.f4
abbrev tDeep (k : Nat) (n : S27) : Option Int := tree_Deep.f k n.f0 n.f1.f0 n.f1.f1 n.f1.f2 n.f1.f3 n.f2 n.f3 n.f4
abbrev tEnd (k : Nat) (n : S27) : Option Bool := tree_End.f k n.f0 n.f1.f0 n.f1.f1 n.f1.f2 n.f1.f3 n.f2 n.f3 n.f4
abbrev tBare (n : S27) : Option Bool := tree_bare.f n.f0 n.f1.f0 n.f1.f1 n.f1.f2 n.f1.f3 n.f2 n.f3 n.f4
abbrev tRight (k : Nat) (n : S27) : Option Bool := tree_right.f k n.f0 n.f1.f0 n.f1.f1 n.f1.f2 n.f1.f3 n.f2 n.f3 n.f4
abbrev tSane (k : Nat) (n : S27) : Option Bool := tree_Sane.f k n.f0 n.f1.f0 n.f1.f1 n.f1.f2 n.f1.f3 n.f2 n.f3 n.f4
abbrev tSame (k : Nat) (n m : S27) : Option Bool := tree_Same.f k n.f0 n.f1.f0 n.f1.f1 n.f1.f2 n.f1.f3 n.f2 n.f3 n.f4 m.f0 m.f1.f0 m.f1.f1 m.f1.f2 m.f1.f3 m.f2 m.f3 m.f4
theorem cn_f : ∀ (m : Nat) (n : S27) (c : Int), nd n ≤ m → 0 ≤ c → c + nd n ≤ 4611686018427387904 → Ev (fun k => cn1 k n c) (c + nd n)
  | 0, n, c, h, _, _ => by have := nd_pos n; omega
  | m + 1, n, c, h, h0, hb => by
    have loop : ∀ (t p : List S27) (c : Int), ndL t ≤ m → 0 ≤ c → c + ndL t ≤ 4611686018427387904 → (p ++ t).length ≤ 4611686018427387904 → Ev (fun k => tree_Count_1.l0 k c (p ++ t) ((p ++ t).length : Int) (p.length : Int)) (c + ndL t) := fun t => by
      induction t with
      | nil => exact fun p c _ _ _ _ => Ev.step (f := fun _ => some c) (fun k => by rw [tree_Count_1.l0, if_neg (at_end p)]) (Ev.eq (Ev.now _) (by simp [ndL]))
      | cons x t ih =>
        intro p c hm hc hb hp
        rw [ndL] at hm hb ⊢
        refine Ev.step (f := fun k => (cn1 k x c).bind fun t' => tree_Count_1.l0 k t' (p ++ x :: t) ((p ++ x :: t).length : Int) ((p ++ [x]).length : Int)) (fun k => by rw [tree_Count_1.l0, if_pos (at_lt p x t), if_pos (at_0 p), if_pos (at_lt p x t), at_rd26, at_next hp]) ?_
        refine Ev.bind (cn_f m x c (by omega) hc (by omega)) ?_
        have := ih (p ++ [x]) (c + nd x) (by omega) (by omega) (by omega) (by rw [← at_app]; exact hp)
        rw [← at_app] at this
        exact Ev.eq this (by omega)
    have hn := nd_eq n
    have hl := len_nd n.f4
    refine Ev.step (f := fun k => tree_Count_1.l0 k (c + 1) n.f4 (n.f4.length : Int) 0) (fun k => by show tree_Count_1.f (k + 1) _ _ _ _ _ _ _ _ _ = _; rw [tree_Count_1.f, w64 (by omega) (by omega)]) ?_
    have := loop n.f4 [] (c + 1) (by omega) (by omega) (by omega) (by simp; omega)
    exact Ev.eq this (by omega)
theorem tCount_f (n : S27) (h : nd n ≤ 4611686018427387904) : Ev (fun k => tCount k n) (nd n : Int) := Ev.eq (cn_f _ n 0 (Nat.le_refl _) (Int.le_refl _) (by omega)) (by omega)
theorem dp_f : ∀ (m : Nat) (n : S27) (i c : Int), nd n ≤ m → 0 ≤ i → 0 ≤ c → i + nd n ≤ 4611686018427387904 → Ev (fun k => dp1 k n i c) (max c (i + dp n))
  | 0, n, i, c, h, _, _, _ => by have := nd_pos n; omega
  | m + 1, n, i, c, h, h0, hc, hb => by
    have loop : ∀ (t p : List S27) (i c : Int), ndL t ≤ m → 0 ≤ i → i ≤ c → i + ndL t ≤ 4611686018427387904 → (p ++ t).length ≤ 4611686018427387904 → Ev (fun k => tree_Deep_1.l0 k i c (p ++ t) ((p ++ t).length : Int) (p.length : Int)) (max c (i + dpL t)) := fun t => by
      induction t with
      | nil => exact fun p i c _ _ h _ _ => Ev.step (f := fun _ => some c) (fun k => by rw [tree_Deep_1.l0, if_neg (at_end p)]) (Ev.eq (Ev.now _) (by simp only [dpL]; omega))
      | cons x t ih =>
        intro p i c hm hi hc hb hp
        rw [ndL] at hm hb
        rw [dpL]
        refine Ev.step (f := fun k => (dp1 k x i c).bind fun t' => tree_Deep_1.l0 k i t' (p ++ x :: t) ((p ++ x :: t).length : Int) ((p ++ [x]).length : Int)) (fun k => by rw [tree_Deep_1.l0, if_pos (at_lt p x t), if_pos (at_0 p), if_pos (at_lt p x t), at_rd26, at_next hp]) ?_
        refine Ev.bind (dp_f m x i c (by omega) hi (by omega) (by omega)) ?_
        have := ih (p ++ [x]) i (max c (i + dp x)) (by have := nd_pos x; omega) hi (by omega) (by omega) (by rw [← at_app]; exact hp)
        rw [← at_app] at this
        exact Ev.eq this (by omega)
    have hn := nd_eq n
    have hl := len_nd n.f4
    have hj : ∀ x1 : Int, 0 ≤ x1 → x1 ≤ i + 1 → Ev (fun k => tree_Deep_1.j0 k x1 c n.f0 n.f1.f0 n.f1.f1 n.f1.f2 n.f1.f3 n.f2 n.f3 n.f4) (max c (x1 + dpL n.f4)) := fun x1 h1 h2 => by
      refine Ev.step (f := fun k => tree_Deep_1.l0 k x1 (mx c x1) n.f4 (n.f4.length : Int) 0) (fun k => by rw [tree_Deep_1.j0]) ?_
      have := loop n.f4 [] x1 (mx c x1) (by omega) h1 (by rw [mx_max]; omega) (by omega) (by simp; omega)
      rw [mx_max] at this ⊢
      exact Ev.eq this (by omega)
    rw [dp_eq]
    by_cases h2 : n.f0 = 2
    · rw [if_pos h2]
      refine Ev.step (f := fun k => tree_Deep_1.j0 k (i + 1) c n.f0 n.f1.f0 n.f1.f1 n.f1.f2 n.f1.f3 n.f2 n.f3 n.f4) (fun k => by show tree_Deep_1.f (k + 1) _ _ _ _ _ _ _ _ _ _ = _; rw [tree_Deep_1.f, if_pos h2, w64 (by omega) (by omega)]) ?_
      exact Ev.eq (hj (i + 1) (by omega) (by omega)) (by omega)
    · rw [if_neg h2]
      refine Ev.step (f := fun k => tree_Deep_1.j0 k i c n.f0 n.f1.f0 n.f1.f1 n.f1.f2 n.f1.f3 n.f2 n.f3 n.f4) (fun k => by show tree_Deep_1.f (k + 1) _ _ _ _ _ _ _ _ _ _ = _; rw [tree_Deep_1.f, if_neg h2]) ?_
      exact hj i (by omega) (by omega)
theorem tDeep_f (n : S27) (h : nd n ≤ 4611686018427387904) : Ev (fun k => tDeep k n) (dp n : Int) := Ev.eq (dp_f _ n 0 0 (Nat.le_refl _) (Int.le_refl _) (Int.le_refl _) (by omega)) (by omega)
theorem smL_len : ∀ (l u : List S27), smL l u = true → l.length = u.length
  | [], [], _ => rfl
  | [], y :: u, h => by rw [smL] at h; · cases h
                        all_goals simp
  | x :: l, [], h => by rw [smL] at h; · cases h
                        all_goals simp
  | x :: l, y :: u, h => by
    rw [smL, Bool.and_eq_true] at h
    rw [List.length_cons, List.length_cons, smL_len l u h.2]
theorem at_rd26' (p q : List S27) (r : S27) (t : List S27) (e : p.length = q.length) : rd_T27 (q ++ r :: t) (p.length : Int) = r := by rw [e, at_rd26]
theorem at_lt' (p q : List S27) (r : S27) (t : List S27) (e : p.length = q.length) : (p.length : Int) < ((q ++ r :: t).length : Int) := by rw [e]; exact at_lt q r t
theorem tSame_f : ∀ (m : Nat) (a b : S27), nd a ≤ m → wfN a → Ev (fun k => tSame k a b) (sm a b)
  | 0, a, _, h, _ => by have := nd_pos a; omega
  | m + 1, a, b, h, hw => by
    have loop : ∀ (t u p q : List S27), ndL t ≤ m → (∀ x, x ∈ t → wfN x) → p.length = q.length → t.length = u.length → (p ++ t).length ≤ 4611686018427387904 → Ev (fun k => slices_EqualFunc.l0 k (q ++ u) (p ++ t) ((p ++ t).length : Int) (p.length : Int)) (smL t u) := fun t => by
      induction t with
      | nil =>
        intro u p q _ _ _ hu _
        cases u with
        | nil => exact Ev.step (f := fun _ => some true) (fun k => by rw [slices_EqualFunc.l0, if_neg (at_end p)]) (Ev.eq (Ev.now _) (by rw [smL]))
        | cons y u => simp at hu
      | cons x t ih =>
        intro u p q hm hx hpq hu hp
        cases u with
        | nil => simp at hu
        | cons y u =>
          rw [ndL] at hm
          rw [smL]
          refine Ev.step (f := fun k => (tSame k x y).bind fun t' => if t' = true then slices_EqualFunc.l0 k (q ++ y :: u) (p ++ x :: t) ((p ++ x :: t).length : Int) ((p ++ [x]).length : Int) else some false) (fun k => by rw [slices_EqualFunc.l0, if_pos (at_lt p x t), if_pos (at_0 p), if_pos (at_lt p x t), if_pos (at_lt' p q y u hpq), at_rd26, at_rd26' p q y u hpq, at_next hp]) ?_
          refine Ev.andb (tSame_f m x y (by omega) (hx x List.mem_cons_self)) ?_
          have := ih u (p ++ [x]) (q ++ [y]) (by have := nd_pos x; omega) (fun z hz => hx z (List.mem_cons_of_mem _ hz)) (by simp [hpq]) (by simpa using hu) (by rw [← at_app]; exact hp)
          rw [← at_app, ← at_app] at this
          exact this
    have hn := nd_eq a
    have hl := hw.len
    refine Ev.step (fun k => by show tree_Same.f (k + 1) _ _ _ _ _ _ _ _ _ _ _ _ _ _ _ _ = _; rw [tree_Same.f_succ]) ?_
    have hE : Ev (fun k => slices_EqualFunc.f k a.f4 b.f4) (smL a.f4 b.f4) := by
      by_cases c : (a.f4.length : Int) = (b.f4.length : Int)
      · have := loop a.f4 b.f4 [] [] (by omega) hw.all rfl (by omega) (by simp; omega)
        exact Ev.ift c this
      · refine Ev.iff_ c (Ev.eq (Ev.now _) ?_)
        cases hs : smL a.f4 b.f4 with
        | false => rfl
        | true => exact absurd (smL_len _ _ hs) (by omega)
    refine Ev.eq (Ev.cond fun _ => Ev.cond fun _ => Ev.cond fun _ => Ev.cond fun _ => Ev.self hE) ?_
    rw [sm_eq, Bool.eq_iff_iff]
    simp [and_assoc]
theorem tBare_f (n : S27) : tBare n = some (bareV n) := by
  show tree_bare.f _ _ _ _ _ _ _ _ = _
  unfold tree_bare.f bareV emptyV
  cases h : (n.f1.f0 == 0 && (n.f1.f1.toList == ([] : List UInt8) && (n.f1.f2.toList == ([] : List UInt8) && (n.f1.f3.toList == ([] : List UInt8))))) with
  | true =>
    rw [if_pos rfl]
    cases n.f2 <;> cases n.f3 <;> rfl
  | false =>
    rw [if_neg (by simp)]
    simp
theorem tEnd_f (n : S27) : Ev (fun k => tEnd k n) (endV n) := by
  refine Ev.eq (Ev.pick (Ev.cond fun _ => Ev.self (ptSane_f n.f1)) (Ev.pick (Ev.cond fun _ => Ev.bnow (tBare_f n) (Ev.now _)) (Ev.pick (Ev.cond fun _ => Ev.bnow (tBare_f n) (Ev.now _)) (Ev.now false)))) ?_
  unfold endV
  have e : decide ((n.f4.length : Int) = 0) = decide (n.f4 = []) := by rw [Bool.eq_iff_iff]; simp
  rw [e]
  by_cases c0 : n.f0 = 0
  · rw [if_pos c0, if_pos c0]
  · by_cases c3 : n.f0 = 3
    · rw [if_neg c0, if_pos c3, if_neg c0, if_pos (.inl c3)]
    · by_cases c4 : n.f0 = 4
      · rw [if_neg c0, if_neg c3, if_pos c4, if_neg c0, if_pos (.inr c4)]
      · rw [if_neg c0, if_neg c3, if_neg c4, if_neg c0, if_neg (by rintro (h | h) <;> contradiction)]; simp
theorem two_f (E : Nat → S27 → Option Bool) (l : List S27) (hE : ∀ x, x ∈ l → Ev (fun k => E k x) (endV x)) :
    Ev (fun k => if (l.length : Int) = 2 then (if 0 < (l.length : Int) then ((E k (rd_T27 l 0)).bind fun t108 => (if t108 = true then (if 1 < (l.length : Int) then ((E k (rd_T27 l 1)).bind fun t110 => (some t110)) else (none)) else (some false))) else (none)) else (some false)) (two l) := by
  match l, hE with
  | [], _ => exact Ev.iff_ (by simp) (Ev.now _)
  | [x], _ => exact Ev.iff_ (by simp) (Ev.now _)
  | [x, y], hE =>
    refine Ev.ift (by simp) (Ev.ift (by simp) ?_)
    refine Ev.andb (hE x (by simp)) (Ev.ift (by simp) (Ev.self (hE y (by simp))))
  | x :: y :: z :: l, _ => exact Ev.iff_ (by simp; omega) (Ev.now _)
theorem tRight_f : ∀ (m : Nat) (n : S27), nd n ≤ m → wfN n → Ev (fun k => tRight k n) (rt n)
  | 0, a, h, _ => by have := nd_pos a; omega
  | m + 1, n, h, hw => by
    have loop : ∀ (t p : List S27), ndL t ≤ m → (∀ x, x ∈ t → wfN x) → (p ++ t).length ≤ 4611686018427387904 → ∃ v, Ev (fun k => slices_IndexFunc.l0 k (p ++ t) ((p ++ t).length : Int) (p.length : Int)) v ∧ decide (v ≥ 0) = !rtL t := fun t => by
      induction t with
      | nil => exact fun p _ _ _ => ⟨-1, Ev.step (f := fun _ => some (-1)) (fun k => by rw [slices_IndexFunc.l0_succ, if_neg (at_end p)]) (Ev.now _), by rw [rtL]; rfl⟩
      | cons x t ih =>
        intro p hm hx hp
        rw [ndL] at hm
        rw [rtL]
        have hstep : ∀ k, slices_IndexFunc.l0 (k + 1) (p ++ x :: t) ((p ++ x :: t).length : Int) (p.length : Int) = ((tRight k x).bind fun t_ => some (!t_)).bind fun t' => if t' = true then some (p.length : Int) else slices_IndexFunc.l0 k (p ++ x :: t) ((p ++ x :: t).length : Int) ((p ++ [x]).length : Int) := fun k => by
          rw [slices_IndexFunc.l0_succ, if_pos (at_lt p x t), if_pos (at_0 p), if_pos (at_lt p x t), at_rd26, at_next hp]
          rfl
        have hR := tRight_f m x (by omega) (hx x List.mem_cons_self)
        cases hv : rt x with
        | false =>
          rw [hv] at hR
          exact ⟨(p.length : Int), Ev.step hstep (Ev.bind (Ev.bind hR (Ev.now _)) (Ev.ift rfl (Ev.now _))), by simp⟩
        | true =>
          rw [hv] at hR
          obtain ⟨v, h1, h2⟩ := ih (p ++ [x]) (by have := nd_pos x; omega) (fun z hz => hx z (List.mem_cons_of_mem _ hz)) (by rw [← at_app]; exact hp)
          rw [← at_app] at h1
          exact ⟨v, Ev.step hstep (Ev.bind (Ev.bind hR (Ev.now _)) (Ev.iff_ (by simp) h1)), by rw [h2, Bool.true_and]⟩
    have hn := nd_eq n
    have hl := hw.len
    refine Ev.step (f := fun k => tree_rightR.f k n.f0 n.f1.f0 n.f1.f1 n.f1.f2 n.f1.f3 n.f2 n.f3 n.f4) (fun k => by show tree_right.f (k + 1) _ _ _ _ _ _ _ _ = _; rw [tree_right.f_succ]) ?_
    have h2 := two_f (fun k x => tEnd k x) n.f4 (fun x _ => tEnd_f x)
    have hc : Ev (fun k => (slices_ContainsFunc.f k n.f4).bind fun t112 => some (!t112)) (rtL n.f4) := by
      obtain ⟨v, h1, h3⟩ := loop n.f4 [] (by omega) hw.all (by simp; omega)
      refine Ev.bind (Ev.bind (show Ev (fun k => slices_IndexFunc.f k n.f4) v from h1) (Ev.now _)) (Ev.eq (Ev.now _) ?_)
      rw [h3, Bool.not_not]
    refine Ev.eq (Ev.pick (Ev.self (tEnd_f n)) (Ev.pick (Ev.bnow (tBare_f n) (Ev.cond fun _ => h2)) (Ev.pick (Ev.bnow (tBare_f n) (Ev.cond fun _ => Ev.cond fun _ => hc)) (Ev.now false)))) ?_
    rw [rt_eq]
    have e : decide ((n.f4.length : Int) > 0) = decide (n.f4 ≠ []) := by
      rw [Bool.eq_iff_iff]
      simp only [decide_eq_true_eq]
      cases n.f4 <;> simp
    rw [e, Bool.decide_eq_true]
def saneV (n : S27) : Bool := decide (nd n ≤ 64) && (decide (dp n ≤ 8) && rt n)
theorem le_dec (a b : Nat) : decide ((a : Int) ≤ (b : Int)) = decide (a ≤ b) := by rw [Bool.eq_iff_iff]; simp
theorem tSane_f (n : S27) (hw : wfN n) (h : nd n ≤ 4611686018427387904) : Ev (fun k => tSane k n) (saneV n) := by
  refine Ev.eq (Ev.bind (tCount_f n h) (Ev.cond fun _ => Ev.bind (tDeep_f n h) (Ev.cond fun _ => Ev.self (tRight_f _ n (Nat.le_refl _) hw)))) ?_
  unfold saneV
  rw [← le_dec, ← le_dec]; rfl
theorem sm_refl : ∀ (m : Nat) (n : S27), nd n ≤ m → sm n n = true
  | 0, n, h => by have := nd_pos n; omega
  | m + 1, n, h => by
    have hl : ∀ l : List S27, ndL l ≤ m → smL l l = true := fun l => by
      induction l with
      | nil => intro _; rw [smL]
      | cons x t ih =>
        intro hh
        rw [ndL] at hh
        rw [smL, sm_refl m x (by omega), ih (by omega)]; rfl
    have hn := nd_eq n
    rw [sm_eq, hl n.f4 (by omega)]
    simp
def eP : S24 := ⟨0, ⟨#[]⟩, ⟨#[]⟩, ⟨#[]⟩⟩
def oN : S27 := ⟨3, eP, false, false, []⟩
def lN (l : List S27) : S27 := ⟨2, eP, false, false, l⟩
theorem wf_leaf (k : Int) (p : S24) (a t : Bool) (h1 : p.f1.size ≤ 140737488351232) (h2 : p.f2.size ≤ 140737488351232) (h3 : p.f3.size ≤ 140737488351232) : wfN ⟨k, p, a, t, []⟩ := .mk _ h1 h2 h3 (by simp) (fun x hx => by cases hx)
theorem wf_oN : wfN oN := wf_leaf _ _ _ _ (by decide) (by decide) (by decide)
theorem emptyV_nil : emptyV ⟨#[]⟩ = true := by unfold emptyV; rw [ByteArray.toList_eq]; rfl
theorem endV_o : endV oN = true := by
  show (true && (true && (emptyV ⟨#[]⟩ && (emptyV ⟨#[]⟩ && emptyV ⟨#[]⟩)) && !false && !false)) = true
  rw [emptyV_nil]; decide
theorem ndL_app : ∀ (l u : List S27), ndL (l ++ u) = ndL l + ndL u
  | [], u => by rw [List.nil_append, ndL, Nat.zero_add]
  | x :: l, u => by rw [List.cons_append, ndL, ndL, ndL_app l u]; omega
theorem dpL_app : ∀ (l u : List S27), dpL (l ++ u) = max (dpL l) (dpL u)
  | [], u => by rw [List.nil_append, dpL]; omega
  | x :: l, u => by rw [List.cons_append, dpL, dpL, dpL_app l u]; omega
def bA (l : List UInt8) : ByteArray := ⟨l.toArray⟩
theorem bA_data (l : List UInt8) : (bA l).data.toList = l := rfl
theorem bA_size (l : List UInt8) : (bA l).size = l.length := by rw [bsize, bA_data]
theorem ba_eq {a b : ByteArray} (h : a.data.toList = b.data.toList) : a = b := by
  cases a; cases b
  simp only at h
  rw [Array.toList_inj] at h
  rw [h]
theorem bA_mk (s : ByteArray) : bA s.data.toList = s := ba_eq rfl
theorem ba_app (a b : ByteArray) : (a ++ b).data.toList = a.data.toList ++ b.data.toList := by rw [ByteArray.data_append, Array.toList_append]
theorem bA_toList (l : List UInt8) : (bA l).toList = l := by rw [ByteArray.toList_eq]; rfl
theorem ba_toList (s : ByteArray) : s.toList = s.data.toList := ByteArray.toList_eq s
theorem empty_size {s : ByteArray} (h : emptyV s = true) : s.size = 0 := by
  unfold emptyV at h
  rw [ba_toList] at h
  rw [bsize, beq_iff_eq.1 h]; rfl
def ptRaw (p : S24) : List UInt8 :=
  if p.f0 = 0 then p.f1.data.toList ++ 45 :: (p.f2.data.toList ++ 45 :: p.f3.data.toList)
  else if p.f0 = 1 then p.f1.data.toList ++ 45 :: p.f2.data.toList
  else if p.f0 = 2 then p.f1.data.toList ++ 115 :: p.f2.data.toList
  else if p.f0 = 4 then p.f1.data.toList ++ [100]
  else if p.f0 = 5 then p.f1.data.toList ++ [99]
  else p.f1.data.toList
def ptTxt (p : S24) : List UInt8 := if ptV p = true then ptRaw p else []
theorem pt_sizes {p : S24} (h : ptV p = true) : p.f1.size ≤ 4 ∧ p.f2.size ≤ 2 ∧ p.f3.size ≤ 2 := by
  unfold ptV at h
  rw [Bool.and_eq_true] at h
  obtain ⟨h1, h2⟩ := h
  have hy : p.f1.size ≤ 4 := by rw [bsize]; exact (sane_all h1).2.2
  refine ⟨hy, ?_⟩
  by_cases c0 : p.f0 = 0
  · rw [if_pos c0] at h2
    simp only [someV, Bool.and_eq_true, decide_eq_true_eq] at h2
    omega
  rw [if_neg c0] at h2
  by_cases c1 : p.f0 = 1
  · rw [if_pos c1] at h2
    simp only [someV, Bool.and_eq_true, decide_eq_true_eq] at h2
    have := empty_size h2.2.2
    omega
  rw [if_neg c1] at h2
  by_cases c2 : p.f0 = 2
  · rw [if_pos c2] at h2
    simp only [someV, Bool.and_eq_true, decide_eq_true_eq] at h2
    have := empty_size h2.2.2
    omega
  rw [if_neg c2] at h2
  have fin : ∀ n : Int, (decide ((p.f1.size : Int) = n) && (emptyV p.f2 && emptyV p.f3)) = true → p.f2.size ≤ 2 ∧ p.f3.size ≤ 2 := fun n h => by
    simp only [Bool.and_eq_true] at h
    have a := empty_size h.2.1
    have b := empty_size h.2.2
    omega
  by_cases c3 : p.f0 = 3
  · rw [if_pos c3] at h2; exact fin _ h2
  rw [if_neg c3] at h2
  by_cases c4 : p.f0 = 4
  · rw [if_pos c4] at h2; exact fin _ h2
  rw [if_neg c4] at h2
  by_cases c5 : p.f0 = 5
  · rw [if_pos c5] at h2; exact fin _ h2
  rw [if_neg c5] at h2
  cases h2
theorem ptTxt_len (p : S24) : (ptTxt p).length ≤ 10 := by
  unfold ptTxt
  split
  · rename_i h
    obtain ⟨h1, h2, h3⟩ := pt_sizes h
    rw [bsize] at h1 h2 h3
    unfold ptRaw
    repeat' split
    all_goals (first | (simp only [List.length_append, List.length_cons, List.length_nil]; omega) | omega)
  · simp
theorem ptText_f (p : S24) : Ev (fun k => point_Text.f k p.f0 p.f1 p.f2 p.f3) (bA (ptTxt p)) := by
  refine Ev.bind (ptSane_f p) ?_
  unfold ptTxt
  cases hv : ptV p with
  | false => exact Ev.iff_ (by simp) (Ev.eq (Ev.now _) rfl)
  | true =>
    obtain ⟨h1, h2, h3⟩ := pt_sizes hv
    have e1 : (⟨#[45]⟩ : ByteArray).size = 1 := rfl
    have e2 : (⟨#[115]⟩ : ByteArray).size = 1 := rfl
    have e3 : (⟨#[]⟩ : ByteArray).size = 0 := rfl
    refine Ev.ift rfl ?_
    rw [if_pos rfl]
    unfold ptRaw
    by_cases c0 : p.f0 = 0
    · refine Ev.ift c0 ?_
      rw [if_pos c0]
      refine Ev.ift (by omega) (Ev.ift (by omega) (Ev.ift (by simp only [ByteArray.size_append]; omega) (Ev.ift (by simp only [ByteArray.size_append]; omega) (Ev.eq (Ev.now _) (ba_eq ?_)))))
      simp only [ba_app, bA_data]; rfl
    refine Ev.iff_ c0 ?_
    rw [if_neg c0]
    by_cases c1 : p.f0 = 1
    · refine Ev.ift c1 ?_
      rw [if_pos c1]
      refine Ev.ift (by omega) (Ev.ift (by simp only [ByteArray.size_append]; omega) (Ev.ift (by simp only [ByteArray.size_append]; omega) (Ev.eq (Ev.now _) (ba_eq ?_))))
      simp only [ba_app, bA_data, List.append_nil]; rfl
    refine Ev.iff_ c1 ?_
    rw [if_neg c1]
    by_cases c2 : p.f0 = 2
    · refine Ev.ift c2 ?_
      rw [if_pos c2]
      refine Ev.ift (by omega) (Ev.ift (by simp only [ByteArray.size_append]; omega) (Ev.eq (Ev.now _) (ba_eq ?_)))
      simp only [ba_app, bA_data]; rfl
    refine Ev.iff_ c2 ?_
    rw [if_neg c2]
    by_cases c4 : p.f0 = 4
    · refine Ev.ift c4 ?_
      rw [if_pos c4]
      exact Ev.ift (by omega) (Ev.eq (Ev.now _) (ba_eq (by simp only [ba_app, bA_data])))
    refine Ev.iff_ c4 ?_
    rw [if_neg c4]
    by_cases c5 : p.f0 = 5
    · refine Ev.ift c5 ?_
      rw [if_pos c5]
      exact Ev.ift (by omega) (Ev.eq (Ev.now _) (ba_eq (by simp only [ba_app, bA_data])))
    refine Ev.iff_ c5 ?_
    rw [if_neg c5]
    exact Ev.ift (by omega) (Ev.eq (Ev.now _) (ba_eq (by simp only [ba_app, bA_data, List.append_nil])))
theorem rptText_f (p : S24) (g1 : p.f1.size ≤ 9223372036854775807) (g2 : p.f2.size ≤ 9223372036854775807) (g3 : p.f3.size ≤ 9223372036854775807) : Ev (fun k => lustrumref08_Text.f k p.f0 p.f1 p.f2 p.f3) (bA (ptTxt p)) := by
  refine Ev.bind (rptSane_f p g1 g2 g3) ?_
  unfold ptTxt
  cases hv : ptV p with
  | false => exact Ev.iff_ (by simp) (Ev.eq (Ev.now _) rfl)
  | true =>
    obtain ⟨h1, h2, h3⟩ := pt_sizes hv
    have e1 : (⟨#[45]⟩ : ByteArray).size = 1 := rfl
    have e2 : (⟨#[115]⟩ : ByteArray).size = 1 := rfl
    refine Ev.ift rfl ?_
    rw [if_pos rfl]
    unfold ptRaw
    by_cases c0 : p.f0 = 0
    · refine Ev.ift c0 ?_
      rw [if_pos c0]
      refine Ev.ift (by omega) (Ev.ift (by simp only [ByteArray.size_append]; omega) (Ev.ift (by simp only [ByteArray.size_append]; omega) (Ev.ift (by simp only [ByteArray.size_append]; omega) (Ev.eq (Ev.now _) (ba_eq ?_)))))
      simp only [ba_app, bA_data, List.append_assoc]; rfl
    refine Ev.iff_ c0 ?_
    rw [if_neg c0]
    by_cases c1 : p.f0 = 1
    · refine Ev.ift c1 ?_
      rw [if_pos c1]
      refine Ev.ift (by omega) (Ev.ift (by simp only [ByteArray.size_append]; omega) (Ev.eq (Ev.now _) (ba_eq ?_)))
      simp only [ba_app, bA_data, List.append_assoc]; rfl
    refine Ev.iff_ c1 ?_
    rw [if_neg c1]
    by_cases c2 : p.f0 = 2
    · refine Ev.ift c2 ?_
      rw [if_pos c2]
      refine Ev.ift (by omega) (Ev.ift (by simp only [ByteArray.size_append]; omega) (Ev.eq (Ev.now _) (ba_eq ?_)))
      simp only [ba_app, bA_data, List.append_assoc]; rfl
    refine Ev.iff_ c2 ?_
    rw [if_neg c2]
    by_cases c4 : p.f0 = 4
    · refine Ev.ift c4 ?_
      rw [if_pos c4]
      exact Ev.ift (by omega) (Ev.eq (Ev.now _) (ba_eq (by simp only [ba_app, bA_data])))
    refine Ev.iff_ c4 ?_
    rw [if_neg c4]
    by_cases c5 : p.f0 = 5
    · refine Ev.ift c5 ?_
      rw [if_pos c5]
      exact Ev.ift (by omega) (Ev.eq (Ev.now _) (ba_eq (by simp only [ba_app, bA_data])))
    refine Ev.iff_ c5 ?_
    rw [if_neg c5]
    exact Ev.eq (Ev.now _) (bA_mk _).symm
def span2 : List (List UInt8) → List UInt8
  | x :: y :: _ => x ++ 47 :: y
  | _ => []
def markV (a : Bool) (c : UInt8) : List UInt8 := if a = true then [c] else []
mutual
def tx : S27 → List UInt8
  | ⟨k, p, a, t, l⟩ => if k = 1 then span2 (txL l) else if k = 2 then 91 :: (Lib.join (txL l) [44, 32] ++ [93]) else if k = 3 then [46, 46] else if k = 4 then [42] else ptTxt p ++ (markV a 63 ++ markV t 126)
def txL : List S27 → List (List UInt8)
  | [] => []
  | x :: l => tx x :: txL l
end
theorem tx_eq (n : S27) : tx n = if n.f0 = 1 then span2 (txL n.f4) else if n.f0 = 2 then 91 :: (Lib.join (txL n.f4) [44, 32] ++ [93]) else if n.f0 = 3 then [46, 46] else if n.f0 = 4 then [42] else ptTxt n.f1 ++ (markV n.f2 63 ++ markV n.f3 126) := by cases n; rw [tx]
theorem txL_app : ∀ (l u : List S27), txL (l ++ u) = txL l ++ txL u
  | [], u => by rw [List.nil_append, txL, List.nil_append]
  | x :: l, u => by rw [List.cons_append, txL, txL, txL_app l u, List.cons_append]
theorem txL_len : ∀ l : List S27, (txL l).length = l.length
  | [] => by rw [txL]; rfl
  | x :: l => by rw [txL, List.length_cons, List.length_cons, txL_len l]
theorem markV_len (a : Bool) (c : UInt8) : (markV a c).length ≤ 1 := by unfold markV; split <;> simp
theorem join_len : ∀ xs : List (List UInt8), (Lib.join xs [44, 32]).length ≤ Lib.lens xs + 2 * xs.length
  | [] => by rw [Lib.join_nil]; simp
  | x :: r => by
    rw [Lib.join_cons, List.length_append, Lib.joinTail_length]
    simp only [Lib.lens, List.map_cons, List.sum_cons, List.length_cons, List.length_nil]
    omega
theorem lens_cons (x : List UInt8) (l : List (List UInt8)) : Lib.lens (x :: l) = x.length + Lib.lens l := by simp [Lib.lens]
theorem tx_len : ∀ (m : Nat) (n : S27), nd n ≤ m → (tx n).length + 2 ≤ 31 * nd n
  | 0, n, h => by have := nd_pos n; omega
  | m + 1, n, h => by
    have hl : ∀ l : List S27, ndL l ≤ m → Lib.lens (txL l) + 2 * l.length ≤ 31 * ndL l := fun l => by
      induction l with
      | nil => intro _; rw [txL]; simp [Lib.lens, ndL]
      | cons x t ih =>
        intro hh
        rw [ndL] at hh ⊢
        rw [txL, lens_cons, List.length_cons]
        have h1 := tx_len m x (by omega)
        have h2 := ih (by omega)
        omega
    have hn := nd_eq n
    have hL := hl n.f4 (by omega)
    have hS : (span2 (txL n.f4)).length ≤ Lib.lens (txL n.f4) + 1 := by
      cases txL n.f4 with
      | nil => simp [span2]
      | cons x t =>
        cases t with
        | nil => simp [span2]
        | cons y t => rw [lens_cons, lens_cons]; simp only [span2, List.length_append, List.length_cons]; omega
    have hJ := join_len (txL n.f4)
    rw [txL_len] at hJ
    have hp := ptTxt_len n.f1
    have ha := markV_len n.f2 63
    have ht := markV_len n.f3 126
    rw [tx_eq]
    repeat' split
    all_goals (first | (simp only [List.length_append, List.length_cons, List.length_nil]; omega) | omega)
theorem join_le (l : List S27) : (Lib.join (txL l) [44, 32]).length ≤ 31 * ndL l := by
  have h1 := join_len (txL l)
  rw [txL_len] at h1
  have hl : ∀ l : List S27, Lib.lens (txL l) + 2 * l.length ≤ 31 * ndL l := fun l => by
    induction l with
    | nil => rw [txL]; simp [Lib.lens, ndL]
    | cons x t ih =>
      rw [ndL, txL, lens_cons, List.length_cons]
      have h1 := tx_len _ x (Nat.le_refl _)
      omega
  have := hl l
  omega
theorem Join_f (l : List ByteArray) (sep : ByteArray) (h1 : l.length ≤ 140737488355328) (h2 : (Lib.join (l.map (·.data.toList)) sep.data.toList).length ≤ 140737488355328) : strings_Join.f l sep = some (bA (Lib.join (l.map (·.data.toList)) sep.data.toList)) := by
  unfold strings_Join.f
  rw [if_pos h1, if_pos h2]; rfl
theorem join3_f (a b c : List UInt8) (h : a.length + b.length + c.length ≤ 140737488355328) : print_join.f [bA a, bA b, bA c] = some (bA (a ++ (b ++ c))) := by
  have e : Lib.join (([bA a, bA b, bA c] : List ByteArray).map (·.data.toList)) ((⟨#[]⟩ : ByteArray).data.toList) = a ++ (b ++ c) := by
    simp only [List.map_cons, List.map_nil, bA_data]
    rw [Lib.join_cons]
    simp [Lib.joinTail]
  unfold print_join.f
  rw [Join_f _ _ (by simp) (by rw [e]; simp only [List.length_append]; omega), e]; rfl
theorem mark_f (a : Bool) (c : ByteArray) (u : UInt8) (hc : c = bA [u]) : print_mark.f a c = some (bA (markV a u)) := by
  subst hc
  unfold print_mark.f markV
  cases a <;> rfl
abbrev pText (k : Nat) (n : S27) : Option ByteArray := print_text.f k n.f0 n.f1.f0 n.f1.f1 n.f1.f2 n.f1.f3 n.f2 n.f3 n.f4
abbrev pTx (k : Nat) (n : S27) : Option ByteArray := print_Text.f k n.f0 n.f1.f0 n.f1.f1 n.f1.f2 n.f1.f3 n.f2 n.f3 n.f4
theorem two_inv {l : List S27} (h : two l = true) : ∃ x y, l = [x, y] ∧ endV x = true ∧ endV y = true := by
  match l, h with
  | [x, y], h => rw [two, Bool.and_eq_true] at h; exact ⟨x, y, rfl, h.1, h.2⟩
def rte (n : S27) : Prop := rt n = true ∨ endV n = true
theorem rte_one {n : S27} (h : rte n) (c : n.f0 = 1) : ∃ x y, n.f4 = [x, y] ∧ endV x = true ∧ endV y = true := by
  rcases h with h | h
  · rw [rt_eq, if_neg (by omega), if_pos c, Bool.and_eq_true] at h
    exact two_inv h.2
  · unfold endV at h
    rw [if_neg (by omega), if_neg (by omega)] at h
    simp at h
theorem rte_two {n : S27} (h : rte n) (c : n.f0 = 2) : rtL n.f4 = true := by
  rcases h with h | h
  · rw [rt_eq, if_neg (by omega), if_neg (by omega), if_pos c] at h
    simp only [Bool.and_eq_true] at h
    exact h.2.2
  · unfold endV at h
    rw [if_neg (by omega), if_neg (by omega)] at h
    simp at h
theorem pText_f : ∀ (m : Nat) (n : S27), nd n ≤ m → nd n ≤ 1048576 → rte n → Ev (fun k => pText k n) (bA (tx n))
  | 0, n, h, _, _ => by have := nd_pos n; omega
  | m + 1, n, h, hb, hr => by
    have hn := nd_eq n
    have hl := len_nd n.f4
    rw [tx_eq]
    by_cases c1 : n.f0 = 1
    · rw [if_pos c1]
      obtain ⟨x, y, e, hx, hy⟩ := rte_one hr c1
      have hxy : ndL n.f4 = nd x + nd y := by rw [e, ndL, ndL, ndL]; omega
      have ht : txL n.f4 = [tx x, tx y] := by rw [e, txL, txL, txL]
      have hX := pText_f m x (by omega) (by omega) (.inr hx)
      have hY := pText_f m y (by omega) (by omega) (.inr hy)
      have lx := tx_len _ x (Nat.le_refl _)
      have ly := tx_len _ y (Nat.le_refl _)
      have hj := join3_f (tx x) [47] (tx y) (by simp only [List.length_cons, List.length_nil]; omega)
      rw [ht]
      refine Ev.step (fun k => by show print_text.f (k + 1) _ _ _ _ _ _ _ _ = _; rw [print_text.f, if_pos c1, e]) ?_
      exact Ev.ift (by simp) (Ev.bind hX (Ev.ift (by simp) (Ev.bind hY (Ev.bnow hj (Ev.now _)))))
    rw [if_neg c1]
    by_cases c2 : n.f0 = 2
    · rw [if_pos c2]
      have hL := rte_two hr c2
      have loop : ∀ (t p : List S27), p ++ t = n.f4 → rtL t = true → Ev (fun k => print_text.l0 k ((txL p).map bA) (p ++ t) ((p ++ t).length : Int) (p.length : Int)) (bA (91 :: (Lib.join (txL n.f4) [44, 32] ++ [93]))) := fun t => by
        induction t with
        | nil =>
          intro p he _
          rw [List.append_nil] at he ⊢
          subst he
          have hj := join_le n.f4
          have em : ((txL n.f4).map bA).map (·.data.toList) = txL n.f4 := by rw [List.map_map]; conv => rhs; rw [← List.map_id (txL n.f4)]
                                                                             rfl
          have h1 := Join_f ((txL n.f4).map bA) ⟨#[44, 32]⟩ (by rw [List.length_map, txL_len]; omega) (by rw [em]; show (Lib.join (txL n.f4) [44, 32]).length ≤ _; omega)
          rw [em] at h1
          have h2 := join3_f [91] (Lib.join (txL n.f4) [44, 32]) [93] (by simp only [List.length_cons, List.length_nil]; omega)
          refine Ev.step (fun k => by rw [print_text.l0, if_neg (by omega)]) ?_
          exact Ev.bnow h1 (Ev.bnow h2 (Ev.now _))
        | cons x t ih =>
          intro p he hrt
          rw [rtL, Bool.and_eq_true] at hrt
          have hxl : nd x + ndL p ≤ ndL n.f4 := by rw [← he, ndL_app, ndL]; omega
          have hp : (p ++ x :: t).length ≤ 4611686018427387904 := by rw [he]; omega
          have hlp : p.length ≤ n.f4.length := by rw [← he]; simp
          refine Ev.step (f := fun k => (pText k x).bind fun t' => if ((txL p).map bA).length < 8796093022208 then print_text.l0 k ((txL p).map bA ++ [t']) (p ++ x :: t) ((p ++ x :: t).length : Int) ((p ++ [x]).length : Int) else none) (fun k => by rw [print_text.l0, if_pos (at_lt p x t), if_pos (at_0 p), if_pos (at_lt p x t), at_rd26, at_next hp]) ?_
          refine Ev.bind (pText_f m x (by omega) (by omega) (.inl hrt.1)) (Ev.ift (by rw [List.length_map, txL_len]; omega) ?_)
          have := ih (p ++ [x]) (by rw [← at_app]; exact he) hrt.2
          rw [← at_app, txL_app, List.map_append] at this
          have e1 : (txL [x]).map bA = [bA (tx x)] := by rw [txL, txL]; rfl
          rw [e1] at this
          exact this
      refine Ev.step (f := fun k => print_text.l0 k [] n.f4 (n.f4.length : Int) 0) (fun k => by show print_text.f (k + 1) _ _ _ _ _ _ _ _ = _; rw [print_text.f, if_neg c1, if_pos c2]) ?_
      have := loop n.f4 [] rfl hL
      rw [txL] at this
      exact this
    rw [if_neg c2]
    by_cases c3 : n.f0 = 3
    · rw [if_pos c3]
      exact Ev.step (f := fun _ => some (bA [46, 46])) (fun k => by show print_text.f (k + 1) _ _ _ _ _ _ _ _ = _; rw [print_text.f, if_neg c1, if_neg c2, if_pos c3]; rfl) (Ev.now _)
    rw [if_neg c3]
    by_cases c4 : n.f0 = 4
    · rw [if_pos c4]
      exact Ev.step (f := fun _ => some (bA [42])) (fun k => by show print_text.f (k + 1) _ _ _ _ _ _ _ _ = _; rw [print_text.f, if_neg c1, if_neg c2, if_neg c3, if_pos c4]; rfl) (Ev.now _)
    rw [if_neg c4]
    have hp := ptTxt_len n.f1
    have ha := markV_len n.f2 63
    have ht := markV_len n.f3 126
    refine Ev.step (fun k => by show print_text.f (k + 1) _ _ _ _ _ _ _ _ = _; rw [print_text.f, if_neg c1, if_neg c2, if_neg c3, if_neg c4]) ?_
    exact Ev.bind (ptText_f n.f1) (Ev.bnow (mark_f _ _ 63 rfl) (Ev.bnow (mark_f _ _ 126 rfl) (Ev.bnow (join3_f _ _ _ (by omega)) (Ev.now _))))
def txV (n : S27) : List UInt8 := if saneV n = true then tx n else []
theorem sane_rt {n : S27} (h : saneV n = true) : nd n ≤ 64 ∧ dp n ≤ 8 ∧ rt n = true := by
  unfold saneV at h
  simp only [Bool.and_eq_true, decide_eq_true_eq] at h
  exact h
theorem pTx_f (n : S27) (hw : wfN n) (hb : nd n ≤ 1048576) : Ev (fun k => pTx k n) (bA (txV n)) := by
  refine Ev.bind (tSane_f n hw (by omega)) ?_
  unfold txV
  cases hv : saneV n with
  | false => exact Ev.iff_ (by simp) (Ev.eq (Ev.now _) rfl)
  | true =>
    refine Ev.ift rfl ?_
    rw [if_pos rfl]
    exact Ev.bind (pText_f _ n (Nat.le_refl _) hb (.inl (sane_rt hv).2.2)) (Ev.now _)
def p11 : S27 := ⟨0, ⟨3, ⟨#[49, 57, 56, 52]⟩, ⟨#[]⟩, ⟨#[]⟩⟩, true, true, []⟩
theorem pv_p11 : ptV p11.f1 = true := by
  show (saneL [49, 57, 56, 52] && (true && (emptyV ⟨#[]⟩ && emptyV ⟨#[]⟩))) = true
  rw [emptyV_nil]; decide
theorem wf_p11 : wfN p11 := wf_leaf _ _ _ _ (by decide) (by decide) (by decide)
theorem endV_p11 : endV p11 = true := by show (true && ptV p11.f1) = true; rw [pv_p11]; rfl
theorem bare_e (k : Int) (l : List S27) : bareV ⟨k, eP, false, false, l⟩ = true := by
  show (true && (emptyV ⟨#[]⟩ && (emptyV ⟨#[]⟩ && emptyV ⟨#[]⟩)) && !false && !false) = true
  rw [emptyV_nil]; decide
theorem ndL_mem {x : S27} : ∀ {l : List S27}, x ∈ l → nd x ≤ ndL l
  | [], h => by cases h
  | y :: l, h => by
    rw [ndL]
    rcases List.mem_cons.1 h with rfl | h
    · omega
    · have := ndL_mem h; omega
def isW (c : UInt8) : Bool := okB c || (c == 45 || (c == 115 || (c == 100 || c == 99)))
def noW : List UInt8 → Prop
  | [] => True
  | c :: _ => isW c = false
theorem any_sane {l : List UInt8} {m : Nat} {i : Int} (h : anyV l i m = true) : l.all okB = true := by
  obtain ⟨n, _, _, hn⟩ := (anyV_iff l m i).1 h
  cases hs : saneL l with
  | true => exact (sane_all hs).1
  | false => rw [refV_sane hs] at hn; cases hn
theorem pt_kinds {p : S24} (h : ptV p = true) : p.f1.data.toList.all okB = true ∧
    (p.f0 = 0 ∧ p.f1.data.toList.length = 4 ∧ p.f2.data.toList.length = 2 ∧ p.f2.data.toList.all okB = true ∧ p.f3.data.toList.length = 2 ∧ p.f3.data.toList.all okB = true
    ∨ p.f0 = 1 ∧ p.f1.data.toList.length = 4 ∧ p.f2.data.toList.length = 2 ∧ p.f2.data.toList.all okB = true ∧ p.f3.data.toList = []
    ∨ p.f0 = 2 ∧ p.f1.data.toList.length = 4 ∧ p.f2.data.toList.length = 1 ∧ p.f2.data.toList.all okB = true ∧ p.f3.data.toList = []
    ∨ p.f0 = 3 ∧ p.f1.data.toList.length = 4 ∧ p.f2.data.toList = [] ∧ p.f3.data.toList = []
    ∨ p.f0 = 4 ∧ p.f1.data.toList.length = 3 ∧ p.f2.data.toList = [] ∧ p.f3.data.toList = []
    ∨ p.f0 = 5 ∧ p.f1.data.toList.length = 2 ∧ p.f2.data.toList = [] ∧ p.f3.data.toList = []) := by
  have em : ∀ {s : ByteArray}, emptyV s = true → s.data.toList = [] := fun {s} h => by
    unfold emptyV at h
    rw [ba_toList] at h
    exact beq_iff_eq.1 h
  unfold ptV at h
  rw [Bool.and_eq_true] at h
  obtain ⟨h1, h2⟩ := h
  refine ⟨(sane_all h1).1, ?_⟩
  by_cases c0 : p.f0 = 0
  · rw [if_pos c0] at h2
    simp only [someV, Bool.and_eq_true, decide_eq_true_eq, bsize] at h2
    exact .inl ⟨c0, by omega, by omega, any_sane h2.2.1.2, by omega, any_sane h2.2.2.2⟩
  rw [if_neg c0] at h2
  by_cases c1 : p.f0 = 1
  · rw [if_pos c1] at h2
    simp only [someV, Bool.and_eq_true, decide_eq_true_eq, bsize] at h2
    exact .inr (.inl ⟨c1, by omega, by omega, any_sane h2.2.1.2, em h2.2.2⟩)
  rw [if_neg c1] at h2
  by_cases c2 : p.f0 = 2
  · rw [if_pos c2] at h2
    simp only [someV, Bool.and_eq_true, decide_eq_true_eq, bsize] at h2
    exact .inr (.inr (.inl ⟨c2, by omega, by omega, any_sane h2.2.1.2, em h2.2.2⟩))
  rw [if_neg c2] at h2
  by_cases c3 : p.f0 = 3
  · rw [if_pos c3] at h2
    simp only [Bool.and_eq_true, decide_eq_true_eq, bsize] at h2
    exact .inr (.inr (.inr (.inl ⟨c3, by omega, em h2.2.1, em h2.2.2⟩)))
  rw [if_neg c3] at h2
  by_cases c4 : p.f0 = 4
  · rw [if_pos c4] at h2
    simp only [Bool.and_eq_true, decide_eq_true_eq, bsize] at h2
    exact .inr (.inr (.inr (.inr (.inl ⟨c4, by omega, em h2.2.1, em h2.2.2⟩))))
  rw [if_neg c4] at h2
  by_cases c5 : p.f0 = 5
  · rw [if_pos c5] at h2
    simp only [Bool.and_eq_true, decide_eq_true_eq, bsize] at h2
    exact .inr (.inr (.inr (.inr (.inr ⟨c5, by omega, em h2.2.1, em h2.2.2⟩))))
  rw [if_neg c5] at h2
  cases h2
theorem S24.ext4 {a b : S24} (h0 : a.f0 = b.f0) (h1 : a.f1.data.toList = b.f1.data.toList) (h2 : a.f2.data.toList = b.f2.data.toList) (h3 : a.f3.data.toList = b.f3.data.toList) : a = b := by
  cases a; cases b
  simp only at h0 h1 h2 h3
  rw [h0, ba_eq h1, ba_eq h2, ba_eq h3]
theorem k0 {p : S24} (h : ptV p = true) (c : p.f0 = 0) : p.f1.data.toList.length = 4 ∧ p.f2.data.toList.length = 2 := by
  obtain ⟨_, hk⟩ := pt_kinds h
  rcases hk with ⟨d, a, b, _⟩ | ⟨d, _⟩ | ⟨d, _⟩ | ⟨d, _⟩ | ⟨d, _⟩ | ⟨d, _⟩ <;> first | exact ⟨a, b⟩ | omega
theorem S27.ext5 {a b : S27} (h0 : a.f0 = b.f0) (h1 : a.f1 = b.f1) (h2 : a.f2 = b.f2) (h3 : a.f3 = b.f3) (h4 : a.f4 = b.f4) : a = b := by
  cases a; cases b
  simp only at h0 h1 h2 h3 h4
  rw [h0, h1, h2, h3, h4]
theorem bare_inj {a b : S27} (ha : bareV a = true) (hb : bareV b = true) (h0 : a.f0 = b.f0) (h4 : a.f4 = b.f4) : a = b := by
  unfold bareV at ha hb
  simp only [Bool.and_eq_true, decide_eq_true_eq, Bool.not_eq_true'] at ha hb
  have em : ∀ {s : ByteArray}, emptyV s = true → s.data.toList = [] := fun {s} h => by
    unfold emptyV at h
    rw [ba_toList] at h
    exact beq_iff_eq.1 h
  obtain ⟨⟨⟨a0, a1, a2, a3⟩, a4⟩, a5⟩ := ha
  obtain ⟨⟨⟨b0, b1, b2, b3⟩, b4⟩, b5⟩ := hb
  have e1 : a.f1 = b.f1 := S24.ext4 (by omega) (by rw [em a1, em b1]) (by rw [em a2, em b2]) (by rw [em a3, em b3])
  exact S27.ext5 h0 e1 (by rw [a4, b4]) (by rw [a5, b5]) h4
theorem end_kinds {n : S27} (h : endV n = true) : n.f4 = [] ∧ (n.f0 = 0 ∧ ptV n.f1 = true ∨ n.f0 = 3 ∧ bareV n = true ∨ n.f0 = 4 ∧ bareV n = true) := by
  unfold endV at h
  rw [Bool.and_eq_true, decide_eq_true_eq] at h
  refine ⟨h.1, ?_⟩
  have h2 := h.2
  by_cases c0 : n.f0 = 0
  · rw [if_pos c0] at h2; exact .inl ⟨c0, h2⟩
  rw [if_neg c0] at h2
  by_cases c3 : n.f0 = 3 ∨ n.f0 = 4
  · rw [if_pos c3] at h2
    rcases c3 with c | c
    · exact .inr (.inl ⟨c, h2⟩)
    · exact .inr (.inr ⟨c, h2⟩)
  · rw [if_neg c3] at h2; cases h2
def sep : List UInt8 → Prop
  | [] => True
  | c :: _ => c = 47 ∨ c = 44 ∨ c = 93
theorem rt_kinds {n : S27} (h : rt n = true) : endV n = true ∧ n.f0 = 0 ∨ (n.f0 = 1 ∧ bareV n = true ∧ ∃ x y, n.f4 = [x, y] ∧ endV x = true ∧ endV y = true ∧ tx n = tx x ++ 47 :: tx y) ∨ (n.f0 = 2 ∧ bareV n = true ∧ n.f4 ≠ [] ∧ rtL n.f4 = true ∧ tx n = 91 :: (Lib.join (txL n.f4) [44, 32] ++ [93])) := by
  rw [rt_eq] at h
  by_cases c0 : n.f0 = 0
  · rw [if_pos c0] at h; exact .inl ⟨h, c0⟩
  rw [if_neg c0] at h
  by_cases c1 : n.f0 = 1
  · rw [if_pos c1, Bool.and_eq_true] at h
    obtain ⟨x, y, e, hx, hy⟩ := two_inv h.2
    exact .inr (.inl ⟨c1, h.1, x, y, e, hx, hy, by rw [tx_eq, if_pos c1, e, txL, txL, txL]; rfl⟩)
  rw [if_neg c1] at h
  by_cases c2 : n.f0 = 2
  · rw [if_pos c2] at h
    simp only [Bool.and_eq_true, decide_eq_true_eq] at h
    exact .inr (.inr ⟨c2, h.1, h.2.1, h.2.2, by rw [tx_eq, if_neg c1, if_pos c2]⟩)
  rw [if_neg c2] at h
  cases h
theorem ext_bA (p l r : List UInt8) : (bA (p ++ (l ++ r))).extract p.length (p.length + l.length) = bA l := ba_eq (by
  rw [ByteArray.data_extract, Array.toList_extract, bA_data]
  simp [List.extract]
  rfl)
theorem ext_end (p r : List UInt8) : (bA (p ++ r)).extract p.length (bA (p ++ r)).size = bA r := ba_eq (by
  rw [ByteArray.data_extract, Array.toList_extract, bA_data, bA_size]
  simp [List.extract]
  rfl)
theorem bt_mid (p : List UInt8) (c : UInt8) (r : List UInt8) : bt (bA (p ++ c :: r)) (p.length : Int) = (c.toNat : Int) := by
  rw [bt_list _ _ (by rw [bA_data]; simp)]
  simp [bA_data]
theorem index_mem : ∀ (l : List UInt8) (c : UInt8), (Lib.indexByte l c = -1 ∨ 0 ≤ Lib.indexByte l c) ∧ (0 ≤ Lib.indexByte l c ↔ c ∈ l)
  | [], c => by simp [Lib.indexByte]
  | b :: l, c => by
    obtain ⟨h1, h2⟩ := index_mem l c
    rw [Lib.indexByte]
    by_cases e : b = c
    · subst e; simp
    · have e' : (b == c) = false := by simpa using e
      rw [e', List.mem_cons]
      simp only [Bool.false_eq_true, if_false, beq_iff_eq]
      have e2 : ¬ c = b := fun h => e h.symm
      rcases h1 with h1 | h1
      · rw [if_pos h1]
        have h3 : ¬ c ∈ l := fun hc => by have := h2.2 hc; omega
        exact ⟨.inl rfl, by simp [e2, h3]⟩
      · rw [if_neg (by omega)]
        have h3 : c ∈ l := h2.1 h1
        exact ⟨.inr (by omega), by simp [h3]; omega⟩
def lettersL : List UInt8 := [48, 49, 50, 51, 52, 53, 54, 55, 56, 57, 88, 45, 115, 100, 99]
theorem letters_W (c : UInt8) : c ∈ lettersL ↔ isW c = true := by
  have e : ∀ n : Nat, n < 256 → (UInt8.ofNat n ∈ lettersL ↔ isW (UInt8.ofNat n) = true) := by decide +kernel
  have := e c.toNat c.toNat_lt
  rwa [UInt8.ofNat_toNat] at this
theorem index_W (c : UInt8) : ∃ v, strings_IndexByte.f (⟨#[48, 49, 50, 51, 52, 53, 54, 55, 56, 57, 88, 45, 115, 100, 99]⟩ : ByteArray) (c.toNat : Int) = some v ∧ (v ≥ 0 ↔ isW c = true) := by
  refine ⟨_, rfl, ?_⟩
  have e : ((c.toNat : Int).toNat.toUInt8) = c := u8eq (by simp)
  rw [e]
  have := (index_mem lettersL c).2
  rw [letters_W] at this
  exact this
theorem word_l0 : ∀ (l p : List UInt8), (p ++ l).length ≤ 4611686018427387904 → Ev (fun k => lex_word.l0 k (bA (p ++ l)) (p.length : Int)) (((p.length + (l.takeWhile isW).length : Nat)) : Int)
  | [], p, h => Ev.step (f := fun _ => some ((p.length : Nat) : Int)) (fun k => by rw [lex_word.l0, if_neg (by rw [bA_size]; simp)]) (Ev.eq (Ev.now _) (by simp))
  | c :: l, p, h => by
    obtain ⟨v, hv, hw⟩ := index_W c
    have hlt : (p.length : Int) < ((bA (p ++ c :: l)).size : Int) := by rw [bA_size, List.length_append, List.length_cons]; omega
    refine Ev.step (f := fun k => if v ≥ 0 then lex_word.l0 k (bA (p ++ c :: l)) ((p ++ [c]).length : Int) else some (p.length : Int)) (fun k => by rw [lex_word.l0, if_pos hlt, if_pos (by omega), bt_mid, hv, Option.bind_some, at_next h]) ?_
    by_cases hc : isW c = true
    · refine Ev.ift (hw.2 hc) ?_
      have := word_l0 l (p ++ [c]) (by rw [← at_app]; exact h)
      rw [← at_app] at this
      refine Ev.eq this ?_
      rw [List.takeWhile_cons, if_pos hc, List.length_append, List.length_cons, List.length_cons, List.length_nil]
      omega
    · refine Ev.iff_ (fun h => hc (hw.1 h)) (Ev.eq (Ev.now _) ?_)
      rw [List.takeWhile_cons, if_neg hc]; simp
theorem word_f (l : List UInt8) (h : l.length ≤ 4611686018427387904) : Ev (fun k => lex_word.f k (bA l)) ((l.takeWhile isW).length : Int) := by
  have := word_l0 l [] (by simpa using h)
  rw [List.nil_append] at this
  exact Ev.eq this (by simp)
theorem prefix_f (l u : List UInt8) : strings_HasPrefix.f (bA l) (bA u) = some (u.isPrefixOf l) := by
  unfold strings_HasPrefix.f stringslite_HasPrefix.f
  rw [bA_size, bA_size]
  by_cases c : u.length ≤ l.length
  · rw [if_pos (by omega), if_pos (by omega), if_pos (by omega)]
    simp only [Option.bind_some, Option.some.injEq]
    rw [ba_toList, ByteArray.data_extract, Array.toList_extract, bA_data, bA_toList]
    simp only [Int.toNat_natCast, List.extract, Nat.sub_zero, List.drop_zero]
    rw [Bool.eq_iff_iff, beq_iff_eq, List.isPrefixOf_iff_prefix, List.prefix_iff_eq_take]
    exact ⟨fun h => h.symm, fun h => h.symm⟩
  · rw [if_neg (by omega)]
    simp only [Option.bind_some, Option.some.injEq]
    symm
    rw [Bool.eq_false_iff]
    intro h
    have := (List.isPrefixOf_iff_prefix.1 h).length_le
    omega
inductive It where
  | w (l : List UInt8)
  | s (k : Int) (c : UInt8)
  | d
  | b
def It.tx : It → List UInt8
  | .w l => l
  | .s _ c => [c]
  | .d => [46, 46]
  | .b => [32]
def flatT : List It → List UInt8
  | [] => []
  | i :: r => i.tx ++ flatT r
def stopI : List It → Prop
  | .w _ :: _ => False
  | .b :: _ => False
  | _ => True
def okI : List It → Prop
  | [] => True
  | .w l :: r => l ≠ [] ∧ l.all isW = true ∧ stopI r ∧ okI r
  | .s k c :: r => signK (c.toNat : Int) = k ∧ signB (c.toNat : Int) = true ∧ okI r
  | .d :: r => okI r
  | .b :: r => okI r
theorem sign_noW {c : UInt8} (h : signB (c.toNat : Int) = true) : isW c = false := by
  have e : ∀ n : Nat, n < 256 → signB ((UInt8.ofNat n).toNat : Int) = true → isW (UInt8.ofNat n) = false := by decide +kernel
  have := e c.toNat c.toNat_lt
  rw [UInt8.ofNat_toNat] at this
  exact this h
theorem stop_noW : ∀ {r : List It}, stopI r → okI r → noW (flatT r)
  | [], _, _ => trivial
  | .w _ :: _, h, _ => h.elim
  | .b :: _, h, _ => h.elim
  | .s k c :: r, _, h => sign_noW h.2.1
  | .d :: r, _, _ => by show isW 46 = false; decide
theorem take_W : ∀ (l r : List UInt8), l.all isW = true → noW r → (l ++ r).takeWhile isW = l
  | [], [], _, _ => rfl
  | [], c :: r, _, h => by rw [List.nil_append, List.takeWhile_cons]; simp only [noW] at h; rw [h]; rfl
  | c :: l, r, hl, h => by
    rw [List.all_cons, Bool.and_eq_true] at hl
    rw [List.cons_append, List.takeWhile_cons, if_pos hl.1, take_W l r hl.2 h]
def e0 : ByteArray := ⟨#[]⟩
def It.tok (p : Nat) : It → List S46
  | .w l => [⟨0, (p : Int), bA l⟩]
  | .s k _ => [⟨k, (p : Int), e0⟩]
  | .d => [⟨2, (p : Int), e0⟩]
  | .b => []
def toks : Nat → List It → List S46
  | _, [] => []
  | p, i :: r => i.tok p ++ toks (p + i.tx.length) r
theorem toks_app : ∀ (p : Nat) (l u : List It), toks p (l ++ u) = toks p l ++ toks (p + (flatT l).length) u
  | p, [], u => by simp [toks, flatT]
  | p, i :: l, u => by rw [List.cons_append, toks, toks, flatT, toks_app, List.append_assoc, List.length_append, Nat.add_assoc]
def endT (n : Nat) : S46 := ⟨9, (n : Int), e0⟩
theorem lex_l0 : ∀ (its : List It) (p : List UInt8) (acc : List S46), okI its → (p ++ flatT its).length ≤ 1000000 → acc.length ≤ p.length →
    Ev (fun k => lex_All.l0 k (bA (p ++ flatT its)) acc (p.length : Int)) (acc ++ toks p.length its ++ [endT (p ++ flatT its).length], ((p ++ flatT its).length : Int), 0)
  | [], p, acc, _, hn, ha => by
    refine Ev.step (f := fun _ => some (acc ++ toks p.length [] ++ [endT (p ++ flatT []).length], ((p ++ flatT []).length : Int), 0)) (fun k => ?_) (Ev.now _)
    rw [lex_All.l0, bA_size, if_neg (by simp [flatT]), if_pos (by simp [flatT] at hn; omega)]
    simp only [toks, List.append_nil]
    rfl
  | i :: r, p, acc, hok, hn, ha => by
    rw [flatT] at hn ⊢
    rw [toks]
    have hlen : p.length + i.tx.length + (flatT r).length ≤ 1000000 := by simp only [List.length_append] at hn; omega
    have hhead : ∃ c l, i.tx ++ flatT r = c :: l := by
      cases i with
      | w l => obtain ⟨h1, _⟩ := hok; cases l with
        | nil => exact absurd rfl h1
        | cons c l => exact ⟨c, _, rfl⟩
      | s k c => exact ⟨c, _, rfl⟩
      | d => exact ⟨46, _, rfl⟩
      | b => exact ⟨32, _, rfl⟩
    obtain ⟨c, l, hcl⟩ := hhead
    have hbt : bt (bA (p ++ (i.tx ++ flatT r))) (p.length : Int) = (c.toNat : Int) := by rw [hcl, bt_mid]
    have hsz : ((bA (p ++ (i.tx ++ flatT r))).size : Int) = ((p ++ (i.tx ++ flatT r)).length : Nat) := by rw [bA_size]
    have hlt : (p.length : Int) < ((bA (p ++ (i.tx ++ flatT r))).size : Int) := by rw [hsz, hcl, List.length_append, List.length_cons]; omega
    have hext : (bA (p ++ (i.tx ++ flatT r))).extract ((p.length : Int)).toNat (bA (p ++ (i.tx ++ flatT r))).size = bA (i.tx ++ flatT r) := by rw [Int.toNat_natCast]; exact ext_end p _
    have next : ∀ (its' : List It) (acc' : List S46), okI r → acc'.length ≤ p.length + i.tx.length → Ev (fun k => lex_All.l0 k (bA (p ++ (i.tx ++ flatT r))) acc' ((p.length : Int) + (i.tx.length : Int))) (acc' ++ toks (p.length + i.tx.length) r ++ [endT (p ++ (i.tx ++ flatT r)).length], ((p ++ (i.tx ++ flatT r)).length : Int), 0) := fun _ acc' hr ha' => by
      have := lex_l0 r (p ++ i.tx) acc' hr (by simp only [List.length_append]; omega) (by rw [List.length_append]; exact ha')
      have e3 : ((p ++ i.tx).length : Int) = (p.length : Int) + (i.tx.length : Int) := by rw [List.length_append]; omega
      rw [e3, List.append_assoc p, List.length_append] at this
      exact this
    have hstep : ∀ k, lex_All.l0 (k + 1) (bA (p ++ (i.tx ++ flatT r))) acc (p.length : Int) = (lex_word.f k (bA (i.tx ++ flatT r))).bind fun t274 => (if t274 > 0 then (if (p.length : Int) ≤ (wrap64 ((p.length : Int) + t274)) then (if (wrap64 ((p.length : Int) + t274)) ≤ ((bA (p ++ (i.tx ++ flatT r))).size : Int) then (if acc.length < 4398046511104 then (lex_All.l0 k (bA (p ++ (i.tx ++ flatT r))) (acc ++ [(⟨0, (p.length : Int), (bA (p ++ (i.tx ++ flatT r))).extract ((p.length : Int)).toNat ((wrap64 ((p.length : Int) + t274)) : Int).toNat⟩ : S46)]) (wrap64 ((p.length : Int) + t274))) else (none)) else (none)) else (none)) else (if signB (c.toNat : Int) = true then (if acc.length < 4398046511104 then (lex_All.l0 k (bA (p ++ (i.tx ++ flatT r))) (acc ++ [(⟨signK (c.toNat : Int), (p.length : Int), (⟨#[]⟩ : ByteArray)⟩ : S46)]) (wrap64 ((p.length : Int) + 1))) else (none)) else (if ([46, 46] : List UInt8).isPrefixOf (i.tx ++ flatT r) = true then (if acc.length < 4398046511104 then (lex_All.l0 k (bA (p ++ (i.tx ++ flatT r))) (acc ++ [(⟨2, (p.length : Int), (⟨#[]⟩ : ByteArray)⟩ : S46)]) (wrap64 ((p.length : Int) + 2))) else (none)) else (if (c.toNat : Int) = 32 then (lex_All.l0 k (bA (p ++ (i.tx ++ flatT r))) acc (wrap64 ((p.length : Int) + 1))) else (some (([] : List S46), (p.length : Int), 1)))))) := fun k => by
      have hp := prefix_f (i.tx ++ flatT r) [46, 46]
      rw [lex_All.l0, if_pos hlt, if_pos (by omega), hbt, hext]
      simp only [lex_signs.f, Option.bind_some]
      rw [if_pos (by omega)]
      have e1 : (⟨#[46, 46]⟩ : ByteArray) = bA [46, 46] := rfl
      rw [e1, hp]
      rfl
    have W : ∀ n : Nat, n ≤ 1000000 → wrap64 ((p.length : Int) + (n : Int)) = (p.length : Int) + (n : Int) := fun n h => w64 (by omega) (by omega)
    have w1 := W 1 (by omega)
    have w2 := W 2 (by omega)
    have n1 := Aside0.mk w1
    have n2 := Aside0.mk w2
    clear w1 w2
    have hword := word_f (i.tx ++ flatT r) (by rw [List.length_append]; omega)
    refine Ev.step hstep (Ev.bind hword ?_)
    cases i with
    | w u =>
      obtain ⟨h1, h2, h3, h4⟩ := hok
      have hu := List.length_pos_iff.2 h1
      have e1 : ((It.w u).tx ++ flatT r).takeWhile isW = u := take_W u _ h2 (stop_noW h3 h4)
      rw [e1]
      rw [W u.length (by simp only [It.tx] at hlen; omega)]
      refine Ev.ift (by omega) (Ev.ift (by omega) (Ev.ift (by rw [bA_size]; simp only [It.tx, List.length_append]; omega) (Ev.ift (by simp only [It.tx] at hlen; omega) ?_)))
      have e2 : (bA (p ++ ((It.w u).tx ++ flatT r))).extract ((p.length : Int)).toNat ((p.length : Int) + (u.length : Int)).toNat = bA u := by
        have : ((p.length : Int) + (u.length : Int)).toNat = p.length + u.length := by omega
        rw [Int.toNat_natCast, this]
        exact ext_bA p u _
      rw [e2]
      have := next [] (acc ++ [⟨0, (p.length : Int), bA u⟩]) h4 (by simp only [It.tx, List.length_append, List.length_cons, List.length_nil]; omega)
      simp only [List.append_assoc] at this ⊢
      exact this
    | s k d =>
      obtain ⟨h1, h2, h3⟩ := hok
      injection hcl with hc _
      subst hc
      have e1 : ((It.s k d).tx ++ flatT r).takeWhile isW = [] := take_W [] _ rfl (sign_noW h2)
      rw [e1]
      refine Ev.iff_ (by simp) (Ev.ift h2 (Ev.ift (by omega) ?_))
      rw [h1]
      rw [show wrap64 ((p.length : Int) + 1) = (p.length : Int) + 1 from n1.out]
      have := next [] (acc ++ [⟨k, (p.length : Int), e0⟩]) h3 (by simp only [It.tx, List.length_append, List.length_cons, List.length_nil]; omega)
      simp only [List.append_assoc] at this ⊢
      exact this
    | d =>
      injection hcl with hc _
      subst hc
      have e1 : (It.d.tx ++ flatT r).takeWhile isW = [] := take_W [] _ rfl (show isW 46 = false by decide)
      rw [e1]
      refine Ev.iff_ (by simp) (Ev.iff_ (by decide) (Ev.ift (by simp [It.tx, List.isPrefixOf]) (Ev.ift (by omega) ?_)))
      rw [show wrap64 ((p.length : Int) + 2) = (p.length : Int) + 2 from n2.out]
      have := next [] (acc ++ [⟨2, (p.length : Int), e0⟩]) hok (by simp only [It.tx, List.length_append, List.length_cons, List.length_nil]; omega)
      simp only [List.append_assoc] at this ⊢
      exact this
    | b =>
      injection hcl with hc _
      subst hc
      have e1 : (It.b.tx ++ flatT r).takeWhile isW = [] := take_W [] _ rfl (show isW 32 = false by decide)
      rw [e1]
      refine Ev.iff_ (by simp) (Ev.iff_ (by decide) (Ev.iff_ (by simp [It.tx, List.isPrefixOf]) (Ev.ift (by decide) ?_)))
      rw [show wrap64 ((p.length : Int) + 1) = (p.length : Int) + 1 from n1.out]
      have := next [] acc hok (by simp only [It.tx, List.length_cons, List.length_nil]; omega)
      exact this
theorem lex_f (its : List It) (h : okI its) (hn : (flatT its).length ≤ 2000) : Ev (fun k => lex_All.f k (bA (flatT its))) (toks 0 its ++ [endT (flatT its).length], ((flatT its).length : Int), 0) := by
  refine Ev.iff_ (by rw [bA_size]; omega) ?_
  have := lex_l0 its [] [] h (by simpa using Nat.le_trans hn (by omega)) (Nat.le_refl _)
  simpa using this
def spanI : List (List It) → List It
  | x :: y :: _ => x ++ .s 1 47 :: y
  | _ => []
def markI (a : Bool) (k : Int) (c : UInt8) : List It := if a = true then [.s k c] else []
def joinI : List (List It) → List It
  | [] => []
  | [x] => x
  | x :: y :: r => x ++ .s 6 44 :: .b :: joinI (y :: r)
mutual
def it : S27 → List It
  | ⟨k, p, a, t, l⟩ => if k = 1 then spanI (itL l) else if k = 2 then .s 4 91 :: (joinI (itL l) ++ [.s 5 93]) else if k = 3 then [.d] else if k = 4 then [.s 3 42] else .w (ptTxt p) :: (markI a 7 63 ++ markI t 8 126)
def itL : List S27 → List (List It)
  | [] => []
  | x :: l => it x :: itL l
end
theorem it_eq (n : S27) : it n = if n.f0 = 1 then spanI (itL n.f4) else if n.f0 = 2 then .s 4 91 :: (joinI (itL n.f4) ++ [.s 5 93]) else if n.f0 = 3 then [.d] else if n.f0 = 4 then [.s 3 42] else .w (ptTxt n.f1) :: (markI n.f2 7 63 ++ markI n.f3 8 126) := by cases n; rw [it]
def lastW (p : List S46) : Bool := match p.getLast? with
  | some t => decide (t.f0 = 0)
  | none => false
theorem index_no : ∀ (l : List UInt8) (c : UInt8), c ∉ l → Lib.indexByte l c = -1
  | [], c, _ => by simp [Lib.indexByte]
  | b :: l, c, h => by
    rw [List.mem_cons, not_or] at h
    have e : (b == c) = false := by simpa using Ne.symm h.1
    rw [Lib.indexByte, e, index_no l c h.2]; rfl
theorem index_yes : ∀ (a b : List UInt8) (c : UInt8), c ∉ a → Lib.indexByte (a ++ c :: b) c = (a.length : Int)
  | [], b, c, _ => by simp [Lib.indexByte]
  | x :: a, b, c, h => by
    rw [List.mem_cons, not_or] at h
    have e : (x == c) = false := by simpa using Ne.symm h.1
    rw [List.cons_append, Lib.indexByte, e, index_yes a b c h.2]
    simp only [Bool.false_eq_true, if_false, List.length_cons, beq_iff_eq]
    rw [if_neg (by omega)]; omega
theorem sep_f (s : ByteArray) (c : UInt8) : stringslite_Index.f s (bA [c]) = some (Lib.indexByte s.data.toList c) := by
  have e : (bt (bA [c]) 0).toNat.toUInt8 = c := by
    have h : bt (bA [c]) 0 = (c.toNat : Int) := bt_mid [] c []
    rw [h]; exact u8eq (by simp)
  unfold stringslite_Index.f
  rw [if_pos (show (bA [c]).size = 1 from bA_size [c]), e]
theorem ext_to (a b : List UInt8) : (bA (a ++ b)).extract 0 a.length = bA a := by have := ext_bA [] a b; simpa using this
theorem Cut_no (l : List UInt8) (c : UInt8) (h : c ∉ l) : strings_Cut.f (bA l) (bA [c]) = some (bA l, e0, false) := by
  have e : stringslite_Cut.f (bA l) (bA [c]) = some (bA l, e0, false) := by
    unfold stringslite_Cut.f
    rw [sep_f, bA_data, index_no l c h]
    rfl
  unfold strings_Cut.f
  rw [e]; rfl
theorem Cut_yes (a b : List UInt8) (c : UInt8) (h : c ∉ a) (hl : (a ++ c :: b).length ≤ 4611686018427387904) : strings_Cut.f (bA (a ++ c :: b)) (bA [c]) = some (bA a, bA b, true) := by
  have e : stringslite_Cut.f (bA (a ++ c :: b)) (bA [c]) = some (bA a, bA b, true) := by
    unfold stringslite_Cut.f
    rw [sep_f, bA_data, index_yes a b c h]
    have hl' : (a ++ c :: b).length = a.length + (b.length + 1) := by simp
    have w : wrap64 ((a.length : Int) + ((bA [c]).size : Int)) = (a.length : Int) + 1 := by rw [bA_size, show (([c] : List UInt8).length : Int) = 1 from rfl]; exact w64 (by omega) (by omega)
    simp only [Option.bind_some]
    rw [w, bA_size (a ++ c :: b), if_pos (by omega), if_pos (by omega), if_pos (by omega), if_pos (by omega), if_pos (by omega), Int.toNat_natCast, ext_to]
    have e2 : ((a.length : Int) + 1).toNat = (a ++ [c]).length := by rw [List.length_append]; simp
    have e3 : (bA (a ++ c :: b)).extract ((a.length : Int) + 1).toNat (a ++ c :: b).length = bA b := by
      have := ext_end (a ++ [c]) b
      rw [bA_size, List.append_assoc] at this
      rw [e2]; exact this
    rw [e3]
  unfold strings_Cut.f
  rw [e]; rfl
theorem HasS_yes (a : List UInt8) (c : UInt8) (hl : (a ++ [c]).length ≤ 4611686018427387904) : stringslite_HasSuffix.f (bA (a ++ [c])) (bA [c]) = some true := by
  have hl' : (a ++ [c]).length = a.length + 1 := by simp
  have w : wrap64 (((bA (a ++ [c])).size : Int) - ((bA [c]).size : Int)) = (a.length : Int) := by rw [bA_size, bA_size, hl', show (([c] : List UInt8).length : Int) = 1 from rfl, w64 (by omega) (by omega)]; omega
  unfold stringslite_HasSuffix.f
  rw [w, if_pos (by rw [bA_size, bA_size]; simp; omega), if_pos (by omega), if_pos (by rw [bA_size]; omega), Int.toNat_natCast, ext_end]
  simp
theorem HasS_no (l : List UInt8) (c : UInt8) (h : ∀ a, l ≠ a ++ [c]) (hl : l.length ≤ 4611686018427387904) : stringslite_HasSuffix.f (bA l) (bA [c]) = some false := by
  unfold stringslite_HasSuffix.f
  by_cases h0 : l = []
  · subst h0; rfl
  · obtain ⟨a, x, rfl⟩ : ∃ a x, l = a ++ [x] := ⟨_, _, (List.dropLast_concat_getLast h0).symm⟩
    have hl' : (a ++ [x]).length = a.length + 1 := by simp
    have w : wrap64 (((bA (a ++ [x])).size : Int) - ((bA [c]).size : Int)) = (a.length : Int) := by rw [bA_size, bA_size, hl', show (([c] : List UInt8).length : Int) = 1 from rfl, w64 (by omega) (by omega)]; omega
    rw [w, if_pos (by rw [bA_size, bA_size]; simp; omega), if_pos (by omega), if_pos (by rw [bA_size]; omega), Int.toNat_natCast, ext_end]
    have hx : ¬ x = c := fun e => h a (by rw [e])
    rw [bA_toList, bA_toList]
    simp [hx]
theorem CutS_yes (a : List UInt8) (c : UInt8) (hl : (a ++ [c]).length ≤ 4611686018427387904) : strings_CutSuffix.f (bA (a ++ [c])) (bA [c]) = some (bA a, true) := by
  have hl' : (a ++ [c]).length = a.length + 1 := by simp
  have w : wrap64 (((bA (a ++ [c])).size : Int) - ((bA [c]).size : Int)) = (a.length : Int) := by rw [bA_size, bA_size, hl', show (([c] : List UInt8).length : Int) = 1 from rfl, w64 (by omega) (by omega)]; omega
  have e : stringslite_CutSuffix.f (bA (a ++ [c])) (bA [c]) = some (bA a, true) := by
    unfold stringslite_CutSuffix.f
    rw [HasS_yes a c hl]
    simp only [Option.bind_some, if_true]
    rw [w, if_pos (by omega), if_pos (by rw [bA_size]; omega), Int.toNat_natCast, ext_to]
  unfold strings_CutSuffix.f
  rw [e]; rfl
theorem CutS_no (l : List UInt8) (c : UInt8) (h : ∀ a, l ≠ a ++ [c]) (hl : l.length ≤ 4611686018427387904) : strings_CutSuffix.f (bA l) (bA [c]) = some (bA l, false) := by
  have e : stringslite_CutSuffix.f (bA l) (bA [c]) = some (bA l, false) := by
    unfold stringslite_CutSuffix.f
    rw [HasS_no l c h hl]; rfl
  unfold strings_CutSuffix.f
  rw [e]; rfl
abbrev gsV (l : List UInt8) : Option (Int × ByteArray × ByteArray × ByteArray) := point_guess.f (bA l)
theorem guess_any (l : List UInt8) (hl : l.length ≤ 4611686018427387904) : ∃ p : S24, gsV l = some (p.f0, p.f1, p.f2, p.f3) ∧ ptRaw p = l := by
  unfold gsV point_guess.f
  rw [show (⟨#[100]⟩ : ByteArray) = bA [100] from rfl, show (⟨#[99]⟩ : ByteArray) = bA [99] from rfl, show (⟨#[115]⟩ : ByteArray) = bA [115] from rfl, show (⟨#[45]⟩ : ByteArray) = bA [45] from rfl]
  by_cases h1 : ∃ a, l = a ++ [100]
  · obtain ⟨a, rfl⟩ := h1
    rw [CutS_yes a 100 hl]
    exact ⟨⟨4, bA a, e0, e0⟩, rfl, rfl⟩
  rw [CutS_no l 100 (fun a h => h1 ⟨a, h⟩) hl]
  by_cases h2 : ∃ a, l = a ++ [99]
  · obtain ⟨a, rfl⟩ := h2
    rw [CutS_yes a 99 hl]
    exact ⟨⟨5, bA a, e0, e0⟩, rfl, rfl⟩
  rw [CutS_no l 99 (fun a h => h2 ⟨a, h⟩) hl]
  by_cases h3 : (115 : UInt8) ∈ l
  · obtain ⟨a, b, rfl, ha⟩ := List.eq_append_cons_of_mem h3
    rw [Cut_yes a b 115 ha hl]
    exact ⟨⟨2, bA a, bA b, e0⟩, rfl, rfl⟩
  rw [Cut_no l 115 h3]
  by_cases h4 : (45 : UInt8) ∈ l
  · obtain ⟨a, b, rfl, ha⟩ := List.eq_append_cons_of_mem h4
    rw [Cut_yes a b 45 ha hl]
    simp only [Option.bind_some, if_true, if_false, Bool.false_eq_true]
    by_cases h5 : (45 : UInt8) ∈ b
    · obtain ⟨c, d, rfl, hc⟩ := List.eq_append_cons_of_mem h5
      rw [Cut_yes c d 45 hc (by simp only [List.length_append, List.length_cons] at hl ⊢; omega)]
      exact ⟨⟨0, bA a, bA c, bA d⟩, rfl, rfl⟩
    · rw [Cut_no b 45 h5]
      exact ⟨⟨1, bA a, bA b, e0⟩, rfl, rfl⟩
  · rw [Cut_no l 45 h4]
    exact ⟨⟨3, bA l, e0, e0⟩, rfl, rfl⟩
theorem ok_not {l : List UInt8} (h : l.all okB = true) (c : UInt8) (hc : okB c = false) : c ∉ l := fun hm => by
  rw [List.all_eq_true] at h
  rw [h c hm] at hc; cases hc
theorem not_end {u v : List UInt8} {c : UInt8} (hv : v ≠ []) (hc : c ∉ v) (a : List UInt8) : u ++ v ≠ a ++ [c] := fun h => by
  obtain ⟨w, x, rfl⟩ : ∃ w x, v = w ++ [x] := ⟨_, _, (List.dropLast_concat_getLast hv).symm⟩
  rw [← List.append_assoc] at h
  have e := (List.append_inj' h rfl).2
  injection e with e _
  exact hc (by rw [e]; simp)
theorem guess_raw (q : S24) (hq : ptV q = true) : gsV (ptRaw q) = some (q.f0, q.f1, q.f2, q.f3) := by
  obtain ⟨hY, hk⟩ := pt_kinds hq
  unfold gsV point_guess.f ptRaw
  rw [show (⟨#[100]⟩ : ByteArray) = bA [100] from rfl, show (⟨#[99]⟩ : ByteArray) = bA [99] from rfl, show (⟨#[115]⟩ : ByteArray) = bA [115] from rfl, show (⟨#[45]⟩ : ByteArray) = bA [45] from rfl]
  obtain ⟨k, y, m, d⟩ := q
  simp only at hY hk ⊢
  have n1 := ok_not hY 100 (by decide)
  have n2 := ok_not hY 99 (by decide)
  have n3 := ok_not hY 115 (by decide)
  have n4 := ok_not hY 45 (by decide)
  have eE : ∀ s : ByteArray, s.data.toList = [] → s = e0 := fun s h => ba_eq (by rw [h]; rfl)
  have L : ∀ l : List UInt8, l.length ≤ 100 → l.length ≤ 4611686018427387904 := fun _ h => by omega
  rcases hk with ⟨rfl, ly, lm, am, ld, ad⟩ | ⟨rfl, ly, lm, am, ld⟩ | ⟨rfl, ly, lm, am, ld⟩ | ⟨rfl, ly, lm, ld⟩ | ⟨rfl, ly, lm, ld⟩ | ⟨rfl, ly, lm, ld⟩
  · rw [if_pos rfl]
    have hd : d.data.toList ≠ [] := fun h => by rw [h] at ld; cases ld
    have S : ∀ c : UInt8, okB c = false → ∀ a, y.data.toList ++ 45 :: (m.data.toList ++ 45 :: d.data.toList) ≠ a ++ [c] := fun c hc a => by
      have := not_end (u := y.data.toList ++ 45 :: (m.data.toList ++ [45])) hd (ok_not ad c hc) a
      simpa using this
    have Ln : (y.data.toList ++ 45 :: (m.data.toList ++ 45 :: d.data.toList)).length ≤ 100 := by simp only [List.length_append, List.length_cons]; omega
    rw [CutS_no _ 100 (S 100 (by decide)) (L _ Ln), Option.bind_some, CutS_no _ 99 (S 99 (by decide)) (L _ Ln), Option.bind_some, Cut_no _ 115 (by simp [n3, ok_not am 115 (by decide), ok_not ad 115 (by decide)]), Option.bind_some, Cut_yes _ _ 45 n4 (L _ Ln), Option.bind_some]
    simp only [if_true, if_false, Bool.false_eq_true]
    rw [Cut_yes _ _ 45 (ok_not am 45 (by decide)) (L _ (by simp only [List.length_append, List.length_cons]; omega))]
    simp only [Option.bind_some, if_true, bA_mk]
  · rw [if_neg (by decide), if_pos rfl]
    have hd : m.data.toList ≠ [] := fun h => by rw [h] at lm; cases lm
    have S : ∀ c : UInt8, okB c = false → ∀ a, y.data.toList ++ 45 :: m.data.toList ≠ a ++ [c] := fun c hc a => by
      have := not_end (u := y.data.toList ++ [45]) hd (ok_not am c hc) a
      simpa using this
    have Ln : (y.data.toList ++ 45 :: m.data.toList).length ≤ 100 := by simp only [List.length_append, List.length_cons]; omega
    rw [CutS_no _ 100 (S 100 (by decide)) (L _ Ln), Option.bind_some, CutS_no _ 99 (S 99 (by decide)) (L _ Ln), Option.bind_some, Cut_no _ 115 (by simp [n3, ok_not am 115 (by decide)]), Option.bind_some, Cut_yes _ _ 45 n4 (L _ Ln), Option.bind_some]
    simp only [if_true, if_false, Bool.false_eq_true]
    rw [Cut_no _ 45 (ok_not am 45 (by decide)), eE d ld]
    simp only [Option.bind_some, if_true, if_false, Bool.false_eq_true, bA_mk]
    rfl
  · rw [if_neg (by decide), if_neg (by decide), if_pos rfl]
    have hd : m.data.toList ≠ [] := fun h => by rw [h] at lm; cases lm
    have S : ∀ c : UInt8, okB c = false → ∀ a, y.data.toList ++ 115 :: m.data.toList ≠ a ++ [c] := fun c hc a => by
      have := not_end (u := y.data.toList ++ [115]) hd (ok_not am c hc) a
      simpa using this
    have Ln : (y.data.toList ++ 115 :: m.data.toList).length ≤ 100 := by simp only [List.length_append, List.length_cons]; omega
    rw [CutS_no _ 100 (S 100 (by decide)) (L _ Ln), Option.bind_some, CutS_no _ 99 (S 99 (by decide)) (L _ Ln), Option.bind_some, Cut_yes _ _ 115 n3 (L _ Ln), Option.bind_some, eE d ld]
    simp only [if_true, if_false, Bool.false_eq_true, bA_mk]
    rfl
  · rw [if_neg (by decide), if_neg (by decide), if_neg (by decide), if_neg (by decide), if_neg (by decide)]
    have hd : y.data.toList ≠ [] := fun h => by rw [h] at ly; cases ly
    have Ln : y.data.toList.length ≤ 100 := by omega
    have S : ∀ c : UInt8, okB c = false → ∀ a, y.data.toList ≠ a ++ [c] := fun c hc a => not_end (u := []) hd (ok_not hY c hc) a
    rw [CutS_no _ 100 (S 100 (by decide)) (L _ Ln), Option.bind_some, CutS_no _ 99 (S 99 (by decide)) (L _ Ln), Option.bind_some, Cut_no _ 115 n3, Option.bind_some, Cut_no _ 45 n4, eE d ld, eE m lm]
    simp only [Option.bind_some, if_true, if_false, Bool.false_eq_true, bA_mk]
    rfl
  · rw [if_neg (by decide), if_neg (by decide), if_neg (by decide), if_pos rfl]
    rw [CutS_yes _ 100 (L _ (by simp only [List.length_append, List.length_cons, List.length_nil]; omega)), eE d ld, eE m lm]
    simp only [Option.bind_some, if_true, bA_mk]
    rfl
  · rw [if_neg (by decide), if_neg (by decide), if_neg (by decide), if_neg (by decide), if_pos rfl]
    have S : ∀ a, y.data.toList ++ [99] ≠ a ++ [100] := fun a => not_end (by simp) (by decide) a
    have Ln : (y.data.toList ++ [99]).length ≤ 100 := by simp only [List.length_append, List.length_cons, List.length_nil]; omega
    rw [CutS_no _ 100 S (L _ Ln), Option.bind_some, CutS_yes _ 99 (L _ Ln), eE d ld, eE m lm]
    simp only [Option.bind_some, if_true, if_false, Bool.false_eq_true, bA_mk]
    rfl
theorem read_any (l : List UInt8) (hl : l.length ≤ 4611686018427387904) : (∃ p : S24, ptV p = true ∧ ptTxt p = l ∧ Ev (fun k => point_Read.f k (bA l)) (p.f0, p.f1, p.f2, p.f3, true)) ∨ (∀ p : S24, ptV p = true → ptTxt p ≠ l) ∧ Ev (fun k => point_Read.f k (bA l)) (0, e0, e0, e0, false) := by
  obtain ⟨p, h1, h2⟩ := guess_any l hl
  have hs := ptSane_f p
  cases hp : ptV p with
  | true =>
    rw [hp] at hs
    exact .inl ⟨p, hp, by unfold ptTxt; rw [if_pos hp]; exact h2, Ev.bnow (x := (p.f0, p.f1, p.f2, p.f3)) h1 (Ev.bind hs (Ev.ift rfl (Ev.now _)))⟩
  | false =>
    rw [hp] at hs
    refine .inr ⟨fun q hq he => ?_, Ev.bnow (x := (p.f0, p.f1, p.f2, p.f3)) h1 (Ev.bind hs (Ev.iff_ (by simp) (Ev.now _)))⟩
    unfold ptTxt at he
    rw [if_pos hq] at he
    have := guess_raw q hq
    rw [he, h1] at this
    simp only [Option.some.injEq, Prod.mk.injEq] at this
    obtain ⟨e1, e2, e3, e4⟩ := this
    have e : p = q := by cases p; cases q; simp only at e1 e2 e3 e4; rw [e1, e2, e3, e4]
    rw [e, hq] at hp; cases hp
theorem read_txt (p : S24) (hp : ptV p = true) : Ev (fun k => point_Read.f k (bA (ptTxt p))) (p.f0, p.f1, p.f2, p.f3, true) := by
  have h1 := guess_raw p hp
  have hs := ptSane_f p
  rw [hp] at hs
  unfold ptTxt
  rw [if_pos hp]
  exact Ev.bnow (x := (p.f0, p.f1, p.f2, p.f3)) h1 (Ev.bind hs (Ev.ift rfl (Ev.now _)))
structure KE where
  nd : S27
  A : Option Addr
  c : Nat
def mkK (n : S27) : KE := ⟨n, none, 0⟩
abbrev phiK (x : KE) : KE := mkK x.nd
def LiftK (Q : KE → Prop) (a b : Option (List KE)) : Prop := ∀ r, a = some r → ∃ r', b = some r' ∧ r'.map phiK = r ∧ ∀ x, x ∈ r' → Q x
section
variable {Q : KE → Prop} {a b a' b' : Option (List KE)}
theorem LiftK.none : LiftK Q none b := fun r h => by cases h
theorem LiftK.some {l : List KE} (h : ∀ x, x ∈ l → Q x) : LiftK Q (some (l.map phiK)) (some l) := fun r hr => ⟨l, rfl, Option.some.inj hr, h⟩
theorem LiftK.ite {c : Prop} [Decidable c] (h : LiftK Q a b) (h' : LiftK Q a' b') : LiftK Q (if c then a else a') (if c then b else b') := by
  by_cases hc : c
  · rw [if_pos hc, if_pos hc]; exact h
  · rw [if_neg hc, if_neg hc]; exact h'
theorem LiftK.key {α : Type} {o : Option α} {g g' : α → Option (List KE)} (h : ∀ t, LiftK Q (g t) (g' t)) : LiftK Q (o.bind g) (o.bind g') := by
  cases o with
  | none => exact LiftK.none
  | some t => exact h t
theorem LiftK.bind {g g' : List KE → Option (List KE)} (h : LiftK Q a b) (hg : ∀ l, (∀ x, x ∈ l → Q x) → LiftK Q (g (l.map phiK)) (g' l)) : LiftK Q (a.bind g) (b.bind g') := by
  intro r hr
  obtain ⟨m, hm, hr⟩ := Option.bind_eq_some_iff.mp hr
  obtain ⟨m', hb, rfl, hq⟩ := h m hm
  obtain ⟨r', h1, h2⟩ := hg m' hq r hr
  exact ⟨r', Option.bind_eq_some_iff.mpr ⟨m', hb, h1⟩, h2⟩
end
theorem Clone_e (l : List S27) (h : l.length < 1466015503701) : slices_Clone.f l = some l := by rw [slices_Clone.f, if_pos h]
end Go.Proofs.YtjgjhekpiijniaaGreat.A