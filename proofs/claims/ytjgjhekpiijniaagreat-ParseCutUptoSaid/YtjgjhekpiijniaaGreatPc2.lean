/- Walks of functions, and plain facts about what they compute. No conditions. -/
import Derived.Test.YtjgjhekpiijniaaGreatPc1
import Derived.Maps.OwnSet
set_option linter.unusedVariables false
set_option linter.unusedSimpArgs false
namespace Go.Proofs.YtjgjhekpiijniaaGreat.A
open Go.RowKit Go.Proofs.YtjgjhekpiijniaaGreatW.PrintWords Go.Proofs.YtjgjhekpiijniaaGreatW.PrintLast Go.Proofs.YtjgjhekpiijniaaGreatW.PrintMore
attribute [local go_sem] isSome_setCell
theorem fld46_0 (a b : Int) (c : ByteArray) (w : World) : (Instr.field 46 (.agg #[.int .i64 a, .int .i64 b, .string c]) 0).run Tryz.prog w = .ok (.int .i64 a) w := by kernel_rfl
theorem fld46_1 (a b : Int) (c : ByteArray) (w : World) : (Instr.field 46 (.agg #[.int .i64 a, .int .i64 b, .string c]) 1).run Tryz.prog w = .ok (.int .i64 b) w := by kernel_rfl
theorem fld46_2 (a b : Int) (c : ByteArray) (w : World) : (Instr.field 46 (.agg #[.int .i64 a, .int .i64 b, .string c]) 2).run Tryz.prog w = .ok (.string c) w := by kernel_rfl
attribute [local go_sem] fld46_0 fld46_1 fld46_2
def IsP (w0 W : World) (g : Nat) (t : List S46) (m d : Int) : Prop := ∃ A c, W.heap[g]? = some (.cells #[.slice A t.length c, .int .i64 m, .int .i64 d] 41 (0, 0)) ∧ w0.heap.size ≤ g ∧ t.length ≤ c ∧ Kd.C k46 w0 A t.length t
section
variable {w0 W W1 : World} {g : Nat} {t : List S46} {m d : Int}
theorem IsP.below (h : IsP w0 W g t m d) (hb : Below W.heap.size W W1) : IsP w0 W1 g t m d := by
  obtain ⟨A, c, h1, h2⟩ := h
  exact ⟨A, c, blk_below h1 hb, h2⟩
theorem IsP.alloc (h : IsP w0 W g t m d) (o : Obj) : IsP w0 (W.alloc o) g t m d := h.below (below_alloc (Below.refl _ _) o)
theorem IsP.drewN (h : IsP w0 W g t m d) (n : Nat) : IsP w0 (W.drewN n) g t m d := h
theorem IsP.drew (h : IsP w0 W g t m d) : IsP w0 W.drew g t m d := h
theorem IsP.far (h : IsP w0 W g t m d) {p : Addr} (hne : g ≠ p.block) (u : Value) : IsP w0 (W.setCell p u) g t m d := by
  obtain ⟨A, c, h1, h2⟩ := h
  exact ⟨A, c, blk_far h1 hne u, h2⟩
theorem IsP.lt (h : IsP w0 W g t m d) : g < W.heap.size := by
  obtain ⟨A, c, h1, _⟩ := h
  exact blk_lt h1
theorem IsP.ge (h : IsP w0 W g t m d) : w0.heap.size ≤ g := by
  obtain ⟨A, c, _, h2, _⟩ := h
  exact h2
theorem IsP.setM (h : IsP w0 W g t m d) (x : Int) : IsP w0 (W.setCell ⟨g, 1, none⟩ (.int .i64 x)) g t x d := by
  obtain ⟨A, c, h1, h2⟩ := h
  exact ⟨A, c, by simpa using blk_set h1 1 (.int .i64 x), h2⟩
theorem IsP.setD (h : IsP w0 W g t m d) (x : Int) : IsP w0 (W.setCell ⟨g, 2, none⟩ (.int .i64 x)) g t m x := by
  obtain ⟨A, c, h1, h2⟩ := h
  exact ⟨A, c, by simpa using blk_set h1 2 (.int .i64 x), h2⟩
end
structure PK (w0 w w' : World) (g : Nat) (t : List S46) (m d : Int) : Prop where
  hI : IsP w0 w' g t m d
  hB : Below w0.heap.size w0 w'
  hK : KeepBut w w' g none
def IsX (b : Nat) (w : World) (v : Value) (x : Wr) : Prop := match x with
  | none => v = .pointer none
  | some y => ∃ q, v = .pointer (some ⟨q, 0, none⟩) ∧ b ≤ q ∧ w.heap[q]? = some (.cells #[.int .i64 y.1, .int .i64 y.2] 50 (0, 0))
set_option maxHeartbeats 8000000 in
set_option maxRecDepth 100000 in
theorem parser_next.calls (g : Nat) (x : S46) (t : List S46) (m d : Int) (w0 w : World) (hI : IsP w0 w g (x :: t) m d) (hB0 : Below w0.heap.size w0 w) :
    Calls Tryz.prog 18 #[.pointer (some ⟨g, 0, none⟩)] w fun e w' => e = .returned (.agg #[.int .i64 x.f0, .int .i64 x.f1, .string x.f2]) ∧ Below w.heap.size w w' := by
  have hu46 := Tryz.underlying46
  obtain ⟨A, c, hG, hg, hc, hC⟩ := hI
  obtain ⟨ad, e, hx0, hx1, hx2⟩ := at_T46 hC 0 (by omega) (by simp)
  cases e
  have hr : rd_T46 (x :: t) 0 = x := rfl
  rw [hr] at hx0 hx1 hx2
  clear hr
  replace hx0 := pw_cell_below hB0 hx0
  replace hx1 := pw_cell_below hB0 hx1
  replace hx2 := pw_cell_below hB0 hx2
  replace hx0 := ai_ hx0
  replace hx1 := ai_ hx1
  replace hx2 := ai_ hx2
  have HX0 := A_ hx0
  have HX1 := A_ hx1
  have HX2 := A_ hx2
  have HG := A_ hG
  have HB := A_ (Below.refl w.heap.size w)
  clear hx0 hx1 hx2 hG hC hg hc hB0
  go_enter Tryz.func18, Tryz.ntmps18
  go_wp2_with (first | ((with_reducible refine gD 2 ?_); refine bxe_ 2 #[.int .i64 0, .int .i64 0, .string ⟨#[]⟩] 46 ?_; intro gb hgb w3 hbox hb; have BK := A_ hbox; have hp := (blk_cell (blk_below HG.out hb) 0).trans rfl; have hx0 := pw_cell_below hb HX0.out; have hx1 := pw_cell_below hb HX1.out; have hx2 := pw_cell_below hb HX2.out; have q : (0 < (x :: t).length) = True := eq_true (by simp); have Z := bz3_ BK; have GE := gs_ w hgb; replace HB := bs_ hb; clear hb hbox hgb))
  refine bodyPost_ret (results_cell_row rfl _ _ gb 46 #[.int .i64 x.f0, .int .i64 x.f1, .string x.f2] (0, 0) _ rfl (pb_ BK.out) Tryz.underlying46 rfl (by kernel_rfl)) rfl ?_
  exact ⟨rfl, hs_⟩
set_option maxHeartbeats 8000000 in
set_option maxRecDepth 100000 in
theorem parser_take.calls (g : Nat) (x : S46) (t : List S46) (m d : Int) (w0 w : World) (hI : IsP w0 w g (x :: t) m d) (hB0 : Below w0.heap.size w0 w) :
    Calls Tryz.prog 58 #[.pointer (some ⟨g, 0, none⟩)] w fun e w' => (∃ v, e = .returned v) ∧ PK w0 w w' g t m d := by
  have hu46 := Tryz.underlying46
  obtain ⟨A, c, hG, hg, hc, hC⟩ := hI
  obtain ⟨i0, hi0, hz0⟩ := info_parts info46
  obtain ⟨A', hA'⟩ : ∃ A', A' = (if c = (1 : Int).toNat then A else A.map (·.add ((1 : Int).toNat * 3))) := ⟨_, rfl⟩
  have hcut := cut_from (P := Tryz.prog) 36 46 .i64 Tryz.underlying36 hi0 3 hz0.2.1 A (t.length + 1) c 1 (by omega) (by omega)
  rw [← hA'] at hcut
  have e1 : t.length + 1 - (1 : Int).toNat = t.length := by simp
  have e2 : c - (1 : Int).toNat = c - 1 := by simp
  rw [e1, e2] at hcut
  have hC2 : Kd.C k46 w0 A' t.length t := by
    have := Kd.C_drop (m := 1) hC (by simp) hc
    rw [hA']
    exact this
  have HC2 := A_ hC2
  have HG := A_ hG
  have HL := A_ (show t.length ≤ c - 1 by simp at hc; omega)
  have HGE := A_ hg
  have HB := A_ hB0
  have hp := (blk_cell hG 0).trans rfl
  have hf := blk_frozen hG 0
  clear hG hC hg hc hB0 hC2 hA' e1 e2 hi0 hz0
  go_enter Tryz.func58, Tryz.ntmps58
  go_wp2
  refine bodyPost_end (results_none rfl _ _ _) rfl ⟨⟨_, rfl⟩, ⟨A', c - 1, by simpa using blk_set HG.out 0 (.slice A' t.length (c - 1)), HGE.out, HL.out, HC2.out⟩, below_set HB.out HGE.out, (KeepBut.refl _ _ _).set_ 0 _⟩
theorem IsX.put {b q : Nat} {w : World} {x y : Int} (h : w.heap[q]? = some (.cells #[.int .i64 x, .int .i64 y] 50 (0, 0))) (hq : b ≤ q) : IsX b w (.pointer (some ⟨q, 0, none⟩)) (some (x, y)) := ⟨q, rfl, hq, h⟩
set_option maxHeartbeats 8000000 in
set_option maxRecDepth 100000 in
theorem parser_not.calls (g : Nat) (x : S46) (t : List S46) (m d e : Int) (w0 w : World) (hI : IsP w0 w g (x :: t) m d) (hB0 : Below w0.heap.size w0 w) :
    Calls Tryz.prog 19 #[.pointer (some ⟨g, 0, none⟩), .int .i64 e] w fun e' w' => ∃ u, e' = .returned u ∧ IsX w.heap.size w' u (some (x.f1, eNot x e)) ∧ Below w.heap.size w w' := by
  have hu46 := Tryz.underlying46
  have HI := A_ hI
  have HB0 := A_ hB0
  have HB := A_ (Below.refl w.heap.size w)
  clear hI hB0
  by_cases c : x.f0 = 9
  · have hE : eNot x e = 4 := if_pos c
    rw [hE]
    have c0 : (x.f0 == 9) = true := beq_iff_eq.mpr c
    clear c hE
    go_enter Tryz.func19, Tryz.ntmps19
    go_wp2_with (first | ((with_reducible refine gD 6 ?_); refine gL 6 Tryz.func18 #[.pointer (some ⟨g, 0, none⟩)] ?_; (with_reducible refine (parser_next.calls g x t m d w0 _ HI.out HB0.out).mono ?_); rintro e1 w1 ⟨rfl, hb⟩; refine ⟨_, rfl, ?_⟩; replace HI := A_ (HI.out.below hb); replace HB0 := A_ (below_step HB0.out hb); replace HB := A_ (below_step HB.out hb); clear hb) | ((with_reducible refine gD 10 ?_); refine gL 10 Tryz.func18 #[.pointer (some ⟨g, 0, none⟩)] ?_; (with_reducible refine (parser_next.calls g x t m d w0 _ HI.out HB0.out).mono ?_); rintro e1 w1 ⟨rfl, hb⟩; refine ⟨_, rfl, ?_⟩; replace HI := A_ (HI.out.below hb); replace HB0 := A_ (below_step HB0.out hb); replace HB := A_ (below_step HB.out hb); clear hb) | ((with_reducible refine gD 14 ?_); refine bxe_ 14 #[.int .i64 x.f1, .int .i64 4] 50 ?_; intro gb hgb w3 hbox hb; have BK := A_ hbox; have GE := gs_ w hgb; replace HB := bs_ hb; clear hb hbox hgb))
    go_ret
    exact ⟨_, rfl, IsX.put BK.out GE.out, HB.out⟩
  · have hE : eNot x e = e := if_neg c
    rw [hE]
    have c0 : (x.f0 == 9) = false := beq_eq_false_iff_ne.mpr c
    clear c hE
    go_enter Tryz.func19, Tryz.ntmps19
    go_wp2_with (first | ((with_reducible refine gD 6 ?_); refine gL 6 Tryz.func18 #[.pointer (some ⟨g, 0, none⟩)] ?_; (with_reducible refine (parser_next.calls g x t m d w0 _ HI.out HB0.out).mono ?_); rintro e1 w1 ⟨rfl, hb⟩; refine ⟨_, rfl, ?_⟩; replace HI := A_ (HI.out.below hb); replace HB0 := A_ (below_step HB0.out hb); replace HB := A_ (below_step HB.out hb); clear hb) | ((with_reducible refine gD 10 ?_); refine gL 10 Tryz.func18 #[.pointer (some ⟨g, 0, none⟩)] ?_; (with_reducible refine (parser_next.calls g x t m d w0 _ HI.out HB0.out).mono ?_); rintro e1 w1 ⟨rfl, hb⟩; refine ⟨_, rfl, ?_⟩; replace HI := A_ (HI.out.below hb); replace HB0 := A_ (below_step HB0.out hb); replace HB := A_ (below_step HB.out hb); clear hb) | ((with_reducible refine gD 14 ?_); refine bxe_ 14 #[.int .i64 x.f1, .int .i64 e] 50 ?_; intro gb hgb w3 hbox hb; have BK := A_ hbox; have GE := gs_ w hgb; replace HB := bs_ hb; clear hb hbox hgb))
    go_ret
    exact ⟨_, rfl, IsX.put BK.out GE.out, HB.out⟩
set_option maxHeartbeats 8000000 in
set_option maxRecDepth 100000 in
theorem parser_begin.many (g : Nat) (x : S46) (t : List S46) (m d : Int) (w0 w : World) (hm : m = 64) (hI : IsP w0 w g (x :: t) m d) (hB0 : Below w0.heap.size w0 w) :
    Calls Tryz.prog 57 #[.pointer (some ⟨g, 0, none⟩)] w fun e' w' => ∃ u, e' = .returned u ∧ IsX w.heap.size w' u (some (x.f1, eNot x 6)) ∧ PK w0 w w' g (x :: t) m d := by
  have HI := A_ hI
  have HB0 := A_ hB0
  obtain ⟨A, c, hG, hg, hc, hC⟩ := hI
  have HG := A_ hG
  have c0 : (m == 64) = true := beq_iff_eq.mpr hm
  clear hB0 hG hg hc hC hm
  have hp0 := (blk_cell HG.out 0).trans rfl; have hp1 := (blk_cell HG.out 1).trans rfl; have hp2 := (blk_cell HG.out 2).trans rfl; have hf0 := blk_frozen HG.out 0; have hf1 := blk_frozen HG.out 1; have hf2 := blk_frozen HG.out 2
  go_enter Tryz.func57, Tryz.ntmps57
  go_wp2_with (first | ((with_reducible refine gC 19 ?_); refine gL 9 Tryz.func19 #[.pointer (some ⟨g, 0, none⟩), .int .i64 6] ?_; (with_reducible refine (parser_not.calls g x t m d 6 w0 _ HI.out HB0.out).mono ?_); rintro e1 w1 ⟨u1, rfl, hx, hb⟩; refine ⟨_, rfl, ?_⟩; have HX := A_ hx; have HBn := A_ hb; clear hx hb))
  go_ret
  exact ⟨_, rfl, HX.out, HI.out.below HBn.out, below_step HB0.out HBn.out, KeepBut.of_below HBn.out _ _⟩
set_option maxHeartbeats 8000000 in
set_option maxRecDepth 100000 in
theorem parser_begin.one (g : Nat) (t : List S46) (m d : Int) (w0 w : World) (hm : ¬ m = 64) (hI : IsP w0 w g t m d) (hB0 : Below w0.heap.size w0 w) :
    Calls Tryz.prog 57 #[.pointer (some ⟨g, 0, none⟩)] w fun e' w' => e' = .returned (.pointer none) ∧ PK w0 w w' g t (wrap64 (m + 1)) d := by
  have HI := A_ hI
  have HB0 := A_ hB0
  obtain ⟨A, c, hG, hg, hc, hC⟩ := hI
  have HG := A_ hG
  have c0 : (m == 64) = false := beq_eq_false_iff_ne.mpr hm
  clear hB0 hG hg hc hC hm
  have hp0 := (blk_cell HG.out 0).trans rfl; have hp1 := (blk_cell HG.out 1).trans rfl; have hp2 := (blk_cell HG.out 2).trans rfl; have hf0 := blk_frozen HG.out 0; have hf1 := blk_frozen HG.out 1; have hf2 := blk_frozen HG.out 2
  go_enter Tryz.func57, Tryz.ntmps57
  go_wp2
  go_ret
  exact ⟨rfl, HI.out.setM _, below_set HB0.out HI.out.ge, (KeepBut.refl _ _ _).set_ 1 _⟩
theorem IsP.far8 {w0 W : World} {g gb : Nat} {t : List S46} {m d : Int} (h : IsP w0 W g t m d) (hne : g ≠ gb) (a b c d' e f j k : Value) : IsP w0 ((((((((W.setCell ⟨gb, 0, none⟩ a).setCell ⟨gb, 1, none⟩ b).setCell ⟨gb, 2, none⟩ c).setCell ⟨gb, 3, none⟩ d').setCell ⟨gb, 4, none⟩ e).setCell ⟨gb, 5, none⟩ f).setCell ⟨gb, 6, none⟩ j).setCell ⟨gb, 7, none⟩ k) g t m d :=
  (((((((h.far (p := ⟨gb, 0, none⟩) hne a).far (p := ⟨gb, 1, none⟩) hne b).far (p := ⟨gb, 2, none⟩) hne c).far (p := ⟨gb, 3, none⟩) hne d').far (p := ⟨gb, 4, none⟩) hne e).far (p := ⟨gb, 5, none⟩) hne f).far (p := ⟨gb, 6, none⟩) hne j).far (p := ⟨gb, 7, none⟩) hne k
theorem PK.far8 {w0 w W : World} {g gb : Nat} {t : List S46} {m d : Int} (hI : IsP w0 W g t m d) (hB : Below w0.heap.size w0 W) (hK : KeepBut w W g none) (hne : g ≠ gb) (h0 : w0.heap.size ≤ gb) (h1 : w.heap.size ≤ gb) (a b c d' e f j k : Value) : PK w0 w ((((((((W.setCell ⟨gb, 0, none⟩ a).setCell ⟨gb, 1, none⟩ b).setCell ⟨gb, 2, none⟩ c).setCell ⟨gb, 3, none⟩ d').setCell ⟨gb, 4, none⟩ e).setCell ⟨gb, 5, none⟩ f).setCell ⟨gb, 6, none⟩ j).setCell ⟨gb, 7, none⟩ k) g t m d :=
  ⟨hI.far8 hne .., below_set (below_set (below_set (below_set (below_set (below_set (below_set (below_set hB h0) h0) h0) h0) h0) h0) h0) h0, keep_far (p := ⟨gb, 7, none⟩) (keep_far (p := ⟨gb, 6, none⟩) (keep_far (p := ⟨gb, 5, none⟩) (keep_far (p := ⟨gb, 4, none⟩) (keep_far (p := ⟨gb, 3, none⟩) (keep_far (p := ⟨gb, 2, none⟩) (keep_far (p := ⟨gb, 1, none⟩) (keep_far (p := ⟨gb, 0, none⟩) hK h1 a) h1 b) h1 c) h1 d') h1 e) h1 f) h1 j) h1 k⟩
set_option maxHeartbeats 8000000 in
set_option maxRecDepth 100000 in
theorem parser_dots.calls (g : Nat) (x : S46) (t : List S46) (m d : Int) (w0 w : World) (hI : IsP w0 w g (x :: t) m d) (hB0 : Below w0.heap.size w0 w) :
    Calls Tryz.prog 71 #[.pointer (some ⟨g, 0, none⟩)] w fun e' w' => e' = .returned (.tuple #[.agg #[.int .i64 3, .int .i64 0, .string ⟨#[]⟩, .string ⟨#[]⟩, .string ⟨#[]⟩, .bool false, .bool false, .slice none 0 0], .pointer none]) ∧ PK w0 w w' g t m d := by
  have HI := A_ hI
  have HB0 := A_ hB0
  have G0 := A_ (show w0.heap.size ≤ w.heap.size from hB0.size)
  clear hI hB0
  go_enter Tryz.func71, Tryz.ntmps71
  go_wp2_with (first | ((with_reducible refine gD 2 ?_); refine bxe_ 2 z8_ 27 ?_; intro gb hgb w2 hbox hb; have BK := A_ hbox; have NE := A_ (show g ≠ gb from by rw [hgb]; exact Nat.ne_of_lt HI.out.lt); have NE2 := A_ (Ne.symm NE.out); have ne1 := NE.out; have ne2 := NE2.out; have GE := A_ (show w.heap.size ≤ gb from by rw [hgb]; exact Nat.le_refl _); have HI2 := A_ (HI.out.below hb); have HB2 := A_ (below_step HB0.out hb); have HK2 := A_ (KeepBut.of_below hb g none); have GL := A_ (blk_lt BK.out); clear HI HB0 hb hbox hgb) | ((with_reducible refine gC 58 ?_); refine gL 5 Tryz.func58 #[.pointer (some ⟨g, 0, none⟩)] ?_; (with_reducible refine (parser_take.calls g x t m d w0 _ HI2.out HB2.out).mono ?_); rintro e3 w3 ⟨⟨v3, rfl⟩, hP⟩; refine ⟨_, rfl, ?_⟩; replace BK := A_ (hP.hK.blk BK.out NE2.out (by simp)); have Z := bz8_ BK; have HI3 := A_ hP.hI; have HB3 := A_ hP.hB; have HK3 := A_ (HK2.out.trans hP.hK (.inl rfl)); clear hP))
  refine bodyPost_ret (results_ct rfl _ _ gb 27 #[.int .i64 3, .int .i64 0, .string ⟨#[]⟩, .string ⟨#[]⟩, .string ⟨#[]⟩, .bool false, .bool false, .slice none 0 0] (0, 0) _ rfl (pb_ BK.out) Tryz.underlying27 rfl (by kernel_rfl)) rfl ?_
  exact ⟨rfl, PK.far8 HI3.out HB3.out HK3.out NE.out (Nat.le_trans G0.out GE.out) GE.out ..⟩
set_option maxHeartbeats 8000000 in
set_option maxRecDepth 100000 in
theorem parser_star.calls (g : Nat) (x : S46) (t : List S46) (m d : Int) (w0 w : World) (hI : IsP w0 w g (x :: t) m d) (hB0 : Below w0.heap.size w0 w) :
    Calls Tryz.prog 72 #[.pointer (some ⟨g, 0, none⟩)] w fun e' w' => e' = .returned (.tuple #[.agg #[.int .i64 4, .int .i64 0, .string ⟨#[]⟩, .string ⟨#[]⟩, .string ⟨#[]⟩, .bool false, .bool false, .slice none 0 0], .pointer none]) ∧ PK w0 w w' g t m d := by
  have HI := A_ hI
  have HB0 := A_ hB0
  have G0 := A_ (show w0.heap.size ≤ w.heap.size from hB0.size)
  clear hI hB0
  go_enter Tryz.func72, Tryz.ntmps72
  go_wp2_with (first | ((with_reducible refine gD 2 ?_); refine bxe_ 2 z8_ 27 ?_; intro gb hgb w2 hbox hb; have BK := A_ hbox; have NE := A_ (show g ≠ gb from by rw [hgb]; exact Nat.ne_of_lt HI.out.lt); have NE2 := A_ (Ne.symm NE.out); have ne1 := NE.out; have ne2 := NE2.out; have GE := A_ (show w.heap.size ≤ gb from by rw [hgb]; exact Nat.le_refl _); have HI2 := A_ (HI.out.below hb); have HB2 := A_ (below_step HB0.out hb); have HK2 := A_ (KeepBut.of_below hb g none); have GL := A_ (blk_lt BK.out); clear HI HB0 hb hbox hgb) | ((with_reducible refine gC 58 ?_); refine gL 5 Tryz.func58 #[.pointer (some ⟨g, 0, none⟩)] ?_; (with_reducible refine (parser_take.calls g x t m d w0 _ HI2.out HB2.out).mono ?_); rintro e3 w3 ⟨⟨v3, rfl⟩, hP⟩; refine ⟨_, rfl, ?_⟩; replace BK := A_ (hP.hK.blk BK.out NE2.out (by simp)); have Z := bz8_ BK; have HI3 := A_ hP.hI; have HB3 := A_ hP.hB; have HK3 := A_ (HK2.out.trans hP.hK (.inl rfl)); clear hP))
  refine bodyPost_ret (results_ct rfl _ _ gb 27 #[.int .i64 4, .int .i64 0, .string ⟨#[]⟩, .string ⟨#[]⟩, .string ⟨#[]⟩, .bool false, .bool false, .slice none 0 0] (0, 0) _ rfl (pb_ BK.out) Tryz.underlying27 rfl (by kernel_rfl)) rfl ?_
  exact ⟨rfl, PK.far8 HI3.out HB3.out HK3.out NE.out (Nat.le_trans G0.out GE.out) GE.out ..⟩
theorem pMarked_form : ∀ (t : List S46) (p : S24) (a b : Bool) (n : S27) (u : List S46), pMarked t p a b = some (n, u) → n = ⟨0, p, n.f2, n.f3, []⟩
  | [], p, a, b, n, u, h => by simp [pMarked] at h
  | x :: t, p, a, b, n, u, h => by
    rw [pMarked] at h
    repeat' split at h
    all_goals first | exact pMarked_form t _ _ _ _ _ h | (simp only [Option.some.injEq, Prod.mk.injEq] at h; obtain ⟨rfl, _⟩ := h; rfl)
set_option maxHeartbeats 8000000 in
set_option maxRecDepth 100000 in
theorem parser_marked.calls (g : Nat) (t t' : List S46) (p : S24) (a b : Bool) (n : S27) (m d : Int) (w0 w : World) (hI : IsP w0 w g t m d) (hB0 : Below w0.heap.size w0 w) (h : pMarked t p a b = some (n, t')) :
    Calls Tryz.prog 81 #[.pointer (some ⟨g, 0, none⟩), .agg #[.int .i64 0, .int .i64 p.f0, .string p.f1, .string p.f2, .string p.f3, .bool a, .bool b, .slice none 0 0]] w fun e' w' => e' = .returned (.agg #[.int .i64 0, .int .i64 p.f0, .string p.f1, .string p.f2, .string p.f3, .bool n.f2, .bool n.f3, .slice none 0 0]) ∧ PK w0 w w' g t' m d := by
  have HI := A_ hI
  have HB0 := A_ hB0
  have G0 := A_ (show w0.heap.size ≤ w.heap.size from hB0.size)
  have H' := A_ h
  clear hI hB0 h
  go_enter Tryz.func81, Tryz.ntmps81
  go_wp2_with (first | ((with_reducible refine gD 3 ?_); refine bxe_ 3 #[.int .i64 0, .int .i64 p.f0, .string p.f1, .string p.f2, .string p.f3, .bool a, .bool b, .slice none 0 0] 27 ?_; intro ga hga w2 hbox hb; have BA := A_ hbox; have NA := A_ (show g ≠ ga from by rw [hga]; exact Nat.ne_of_lt HI.out.lt); have GA := A_ (show w.heap.size ≤ ga from by rw [hga]; exact Nat.le_refl _); have HI2 := A_ (HI.out.below hb); have HB2 := A_ (below_step HB0.out hb); have HK2 := A_ (KeepBut.of_below hb g none); clear HI HB0 hb hbox hga) | ((with_reducible refine gD 4 ?_); refine bxe_ 4 z8_ 27 ?_; intro gb hgb w3 hbox hb; have BK := A_ hbox; have NE := A_ (show g ≠ gb from by rw [hgb]; exact Nat.ne_of_lt HI2.out.lt); have NAB := A_ (show ga ≠ gb from by rw [hgb]; exact Nat.ne_of_lt (blk_lt BA.out)); have GE := A_ (show w.heap.size ≤ gb from by rw [hgb]; exact HK2.out.1); have HI3 := A_ (HI2.out.below hb); have HB3 := A_ (below_step HB2.out hb); have HK3 := A_ (HK2.out.trans (KeepBut.of_below hb g none) (.inl rfl)); replace BA := A_ (blk_below BA.out hb); clear HI2 HB2 HK2 hb hbox hgb))
  (try simp only [Act.put, List.setIfInBounds_toArray, List.set_cons_zero, List.set_cons_succ])
  go_loopg [5] t.length (fun kq v5 w' => ∃ (t1 : List S46) (a1 b1 : Bool), Aside0 (t1.length = kq) ∧ Aside0 (pMarked t1 p a1 b1 = some (n, t')) ∧ Aside0 (w'.heap[ga]? = some (.cells #[.int .i64 0, .int .i64 p.f0, .string p.f1, .string p.f2, .string p.f3, .bool a1, .bool b1, .slice none 0 0] 27 (0, 0))) ∧ Aside0 (w'.heap[gb]? = some (.cells z8_ 27 (0, 0))) ∧ Aside0 (IsP w0 w' g t1 m d) ∧ Aside0 (Below w0.heap.size w0 w') ∧ Aside0 (KeepBut w w' g none))
  case atStart => exact ⟨t, a, b, ⟨rfl⟩, H', BA, BK, HI3, HB3, HK3⟩
  case round =>
    clear H' BA BK HI3 HB3 HK3
    obtain ⟨t1, a1, b1, HL, HA, BA, BK, HI, HB, HK⟩ := hrel
    have GA0 := A_ (Nat.le_trans G0.out GA.out)
    have GE0 := A_ (Nat.le_trans G0.out GE.out)
    have nab := NAB.out
    have nba := Ne.symm nab
    cases t1 with
    | nil => exact absurd HA.out (by simp [pMarked])
    | cons x u =>
      have H := HA.out
      clear HA
      rw [pMarked] at H
      by_cases c : x.f0 = 7
      · rw [if_pos c] at H
        have c7 : (x.f0 == 7) = true := beq_iff_eq.mpr c
        have c8 : (x.f0 == 8) = false := by rw [beq_eq_false_iff_ne, c]; decide
        clear c
        cases a1 with | false =>
          rw [if_pos rfl] at H
          have H' := A_ H
          clear H
          go_wp2_with (first | ((with_reducible refine gC 18 ?_); refine gL 7 Tryz.func18 #[.pointer (some ⟨g, 0, none⟩)] ?_; (with_reducible refine (parser_next.calls g x u m d w0 _ HI.out HB.out).mono ?_); rintro e1 w1 ⟨rfl, hb⟩; refine ⟨_, rfl, ?_⟩; replace HI := A_ (HI.out.below hb); replace HB := A_ (below_step HB.out hb); replace HK := A_ (HK.out.trans (KeepBut.of_below hb g none) (.inl rfl)); replace BA := A_ (blk_below BA.out hb); replace BK := A_ (blk_below BK.out hb); have ZA := bz8_ BA; have ZB := bz8_ BK; clear hb) | ((with_reducible refine gC 58 ?_); refine gL 29 Tryz.func58 #[.pointer (some ⟨g, 0, none⟩)] ?_; (with_reducible refine (parser_take.calls g x u m d w0 _ (HI.out.far (p := ⟨ga, 5, none⟩) NA.out _) (below_set HB.out GA0.out)).mono ?_); rintro e3 w3 ⟨⟨v3, rfl⟩, hP⟩; refine ⟨_, rfl, ?_⟩; replace BA := A_ (hP.hK.blk (blk_put BA.out 5 _ rfl) (Ne.symm NA.out) (by simp)); replace BK := A_ (hP.hK.blk (blk_far BK.out nba _) (Ne.symm NE.out) (by simp)); clear ZA ZB; replace HI := A_ hP.hI; replace HB := A_ hP.hB; replace HK := A_ ((keep_far (p := ⟨ga, 5, none⟩) HK.out GA.out _).trans hP.hK (.inl rfl)); clear hP))
          go_roundg u.length
          case measure => have := HL.out; simp at this; omega
          case rel => exact ⟨u, true, b1, ⟨rfl⟩, H', BA, BK, HI, HB, HK⟩ | true =>
          rw [if_neg (by simp)] at H
          obtain ⟨rfl, rfl⟩ := by simpa using H
          clear H
          go_wp2_with (first | ((with_reducible refine gC 18 ?_); refine gL 7 Tryz.func18 #[.pointer (some ⟨g, 0, none⟩)] ?_; (with_reducible refine (parser_next.calls g x u m d w0 _ HI.out HB.out).mono ?_); rintro e1 w1 ⟨rfl, hb⟩; refine ⟨_, rfl, ?_⟩; replace HI := A_ (HI.out.below hb); replace HB := A_ (below_step HB.out hb); replace HK := A_ (HK.out.trans (KeepBut.of_below hb g none) (.inl rfl)); replace BA := A_ (blk_below BA.out hb); replace BK := A_ (blk_below BK.out hb); have ZA := bz8_ BA; have ZB := bz8_ BK; clear hb))
          refine bodyPost_ret (results_cell_row rfl _ _ gb 27 #[.int .i64 0, .int .i64 p.f0, .string p.f1, .string p.f2, .string p.f3, .bool _, .bool _, .slice none 0 0] (0, 0) _ rfl (pb_ BK.out) Tryz.underlying27 rfl (by kernel_rfl)) rfl ?_; exact ⟨rfl, PK.far8 HI.out HB.out HK.out NE.out GE0.out GE.out ..⟩
      · rw [if_neg c] at H
        have c7 : (x.f0 == 7) = false := beq_eq_false_iff_ne.mpr c
        clear c
        by_cases c : x.f0 = 8
        · rw [if_pos c] at H
          have c8 : (x.f0 == 8) = true := beq_iff_eq.mpr c
          clear c
          cases b1 with | false =>
            rw [if_pos rfl] at H
            have H' := A_ H
            clear H
            go_wp2_with (first | ((with_reducible refine gC 18 ?_); refine gL 7 Tryz.func18 #[.pointer (some ⟨g, 0, none⟩)] ?_; (with_reducible refine (parser_next.calls g x u m d w0 _ HI.out HB.out).mono ?_); rintro e1 w1 ⟨rfl, hb⟩; refine ⟨_, rfl, ?_⟩; replace HI := A_ (HI.out.below hb); replace HB := A_ (below_step HB.out hb); replace HK := A_ (HK.out.trans (KeepBut.of_below hb g none) (.inl rfl)); replace BA := A_ (blk_below BA.out hb); replace BK := A_ (blk_below BK.out hb); have ZA := bz8_ BA; have ZB := bz8_ BK; clear hb) | ((with_reducible refine gC 58 ?_); refine gL 29 Tryz.func58 #[.pointer (some ⟨g, 0, none⟩)] ?_; (with_reducible refine (parser_take.calls g x u m d w0 _ (HI.out.far (p := ⟨ga, 6, none⟩) NA.out _) (below_set HB.out GA0.out)).mono ?_); rintro e3 w3 ⟨⟨v3, rfl⟩, hP⟩; refine ⟨_, rfl, ?_⟩; replace BA := A_ (hP.hK.blk (blk_put BA.out 6 _ rfl) (Ne.symm NA.out) (by simp)); replace BK := A_ (hP.hK.blk (blk_far BK.out nba _) (Ne.symm NE.out) (by simp)); clear ZA ZB; replace HI := A_ hP.hI; replace HB := A_ hP.hB; replace HK := A_ ((keep_far (p := ⟨ga, 6, none⟩) HK.out GA.out _).trans hP.hK (.inl rfl)); clear hP))
            go_roundg u.length
            case measure => have := HL.out; simp at this; omega
            case rel => exact ⟨u, a1, true, ⟨rfl⟩, H', BA, BK, HI, HB, HK⟩ | true =>
            rw [if_neg (by simp)] at H
            obtain ⟨rfl, rfl⟩ := by simpa using H
            clear H
            go_wp2_with (first | ((with_reducible refine gC 18 ?_); refine gL 7 Tryz.func18 #[.pointer (some ⟨g, 0, none⟩)] ?_; (with_reducible refine (parser_next.calls g x u m d w0 _ HI.out HB.out).mono ?_); rintro e1 w1 ⟨rfl, hb⟩; refine ⟨_, rfl, ?_⟩; replace HI := A_ (HI.out.below hb); replace HB := A_ (below_step HB.out hb); replace HK := A_ (HK.out.trans (KeepBut.of_below hb g none) (.inl rfl)); replace BA := A_ (blk_below BA.out hb); replace BK := A_ (blk_below BK.out hb); have ZA := bz8_ BA; have ZB := bz8_ BK; clear hb))
            refine bodyPost_ret (results_cell_row rfl _ _ gb 27 #[.int .i64 0, .int .i64 p.f0, .string p.f1, .string p.f2, .string p.f3, .bool _, .bool _, .slice none 0 0] (0, 0) _ rfl (pb_ BK.out) Tryz.underlying27 rfl (by kernel_rfl)) rfl ?_; exact ⟨rfl, PK.far8 HI.out HB.out HK.out NE.out GE0.out GE.out ..⟩
        · rw [if_neg c] at H
          have c8 : (x.f0 == 8) = false := beq_eq_false_iff_ne.mpr c
          clear c
          obtain ⟨rfl, rfl⟩ := by simpa using H
          clear H
          go_wp2_with (first | ((with_reducible refine gC 18 ?_); refine gL 7 Tryz.func18 #[.pointer (some ⟨g, 0, none⟩)] ?_; (with_reducible refine (parser_next.calls g x u m d w0 _ HI.out HB.out).mono ?_); rintro e1 w1 ⟨rfl, hb⟩; refine ⟨_, rfl, ?_⟩; replace HI := A_ (HI.out.below hb); replace HB := A_ (below_step HB.out hb); replace HK := A_ (HK.out.trans (KeepBut.of_below hb g none) (.inl rfl)); replace BA := A_ (blk_below BA.out hb); replace BK := A_ (blk_below BK.out hb); have ZA := bz8_ BA; have ZB := bz8_ BK; clear hb))
          refine bodyPost_ret (results_cell_row rfl _ _ gb 27 #[.int .i64 0, .int .i64 p.f0, .string p.f1, .string p.f2, .string p.f3, .bool _, .bool _, .slice none 0 0] (0, 0) _ rfl (pb_ BK.out) Tryz.underlying27 rfl (by kernel_rfl)) rfl ?_; exact ⟨rfl, PK.far8 HI.out HB.out HK.out NE.out GE0.out GE.out ..⟩
def NQ (w0 w : World) (g q : Nat) : Prop := g ≠ q ∧ w.heap.size ≤ q ∧ w0.heap.size ≤ q
section
variable {w0 w W W1 : World} {g q : Nat} {t t' : List S46} {m d m' d' : Int}
theorem PK.start (hI : IsP w0 w g t m d) (hB0 : Below w0.heap.size w0 w) : PK w0 w w g t m d := ⟨hI, hB0, KeepBut.refl _ _ _⟩
theorem PK.below (h : PK w0 w W g t m d) (hb : Below W.heap.size W W1) : PK w0 w W1 g t m d := ⟨h.hI.below hb, below_step h.hB hb, h.hK.trans (KeepBut.of_below hb g none) (.inl rfl)⟩
theorem PK.trans (h : PK w0 w W g t m d) (k : PK w0 W W1 g t' m' d') : PK w0 w W1 g t' m' d' := ⟨k.hI, k.hB, h.hK.trans k.hK (.inl rfl)⟩
theorem PK.new (h : PK w0 w W g t m d) (hq : q = W.heap.size) : NQ w0 w g q := ⟨by rw [hq]; exact Nat.ne_of_lt h.hI.lt, by rw [hq]; exact h.hK.1, by rw [hq]; exact h.hB.size⟩
theorem PK.far (h : PK w0 w W g t m d) (n : NQ w0 w g q) (j : Nat) (u : Value) : PK w0 w (W.setCell ⟨q, j, none⟩ u) g t m d := ⟨h.hI.far (p := ⟨q, j, none⟩) n.1 u, below_set h.hB n.2.2, keep_far (p := ⟨q, j, none⟩) h.hK n.2.1 u⟩
theorem PK.blk {o : Obj} (k : PK w0 w W g t m d) (hb : w.heap[q]? = some o) (n : NQ w0 W1 g q) : W.heap[q]? = some o := k.hK.blk hb (Ne.symm n.1) (by simp)
theorem PK.far4 (h : PK w0 w W g t m d) (n : NQ w0 w g q) (a b c e : Value) : PK w0 w ((((W.setCell ⟨q, 0, none⟩ a).setCell ⟨q, 1, none⟩ b).setCell ⟨q, 2, none⟩ c).setCell ⟨q, 3, none⟩ e) g t m d := (((h.far n 0 a).far n 1 b).far n 2 c).far n 3 e
theorem PK.all8 (h : PK w0 w W g t m d) (n : NQ w0 w g q) (a b c e f i j k : Value) : PK w0 w ((((((((W.setCell ⟨q, 0, none⟩ a).setCell ⟨q, 1, none⟩ b).setCell ⟨q, 2, none⟩ c).setCell ⟨q, 3, none⟩ e).setCell ⟨q, 4, none⟩ f).setCell ⟨q, 5, none⟩ i).setCell ⟨q, 6, none⟩ j).setCell ⟨q, 7, none⟩ k) g t m d :=
  (((((((h.far n 0 a).far n 1 b).far n 2 c).far n 3 e).far n 4 f).far n 5 i).far n 6 j).far n 7 k
end
theorem far4_ {W : World} {g q : Nat} {cs : Array Value} {T : TypeId} (h : W.heap[g]? = some (.cells cs T (0, 0))) (hne : g ≠ q) (a b c e : Value) : ((((W.setCell ⟨q, 0, none⟩ a).setCell ⟨q, 1, none⟩ b).setCell ⟨q, 2, none⟩ c).setCell ⟨q, 3, none⟩ e).heap[g]? = some (.cells cs T (0, 0)) :=
  blk_far (p := ⟨q, 3, none⟩) (blk_far (p := ⟨q, 2, none⟩) (blk_far (p := ⟨q, 1, none⟩) (blk_far (p := ⟨q, 0, none⟩) h hne a) hne b) hne c) hne e
theorem far8_ {W : World} {g q : Nat} {cs : Array Value} {T : TypeId} (h : W.heap[g]? = some (.cells cs T (0, 0))) (hne : g ≠ q) (a b c e f i j k : Value) : ((((((((W.setCell ⟨q, 0, none⟩ a).setCell ⟨q, 1, none⟩ b).setCell ⟨q, 2, none⟩ c).setCell ⟨q, 3, none⟩ e).setCell ⟨q, 4, none⟩ f).setCell ⟨q, 5, none⟩ i).setCell ⟨q, 6, none⟩ j).setCell ⟨q, 7, none⟩ k).heap[g]? = some (.cells cs T (0, 0)) :=
  blk_far (p := ⟨q, 7, none⟩) (blk_far (p := ⟨q, 6, none⟩) (blk_far (p := ⟨q, 5, none⟩) (blk_far (p := ⟨q, 4, none⟩) (far4_ h hne a b c e) hne f) hne i) hne j) hne k
theorem put4_ {W : World} {q : Nat} {x0 x1 x2 x3 : Value} {T : TypeId} (h : W.heap[q]? = some (.cells #[x0, x1, x2, x3] T (0, 0))) (a b c e : Value) : ((((W.setCell ⟨q, 0, none⟩ a).setCell ⟨q, 1, none⟩ b).setCell ⟨q, 2, none⟩ c).setCell ⟨q, 3, none⟩ e).heap[q]? = some (.cells #[a, b, c, e] T (0, 0)) :=
  blk_put (blk_put (blk_put (blk_put h 0 a rfl) 1 b rfl) 2 c rfl) 3 e rfl
theorem put8_ {W : World} {q : Nat} {x0 x1 x2 x3 x4 x5 x6 x7 : Value} {T : TypeId} (h : W.heap[q]? = some (.cells #[x0, x1, x2, x3, x4, x5, x6, x7] T (0, 0))) (a b c e f i j k : Value) : ((((((((W.setCell ⟨q, 0, none⟩ a).setCell ⟨q, 1, none⟩ b).setCell ⟨q, 2, none⟩ c).setCell ⟨q, 3, none⟩ e).setCell ⟨q, 4, none⟩ f).setCell ⟨q, 5, none⟩ i).setCell ⟨q, 6, none⟩ j).setCell ⟨q, 7, none⟩ k).heap[q]? = some (.cells #[a, b, c, e, f, i, j, k] T (0, 0)) :=
blk_put (cs := #[a, b, c, e, f, i, j, x7]) (blk_put (cs := #[a, b, c, e, f, i, x6, x7]) (blk_put (cs := #[a, b, c, e, f, x5, x6, x7]) (blk_put (cs := #[a, b, c, e, x4, x5, x6, x7]) (blk_put (cs := #[a, b, c, x3, x4, x5, x6, x7]) (blk_put (cs := #[a, b, x2, x3, x4, x5, x6, x7]) (blk_put (cs := #[a, x1, x2, x3, x4, x5, x6, x7]) (blk_put h 0 a rfl) 1 b rfl) 2 c rfl) 3 e rfl) 4 f rfl) 5 i rfl) 6 j rfl) 7 k rfl
theorem IsX.far {b q : Nat} {W : World} {v : Value} {x : Wr} (h : IsX b W v x) (hq : q < b) (j : Nat) (u : Value) : IsX b (W.setCell ⟨q, j, none⟩ u) v x := by
  cases x with
  | none => exact h
  | some y =>
    obtain ⟨i, e, hb, hi⟩ := h
    exact ⟨i, e, hb, blk_far (p := ⟨q, j, none⟩) hi (show i ≠ q by omega) u⟩
theorem IsX.lower {b b' : Nat} {W : World} {v : Value} {x : Wr} (h : IsX b W v x) (hb : b' ≤ b) : IsX b' W v x := by
  cases x with
  | none => exact h
  | some y =>
    obtain ⟨i, e, hb', hi⟩ := h
    exact ⟨i, e, Nat.le_trans hb hb', hi⟩
theorem IsX.all8 {b b' q : Nat} {W : World} {v : Value} {x : Wr} (h : IsX b W v x) (hq : q < b) (hb : b' ≤ b) (a a1 c e f i j k : Value) : IsX b' ((((((((W.setCell ⟨q, 0, none⟩ a).setCell ⟨q, 1, none⟩ a1).setCell ⟨q, 2, none⟩ c).setCell ⟨q, 3, none⟩ e).setCell ⟨q, 4, none⟩ f).setCell ⟨q, 5, none⟩ i).setCell ⟨q, 6, none⟩ j).setCell ⟨q, 7, none⟩ k) v x :=
  ((((((((h.far hq 0 a).far hq 1 a1).far hq 2 c).far hq 3 e).far hq 4 f).far hq 5 i).far hq 6 j).far hq 7 k).lower hb
set_option maxHeartbeats 8000000 in
set_option maxRecDepth 100000 in
theorem tree_Of.exact (p : S24) (w : World) :
  Calls Tryz.prog 82 #[.agg #[.int .i64 p.f0, .string p.f1, .string p.f2, .string p.f3], .bool false, .bool false] w fun e w' => e = .returned (.agg #[.int .i64 0, .int .i64 p.f0, .string p.f1, .string p.f2, .string p.f3, .bool false, .bool false, .slice none 0 0]) ∧ Below w.heap.size w w' := by
 have hu24 := Tryz.underlying24; have hu27 := Tryz.underlying27; have HB := A_ (Below.refl w.heap.size w); go_enter Tryz.func82, Tryz.ntmps82; go_wp2_with (first | (refine gx_ w 3 (n4_ p.f0 p.f1 p.f2 p.f3) 24 ?_; clear HB; intro gb160 w4 BK160 GE160 HB; have GW160 := GE160) | (refine gD 6 ?_; refine bxe_ 6 z8_ 27 ?_; intro gb161 hg w5 hbox hb; have BK161 := A_ (hbox); have GW161 := gs_ w hg; have GE161 := gs_ w hg; replace HB := bs_ hb; have NB160_161 := nl_ BK160 hg; have NB161_160 := ng_ BK160 hg; replace BK160 := bb_ BK160 hb; clear hb hbox hg; have hnb6 := NB160_161.out; have hnc6 := NB161_160.out; have Z7 := bz4_ BK160; have Z8 := bz8_ BK161))
 refine bodyPost_ret (results_cell_row rfl _ _ gb161 27 #[.int .i64 0, .int .i64 p.f0, .string p.f1, .string p.f2, .string p.f3, .bool false, .bool false, .slice none 0 0] (0, 0) _ rfl (pb_ BK161.out) Tryz.underlying27 rfl (by kernel_rfl)) rfl ?_; exact ⟨rfl, hs_⟩
set_option maxHeartbeats 8000000 in
set_option maxRecDepth 100000 in
theorem parser_word.calls (k : Nat) (g : Nat) (x : S46) (t : List S46) (m d : Int) (r : PR) (w0 w : World) (hI : IsP w0 w g (x :: t) m d) (hB0 : Below w0.heap.size w0 w) (h : pWord k x t m d = some r) :
    Calls Tryz.prog 70 #[.pointer (some ⟨g, 0, none⟩)] w fun e' w' => ∃ u, e' = .returned (.tuple #[.agg #[.int .i64 r.n.f0, .int .i64 r.n.f1.f0, .string r.n.f1.f1, .string r.n.f1.f2, .string r.n.f1.f3, .bool r.n.f2, .bool r.n.f3, .slice none 0 0], u]) ∧ IsX w.heap.size w' u r.x ∧ PK w0 w w' g r.t r.m r.d := by
  have HP := A_ (PK.start hI hB0)
  clear hI hB0
  obtain ⟨⟨p0, p1, p2, p3, ok⟩, hR, h2⟩ := Option.bind_eq_some_iff.mp h
  have HR := A_ hR
  clear hR h
  have h := h2
  clear h2
  cases ok with
  | false =>
    obtain rfl := Option.some.inj ((if_neg (by simp)).symm.trans h)
    clear h
    go_enter Tryz.func70, Tryz.ntmps70
    go_wp2_with (first | ((with_reducible refine gD 2 ?_); refine bxe_ 2 z8_ 27 ?_; intro gb hgb w2 hbox hb; have BK := A_ hbox; have NB := A_ (HP.out.new hgb); replace HP := A_ (HP.out.below hb); clear hb hbox hgb) | ((with_reducible refine gD 8 ?_); refine gL 8 Tryz.func18 #[.pointer (some ⟨g, 0, none⟩)] ?_; (with_reducible refine (parser_next.calls g x t m d w0 _ HP.out.hI HP.out.hB).mono ?_); rintro e1 w1 ⟨rfl, hb⟩; refine ⟨_, rfl, ?_⟩; replace HP := A_ (HP.out.below hb); replace BK := A_ (blk_below BK.out hb); clear hb) | ((with_reducible refine gD 10 ?_); refine gL 10 Tryz.func80 #[.string x.f2] ?_; (with_reducible refine (point_Read.calls k x.f2 p0 p1 p2 p3 false _ HR.out).mono ?_); rintro e1 w1 ⟨rfl, hb⟩; refine ⟨_, rfl, ?_⟩; replace HP := A_ (HP.out.below hb); replace BK := A_ (blk_below BK.out hb); clear hb) | ((with_reducible refine gD 4 ?_); refine bxe_ 4 z4_ 24 ?_; intro gp hgp w4 hbox hb; have BP := A_ hbox; have NP := A_ (HP.out.new hgp); have NBP := A_ (show gb ≠ gp from by rw [hgp]; exact Nat.ne_of_lt (blk_lt BK.out)); replace HP := A_ (HP.out.below hb); replace BK := A_ (blk_below BK.out hb); have Z := bz4_ BP; clear hb hbox hgp) | ((with_reducible refine gD 17 ?_); refine gL 17 Tryz.func19 #[.pointer (some ⟨g, 0, none⟩), .int .i64 2] ?_; clear Z; replace HP := A_ (HP.out.far4 NP.out (.int .i64 p0) (.string p1) (.string p2) (.string p3)); replace BK := A_ (far4_ BK.out NBP.out (.int .i64 p0) (.string p1) (.string p2) (.string p3)); (with_reducible refine (parser_not.calls g x t m d 2 w0 _ HP.out.hI HP.out.hB).mono ?_); rintro e1 w1 ⟨u1, rfl, hx, hb⟩; refine ⟨_, rfl, ?_⟩; have HX := A_ hx; have GB := A_ (blk_lt BK.out); have GW := A_ HP.out.hK.1; replace HP := A_ (HP.out.below hb); replace BK := A_ (blk_below BK.out hb); have Z := bz8_ BK; clear hx hb))
    refine bodyPost_ret (results_ct rfl _ _ gb 27 z8_ (0, 0) _ rfl (pb_ BK.out) Tryz.underlying27 rfl (by kernel_rfl)) rfl ?_
    exact ⟨_, rfl, HX.out.all8 GB.out GW.out .., HP.out.all8 NB.out ..⟩
  | true =>
    have h2 := (if_pos rfl).symm.trans h
    clear h
    obtain ⟨⟨n, t'⟩, hM, h3⟩ := Option.bind_eq_some_iff.mp h2
    clear h2
    obtain ⟨a', b', rfl⟩ : ∃ a' b', n = ⟨0, ⟨p0, p1, p2, p3⟩, a', b', []⟩ := ⟨_, _, pMarked_form _ _ _ _ _ _ hM⟩
    have HM := A_ hM
    clear hM
    obtain rfl := Option.some.inj h3
    clear h3
    go_enter Tryz.func70, Tryz.ntmps70
    go_wp2_with (first | ((with_reducible refine gD 2 ?_); refine bxe_ 2 z8_ 27 ?_; intro gb hgb w2 hbox hb; have BK := A_ hbox; have NB := A_ (HP.out.new hgb); replace HP := A_ (HP.out.below hb); clear hb hbox hgb) | ((with_reducible refine gD 8 ?_); refine gL 8 Tryz.func18 #[.pointer (some ⟨g, 0, none⟩)] ?_; (with_reducible refine (parser_next.calls g x t m d w0 _ HP.out.hI HP.out.hB).mono ?_); rintro e1 w1 ⟨rfl, hb⟩; refine ⟨_, rfl, ?_⟩; replace HP := A_ (HP.out.below hb); replace BK := A_ (blk_below BK.out hb); clear hb) | ((with_reducible refine gD 10 ?_); refine gL 10 Tryz.func80 #[.string x.f2] ?_; (with_reducible refine (point_Read.calls k x.f2 p0 p1 p2 p3 true _ HR.out).mono ?_); rintro e1 w1 ⟨rfl, hb⟩; refine ⟨_, rfl, ?_⟩; replace HP := A_ (HP.out.below hb); replace BK := A_ (blk_below BK.out hb); clear hb) | ((with_reducible refine gD 4 ?_); refine bxe_ 4 z4_ 24 ?_; intro gp hgp w4 hbox hb; have BP := A_ hbox; have NP := A_ (HP.out.new hgp); have NBP := A_ (show gb ≠ gp from by rw [hgp]; exact Nat.ne_of_lt (blk_lt BK.out)); replace HP := A_ (HP.out.below hb); replace BK := A_ (blk_below BK.out hb); have Z := bz4_ BP; clear hb hbox hgp) | ((with_reducible refine gC 58 ?_); refine gL 19 Tryz.func58 #[.pointer (some ⟨g, 0, none⟩)] ?_; clear Z; replace HP := A_ (HP.out.far4 NP.out (.int .i64 p0) (.string p1) (.string p2) (.string p3)); replace BK := A_ (far4_ BK.out NBP.out (.int .i64 p0) (.string p1) (.string p2) (.string p3)); replace BP := A_ (put4_ BP.out (.int .i64 p0) (.string p1) (.string p2) (.string p3)); (with_reducible refine (parser_take.calls g x t m d w0 _ HP.out.hI HP.out.hB).mono ?_); rintro e3 w3 ⟨⟨v3, rfl⟩, hP⟩; refine ⟨_, rfl, ?_⟩; replace BK := A_ (hP.blk BK.out NB.out); replace BP := A_ (hP.blk BP.out NP.out); replace HP := A_ (HP.out.trans hP); have Z := bz4_ BP; clear hP) | ((with_reducible refine gC 82 ?_); refine gL 22 Tryz.func82 #[.agg #[.int .i64 p0, .string p1, .string p2, .string p3], .bool false, .bool false] ?_; (with_reducible refine (tree_Of.exact ⟨p0, p1, p2, p3⟩ _).mono ?_); rintro e1 w1 ⟨rfl, hb⟩; refine ⟨_, rfl, ?_⟩; replace HP := A_ (HP.out.below hb); replace BK := A_ (blk_below BK.out hb); clear hb) | ((with_reducible refine gC 81 ?_); refine gL 23 Tryz.func81 #[.pointer (some ⟨g, 0, none⟩), .agg #[.int .i64 0, .int .i64 p0, .string p1, .string p2, .string p3, .bool false, .bool false, .slice none 0 0]] ?_; (with_reducible refine (parser_marked.calls g t t' ⟨p0, p1, p2, p3⟩ false false _ m d w0 _ HP.out.hI HP.out.hB HM.out).mono ?_); rintro e1 w1 ⟨rfl, hP⟩; refine ⟨_, rfl, ?_⟩; replace BK := A_ (hP.blk BK.out NB.out); replace HP := A_ (HP.out.trans hP); clear Z; have Z := bz8_ BK; clear hP))
    refine bodyPost_ret (results_ct rfl _ _ gb 27 #[.int .i64 0, .int .i64 p0, .string p1, .string p2, .string p3, .bool a', .bool b', .slice none 0 0] (0, 0) _ rfl (pb_ BK.out) Tryz.underlying27 rfl (by kernel_rfl)) rfl ?_
    exact ⟨_, rfl, rfl, HP.out.all8 NB.out ..⟩
section
variable {P : Program} {ops : Array Oper} {Q : Exit → Act → World → Prop}
theorem gV {rest : List Oper} {o : Oper} {a : Act} {W : World} (N : Tmp) {f : FuncId} {fn : Func} {aa_ : Array Operand} {ts : Array TypeId} {t : Tmp} (pre : Array Value) (hf : P.funcs[f]? = some fn) (args : Array Value)
    (h : Calls P f args W fun e w' => ∃ v, e = .returned v ∧ wpList P ops Q rest (a.put (some N) v) w')
    (hd : o.dst = some N := by rfl) (hg : o.guard = none := by rfl) (hname : (fn.name == "runtime.NumGoroutine") = false := by kernel_rfl) (hb : fn.body.isSome = true := by rfl)
    (hop : o.op = .call { callee := .value (.tmp t), args := aa_, argTypes := ts } := by rfl) (hv : a.eval (.tmp t) = .func (.func f) pre #[] := by rfl) (hargs : pre ++ aa_.map a.eval = args := by (simp only [List.map_toArray, List.map_cons, List.map_nil, List.append_toArray, List.cons_append, List.nil_append, List.append_nil]); try rfl) : wpList P ops Q (o :: rest) a W := by
  refine wpList_plain hg fun K hK => ?_
  have he := enters_ hf hname hb args W
  have hrun : (execOp a.eval o).run P W = .ok (.enter f args) W := by
    unfold execOp
    simp [hop, resolve, Deferred.ofValue, invoke, hv, hargs, he]
  unfold Oper.wp
  rw [hrun, Oper.upon_enter]
  refine h.mono fun e w'' hh => ?_
  obtain ⟨v, rfl, hk⟩ := hh
  show K (a.put o.dst v) w''
  rw [hd]
  exact hK _ _ hk
end
set_option maxHeartbeats 8000000 in
set_option maxRecDepth 100000 in
theorem parser_end.calls (k : Nat) (g : Nat) (t : List S46) (m d : Int) (r : PR) (w0 w : World) (hI : IsP w0 w g t m d) (hB0 : Below w0.heap.size w0 w) (h : pEnd k m d t = some r) :
    Calls Tryz.prog 56 #[.pointer (some ⟨g, 0, none⟩)] w fun e' w' => ∃ u, e' = .returned (.tuple #[.agg #[.int .i64 r.n.f0, .int .i64 r.n.f1.f0, .string r.n.f1.f1, .string r.n.f1.f2, .string r.n.f1.f3, .bool r.n.f2, .bool r.n.f3, .slice none 0 0], u]) ∧ IsX w.heap.size w' u r.x ∧ PK w0 w w' g r.t r.m r.d := by
  have HP := A_ (PK.start hI hB0)
  clear hI hB0
  cases t with
  | nil => cases h
  | cons x t =>
    rw [pEnd] at h
    by_cases c0 : x.f0 = 0
    · rw [if_pos c0] at h
      have k0 : (x.f0 == 0) = true := beq_iff_eq.mpr c0
      clear c0
      by_cases cm : m = 64
      · rw [if_pos cm] at h
        have HM := A_ cm
        clear cm
        obtain rfl := Option.some.inj h
        clear h
        go_enter Tryz.func56, Tryz.ntmps56; go_wp2_with (first | ((with_reducible refine gD 2 ?_); refine bxe_ 2 z8_ 27 ?_; intro gb hgb w2 hbox hb; have BK := A_ hbox; have NB := A_ (HP.out.new hgb); replace HP := A_ (HP.out.below hb); clear hb hbox hgb) | ((with_reducible refine gD 7 ?_); refine gL 7 Tryz.func18 #[.pointer (some ⟨g, 0, none⟩)] ?_; (with_reducible refine (parser_next.calls g x t m d w0 _ HP.out.hI HP.out.hB).mono ?_); rintro e1 w1 ⟨rfl, hb⟩; refine ⟨_, rfl, ?_⟩; replace HP := A_ (HP.out.below hb); replace BK := A_ (blk_below BK.out hb); clear hb) | ((with_reducible refine gD 25 ?_); refine gL 25 Tryz.func57 #[.pointer (some ⟨g, 0, none⟩)] ?_; (with_reducible refine (parser_begin.many g x t m d w0 _ HM.out HP.out.hI HP.out.hB).mono ?_); rintro e1 w1 ⟨u1, rfl, hx, hP⟩; refine ⟨_, rfl, ?_⟩; have HX := A_ hx; have GB := A_ (blk_lt BK.out); have GW := A_ HP.out.hK.1; replace BK := A_ (hP.blk BK.out NB.out); replace HP := A_ (HP.out.trans hP); have Z := bz8_ BK; obtain ⟨q1, rfl, hq1⟩ := HX.out; clear hx hP hq1)); refine bodyPost_ret (results_ct rfl _ _ gb 27 z8_ (0, 0) _ rfl (pb_ BK.out) Tryz.underlying27 rfl (by kernel_rfl)) rfl ?_; exact ⟨_, rfl, HX.out.all8 GB.out GW.out .., HP.out.all8 NB.out ..⟩
      · rw [if_neg cm] at h
        have HM := A_ cm
        have HW := A_ h
        clear cm h
        go_enter Tryz.func56, Tryz.ntmps56
        go_wp2_with (first | ((with_reducible refine gD 2 ?_); refine bxe_ 2 z8_ 27 ?_; intro gb hgb w2 hbox hb; have BK := A_ hbox; have NB := A_ (HP.out.new hgb); replace HP := A_ (HP.out.below hb); clear hb hbox hgb) | ((with_reducible refine gD 7 ?_); refine gL 7 Tryz.func18 #[.pointer (some ⟨g, 0, none⟩)] ?_; (with_reducible refine (parser_next.calls g x t m d w0 _ HP.out.hI HP.out.hB).mono ?_); rintro e1 w1 ⟨rfl, hb⟩; refine ⟨_, rfl, ?_⟩; replace HP := A_ (HP.out.below hb); replace BK := A_ (blk_below BK.out hb); clear hb) | ((with_reducible refine gD 25 ?_); refine gL 25 Tryz.func57 #[.pointer (some ⟨g, 0, none⟩)] ?_; (with_reducible refine (parser_begin.one g (x :: t) m d w0 _ HM.out HP.out.hI HP.out.hB).mono ?_); rintro e1 w1 ⟨rfl, hP⟩; refine ⟨_, rfl, ?_⟩; replace BK := A_ (hP.blk BK.out NB.out); replace HP := A_ (HP.out.trans hP); have Z := bz8_ BK; clear hP) | ((with_reducible refine gD 31 ?_); refine gV 31 #[.pointer (some ⟨g, 0, none⟩)] Tryz.func70 #[.pointer (some ⟨g, 0, none⟩)] ?_; (with_reducible refine (parser_word.calls k g x t (wrap64 (m + 1)) d r w0 _ HP.out.hI HP.out.hB HW.out).mono ?_); rintro e1 w1 ⟨u1, rfl, hx, hP⟩; refine ⟨_, rfl, ?_⟩; have HX := A_ hx; have GB := A_ (blk_lt BK.out); have GW := A_ HP.out.hK.1; replace BK := A_ (hP.blk BK.out NB.out); replace HP := A_ (HP.out.trans hP); clear Z; have Z := bz8_ BK; clear hx hP))
        refine bodyPost_ret (results_ct rfl _ _ gb 27 #[.int .i64 r.n.f0, .int .i64 r.n.f1.f0, .string r.n.f1.f1, .string r.n.f1.f2, .string r.n.f1.f3, .bool r.n.f2, .bool r.n.f3, .slice none 0 0] (0, 0) _ rfl (pb_ BK.out) Tryz.underlying27 rfl (by kernel_rfl)) rfl ?_; exact ⟨_, rfl, HX.out.all8 GB.out GW.out .., HP.out.all8 NB.out ..⟩
    rw [if_neg c0] at h
    have k0 : (x.f0 == 0) = false := beq_eq_false_iff_ne.mpr c0
    clear c0
    by_cases c0 : x.f0 = 2
    · rw [if_pos c0] at h
      have k2 : (x.f0 == 2) = true := beq_iff_eq.mpr c0
      clear c0
      by_cases cm : m = 64
      · rw [if_pos cm] at h
        have HM := A_ cm
        clear cm
        obtain rfl := Option.some.inj h
        clear h
        go_enter Tryz.func56, Tryz.ntmps56; go_wp2_with (first | ((with_reducible refine gD 2 ?_); refine bxe_ 2 z8_ 27 ?_; intro gb hgb w2 hbox hb; have BK := A_ hbox; have NB := A_ (HP.out.new hgb); replace HP := A_ (HP.out.below hb); clear hb hbox hgb) | ((with_reducible refine gD 7 ?_); refine gL 7 Tryz.func18 #[.pointer (some ⟨g, 0, none⟩)] ?_; (with_reducible refine (parser_next.calls g x t m d w0 _ HP.out.hI HP.out.hB).mono ?_); rintro e1 w1 ⟨rfl, hb⟩; refine ⟨_, rfl, ?_⟩; replace HP := A_ (HP.out.below hb); replace BK := A_ (blk_below BK.out hb); clear hb) | ((with_reducible refine gD 25 ?_); refine gL 25 Tryz.func57 #[.pointer (some ⟨g, 0, none⟩)] ?_; (with_reducible refine (parser_begin.many g x t m d w0 _ HM.out HP.out.hI HP.out.hB).mono ?_); rintro e1 w1 ⟨u1, rfl, hx, hP⟩; refine ⟨_, rfl, ?_⟩; have HX := A_ hx; have GB := A_ (blk_lt BK.out); have GW := A_ HP.out.hK.1; replace BK := A_ (hP.blk BK.out NB.out); replace HP := A_ (HP.out.trans hP); have Z := bz8_ BK; obtain ⟨q1, rfl, hq1⟩ := HX.out; clear hx hP hq1)); refine bodyPost_ret (results_ct rfl _ _ gb 27 z8_ (0, 0) _ rfl (pb_ BK.out) Tryz.underlying27 rfl (by kernel_rfl)) rfl ?_; exact ⟨_, rfl, HX.out.all8 GB.out GW.out .., HP.out.all8 NB.out ..⟩
      · rw [if_neg cm] at h
        have HM := A_ cm
        clear cm
        obtain rfl := Option.some.inj h
        clear h
        go_enter Tryz.func56, Tryz.ntmps56
        go_wp2_with (first | ((with_reducible refine gD 2 ?_); refine bxe_ 2 z8_ 27 ?_; intro gb hgb w2 hbox hb; have BK := A_ hbox; have NB := A_ (HP.out.new hgb); replace HP := A_ (HP.out.below hb); clear hb hbox hgb) | ((with_reducible refine gD 7 ?_); refine gL 7 Tryz.func18 #[.pointer (some ⟨g, 0, none⟩)] ?_; (with_reducible refine (parser_next.calls g x t m d w0 _ HP.out.hI HP.out.hB).mono ?_); rintro e1 w1 ⟨rfl, hb⟩; refine ⟨_, rfl, ?_⟩; replace HP := A_ (HP.out.below hb); replace BK := A_ (blk_below BK.out hb); clear hb) | ((with_reducible refine gD 25 ?_); refine gL 25 Tryz.func57 #[.pointer (some ⟨g, 0, none⟩)] ?_; (with_reducible refine (parser_begin.one g (x :: t) m d w0 _ HM.out HP.out.hI HP.out.hB).mono ?_); rintro e1 w1 ⟨rfl, hP⟩; refine ⟨_, rfl, ?_⟩; replace BK := A_ (hP.blk BK.out NB.out); replace HP := A_ (HP.out.trans hP); have Z := bz8_ BK; clear hP) | ((with_reducible refine gD 31 ?_); refine gV 31 #[.pointer (some ⟨g, 0, none⟩)] Tryz.func71 #[.pointer (some ⟨g, 0, none⟩)] ?_; (with_reducible refine (parser_dots.calls g x t (wrap64 (m + 1)) d w0 _ HP.out.hI HP.out.hB).mono ?_); rintro e1 w1 ⟨rfl, hP⟩; refine ⟨_, rfl, ?_⟩; replace BK := A_ (hP.blk BK.out NB.out); replace HP := A_ (HP.out.trans hP); clear Z; have Z := bz8_ BK; clear hP))
        refine bodyPost_ret (results_ct rfl _ _ gb 27 #[.int .i64 3, .int .i64 0, .string ⟨#[]⟩, .string ⟨#[]⟩, .string ⟨#[]⟩, .bool false, .bool false, .slice none 0 0] (0, 0) _ rfl (pb_ BK.out) Tryz.underlying27 rfl (by kernel_rfl)) rfl ?_; exact ⟨_, rfl, rfl, HP.out.all8 NB.out ..⟩
    rw [if_neg c0] at h
    have k2 : (x.f0 == 2) = false := beq_eq_false_iff_ne.mpr c0
    clear c0
    by_cases c0 : x.f0 = 3
    · rw [if_pos c0] at h
      have k3 : (x.f0 == 3) = true := beq_iff_eq.mpr c0
      clear c0
      by_cases cm : m = 64
      · rw [if_pos cm] at h
        have HM := A_ cm
        clear cm
        obtain rfl := Option.some.inj h
        clear h
        go_enter Tryz.func56, Tryz.ntmps56; go_wp2_with (first | ((with_reducible refine gD 2 ?_); refine bxe_ 2 z8_ 27 ?_; intro gb hgb w2 hbox hb; have BK := A_ hbox; have NB := A_ (HP.out.new hgb); replace HP := A_ (HP.out.below hb); clear hb hbox hgb) | ((with_reducible refine gD 7 ?_); refine gL 7 Tryz.func18 #[.pointer (some ⟨g, 0, none⟩)] ?_; (with_reducible refine (parser_next.calls g x t m d w0 _ HP.out.hI HP.out.hB).mono ?_); rintro e1 w1 ⟨rfl, hb⟩; refine ⟨_, rfl, ?_⟩; replace HP := A_ (HP.out.below hb); replace BK := A_ (blk_below BK.out hb); clear hb) | ((with_reducible refine gD 25 ?_); refine gL 25 Tryz.func57 #[.pointer (some ⟨g, 0, none⟩)] ?_; (with_reducible refine (parser_begin.many g x t m d w0 _ HM.out HP.out.hI HP.out.hB).mono ?_); rintro e1 w1 ⟨u1, rfl, hx, hP⟩; refine ⟨_, rfl, ?_⟩; have HX := A_ hx; have GB := A_ (blk_lt BK.out); have GW := A_ HP.out.hK.1; replace BK := A_ (hP.blk BK.out NB.out); replace HP := A_ (HP.out.trans hP); have Z := bz8_ BK; obtain ⟨q1, rfl, hq1⟩ := HX.out; clear hx hP hq1)); refine bodyPost_ret (results_ct rfl _ _ gb 27 z8_ (0, 0) _ rfl (pb_ BK.out) Tryz.underlying27 rfl (by kernel_rfl)) rfl ?_; exact ⟨_, rfl, HX.out.all8 GB.out GW.out .., HP.out.all8 NB.out ..⟩
      · rw [if_neg cm] at h
        have HM := A_ cm
        clear cm
        obtain rfl := Option.some.inj h
        clear h
        go_enter Tryz.func56, Tryz.ntmps56
        go_wp2_with (first | ((with_reducible refine gD 2 ?_); refine bxe_ 2 z8_ 27 ?_; intro gb hgb w2 hbox hb; have BK := A_ hbox; have NB := A_ (HP.out.new hgb); replace HP := A_ (HP.out.below hb); clear hb hbox hgb) | ((with_reducible refine gD 7 ?_); refine gL 7 Tryz.func18 #[.pointer (some ⟨g, 0, none⟩)] ?_; (with_reducible refine (parser_next.calls g x t m d w0 _ HP.out.hI HP.out.hB).mono ?_); rintro e1 w1 ⟨rfl, hb⟩; refine ⟨_, rfl, ?_⟩; replace HP := A_ (HP.out.below hb); replace BK := A_ (blk_below BK.out hb); clear hb) | ((with_reducible refine gD 25 ?_); refine gL 25 Tryz.func57 #[.pointer (some ⟨g, 0, none⟩)] ?_; (with_reducible refine (parser_begin.one g (x :: t) m d w0 _ HM.out HP.out.hI HP.out.hB).mono ?_); rintro e1 w1 ⟨rfl, hP⟩; refine ⟨_, rfl, ?_⟩; replace BK := A_ (hP.blk BK.out NB.out); replace HP := A_ (HP.out.trans hP); have Z := bz8_ BK; clear hP) | ((with_reducible refine gD 31 ?_); refine gV 31 #[.pointer (some ⟨g, 0, none⟩)] Tryz.func72 #[.pointer (some ⟨g, 0, none⟩)] ?_; (with_reducible refine (parser_star.calls g x t (wrap64 (m + 1)) d w0 _ HP.out.hI HP.out.hB).mono ?_); rintro e1 w1 ⟨rfl, hP⟩; refine ⟨_, rfl, ?_⟩; replace BK := A_ (hP.blk BK.out NB.out); replace HP := A_ (HP.out.trans hP); clear Z; have Z := bz8_ BK; clear hP))
        refine bodyPost_ret (results_ct rfl _ _ gb 27 #[.int .i64 4, .int .i64 0, .string ⟨#[]⟩, .string ⟨#[]⟩, .string ⟨#[]⟩, .bool false, .bool false, .slice none 0 0] (0, 0) _ rfl (pb_ BK.out) Tryz.underlying27 rfl (by kernel_rfl)) rfl ?_; exact ⟨_, rfl, rfl, HP.out.all8 NB.out ..⟩
    rw [if_neg c0] at h
    have k3 : (x.f0 == 3) = false := beq_eq_false_iff_ne.mpr c0
    clear c0
    obtain rfl := Option.some.inj h
    clear h
    go_enter Tryz.func56, Tryz.ntmps56
    go_wp2_with (first | ((with_reducible refine gD 2 ?_); refine bxe_ 2 z8_ 27 ?_; intro gb hgb w2 hbox hb; have BK := A_ hbox; have NB := A_ (HP.out.new hgb); replace HP := A_ (HP.out.below hb); clear hb hbox hgb) | ((with_reducible refine gD 7 ?_); refine gL 7 Tryz.func18 #[.pointer (some ⟨g, 0, none⟩)] ?_; (with_reducible refine (parser_next.calls g x t m d w0 _ HP.out.hI HP.out.hB).mono ?_); rintro e1 w1 ⟨rfl, hb⟩; refine ⟨_, rfl, ?_⟩; replace HP := A_ (HP.out.below hb); replace BK := A_ (blk_below BK.out hb); clear hb) | ((with_reducible refine gD 11 ?_); refine gL 11 Tryz.func19 #[.pointer (some ⟨g, 0, none⟩), .int .i64 3] ?_; (with_reducible refine (parser_not.calls g x t m d 3 w0 _ HP.out.hI HP.out.hB).mono ?_); rintro e1 w1 ⟨u1, rfl, hx, hb⟩; refine ⟨_, rfl, ?_⟩; have HX := A_ hx; have GB := A_ (blk_lt BK.out); have GW := A_ HP.out.hK.1; replace HP := A_ (HP.out.below hb); replace BK := A_ (blk_below BK.out hb); have Z := bz8_ BK; clear hx hb))
    refine bodyPost_ret (results_ct rfl _ _ gb 27 z8_ (0, 0) _ rfl (pb_ BK.out) Tryz.underlying27 rfl (by kernel_rfl)) rfl ?_; exact ⟨_, rfl, HX.out.all8 GB.out GW.out .., HP.out.all8 NB.out ..⟩
end Go.Proofs.YtjgjhekpiijniaaGreat.A
namespace Go.Proofs.YtjgjhekpiijniaaGreat.A
open Go.RowKit Go.Proofs.YtjgjhekpiijniaaGreatW.PrintWords Go.Proofs.YtjgjhekpiijniaaGreatW.PrintLast Go.Proofs.YtjgjhekpiijniaaGreatW.PrintMore
attribute [local go_sem] isSome_setCell fld46_0 fld46_1 fld46_2
theorem pWord_nil {k : Nat} {x : S46} {t : List S46} {m d : Int} {r : PR} (h : pWord k x t m d = some r) : r.n.f4 = [] := by
  obtain ⟨p, _, h2⟩ := Option.bind_eq_some_iff.mp h
  split at h2
  · obtain ⟨q, hq, h3⟩ := Option.bind_eq_some_iff.mp h2
    obtain rfl := Option.some.inj h3
    show q.1.f4 = []
    rw [pMarked_form _ _ _ _ q.1 q.2 hq]
  · obtain rfl := Option.some.inj h2
    rfl
theorem pEnd_nil {k : Nat} {t : List S46} {m d : Int} {r : PR} (h : pEnd k m d t = some r) : r.n.f4 = [] := by
  cases t with
  | nil => cases h
  | cons x t =>
    rw [pEnd] at h
    repeat' split at h
    all_goals first | exact pWord_nil h | (obtain rfl := Option.some.inj h; rfl)
theorem node_eta (n : S27) (h : n.f4 = []) : (⟨n.f0, ⟨n.f1.f0, n.f1.f1, n.f1.f2, n.f1.f3⟩, n.f2, n.f3, []⟩ : S27) = n := by
  cases n with
  | mk a b c e l =>
    obtain rfl : l = [] := h
    rfl
theorem tree_Between.nil (x y : S27) (hx : x.f4 = []) (hy : y.f4 = []) (w : World) :
    Calls Tryz.prog 59 #[.agg #[.int .i64 x.f0, .int .i64 x.f1.f0, .string x.f1.f1, .string x.f1.f2, .string x.f1.f3, .bool x.f2, .bool x.f3, .slice none 0 0], .agg #[.int .i64 y.f0, .int .i64 y.f1.f0, .string y.f1.f1, .string y.f1.f2, .string y.f1.f3, .bool y.f2, .bool y.f3, .slice none 0 0]] w fun e w' => ∃ v, e = .returned (.agg #[.int .i64 1, .int .i64 0, .string ⟨#[]⟩, .string ⟨#[]⟩, .string ⟨#[]⟩, .bool false, .bool false, v]) ∧ Kd.V k27 27 w' w.heap.size (fun q => w.heap.size ≤ q) v [x, y] ∧ Below w.heap.size w w' := by
  have h := tree_Between.calls x.f0 x.f1.f0 x.f1.f1 x.f1.f2 x.f1.f3 x.f2 x.f3 (fun _ => False) none 0 [] y.f0 y.f1.f0 y.f1.f1 y.f1.f2 y.f1.f3 y.f2 y.f3 (fun _ => False) none 0 [] _ _ _ _ _ _ _ _ w (Kd.V_nil _ _ _ _ _) (Kd.V_nil _ _ _ _ _) rfl
  refine Calls.mono h ?_
  rintro e w' ⟨v, rfl, hN, hb⟩
  refine ⟨v, rfl, ?_, hb⟩
  rw [node_eta x hx, node_eta y hy] at hN
  exact Kd.N_V (Kd.N_mono hN (fun q hq => hq.elim (fun h => h.elim (fun h => h.elim) (fun h => h.elim)) id))
theorem IsX.below {b : Nat} {W W1 : World} {v : Value} {x : Wr} (h : IsX b W v x) (hb : Below W.heap.size W W1) : IsX b W1 v x := by
  cases x with
  | none => exact h
  | some y =>
    obtain ⟨i, e, hi, hh⟩ := h
    exact ⟨i, e, hi, blk_below hh hb⟩
theorem IsX.new8 {b gc : Nat} {W W4 : World} {v : Value} {x : Wr} (h : IsX b W v x) (hg : gc = W.heap.size) (hb : Below W.heap.size W W4) (a a1 c e f i j k : Value) : IsX b ((((((((W4.setCell ⟨gc, 0, none⟩ a).setCell ⟨gc, 1, none⟩ a1).setCell ⟨gc, 2, none⟩ c).setCell ⟨gc, 3, none⟩ e).setCell ⟨gc, 4, none⟩ f).setCell ⟨gc, 5, none⟩ i).setCell ⟨gc, 6, none⟩ j).setCell ⟨gc, 7, none⟩ k) v x := by
  cases x with
  | none =>
    have h' : v = .pointer none := h
    show v = .pointer none
    exact h'
  | some y =>
    obtain ⟨q, ev, hq, hh⟩ := h
    have hne : q ≠ gc := by rw [hg]; exact Nat.ne_of_lt (blk_lt hh)
    have h8 := far8_ (blk_below hh hb) hne a a1 c e f i j k
    exact ⟨q, ev, hq, h8⟩
theorem V_all8 {W : World} {b q : Nat} {ok : Nat → Prop} {v : Value} {l : List S27} (h : Kd.V k27 27 W b ok v l) (hok : ∀ k, ok k → k ≠ q) (a a1 c e f i j k : Value) : Kd.V k27 27 ((((((((W.setCell ⟨q, 0, none⟩ a).setCell ⟨q, 1, none⟩ a1).setCell ⟨q, 2, none⟩ c).setCell ⟨q, 3, none⟩ e).setCell ⟨q, 4, none⟩ f).setCell ⟨q, 5, none⟩ i).setCell ⟨q, 6, none⟩ j).setCell ⟨q, 7, none⟩ k) b ok v l :=
  Kd.V_far (p := ⟨q, 7, none⟩) (Kd.V_far (p := ⟨q, 6, none⟩) (Kd.V_far (p := ⟨q, 5, none⟩) (Kd.V_far (p := ⟨q, 4, none⟩) (Kd.V_far (p := ⟨q, 3, none⟩) (Kd.V_far (p := ⟨q, 2, none⟩) (Kd.V_far (p := ⟨q, 1, none⟩) (Kd.V_far (p := ⟨q, 0, none⟩) h hok a) hok a1) hok c) hok e) hok f) hok i) hok j) hok k
theorem C8_ {w : World} {g : Nat} {t : TypeId} {v0 v1 v2 v3 v4 v5 v6 v7 : Value} (h : w.heap[g]? = some (.cells #[v0, v1, v2, v3, v4, v5, v6, v7] t (0, 0))) : w.cell? ⟨g, 0, none⟩ = some v0 ∧ w.cell? ⟨g, 1, none⟩ = some v1 ∧ w.cell? ⟨g, 2, none⟩ = some v2 ∧ w.cell? ⟨g, 3, none⟩ = some v3 ∧ w.cell? ⟨g, 4, none⟩ = some v4 ∧ w.cell? ⟨g, 5, none⟩ = some v5 ∧ w.cell? ⟨g, 6, none⟩ = some v6 ∧ w.cell? ⟨g, 7, none⟩ = some v7 :=
  ⟨(blk_cell h 0).trans rfl, (blk_cell h 1).trans rfl, (blk_cell h 2).trans rfl, (blk_cell h 3).trans rfl, (blk_cell h 4).trans rfl, (blk_cell h 5).trans rfl, (blk_cell h 6).trans rfl, (blk_cell h 7).trans rfl⟩
theorem PK.drew {w0 w W : World} {g : Nat} {t : List S46} {m d : Int} (h : PK w0 w W g t m d) : PK w0 w W.drew g t m d := ⟨h.hI.drew, below_drew h.hB, keep_drew h.hK⟩
set_option maxHeartbeats 8000000 in
set_option maxRecDepth 100000 in
theorem parser_span.calls (k : Nat) (g : Nat) (t : List S46) (m d : Int) (r : PR) (w0 w : World) (hI : IsP w0 w g t m d) (hB0 : Below w0.heap.size w0 w) (h : pSpan k m d t = some r) :
    Calls Tryz.prog 38 #[.pointer (some ⟨g, 0, none⟩)] w fun e' w' => ∃ v u, e' = .returned (.tuple #[.agg #[.int .i64 r.n.f0, .int .i64 r.n.f1.f0, .string r.n.f1.f1, .string r.n.f1.f2, .string r.n.f1.f3, .bool r.n.f2, .bool r.n.f3, v], u]) ∧ Kd.V k27 27 w' w.heap.size (fun q => w.heap.size ≤ q) v r.n.f4 ∧ IsX w.heap.size w' u r.x ∧ PK w0 w w' g r.t r.m r.d := by
  have HP := A_ (PK.start hI hB0)
  clear hI hB0
  obtain ⟨⟨n1, x1, t1, m1, d1⟩, h1, h2⟩ := Option.bind_eq_some_iff.mp h
  clear h
  have HN1 := A_ (pEnd_nil h1)
  have H1 := A_ h1
  clear h1
  cases x1 with
  | some y =>
    obtain rfl := Option.some.inj h2
    clear h2
    go_enter Tryz.func38, Tryz.ntmps38
    go_wp2_with (first | ((with_reducible refine gD 2 ?_); refine bxe_ 2 z8_ 27 ?_; intro gb hgb w2 hbox hb; have BK := A_ hbox; have NB := A_ (HP.out.new hgb); replace HP := A_ (HP.out.below hb); clear hb hbox hgb) | ((with_reducible refine gD 10 ?_); refine gL 10 Tryz.func56 #[.pointer (some ⟨g, 0, none⟩)] ?_; (with_reducible refine (parser_end.calls k g t m d _ w0 _ HP.out.hI HP.out.hB H1.out).mono ?_); rintro e1 w1 ⟨u1, rfl, hx, hP⟩; obtain ⟨qx, rfl, hqx, hX⟩ := hx; refine ⟨_, rfl, ?_⟩; have GQ := A_ (Nat.le_trans HP.out.hK.1 hqx); have NQB := A_ (show qx ≠ gb from Ne.symm (Nat.ne_of_lt (Nat.lt_of_lt_of_le (blk_lt BK.out) hqx))); have BX := A_ hX; replace BK := A_ (hP.blk BK.out NB.out); replace HP := A_ (HP.out.trans hP); clear hP hX hqx) | ((with_reducible refine gD 4 ?_); refine bxe_ 4 z8_ 27 ?_; intro ga hga w4 hbox hb; have BA := A_ hbox; have NA := A_ (HP.out.new hga); have NBA := A_ (show gb ≠ ga from by rw [hga]; exact Nat.ne_of_lt (blk_lt BK.out)); have nba := NBA.out; have nab := Ne.symm nba; have NQA := A_ (show qx ≠ ga from by rw [hga]; exact Nat.ne_of_lt (blk_lt BX.out)); replace BX := A_ (blk_below BX.out hb); replace HP := A_ (HP.out.below hb); replace BK := A_ (blk_below BK.out hb); have Z := bz8_ BA; have ZK := bz8_ BK; clear hb hbox hga))
    refine bodyPost_ret (results_ct rfl _ _ gb 27 #[.int .i64 n1.f0, .int .i64 n1.f1.f0, .string n1.f1.f1, .string n1.f1.f2, .string n1.f1.f3, .bool n1.f2, .bool n1.f3, .slice none 0 0] (0, 0) _ rfl (put8_ (far8_ BK.out NBA.out ..) ..) Tryz.underlying27 rfl (by kernel_rfl)) rfl ?_
    refine ⟨_, _, rfl, ?_, IsX.put (far8_ (far8_ BX.out NQA.out ..) NQB.out ..) GQ.out, (HP.out.all8 NA.out ..).all8 NB.out ..⟩
    rw [HN1.out]
    exact Kd.V_nil _ _ _ _ _
  | none =>
    cases t1 with
    | nil => cases h2
    | cons y u =>
      by_cases cy : y.f0 = 1
      · have k1 : (y.f0 != 1) = false := bne_eq_false_iff_eq.mpr cy
        replace h2 := (if_pos cy).symm.trans h2
        clear cy
        by_cases cm : m1 = 64
        · replace h2 := (if_pos cm).symm.trans h2
          have HM := A_ cm
          clear cm
          obtain rfl := Option.some.inj h2
          clear h2
          go_enter Tryz.func38, Tryz.ntmps38
          go_wp2_with (first | ((with_reducible refine gD 2 ?_); refine bxe_ 2 z8_ 27 ?_; intro gb hgb w2 hbox hb; have BK := A_ hbox; have NB := A_ (HP.out.new hgb); replace HP := A_ (HP.out.below hb); clear hb hbox hgb) | ((with_reducible refine gD 10 ?_); refine gL 10 Tryz.func56 #[.pointer (some ⟨g, 0, none⟩)] ?_; (with_reducible refine (parser_end.calls k g t m d _ w0 _ HP.out.hI HP.out.hB H1.out).mono ?_); rintro e1 w1 ⟨u1, rfl, hx, hP⟩; obtain rfl : u1 = .pointer none := hx; refine ⟨_, rfl, ?_⟩; replace BK := A_ (hP.blk BK.out NB.out); replace HP := A_ (HP.out.trans hP); clear hP) | ((with_reducible refine gD 4 ?_); refine bxe_ 4 z8_ 27 ?_; intro ga hga w4 hbox hb; have BA := A_ hbox; have NA := A_ (HP.out.new hga); have NBA := A_ (show gb ≠ ga from by rw [hga]; exact Nat.ne_of_lt (blk_lt BK.out)); have nba := NBA.out; have nab := Ne.symm nba; replace HP := A_ (HP.out.below hb); replace BK := A_ (blk_below BK.out hb); have Z := bz8_ BA; have ZK := bz8_ BK; clear hb hbox hga) | ((with_reducible refine gD 18 ?_); refine gL 18 Tryz.func18 #[.pointer (some ⟨g, 0, none⟩)] ?_; clear Z ZK; replace HP := A_ (HP.out.all8 NA.out (.int .i64 n1.f0) (.int .i64 n1.f1.f0) (.string n1.f1.f1) (.string n1.f1.f2) (.string n1.f1.f3) (.bool n1.f2) (.bool n1.f3) (.slice none 0 0)); replace BK := A_ (far8_ BK.out NBA.out (.int .i64 n1.f0) (.int .i64 n1.f1.f0) (.string n1.f1.f1) (.string n1.f1.f2) (.string n1.f1.f3) (.bool n1.f2) (.bool n1.f3) (.slice none 0 0)); replace BA := A_ (put8_ BA.out (.int .i64 n1.f0) (.int .i64 n1.f1.f0) (.string n1.f1.f1) (.string n1.f1.f2) (.string n1.f1.f3) (.bool n1.f2) (.bool n1.f3) (.slice none 0 0)); (with_reducible refine (parser_next.calls g y u m1 d1 w0 _ HP.out.hI HP.out.hB).mono ?_); rintro e1 w1 ⟨rfl, hb⟩; refine ⟨_, rfl, ?_⟩; replace HP := A_ (HP.out.below hb); replace BK := A_ (blk_below BK.out hb); replace BA := A_ (blk_below BA.out hb); have Z := bz8_ BA; have ZK := bz8_ BK; clear hb) | ((with_reducible refine gD 29 ?_); refine gL 29 Tryz.func57 #[.pointer (some ⟨g, 0, none⟩)] ?_; (with_reducible refine (parser_begin.many g y u m1 d1 w0 _ HM.out HP.out.hI HP.out.hB).mono ?_); rintro e1 w1 ⟨uu, rfl, hx, hP⟩; refine ⟨_, rfl, ?_⟩; have HX := A_ hx; have GB := A_ (blk_lt BK.out); have GW := A_ HP.out.hK.1; replace BK := A_ (hP.blk BK.out NB.out); replace BA := A_ (hP.blk BA.out NA.out); replace HP := A_ (HP.out.trans hP); clear Z ZK; have Z := bz8_ BA; have ZK := bz8_ BK; obtain ⟨q1, rfl, hq1⟩ := HX.out; clear hx hP hq1))
          refine bodyPost_ret (results_ct rfl _ _ gb 27 #[.int .i64 n1.f0, .int .i64 n1.f1.f0, .string n1.f1.f1, .string n1.f1.f2, .string n1.f1.f3, .bool n1.f2, .bool n1.f3, .slice none 0 0] (0, 0) _ rfl (put8_ BK.out ..) Tryz.underlying27 rfl (by kernel_rfl)) rfl ?_
          refine ⟨_, _, rfl, ?_, HX.out.all8 GB.out GW.out .., HP.out.all8 NB.out ..⟩
          rw [HN1.out]
          exact Kd.V_nil _ _ _ _ _
        · replace h2 := (if_neg cm).symm.trans h2
          have HM := A_ cm
          clear cm
          obtain ⟨⟨n2, x2, t2, m2, d2⟩, h3, h4⟩ := Option.bind_eq_some_iff.mp h2
          clear h2
          have HN2 := A_ (pEnd_nil h3)
          have H3 := A_ h3
          clear h3
          obtain rfl := Option.some.inj h4
          clear h4
          go_enter Tryz.func38, Tryz.ntmps38
          go_wp2_with (first | ((with_reducible refine gD 2 ?_); refine bxe_ 2 z8_ 27 ?_; intro gb hgb w2 hbox hb; have BK := A_ hbox; have NB := A_ (HP.out.new hgb); replace HP := A_ (HP.out.below hb); clear hb hbox hgb) | ((with_reducible refine gD 10 ?_); refine gL 10 Tryz.func56 #[.pointer (some ⟨g, 0, none⟩)] ?_; (with_reducible refine (parser_end.calls k g t m d _ w0 _ HP.out.hI HP.out.hB H1.out).mono ?_); rintro e1 w1 ⟨u1, rfl, hx, hP⟩; obtain rfl : u1 = .pointer none := hx; refine ⟨_, rfl, ?_⟩; replace BK := A_ (hP.blk BK.out NB.out); replace HP := A_ (HP.out.trans hP); clear hP) | ((with_reducible refine gD 4 ?_); refine bxe_ 4 z8_ 27 ?_; intro ga hga w4 hbox hb; have BA := A_ hbox; have NA := A_ (HP.out.new hga); have NBA := A_ (show gb ≠ ga from by rw [hga]; exact Nat.ne_of_lt (blk_lt BK.out)); have nba := NBA.out; have nab := Ne.symm nba; replace HP := A_ (HP.out.below hb); replace BK := A_ (blk_below BK.out hb); have Z := bz8_ BA; have ZK := bz8_ BK; clear hb hbox hga) | ((with_reducible refine gD 18 ?_); refine gL 18 Tryz.func18 #[.pointer (some ⟨g, 0, none⟩)] ?_; clear Z ZK; replace HP := A_ (HP.out.all8 NA.out (.int .i64 n1.f0) (.int .i64 n1.f1.f0) (.string n1.f1.f1) (.string n1.f1.f2) (.string n1.f1.f3) (.bool n1.f2) (.bool n1.f3) (.slice none 0 0)); replace BK := A_ (far8_ BK.out NBA.out (.int .i64 n1.f0) (.int .i64 n1.f1.f0) (.string n1.f1.f1) (.string n1.f1.f2) (.string n1.f1.f3) (.bool n1.f2) (.bool n1.f3) (.slice none 0 0)); replace BA := A_ (put8_ BA.out (.int .i64 n1.f0) (.int .i64 n1.f1.f0) (.string n1.f1.f1) (.string n1.f1.f2) (.string n1.f1.f3) (.bool n1.f2) (.bool n1.f3) (.slice none 0 0)); (with_reducible refine (parser_next.calls g y u m1 d1 w0 _ HP.out.hI HP.out.hB).mono ?_); rintro e1 w1 ⟨rfl, hb⟩; refine ⟨_, rfl, ?_⟩; replace HP := A_ (HP.out.below hb); replace BK := A_ (blk_below BK.out hb); replace BA := A_ (blk_below BA.out hb); have Z := bz8_ BA; have ZK := bz8_ BK; clear hb) | ((with_reducible refine gD 29 ?_); refine gL 29 Tryz.func57 #[.pointer (some ⟨g, 0, none⟩)] ?_; (with_reducible refine (parser_begin.one g (y :: u) m1 d1 w0 _ HM.out HP.out.hI HP.out.hB).mono ?_); rintro e1 w1 ⟨rfl, hP⟩; refine ⟨_, rfl, ?_⟩; replace BK := A_ (hP.blk BK.out NB.out); replace BA := A_ (hP.blk BA.out NA.out); replace HP := A_ (HP.out.trans hP); clear Z ZK hP) | ((with_reducible refine gC 58 ?_); refine gL 35 Tryz.func58 #[.pointer (some ⟨g, 0, none⟩)] ?_; (with_reducible refine (parser_take.calls g y u (wrap64 (m1 + 1)) d1 w0 _ HP.out.hI HP.out.hB).mono ?_); rintro e3 w3 ⟨⟨v3, rfl⟩, hP⟩; refine ⟨_, rfl, ?_⟩; replace BK := A_ (hP.blk BK.out NB.out); replace BA := A_ (hP.blk BA.out NA.out); replace HP := A_ (HP.out.trans hP); clear hP) | ((with_reducible refine gD 38 ?_); refine gL 38 Tryz.func56 #[.pointer (some ⟨g, 0, none⟩)] ?_; (with_reducible refine (parser_end.calls k g u (wrap64 (m1 + 1)) d1 _ w0 _ HP.out.hI HP.out.hB H3.out).mono ?_); rintro e1 w1 ⟨u2, rfl, hx, hP⟩; refine ⟨_, rfl, ?_⟩; have HX := A_ hx; have GB := A_ (blk_lt BK.out); have GW := A_ HP.out.hK.1; replace BK := A_ (hP.blk BK.out NB.out); replace BA := A_ (hP.blk BA.out NA.out); replace HP := A_ (HP.out.trans hP); clear hx hP) | ((with_reducible refine gD 7 ?_); refine bxe_ 7 z8_ 27 ?_; intro gc hgc w4 hbox hb; have BC := A_ hbox; have NC := A_ (HP.out.new hgc); have NBC := A_ (show gb ≠ gc from by rw [hgc]; exact Nat.ne_of_lt (blk_lt BK.out)); have NAC := A_ (show ga ≠ gc from by rw [hgc]; exact Nat.ne_of_lt (blk_lt BA.out)); have nac := NAC.out; replace HX := A_ (HX.out.new8 hgc hb (.int .i64 n2.f0) (.int .i64 n2.f1.f0) (.string n2.f1.f1) (.string n2.f1.f2) (.string n2.f1.f3) (.bool n2.f2) (.bool n2.f3) (.slice none 0 0)); replace HP := A_ (HP.out.below hb); replace BK := A_ (blk_below BK.out hb); replace BA := A_ (blk_below BA.out hb); have Z := bz8_ BA; have ZK := bz8_ BC; clear hb hbox hgc) | ((with_reducible refine gC 59 ?_); refine gL 43 Tryz.func59 #[.agg #[.int .i64 n1.f0, .int .i64 n1.f1.f0, .string n1.f1.f1, .string n1.f1.f2, .string n1.f1.f3, .bool n1.f2, .bool n1.f3, .slice none 0 0], .agg #[.int .i64 n2.f0, .int .i64 n2.f1.f0, .string n2.f1.f1, .string n2.f1.f2, .string n2.f1.f3, .bool n2.f2, .bool n2.f3, .slice none 0 0]] ?_; clear Z ZK; replace HP := A_ (HP.out.all8 NC.out (.int .i64 n2.f0) (.int .i64 n2.f1.f0) (.string n2.f1.f1) (.string n2.f1.f2) (.string n2.f1.f3) (.bool n2.f2) (.bool n2.f3) (.slice none 0 0)); replace BK := A_ (far8_ BK.out NBC.out (.int .i64 n2.f0) (.int .i64 n2.f1.f0) (.string n2.f1.f1) (.string n2.f1.f2) (.string n2.f1.f3) (.bool n2.f2) (.bool n2.f3) (.slice none 0 0)); (with_reducible refine (tree_Between.nil n1 n2 HN1.out HN2.out _).mono ?_); rintro e1 w1 ⟨v5, rfl, hV, hb⟩; refine ⟨_, rfl, ?_⟩; obtain ⟨A5, c5, rfl⟩ : ∃ A5 c5, v5 = .slice A5 2 c5 := Kd.V_slice hV; have HV := A_ hV; have GBV := A_ (blk_lt BK.out); have GWV := A_ HP.out.hK.1; replace HX := A_ (HX.out.below hb); replace HP := A_ (HP.out.below hb); replace BK := A_ (blk_below BK.out hb); have Z := bz8_ BK; clear hV hb))
          refine bodyPost_ret (results_ct rfl _ _ gb 27 #[.int .i64 1, .int .i64 0, .string ⟨#[]⟩, .string ⟨#[]⟩, .string ⟨#[]⟩, .bool false, .bool false, .slice A5 2 c5] (0, 0) _ rfl (put8_ BK.out ..) Tryz.underlying27 rfl (by kernel_rfl)) rfl ?_
          have r1 := V_all8 HV.out (fun q hq => Ne.symm (Nat.ne_of_lt (Nat.lt_of_lt_of_le GBV.out hq))) (.int .i64 1) (.int .i64 0) (.string ⟨#[]⟩) (.string ⟨#[]⟩) (.string ⟨#[]⟩) (.bool false) (.bool false) (.slice A5 2 c5)
          have r2 := HX.out.all8 GB.out GW.out (.int .i64 1) (.int .i64 0) (.string ⟨#[]⟩) (.string ⟨#[]⟩) (.string ⟨#[]⟩) (.bool false) (.bool false) (.slice A5 2 c5)
          have r3 := HP.out.all8 NB.out (.int .i64 1) (.int .i64 0) (.string ⟨#[]⟩) (.string ⟨#[]⟩) (.string ⟨#[]⟩) (.bool false) (.bool false) (.slice A5 2 c5)
          exact ⟨_, _, rfl, Kd.V_lower (Kd.V_mono r1 (fun q hq => Nat.le_trans GWV.out hq)) GWV.out, r2, r3⟩
      · have k1 : (y.f0 != 1) = true := bne_iff_ne.mpr cy
        replace h2 := (if_neg cy).symm.trans h2
        clear cy
        by_cases cn : n1.f0 = 0
        · replace h2 := (if_pos cn).symm.trans h2
          have k2 : (n1.f0 != 0) = false := bne_eq_false_iff_eq.mpr cn
          clear cn
          obtain rfl := Option.some.inj h2
          clear h2
          go_enter Tryz.func38, Tryz.ntmps38
          go_wp2_with (first | ((with_reducible refine gD 2 ?_); refine bxe_ 2 z8_ 27 ?_; intro gb hgb w2 hbox hb; have BK := A_ hbox; have NB := A_ (HP.out.new hgb); replace HP := A_ (HP.out.below hb); clear hb hbox hgb) | ((with_reducible refine gD 10 ?_); refine gL 10 Tryz.func56 #[.pointer (some ⟨g, 0, none⟩)] ?_; (with_reducible refine (parser_end.calls k g t m d _ w0 _ HP.out.hI HP.out.hB H1.out).mono ?_); rintro e1 w1 ⟨u1, rfl, hx, hP⟩; obtain rfl : u1 = .pointer none := hx; refine ⟨_, rfl, ?_⟩; replace BK := A_ (hP.blk BK.out NB.out); replace HP := A_ (HP.out.trans hP); clear hP) | ((with_reducible refine gD 4 ?_); refine bxe_ 4 z8_ 27 ?_; intro ga hga w4 hbox hb; have BA := A_ hbox; have NA := A_ (HP.out.new hga); have NBA := A_ (show gb ≠ ga from by rw [hga]; exact Nat.ne_of_lt (blk_lt BK.out)); have nba := NBA.out; have nab := Ne.symm nba; replace HP := A_ (HP.out.below hb); replace BK := A_ (blk_below BK.out hb); have Z := bz8_ BA; have ZK := bz8_ BK; clear hb hbox hga) | ((with_reducible refine gD 18 ?_); refine gL 18 Tryz.func18 #[.pointer (some ⟨g, 0, none⟩)] ?_; clear Z ZK; replace HP := A_ (HP.out.all8 NA.out (.int .i64 n1.f0) (.int .i64 n1.f1.f0) (.string n1.f1.f1) (.string n1.f1.f2) (.string n1.f1.f3) (.bool n1.f2) (.bool n1.f3) (.slice none 0 0)); replace BK := A_ (far8_ BK.out NBA.out (.int .i64 n1.f0) (.int .i64 n1.f1.f0) (.string n1.f1.f1) (.string n1.f1.f2) (.string n1.f1.f3) (.bool n1.f2) (.bool n1.f3) (.slice none 0 0)); replace BA := A_ (put8_ BA.out (.int .i64 n1.f0) (.int .i64 n1.f1.f0) (.string n1.f1.f1) (.string n1.f1.f2) (.string n1.f1.f3) (.bool n1.f2) (.bool n1.f3) (.slice none 0 0)); (with_reducible refine (parser_next.calls g y u m1 d1 w0 _ HP.out.hI HP.out.hB).mono ?_); rintro e1 w1 ⟨rfl, hb⟩; refine ⟨_, rfl, ?_⟩; replace HP := A_ (HP.out.below hb); replace BK := A_ (blk_below BK.out hb); replace BA := A_ (blk_below BA.out hb); have Z := bz8_ BA; have ZK := bz8_ BK; clear hb))
          refine bodyPost_ret (results_ct rfl _ _ gb 27 #[.int .i64 n1.f0, .int .i64 n1.f1.f0, .string n1.f1.f1, .string n1.f1.f2, .string n1.f1.f3, .bool n1.f2, .bool n1.f3, .slice none 0 0] (0, 0) _ rfl (put8_ BK.out ..) Tryz.underlying27 rfl (by kernel_rfl)) rfl ?_
          refine ⟨_, _, rfl, ?_, rfl, HP.out.all8 NB.out ..⟩
          rw [HN1.out]
          exact Kd.V_nil _ _ _ _ _
        · replace h2 := (if_neg cn).symm.trans h2
          have k2 : (n1.f0 != 0) = true := bne_iff_ne.mpr cn
          clear cn
          obtain rfl := Option.some.inj h2
          clear h2
          go_enter Tryz.func38, Tryz.ntmps38
          go_wp2_with (first | ((with_reducible refine gD 2 ?_); refine bxe_ 2 z8_ 27 ?_; intro gb hgb w2 hbox hb; have BK := A_ hbox; have NB := A_ (HP.out.new hgb); replace HP := A_ (HP.out.below hb); clear hb hbox hgb) | ((with_reducible refine gD 10 ?_); refine gL 10 Tryz.func56 #[.pointer (some ⟨g, 0, none⟩)] ?_; (with_reducible refine (parser_end.calls k g t m d _ w0 _ HP.out.hI HP.out.hB H1.out).mono ?_); rintro e1 w1 ⟨u1, rfl, hx, hP⟩; obtain rfl : u1 = .pointer none := hx; refine ⟨_, rfl, ?_⟩; replace BK := A_ (hP.blk BK.out NB.out); replace HP := A_ (HP.out.trans hP); clear hP) | ((with_reducible refine gD 4 ?_); refine bxe_ 4 z8_ 27 ?_; intro ga hga w4 hbox hb; have BA := A_ hbox; have NA := A_ (HP.out.new hga); have NBA := A_ (show gb ≠ ga from by rw [hga]; exact Nat.ne_of_lt (blk_lt BK.out)); have nba := NBA.out; have nab := Ne.symm nba; replace HP := A_ (HP.out.below hb); replace BK := A_ (blk_below BK.out hb); have Z := bz8_ BA; have ZK := bz8_ BK; clear hb hbox hga) | ((with_reducible refine gD 18 ?_); refine gL 18 Tryz.func18 #[.pointer (some ⟨g, 0, none⟩)] ?_; clear Z ZK; replace HP := A_ (HP.out.all8 NA.out (.int .i64 n1.f0) (.int .i64 n1.f1.f0) (.string n1.f1.f1) (.string n1.f1.f2) (.string n1.f1.f3) (.bool n1.f2) (.bool n1.f3) (.slice none 0 0)); replace BK := A_ (far8_ BK.out NBA.out (.int .i64 n1.f0) (.int .i64 n1.f1.f0) (.string n1.f1.f1) (.string n1.f1.f2) (.string n1.f1.f3) (.bool n1.f2) (.bool n1.f3) (.slice none 0 0)); replace BA := A_ (put8_ BA.out (.int .i64 n1.f0) (.int .i64 n1.f1.f0) (.string n1.f1.f1) (.string n1.f1.f2) (.string n1.f1.f3) (.bool n1.f2) (.bool n1.f3) (.slice none 0 0)); (with_reducible refine (parser_next.calls g y u m1 d1 w0 _ HP.out.hI HP.out.hB).mono ?_); rintro e1 w1 ⟨rfl, hb⟩; refine ⟨_, rfl, ?_⟩; replace HP := A_ (HP.out.below hb); replace BK := A_ (blk_below BK.out hb); replace BA := A_ (blk_below BA.out hb); have Z := bz8_ BA; have ZK := bz8_ BK; clear hb))
          go_region_held3 (fun w' => w'.cell? ⟨ga, 0, none⟩ = some (.int .i64 n1.f0) ∧ w'.cell? ⟨ga, 1, none⟩ = some (.int .i64 n1.f1.f0) ∧ w'.cell? ⟨ga, 2, none⟩ = some (.string n1.f1.f1) ∧ w'.cell? ⟨ga, 3, none⟩ = some (.string n1.f1.f2) ∧ w'.cell? ⟨ga, 4, none⟩ = some (.string n1.f1.f3) ∧ w'.cell? ⟨ga, 5, none⟩ = some (.bool n1.f2) ∧ w'.cell? ⟨ga, 6, none⟩ = some (.bool n1.f3) ∧ w'.cell? ⟨ga, 7, none⟩ = some (.slice none 0 0)) (first | (with_reducible exact C8_ BA.out) | (with_reducible exact C8_ (blk_drew BA.out)) | exact C8_ (far8_ BA.out nab (.int .i64 n1.f0) (.int .i64 n1.f1.f0) (.string n1.f1.f1) (.string n1.f1.f2) (.string n1.f1.f3) (.bool n1.f2) (.bool n1.f3) (.slice none 0 0))) (first | (go_at_call 19; replace HP := A_ HP.out.drew; replace BK := A_ (blk_drew BK.out); replace BA := A_ (blk_drew BA.out); (with_reducible refine (parser_not.calls g y u m1 d1 3 w0 _ HP.out.hI HP.out.hB).mono ?_); rintro e1 w1 ⟨u1, rfl, hx, hb⟩; have HX := A_ hx; have GB := A_ (blk_lt BK.out); have GW := A_ HP.out.hK.1; replace HP := A_ (HP.out.below hb); replace BK := A_ (blk_below BK.out hb); replace BA := A_ (blk_below BA.out hb); clear Z ZK; have Z := bz8_ BA; have ZK := bz8_ BK; clear hx hb))
          go_wp2
          refine bodyPost_ret (results_ct rfl _ _ gb 27 #[.int .i64 n1.f0, .int .i64 n1.f1.f0, .string n1.f1.f1, .string n1.f1.f2, .string n1.f1.f3, .bool n1.f2, .bool n1.f3, .slice none 0 0] (0, 0) _ rfl (put8_ BK.out ..) Tryz.underlying27 rfl (by kernel_rfl)) rfl ?_
          have r2 := HX.out.all8 GB.out GW.out (.int .i64 n1.f0) (.int .i64 n1.f1.f0) (.string n1.f1.f1) (.string n1.f1.f2) (.string n1.f1.f3) (.bool n1.f2) (.bool n1.f3) (.slice none 0 0)
          have r3 := HP.out.all8 NB.out (.int .i64 n1.f0) (.int .i64 n1.f1.f0) (.string n1.f1.f1) (.string n1.f1.f2) (.string n1.f1.f3) (.bool n1.f2) (.bool n1.f3) (.slice none 0 0)
          refine ⟨_, _, rfl, ?_, r2, r3⟩
          rw [HN1.out]
          exact Kd.V_nil _ _ _ _ _
theorem N_all8 {W : World} {b q : Nat} {ok : Nat → Prop} {v : Value} {l : List S27} (h : Kd.N k27 27 W b ok v l) (hok : ∀ k, ok k → k ≠ q) (a a1 c e f i j k : Value) : Kd.N k27 27 ((((((((W.setCell ⟨q, 0, none⟩ a).setCell ⟨q, 1, none⟩ a1).setCell ⟨q, 2, none⟩ c).setCell ⟨q, 3, none⟩ e).setCell ⟨q, 4, none⟩ f).setCell ⟨q, 5, none⟩ i).setCell ⟨q, 6, none⟩ j).setCell ⟨q, 7, none⟩ k) b ok v l :=
  Kd.N_far (p := ⟨q, 7, none⟩) (Kd.N_far (p := ⟨q, 6, none⟩) (Kd.N_far (p := ⟨q, 5, none⟩) (Kd.N_far (p := ⟨q, 4, none⟩) (Kd.N_far (p := ⟨q, 3, none⟩) (Kd.N_far (p := ⟨q, 2, none⟩) (Kd.N_far (p := ⟨q, 1, none⟩) (Kd.N_far (p := ⟨q, 0, none⟩) h hok a) hok a1) hok c) hok e) hok f) hok i) hok j) hok k
theorem PK.grown {w0 w W W1 : World} {g : Nat} {t : List S46} {m d : Int} {row : Option Nat} (h : PK w0 w W g t m d) (hg : W.grownBy W1 row) (hr : ∀ k, row = some k → w.heap.size ≤ k) (h0 : w0.heap.size ≤ w.heap.size) (hlt : g < w.heap.size) : PK w0 w W1 g t m d := by
  obtain ⟨⟨A, c, hG, hI⟩, hB, hK⟩ := h
  refine ⟨⟨A, c, blk_grown hG hg (fun e => ?_), hI⟩, hB.grown hg hB.size (fun k e => Nat.le_trans h0 (hr k e)), hK.trans (KeepBut.of_grown hg g) ?_⟩
  · have := hr g e.symm
    omega
  · cases row with
    | none => exact .inl rfl
    | some k => exact .inr ⟨k, rfl, hr k rfl⟩
def Told (r : PR) (g : Nat) (w0 w : World) (e' : Ending) (w' : World) : Prop := ∃ v u, e' = .returned (.tuple #[.agg #[.int .i64 r.n.f0, .int .i64 r.n.f1.f0, .string r.n.f1.f1, .string r.n.f1.f2, .string r.n.f1.f3, .bool r.n.f2, .bool r.n.f3, v], u]) ∧ Kd.V k27 27 w' w.heap.size (fun q => w.heap.size ≤ q) v r.n.f4 ∧ IsX w.heap.size w' u r.x ∧ PK w0 w w' g r.t r.m r.d
abbrev ExprAt (k : Nat) : Prop := ∀ (g : Nat) (t : List S46) (m d : Int) (r : PR) (w0 w : World), IsP w0 w g t m d → Below w0.heap.size w0 w → pExpr k m d t = some r → Calls Tryz.prog 17 #[.pointer (some ⟨g, 0, none⟩)] w (Told r g w0 w)
theorem V_base {W : World} {b b' : Nat} {ok : Nat → Prop} {v : Value} {l : List S27} (h : Kd.V k27 27 W b ok v l) : Kd.V k27 27 W b' ok v l := by
  obtain ⟨A, c, h1, h2, h3⟩ := h
  exact ⟨A, c, h1, h2, h3⟩
theorem sl8_ (W : World) (q : Nat) (a a1 c e f i j k : Value) : Value.slice (some ⟨W.heap.size, 0, none⟩) 1 1 = .slice (some ⟨((((((((W.setCell ⟨q, 0, none⟩ a).setCell ⟨q, 1, none⟩ a1).setCell ⟨q, 2, none⟩ c).setCell ⟨q, 3, none⟩ e).setCell ⟨q, 4, none⟩ f).setCell ⟨q, 5, none⟩ i).setCell ⟨q, 6, none⟩ j).setCell ⟨q, 7, none⟩ k).heap.size, 0, none⟩) 1 1 := by simp only [World.size_setCell]
theorem PK.setD {w0 w W : World} {g : Nat} {t : List S46} {m d : Int} (h : PK w0 w W g t m d) (x : Int) : PK w0 w (W.setCell ⟨g, 2, none⟩ (.int .i64 x)) g t m x := ⟨h.hI.setD x, below_set h.hB h.hI.ge, h.hK.set_ 2 _⟩
set_option maxHeartbeats 8000000 in
set_option maxRecDepth 100000 in
theorem parser_list.calls (k : Nat) (ih : ∀ j, j < k → ExprAt j) (g : Nat) (x : S46) (t : List S46) (m d : Int) (r : PR) (w0 w : World) (hI : IsP w0 w g (x :: t) m d) (hB0 : Below w0.heap.size w0 w) (h : pList k m d x t = some r) :
    Calls Tryz.prog 39 #[.pointer (some ⟨g, 0, none⟩)] w (Told r g w0 w) := by
  have G0 := A_ hB0.size
  have GL := A_ hI.lt
  have HP := A_ (PK.start hI hB0)
  have IH := A_ ih
  clear hI hB0 ih
  cases k with
  | zero => cases h
  | succ k =>
    rw [pList] at h
    by_cases c0 : d = 8
    · rw [if_pos c0] at h
      have k0 : (d == 8) = true := beq_iff_eq.mpr c0
      clear c0
      obtain rfl := Option.some.inj h
      clear h
      go_enter Tryz.func39, Tryz.ntmps39
      go_wp2_with (first | ((with_reducible refine gD 2 ?_); refine bxe_ 2 z8_ 27 ?_; intro gb hgb w2 hbox hb; have BK := A_ hbox; have NB := A_ (HP.out.new hgb); replace HP := A_ (HP.out.below hb); obtain ⟨A, c, hG, hg, hc, hC⟩ := HP.out.hI; have HG := A_ hG; have hp1 := (blk_cell HG.out 1).trans rfl; have hp2 := (blk_cell HG.out 2).trans rfl; have hf1 := blk_frozen HG.out 1; have hf2 := blk_frozen HG.out 2; clear hG hg hc hC; clear hb hbox hgb) | ((with_reducible refine gD 15 ?_); refine gL 15 Tryz.func19 #[.pointer (some ⟨g, 0, none⟩), .int .i64 5] ?_; (with_reducible refine (parser_not.calls g x t m d 5 w0 _ HP.out.hI HP.out.hB).mono ?_); rintro e1 w1 ⟨u1, rfl, hx, hb⟩; refine ⟨_, rfl, ?_⟩; have HX := A_ hx; have GB := A_ (blk_lt BK.out); have GW := A_ HP.out.hK.1; replace HP := A_ (HP.out.below hb); replace BK := A_ (blk_below BK.out hb); have Z := bz8_ BK; clear hx hb))
      refine bodyPost_ret (results_ct rfl _ _ gb 27 z8_ (0, 0) _ rfl (put8_ BK.out ..) Tryz.underlying27 rfl (by kernel_rfl)) rfl ?_; exact ⟨_, _, rfl, Kd.V_nil _ _ _ _ _, HX.out.all8 GB.out GW.out .., HP.out.all8 NB.out ..⟩
    rw [if_neg c0] at h
    have k0 : (d == 8) = false := beq_eq_false_iff_ne.mpr c0
    clear c0
    by_cases cm : m = 64
    · rw [if_pos cm] at h
      have HM := A_ cm
      clear cm
      obtain rfl := Option.some.inj h
      clear h
      go_enter Tryz.func39, Tryz.ntmps39
      go_wp2_with (first | ((with_reducible refine gD 2 ?_); refine bxe_ 2 z8_ 27 ?_; intro gb hgb w2 hbox hb; have BK := A_ hbox; have NB := A_ (HP.out.new hgb); replace HP := A_ (HP.out.below hb); obtain ⟨A, c, hG, hg, hc, hC⟩ := HP.out.hI; have HG := A_ hG; have hp1 := (blk_cell HG.out 1).trans rfl; have hp2 := (blk_cell HG.out 2).trans rfl; have hf1 := blk_frozen HG.out 1; have hf2 := blk_frozen HG.out 2; clear hG hg hc hC; clear hb hbox hgb) | ((with_reducible refine gD 17 ?_); refine gL 17 Tryz.func57 #[.pointer (some ⟨g, 0, none⟩)] ?_; (with_reducible refine (parser_begin.many g x t m d w0 _ HM.out HP.out.hI HP.out.hB).mono ?_); rintro e1 w1 ⟨uu, rfl, hx, hP⟩; refine ⟨_, rfl, ?_⟩; have HX := A_ hx; have GB := A_ (blk_lt BK.out); have GW := A_ HP.out.hK.1; replace BK := A_ (hP.blk BK.out NB.out); replace HP := A_ (HP.out.trans hP); have Z := bz8_ BK; obtain ⟨q1, rfl, hq1⟩ := HX.out; clear hx hP hq1))
      refine bodyPost_ret (results_ct rfl _ _ gb 27 z8_ (0, 0) _ rfl (put8_ BK.out ..) Tryz.underlying27 rfl (by kernel_rfl)) rfl ?_; exact ⟨_, _, rfl, Kd.V_nil _ _ _ _ _, HX.out.all8 GB.out GW.out .., HP.out.all8 NB.out ..⟩
    rw [if_neg cm] at h
    have HM := A_ cm
    have H' := A_ h
    clear cm h
    go_enter Tryz.func39, Tryz.ntmps39
    go_wp2_with (first | ((with_reducible refine gD 2 ?_); refine bxe_ 2 z8_ 27 ?_; intro gb hgb w2 hbox hb; have BK := A_ hbox; have NB := A_ (HP.out.new hgb); replace HP := A_ (HP.out.below hb); obtain ⟨A, c, hG, hg, hc, hC⟩ := HP.out.hI; have HG := A_ hG; have hp1 := (blk_cell HG.out 1).trans rfl; have hp2 := (blk_cell HG.out 2).trans rfl; have hf1 := blk_frozen HG.out 1; have hf2 := blk_frozen HG.out 2; clear hG hg hc hC; clear hb hbox hgb) | ((with_reducible refine gD 17 ?_); refine gL 17 Tryz.func57 #[.pointer (some ⟨g, 0, none⟩)] ?_; (with_reducible refine (parser_begin.one g (x :: t) m d w0 _ HM.out HP.out.hI HP.out.hB).mono ?_); rintro e1 w1 ⟨rfl, hP⟩; refine ⟨_, rfl, ?_⟩; replace BK := A_ (hP.blk BK.out NB.out); replace HP := A_ (HP.out.trans hP); clear hp1 hp2 hf1 hf2 HG; obtain ⟨A, c, hG, hg, hc, hC⟩ := HP.out.hI; have HG := A_ hG; have hp1 := (blk_cell HG.out 1).trans rfl; have hp2 := (blk_cell HG.out 2).trans rfl; have hf1 := blk_frozen HG.out 1; have hf2 := blk_frozen HG.out 2; clear hG hg hc hC; clear hP))
    (try simp only [Act.put, List.setIfInBounds_toArray, List.set_cons_zero, List.set_cons_succ])
    go_loopg [5] k (fun kq v5 w' => ∃ (t1 : List S46) (m1 d1 : Int) (l1 : List S27), Aside0 (pItems kq m1 d1 t1 l1 = some r) ∧ Aside0 (kq ≤ k) ∧ Aside0 (Kd.N k27 27 w' w.heap.size (fun q => w.heap.size ≤ q ∧ q ≠ gb) v5 l1) ∧ Aside0 (w'.heap[gb]? = some (.cells z8_ 27 (0, 0))) ∧ Aside0 (PK w0 w w' g t1 m1 d1))
    case atStart => exact ⟨x :: t, wrap64 (m + 1), wrap64 (d + 1), [], H', ⟨Nat.le_refl _⟩, ⟨Kd.N_nil _ _ _ _ _⟩, ⟨blk_far (p := ⟨g, 2, none⟩) BK.out (Ne.symm NB.out.1) _⟩, ⟨HP.out.setD _⟩⟩
    case round =>
      clear H' BK HP HG hp1 hp2 hf1 hf2
      obtain ⟨t1, m1, d1, l1, HA, HK1, HN, BK, HP⟩ := hrel
      cases gk with
      | zero => exact absurd HA.out (by simp [pItems])
      | succ k1 =>
      cases t1 with
      | nil => exact absurd HA.out (by simp [pItems])
      | cons y0 t1 =>
      have H := HA.out
      clear HA
      rw [pItems] at H
      obtain ⟨⟨n1, x1, t2, m2, d2⟩, h1, h2⟩ := Option.bind_eq_some_iff.mp H
      clear H
      have H1 := A_ h1
      clear h1
      cases x1 with
      | some y =>
        obtain rfl := Option.some.inj h2
        clear h2
        go_wp2_with (first | ((with_reducible refine gC 58 ?_); refine gL 30 Tryz.func58 #[.pointer (some ⟨g, 0, none⟩)] ?_; (with_reducible refine (parser_take.calls g y0 t1 m1 d1 w0 _ HP.out.hI HP.out.hB).mono ?_); rintro e3 w3 ⟨⟨v3, rfl⟩, hP⟩; refine ⟨_, rfl, ?_⟩; replace BK := A_ (hP.blk BK.out NB.out); replace HN := A_ (Kd.N_keep HN.out hP.hK (fun q hq => Ne.symm (Nat.ne_of_lt (Nat.lt_of_lt_of_le GL.out hq.1)))); replace HP := A_ (HP.out.trans hP); clear hP) | ((with_reducible refine gC 17 ?_); refine gL 33 Tryz.func17 #[.pointer (some ⟨g, 0, none⟩)] ?_; (with_reducible refine (IH.out k1 (by have := HK1.out; omega) g t1 m1 d1 _ w0 _ HP.out.hI HP.out.hB H1.out).mono ?_); rintro e1 w1 ⟨v1, u1, rfl, hV, hx, hP⟩; obtain ⟨qx, rfl, hqx, hX⟩ := hx; have GQ := A_ (Nat.le_trans HP.out.hK.1 hqx); have NQB := A_ (show qx ≠ gb from Ne.symm (Nat.ne_of_lt (Nat.lt_of_lt_of_le (blk_lt BK.out) hqx))); have BX := A_ hX; clear hX hqx; refine ⟨_, rfl, ?_⟩; obtain ⟨A1, c1, rfl⟩ : ∃ A1 c1, v1 = .slice A1 n1.f4.length c1 := Kd.V_slice hV; have HV := A_ (Kd.V_mono (ok' := fun q => w.heap.size ≤ q ∧ q ≠ gb ∧ some q ≠ u5.ownBlock) hV (fun q hq => ⟨Nat.le_trans HP.out.hK.1 hq, Ne.symm (Nat.ne_of_lt (Nat.lt_of_lt_of_le (blk_lt BK.out) hq)), fun e => Nat.lt_irrefl _ (Nat.lt_of_lt_of_le (Kd.N_lt HN.out q e.symm) hq)⟩)); replace HN := A_ (Kd.N_keep HN.out hP.hK (fun q hq => Ne.symm (Nat.ne_of_lt (Nat.lt_of_lt_of_le GL.out hq.1)))); replace BK := A_ (hP.blk BK.out NB.out); replace HP := A_ (HP.out.trans hP); clear hV hP) | ((with_reducible refine gD 6 ?_); refine bxe_ 6 z8_ 27 ?_; intro ga hga w4 hbox hb; have BA := A_ hbox; have NA := A_ (HP.out.new hga); have NBA := A_ (show gb ≠ ga from by rw [hga]; exact Nat.ne_of_lt (blk_lt BK.out)); have nba := NBA.out; have nab := Ne.symm nba; have NOA := A_ (show some ga ≠ u5.ownBlock from fun e => by have := Kd.N_lt HN.out ga e.symm; omega); replace HN := A_ (Kd.N_below (Kd.N_elderB HN.out ga (Nat.le_of_eq hga.symm)) hb); replace HV := A_ (Kd.V_below (Kd.V_elderB HV.out ga (Nat.le_of_eq hga.symm)) hb); have NQA := A_ (show qx ≠ ga from by rw [hga]; exact Nat.ne_of_lt (blk_lt BX.out)); replace BX := A_ (blk_below BX.out hb); replace HP := A_ (HP.out.below hb); replace BK := A_ (blk_below BK.out hb); have Z := bz8_ BA; have ZK := bz8_ BK; clear hb hbox hga))
        refine bodyPost_ret (results_ct rfl _ _ gb 27 #[.int .i64 n1.f0, .int .i64 n1.f1.f0, .string n1.f1.f1, .string n1.f1.f2, .string n1.f1.f3, .bool n1.f2, .bool n1.f3, .slice A1 n1.f4.length c1] (0, 0) _ rfl (put8_ (far8_ BK.out NBA.out ..) ..) Tryz.underlying27 rfl (by kernel_rfl)) rfl ?_
        have p1 := V_all8 (V_all8 HV.out (fun q hq => hq.2) (.int .i64 n1.f0) (.int .i64 n1.f1.f0) (.string n1.f1.f1) (.string n1.f1.f2) (.string n1.f1.f3) (.bool n1.f2) (.bool n1.f3) (.slice A1 n1.f4.length c1)) (fun q hq => hq.1.2.1) (.int .i64 n1.f0) (.int .i64 n1.f1.f0) (.string n1.f1.f1) (.string n1.f1.f2) (.string n1.f1.f3) (.bool n1.f2) (.bool n1.f3) (.slice A1 n1.f4.length c1)
        have p2 := (HP.out.all8 NA.out (.int .i64 n1.f0) (.int .i64 n1.f1.f0) (.string n1.f1.f1) (.string n1.f1.f2) (.string n1.f1.f3) (.bool n1.f2) (.bool n1.f3) (.slice A1 n1.f4.length c1)).all8 NB.out (.int .i64 n1.f0) (.int .i64 n1.f1.f0) (.string n1.f1.f1) (.string n1.f1.f2) (.string n1.f1.f3) (.bool n1.f2) (.bool n1.f3) (.slice A1 n1.f4.length c1)
        have p3 := far8_ (far8_ BX.out NQA.out (.int .i64 n1.f0) (.int .i64 n1.f1.f0) (.string n1.f1.f1) (.string n1.f1.f2) (.string n1.f1.f3) (.bool n1.f2) (.bool n1.f3) (.slice A1 n1.f4.length c1)) NQB.out (.int .i64 n1.f0) (.int .i64 n1.f1.f0) (.string n1.f1.f1) (.string n1.f1.f2) (.string n1.f1.f3) (.bool n1.f2) (.bool n1.f3) (.slice A1 n1.f4.length c1)
        exact ⟨_, _, rfl, V_base (Kd.V_mono p1 (fun q hq => hq.1.1)), IsX.put p3 GQ.out, p2⟩
      | none =>
        by_cases cl : l1.length < 1466015503701
        · replace h2 := (if_pos cl).symm.trans h2
          have HLN := A_ cl
          clear cl
          cases t2 with
          | nil => cases h2
          | cons y u =>
          by_cases cy : y.f0 = 6
          · replace h2 := (if_pos cy).symm.trans h2
            have k6 : (y.f0 == 6) = true := beq_iff_eq.mpr cy
            clear cy
            have H' := A_ h2
            clear h2
            go_wp2_with (first | ((with_reducible refine gC 58 ?_); refine gL 30 Tryz.func58 #[.pointer (some ⟨g, 0, none⟩)] ?_; (with_reducible refine (parser_take.calls g y0 t1 m1 d1 w0 _ HP.out.hI HP.out.hB).mono ?_); rintro e3 w3 ⟨⟨v3, rfl⟩, hP⟩; refine ⟨_, rfl, ?_⟩; replace BK := A_ (hP.blk BK.out NB.out); replace HN := A_ (Kd.N_keep HN.out hP.hK (fun q hq => Ne.symm (Nat.ne_of_lt (Nat.lt_of_lt_of_le GL.out hq.1)))); replace HP := A_ (HP.out.trans hP); clear hP) | ((with_reducible refine gC 17 ?_); refine gL 33 Tryz.func17 #[.pointer (some ⟨g, 0, none⟩)] ?_; (with_reducible refine (IH.out k1 (by have := HK1.out; omega) g t1 m1 d1 _ w0 _ HP.out.hI HP.out.hB H1.out).mono ?_); rintro e1 w1 ⟨v1, u1, rfl, hV, hx, hP⟩; obtain rfl : u1 = .pointer none := hx; refine ⟨_, rfl, ?_⟩; obtain ⟨A1, c1, rfl⟩ : ∃ A1 c1, v1 = .slice A1 n1.f4.length c1 := Kd.V_slice hV; have HV := A_ (Kd.V_mono (ok' := fun q => w.heap.size ≤ q ∧ q ≠ gb ∧ some q ≠ u5.ownBlock) hV (fun q hq => ⟨Nat.le_trans HP.out.hK.1 hq, Ne.symm (Nat.ne_of_lt (Nat.lt_of_lt_of_le (blk_lt BK.out) hq)), fun e => Nat.lt_irrefl _ (Nat.lt_of_lt_of_le (Kd.N_lt HN.out q e.symm) hq)⟩)); replace HN := A_ (Kd.N_keep HN.out hP.hK (fun q hq => Ne.symm (Nat.ne_of_lt (Nat.lt_of_lt_of_le GL.out hq.1)))); replace BK := A_ (hP.blk BK.out NB.out); replace HP := A_ (HP.out.trans hP); clear hV hP) | ((with_reducible refine gD 6 ?_); refine bxe_ 6 z8_ 27 ?_; intro ga hga w4 hbox hb; have BA := A_ hbox; have NA := A_ (HP.out.new hga); have NBA := A_ (show gb ≠ ga from by rw [hga]; exact Nat.ne_of_lt (blk_lt BK.out)); have nba := NBA.out; have nab := Ne.symm nba; have NOA := A_ (show some ga ≠ u5.ownBlock from fun e => by have := Kd.N_lt HN.out ga e.symm; omega); replace HN := A_ (Kd.N_below (Kd.N_elderB HN.out ga (Nat.le_of_eq hga.symm)) hb); replace HV := A_ (Kd.V_below (Kd.V_elderB HV.out ga (Nat.le_of_eq hga.symm)) hb); replace HP := A_ (HP.out.below hb); replace BK := A_ (blk_below BK.out hb); have Z := bz8_ BA; have ZK := bz8_ BK; clear hb hbox hga) | ((with_reducible refine gate_builtin (b := .append) (xs := #[.tmp 40, .tmp 42]) rfl ?_); at_builtin; refine Kd.N_append k27 w.heap.size rfl (.tmp 40) (.tmp 42) 25 27 (.agg #[(.int .i64 0), (.int .i64 0), (.string ⟨#[]⟩), (.string ⟨#[]⟩), (.string ⟨#[]⟩), (.bool false), (.bool false), (.slice none 0 0)]) 96 rfl Tryz.underlying25 info27 rfl (by decide) (by omega) u5 l1 n1 [.int .i64 n1.f0, .int .i64 n1.f1.f0, .string n1.f1.f1, .string n1.f1.f2, .string n1.f1.f3, .bool n1.f2, .bool n1.f3, .slice A1 n1.f4.length c1] (fun q => w.heap.size ≤ q ∧ q ≠ gb) (fun q => (w.heap.size ≤ q ∧ q ≠ gb ∧ some q ≠ u5.ownBlock) ∧ q ≠ ga) rfl ?aX ?aP ?aK ?aF ?aO (Below.refl _ _) ?aS ?aL ?_; (case aX => exact sl8_ ..); (case aP => exact k27_mkF _ _ n1 (Kd.V_at HV.out).2.1 (Kd.V_F (V_all8 HV.out (fun q hq => hq.2) (.int .i64 n1.f0) (.int .i64 n1.f1.f0) (.string n1.f1.f1) (.string n1.f1.f2) (.string n1.f1.f3) (.bool n1.f2) (.bool n1.f3) (.slice A1 n1.f4.length c1)))); (case aK => exact fun q hq => ⟨⟨hq.1.1, hq.1.2.1⟩, hq.1.2.2⟩); (case aF => exact fun q hq => ⟨Nat.le_trans (HP.out.all8 NA.out (.int .i64 n1.f0) (.int .i64 n1.f1.f0) (.string n1.f1.f1) (.string n1.f1.f2) (.string n1.f1.f3) (.bool n1.f2) (.bool n1.f3) (.slice A1 n1.f4.length c1)).hK.1 hq, Ne.symm (Nat.ne_of_lt (Nat.lt_of_lt_of_le (blk_lt (far8_ BK.out NBA.out (.int .i64 n1.f0) (.int .i64 n1.f1.f0) (.string n1.f1.f1) (.string n1.f1.f2) (.string n1.f1.f3) (.bool n1.f2) (.bool n1.f3) (.slice A1 n1.f4.length c1))) hq))⟩); (case aO => exact Kd.N_mono (N_all8 HN.out (fun q hq => hq.2) (.int .i64 n1.f0) (.int .i64 n1.f1.f0) (.string n1.f1.f1) (.string n1.f1.f2) (.string n1.f1.f3) (.bool n1.f2) (.bool n1.f3) (.slice A1 n1.f4.length c1)) (fun q hq => hq.1)); (case aS => exact (HP.out.all8 NA.out (.int .i64 n1.f0) (.int .i64 n1.f1.f0) (.string n1.f1.f1) (.string n1.f1.f2) (.string n1.f1.f3) (.bool n1.f2) (.bool n1.f3) (.slice A1 n1.f4.length c1)).hK.1); (case aL => have := HLN.out; omega); intro v6 w6 ho hb hg hat; clear Z ZK; have HV2 := A_ (Kd.V_grown (V_all8 HV.out (fun q hq => hq.2) (.int .i64 n1.f0) (.int .i64 n1.f1.f0) (.string n1.f1.f1) (.string n1.f1.f2) (.string n1.f1.f3) (.bool n1.f2) (.bool n1.f3) (.slice A1 n1.f4.length c1)) hg (fun q hq => hq.1.2.2)); have BK2 := A_ (blk_grown (far8_ BK.out NBA.out (.int .i64 n1.f0) (.int .i64 n1.f1.f0) (.string n1.f1.f1) (.string n1.f1.f2) (.string n1.f1.f3) (.bool n1.f2) (.bool n1.f3) (.slice A1 n1.f4.length c1)) hg (Kd.N_away HN.out (fun _ hk => hk.1.2))); have BA2 := A_ (blk_grown (put8_ BA.out (.int .i64 n1.f0) (.int .i64 n1.f1.f0) (.string n1.f1.f1) (.string n1.f1.f2) (.string n1.f1.f3) (.bool n1.f2) (.bool n1.f3) (.slice A1 n1.f4.length c1)) hg NOA.out); have HP2 := A_ (PK.grown (HP.out.all8 NA.out (.int .i64 n1.f0) (.int .i64 n1.f1.f0) (.string n1.f1.f1) (.string n1.f1.f2) (.string n1.f1.f3) (.bool n1.f2) (.bool n1.f3) (.slice A1 n1.f4.length c1)) hg (fun q e => (HN.out.1 q e).1.1) G0.out GL.out); obtain ⟨A6, c6, rfl⟩ : ∃ A6 c6, v6 = .slice A6 (l1.length + 1) c6 := (by obtain ⟨Aq, cq, e⟩ := Kd.N_slice ho; exact ⟨Aq, cq, by rw [e, List.length_append]; rfl⟩); clear HN HV BK BA HP; have HN := A_ ho; have HV := HV2; have BK := BK2; have BA := BA2; have HP := HP2; clear ho hb hg hat HV2 BK2 BA2 HP2) | ((with_reducible refine gD 45 ?_); refine gL 45 Tryz.func18 #[.pointer (some ⟨g, 0, none⟩)] ?_; (with_reducible refine (parser_next.calls g y u m2 d2 w0 _ HP.out.hI HP.out.hB).mono ?_); rintro e1 w1 ⟨rfl, hb⟩; refine ⟨_, rfl, ?_⟩; replace HP := A_ (HP.out.below hb); replace BK := A_ (blk_below BK.out hb); replace BA := A_ (blk_below BA.out hb); replace HV := A_ (Kd.V_below HV.out hb); replace HN := A_ (Kd.N_below HN.out hb); have Z := bz8_ BA; have ZK := bz8_ BK; clear hb))
            go_roundg k1
            case measure => have := HK1.out; omega
            case rel => exact ⟨y :: u, m2, d2, l1 ++ [n1], H', ⟨by have := HK1.out; omega⟩, HN, BK, HP⟩
          replace h2 := (if_neg cy).symm.trans h2
          have k6 : (y.f0 == 6) = false := beq_eq_false_iff_ne.mpr cy
          clear cy
          by_cases cy : y.f0 = 5
          · replace h2 := (if_pos cy).symm.trans h2
            have k5 : (y.f0 == 5) = true := beq_iff_eq.mpr cy
            clear cy
            obtain ⟨⟨o1, o2, o3, o4, o5, o6, o7, o8⟩, hO, h3⟩ := Option.bind_eq_some_iff.mp h2
            clear h2
            obtain rfl := Option.some.inj h3
            clear h3
            obtain ⟨l2, hl2⟩ : ∃ l2, l2 = l1 ++ [n1] := ⟨_, rfl⟩
            rw [← hl2] at hO
            have HL2 := A_ hl2
            have HO := A_ hO
            clear hO hl2
            go_wp2_with (first | ((with_reducible refine gC 58 ?_); refine gL 30 Tryz.func58 #[.pointer (some ⟨g, 0, none⟩)] ?_; (with_reducible refine (parser_take.calls g y0 t1 m1 d1 w0 _ HP.out.hI HP.out.hB).mono ?_); rintro e3 w3 ⟨⟨v3, rfl⟩, hP⟩; refine ⟨_, rfl, ?_⟩; replace BK := A_ (hP.blk BK.out NB.out); replace HN := A_ (Kd.N_keep HN.out hP.hK (fun q hq => Ne.symm (Nat.ne_of_lt (Nat.lt_of_lt_of_le GL.out hq.1)))); replace HP := A_ (HP.out.trans hP); clear hP) | ((with_reducible refine gC 17 ?_); refine gL 33 Tryz.func17 #[.pointer (some ⟨g, 0, none⟩)] ?_; (with_reducible refine (IH.out k1 (by have := HK1.out; omega) g t1 m1 d1 _ w0 _ HP.out.hI HP.out.hB H1.out).mono ?_); rintro e1 w1 ⟨v1, u1, rfl, hV, hx, hP⟩; obtain rfl : u1 = .pointer none := hx; refine ⟨_, rfl, ?_⟩; obtain ⟨A1, c1, rfl⟩ : ∃ A1 c1, v1 = .slice A1 n1.f4.length c1 := Kd.V_slice hV; have HV := A_ (Kd.V_mono (ok' := fun q => w.heap.size ≤ q ∧ q ≠ gb ∧ some q ≠ u5.ownBlock) hV (fun q hq => ⟨Nat.le_trans HP.out.hK.1 hq, Ne.symm (Nat.ne_of_lt (Nat.lt_of_lt_of_le (blk_lt BK.out) hq)), fun e => Nat.lt_irrefl _ (Nat.lt_of_lt_of_le (Kd.N_lt HN.out q e.symm) hq)⟩)); replace HN := A_ (Kd.N_keep HN.out hP.hK (fun q hq => Ne.symm (Nat.ne_of_lt (Nat.lt_of_lt_of_le GL.out hq.1)))); replace BK := A_ (hP.blk BK.out NB.out); replace HP := A_ (HP.out.trans hP); clear hV hP) | ((with_reducible refine gD 6 ?_); refine bxe_ 6 z8_ 27 ?_; intro ga hga w4 hbox hb; have BA := A_ hbox; have NA := A_ (HP.out.new hga); have NBA := A_ (show gb ≠ ga from by rw [hga]; exact Nat.ne_of_lt (blk_lt BK.out)); have nba := NBA.out; have nab := Ne.symm nba; have NOA := A_ (show some ga ≠ u5.ownBlock from fun e => by have := Kd.N_lt HN.out ga e.symm; omega); replace HN := A_ (Kd.N_below (Kd.N_elderB HN.out ga (Nat.le_of_eq hga.symm)) hb); replace HV := A_ (Kd.V_below (Kd.V_elderB HV.out ga (Nat.le_of_eq hga.symm)) hb); replace HP := A_ (HP.out.below hb); replace BK := A_ (blk_below BK.out hb); have Z := bz8_ BA; have ZK := bz8_ BK; clear hb hbox hga) | ((with_reducible refine gate_builtin (b := .append) (xs := #[.tmp 40, .tmp 42]) rfl ?_); at_builtin; refine Kd.N_append k27 w.heap.size rfl (.tmp 40) (.tmp 42) 25 27 (.agg #[(.int .i64 0), (.int .i64 0), (.string ⟨#[]⟩), (.string ⟨#[]⟩), (.string ⟨#[]⟩), (.bool false), (.bool false), (.slice none 0 0)]) 96 rfl Tryz.underlying25 info27 rfl (by decide) (by omega) u5 l1 n1 [.int .i64 n1.f0, .int .i64 n1.f1.f0, .string n1.f1.f1, .string n1.f1.f2, .string n1.f1.f3, .bool n1.f2, .bool n1.f3, .slice A1 n1.f4.length c1] (fun q => w.heap.size ≤ q ∧ q ≠ gb) (fun q => (w.heap.size ≤ q ∧ q ≠ gb ∧ some q ≠ u5.ownBlock) ∧ q ≠ ga) rfl ?aX ?aP ?aK ?aF ?aO (Below.refl _ _) ?aS ?aL ?_; (case aX => exact sl8_ ..); (case aP => exact k27_mkF _ _ n1 (Kd.V_at HV.out).2.1 (Kd.V_F (V_all8 HV.out (fun q hq => hq.2) (.int .i64 n1.f0) (.int .i64 n1.f1.f0) (.string n1.f1.f1) (.string n1.f1.f2) (.string n1.f1.f3) (.bool n1.f2) (.bool n1.f3) (.slice A1 n1.f4.length c1)))); (case aK => exact fun q hq => ⟨⟨hq.1.1, hq.1.2.1⟩, hq.1.2.2⟩); (case aF => exact fun q hq => ⟨Nat.le_trans (HP.out.all8 NA.out (.int .i64 n1.f0) (.int .i64 n1.f1.f0) (.string n1.f1.f1) (.string n1.f1.f2) (.string n1.f1.f3) (.bool n1.f2) (.bool n1.f3) (.slice A1 n1.f4.length c1)).hK.1 hq, Ne.symm (Nat.ne_of_lt (Nat.lt_of_lt_of_le (blk_lt (far8_ BK.out NBA.out (.int .i64 n1.f0) (.int .i64 n1.f1.f0) (.string n1.f1.f1) (.string n1.f1.f2) (.string n1.f1.f3) (.bool n1.f2) (.bool n1.f3) (.slice A1 n1.f4.length c1))) hq))⟩); (case aO => exact Kd.N_mono (N_all8 HN.out (fun q hq => hq.2) (.int .i64 n1.f0) (.int .i64 n1.f1.f0) (.string n1.f1.f1) (.string n1.f1.f2) (.string n1.f1.f3) (.bool n1.f2) (.bool n1.f3) (.slice A1 n1.f4.length c1)) (fun q hq => hq.1)); (case aS => exact (HP.out.all8 NA.out (.int .i64 n1.f0) (.int .i64 n1.f1.f0) (.string n1.f1.f1) (.string n1.f1.f2) (.string n1.f1.f3) (.bool n1.f2) (.bool n1.f3) (.slice A1 n1.f4.length c1)).hK.1); (case aL => have := HLN.out; omega); intro v6 w6 ho hb hg hat; rw [← HL2.out] at ho; clear Z ZK; have HV2 := A_ (Kd.V_grown (V_all8 HV.out (fun q hq => hq.2) (.int .i64 n1.f0) (.int .i64 n1.f1.f0) (.string n1.f1.f1) (.string n1.f1.f2) (.string n1.f1.f3) (.bool n1.f2) (.bool n1.f3) (.slice A1 n1.f4.length c1)) hg (fun q hq => hq.1.2.2)); have BK2 := A_ (blk_grown (far8_ BK.out NBA.out (.int .i64 n1.f0) (.int .i64 n1.f1.f0) (.string n1.f1.f1) (.string n1.f1.f2) (.string n1.f1.f3) (.bool n1.f2) (.bool n1.f3) (.slice A1 n1.f4.length c1)) hg (Kd.N_away HN.out (fun _ hk => hk.1.2))); have BA2 := A_ (blk_grown (put8_ BA.out (.int .i64 n1.f0) (.int .i64 n1.f1.f0) (.string n1.f1.f1) (.string n1.f1.f2) (.string n1.f1.f3) (.bool n1.f2) (.bool n1.f3) (.slice A1 n1.f4.length c1)) hg NOA.out); have HP2 := A_ (PK.grown (HP.out.all8 NA.out (.int .i64 n1.f0) (.int .i64 n1.f1.f0) (.string n1.f1.f1) (.string n1.f1.f2) (.string n1.f1.f3) (.bool n1.f2) (.bool n1.f3) (.slice A1 n1.f4.length c1)) hg (fun q e => (HN.out.1 q e).1.1) G0.out GL.out); obtain ⟨A6, c6, rfl⟩ := Kd.N_slice ho; clear HN HV BK BA HP; have HN := A_ ho; have HV := HV2; have BK := BK2; have BA := BA2; have HP := HP2; clear ho hb hg hat HV2 BK2 BA2 HP2) | ((with_reducible refine gD 45 ?_); refine gL 45 Tryz.func18 #[.pointer (some ⟨g, 0, none⟩)] ?_; (with_reducible refine (parser_next.calls g y u m2 d2 w0 _ HP.out.hI HP.out.hB).mono ?_); rintro e1 w1 ⟨rfl, hb⟩; refine ⟨_, rfl, ?_⟩; replace HP := A_ (HP.out.below hb); replace BK := A_ (blk_below BK.out hb); replace BA := A_ (blk_below BA.out hb); replace HV := A_ (Kd.V_below HV.out hb); replace HN := A_ (Kd.N_below HN.out hb); have Z := bz8_ BA; have ZK := bz8_ BK; clear hb) | ((with_reducible refine gC 58 ?_); refine gL 55 Tryz.func58 #[.pointer (some ⟨g, 0, none⟩)] ?_; (with_reducible refine (parser_take.calls g y u m2 d2 w0 _ HP.out.hI HP.out.hB).mono ?_); rintro e3 w3 ⟨⟨v3, rfl⟩, hP⟩; refine ⟨_, rfl, ?_⟩; replace BK := A_ (hP.blk BK.out NB.out); replace HN := A_ (Kd.N_keep HN.out hP.hK (fun q hq => Ne.symm (Nat.ne_of_lt (Nat.lt_of_lt_of_le GL.out hq.1)))); replace HP := A_ (HP.out.trans hP); clear hP Z ZK; obtain ⟨A, c, hG, hg, hc, hC⟩ := HP.out.hI; have HG := A_ hG; have hp1 := (blk_cell HG.out 1).trans rfl; have hp2 := (blk_cell HG.out 2).trans rfl; have hf1 := blk_frozen HG.out 1; have hf2 := blk_frozen HG.out 2; clear hG hg hc hC) | ((with_reducible refine gC 34 ?_); refine gL 64 Tryz.func34 #[.slice A6 l2.length c6] ?_; replace HP := A_ (HP.out.setD (wrap64 (d2 - 1))); replace BK := A_ (blk_far (p := ⟨g, 2, none⟩) BK.out (Ne.symm NB.out.1) (.int .i64 (wrap64 (d2 - 1)))); replace HN := A_ (Kd.N_far (p := ⟨g, 2, none⟩) HN.out (fun q hq => Ne.symm (Nat.ne_of_lt (Nat.lt_of_lt_of_le GL.out hq.1))) (.int .i64 (wrap64 (d2 - 1)))); (with_reducible refine (tree_OneOf.calls (fun q => w.heap.size ≤ q ∧ q ≠ gb) A6 c6 l2 o1 o2 o3 o4 o5 o6 o7 o8 _ (Kd.N_V HN.out) HO.out).mono ?_); rintro e1 w1 ⟨v7, rfl, hN, hb⟩; refine ⟨_, rfl, ?_⟩; obtain ⟨A7, c7, rfl⟩ := Kd.N_slice hN; have HV7 := A_ (Kd.V_mono (ok' := fun q => w.heap.size ≤ q ∧ q ≠ gb) (Kd.N_V (base' := w.heap.size) hN) (fun q hq => hq.elim id (fun hq => ⟨Nat.le_trans HP.out.hK.1 hq, Ne.symm (Nat.ne_of_lt (Nat.lt_of_lt_of_le (blk_lt BK.out) hq))⟩))); replace HP := A_ (HP.out.below hb); replace BK := A_ (blk_below BK.out hb); have Z := bz8_ BK; clear hN hb hp1 hp2 hf1 hf2 HG HN))
            refine bodyPost_ret (results_ct rfl _ _ gb 27 #[.int .i64 o1, .int .i64 o2, .string o3, .string o4, .string o5, .bool o6, .bool o7, .slice A7 o8.length c7] (0, 0) _ rfl (put8_ BK.out ..) Tryz.underlying27 rfl (by kernel_rfl)) rfl ?_
            have p1 := V_all8 HV7.out (fun q hq => hq.2) (.int .i64 o1) (.int .i64 o2) (.string o3) (.string o4) (.string o5) (.bool o6) (.bool o7) (.slice A7 o8.length c7)
            have p2 := HP.out.all8 NB.out (.int .i64 o1) (.int .i64 o2) (.string o3) (.string o4) (.string o5) (.bool o6) (.bool o7) (.slice A7 o8.length c7)
            exact ⟨_, _, rfl, V_base (Kd.V_mono p1 (fun q hq => hq.1)), rfl, p2⟩
          replace h2 := (if_neg cy).symm.trans h2
          have k5 : (y.f0 == 5) = false := beq_eq_false_iff_ne.mpr cy
          clear cy
          obtain rfl := Option.some.inj h2
          clear h2
          go_wp2_with (first | ((with_reducible refine gC 58 ?_); refine gL 30 Tryz.func58 #[.pointer (some ⟨g, 0, none⟩)] ?_; (with_reducible refine (parser_take.calls g y0 t1 m1 d1 w0 _ HP.out.hI HP.out.hB).mono ?_); rintro e3 w3 ⟨⟨v3, rfl⟩, hP⟩; refine ⟨_, rfl, ?_⟩; replace BK := A_ (hP.blk BK.out NB.out); replace HN := A_ (Kd.N_keep HN.out hP.hK (fun q hq => Ne.symm (Nat.ne_of_lt (Nat.lt_of_lt_of_le GL.out hq.1)))); replace HP := A_ (HP.out.trans hP); clear hP) | ((with_reducible refine gC 17 ?_); refine gL 33 Tryz.func17 #[.pointer (some ⟨g, 0, none⟩)] ?_; (with_reducible refine (IH.out k1 (by have := HK1.out; omega) g t1 m1 d1 _ w0 _ HP.out.hI HP.out.hB H1.out).mono ?_); rintro e1 w1 ⟨v1, u1, rfl, hV, hx, hP⟩; obtain rfl : u1 = .pointer none := hx; refine ⟨_, rfl, ?_⟩; obtain ⟨A1, c1, rfl⟩ : ∃ A1 c1, v1 = .slice A1 n1.f4.length c1 := Kd.V_slice hV; have HV := A_ (Kd.V_mono (ok' := fun q => w.heap.size ≤ q ∧ q ≠ gb ∧ some q ≠ u5.ownBlock) hV (fun q hq => ⟨Nat.le_trans HP.out.hK.1 hq, Ne.symm (Nat.ne_of_lt (Nat.lt_of_lt_of_le (blk_lt BK.out) hq)), fun e => Nat.lt_irrefl _ (Nat.lt_of_lt_of_le (Kd.N_lt HN.out q e.symm) hq)⟩)); replace HN := A_ (Kd.N_keep HN.out hP.hK (fun q hq => Ne.symm (Nat.ne_of_lt (Nat.lt_of_lt_of_le GL.out hq.1)))); replace BK := A_ (hP.blk BK.out NB.out); replace HP := A_ (HP.out.trans hP); clear hV hP) | ((with_reducible refine gD 6 ?_); refine bxe_ 6 z8_ 27 ?_; intro ga hga w4 hbox hb; have BA := A_ hbox; have NA := A_ (HP.out.new hga); have NBA := A_ (show gb ≠ ga from by rw [hga]; exact Nat.ne_of_lt (blk_lt BK.out)); have nba := NBA.out; have nab := Ne.symm nba; have NOA := A_ (show some ga ≠ u5.ownBlock from fun e => by have := Kd.N_lt HN.out ga e.symm; omega); replace HN := A_ (Kd.N_below (Kd.N_elderB HN.out ga (Nat.le_of_eq hga.symm)) hb); replace HV := A_ (Kd.V_below (Kd.V_elderB HV.out ga (Nat.le_of_eq hga.symm)) hb); replace HP := A_ (HP.out.below hb); replace BK := A_ (blk_below BK.out hb); have Z := bz8_ BA; have ZK := bz8_ BK; clear hb hbox hga) | ((with_reducible refine gate_builtin (b := .append) (xs := #[.tmp 40, .tmp 42]) rfl ?_); at_builtin; refine Kd.N_append k27 w.heap.size rfl (.tmp 40) (.tmp 42) 25 27 (.agg #[(.int .i64 0), (.int .i64 0), (.string ⟨#[]⟩), (.string ⟨#[]⟩), (.string ⟨#[]⟩), (.bool false), (.bool false), (.slice none 0 0)]) 96 rfl Tryz.underlying25 info27 rfl (by decide) (by omega) u5 l1 n1 [.int .i64 n1.f0, .int .i64 n1.f1.f0, .string n1.f1.f1, .string n1.f1.f2, .string n1.f1.f3, .bool n1.f2, .bool n1.f3, .slice A1 n1.f4.length c1] (fun q => w.heap.size ≤ q ∧ q ≠ gb) (fun q => (w.heap.size ≤ q ∧ q ≠ gb ∧ some q ≠ u5.ownBlock) ∧ q ≠ ga) rfl ?aX ?aP ?aK ?aF ?aO (Below.refl _ _) ?aS ?aL ?_; (case aX => exact sl8_ ..); (case aP => exact k27_mkF _ _ n1 (Kd.V_at HV.out).2.1 (Kd.V_F (V_all8 HV.out (fun q hq => hq.2) (.int .i64 n1.f0) (.int .i64 n1.f1.f0) (.string n1.f1.f1) (.string n1.f1.f2) (.string n1.f1.f3) (.bool n1.f2) (.bool n1.f3) (.slice A1 n1.f4.length c1)))); (case aK => exact fun q hq => ⟨⟨hq.1.1, hq.1.2.1⟩, hq.1.2.2⟩); (case aF => exact fun q hq => ⟨Nat.le_trans (HP.out.all8 NA.out (.int .i64 n1.f0) (.int .i64 n1.f1.f0) (.string n1.f1.f1) (.string n1.f1.f2) (.string n1.f1.f3) (.bool n1.f2) (.bool n1.f3) (.slice A1 n1.f4.length c1)).hK.1 hq, Ne.symm (Nat.ne_of_lt (Nat.lt_of_lt_of_le (blk_lt (far8_ BK.out NBA.out (.int .i64 n1.f0) (.int .i64 n1.f1.f0) (.string n1.f1.f1) (.string n1.f1.f2) (.string n1.f1.f3) (.bool n1.f2) (.bool n1.f3) (.slice A1 n1.f4.length c1))) hq))⟩); (case aO => exact Kd.N_mono (N_all8 HN.out (fun q hq => hq.2) (.int .i64 n1.f0) (.int .i64 n1.f1.f0) (.string n1.f1.f1) (.string n1.f1.f2) (.string n1.f1.f3) (.bool n1.f2) (.bool n1.f3) (.slice A1 n1.f4.length c1)) (fun q hq => hq.1)); (case aS => exact (HP.out.all8 NA.out (.int .i64 n1.f0) (.int .i64 n1.f1.f0) (.string n1.f1.f1) (.string n1.f1.f2) (.string n1.f1.f3) (.bool n1.f2) (.bool n1.f3) (.slice A1 n1.f4.length c1)).hK.1); (case aL => have := HLN.out; omega); intro v6 w6 ho hb hg hat; clear Z ZK; have HV2 := A_ (Kd.V_grown (V_all8 HV.out (fun q hq => hq.2) (.int .i64 n1.f0) (.int .i64 n1.f1.f0) (.string n1.f1.f1) (.string n1.f1.f2) (.string n1.f1.f3) (.bool n1.f2) (.bool n1.f3) (.slice A1 n1.f4.length c1)) hg (fun q hq => hq.1.2.2)); have BK2 := A_ (blk_grown (far8_ BK.out NBA.out (.int .i64 n1.f0) (.int .i64 n1.f1.f0) (.string n1.f1.f1) (.string n1.f1.f2) (.string n1.f1.f3) (.bool n1.f2) (.bool n1.f3) (.slice A1 n1.f4.length c1)) hg (Kd.N_away HN.out (fun _ hk => hk.1.2))); have BA2 := A_ (blk_grown (put8_ BA.out (.int .i64 n1.f0) (.int .i64 n1.f1.f0) (.string n1.f1.f1) (.string n1.f1.f2) (.string n1.f1.f3) (.bool n1.f2) (.bool n1.f3) (.slice A1 n1.f4.length c1)) hg NOA.out); have HP2 := A_ (PK.grown (HP.out.all8 NA.out (.int .i64 n1.f0) (.int .i64 n1.f1.f0) (.string n1.f1.f1) (.string n1.f1.f2) (.string n1.f1.f3) (.bool n1.f2) (.bool n1.f3) (.slice A1 n1.f4.length c1)) hg (fun q e => (HN.out.1 q e).1.1) G0.out GL.out); obtain ⟨A6, c6, rfl⟩ : ∃ A6 c6, v6 = .slice A6 (l1.length + 1) c6 := (by obtain ⟨Aq, cq, e⟩ := Kd.N_slice ho; exact ⟨Aq, cq, by rw [e, List.length_append]; rfl⟩); clear HN HV BK BA HP; have HN := A_ ho; have HV := HV2; have BK := BK2; have BA := BA2; have HP := HP2; clear ho hb hg hat HV2 BK2 BA2 HP2) | ((with_reducible refine gD 45 ?_); refine gL 45 Tryz.func18 #[.pointer (some ⟨g, 0, none⟩)] ?_; (with_reducible refine (parser_next.calls g y u m2 d2 w0 _ HP.out.hI HP.out.hB).mono ?_); rintro e1 w1 ⟨rfl, hb⟩; refine ⟨_, rfl, ?_⟩; replace HP := A_ (HP.out.below hb); replace BK := A_ (blk_below BK.out hb); replace BA := A_ (blk_below BA.out hb); replace HV := A_ (Kd.V_below HV.out hb); replace HN := A_ (Kd.N_below HN.out hb); have Z := bz8_ BA; have ZK := bz8_ BK; clear hb))
          go_region_held3 (fun w' => w'.cell? ⟨ga, 0, none⟩ = some (.int .i64 n1.f0) ∧ w'.cell? ⟨ga, 1, none⟩ = some (.int .i64 n1.f1.f0) ∧ w'.cell? ⟨ga, 2, none⟩ = some (.string n1.f1.f1) ∧ w'.cell? ⟨ga, 3, none⟩ = some (.string n1.f1.f2) ∧ w'.cell? ⟨ga, 4, none⟩ = some (.string n1.f1.f3) ∧ w'.cell? ⟨ga, 5, none⟩ = some (.bool n1.f2) ∧ w'.cell? ⟨ga, 6, none⟩ = some (.bool n1.f3) ∧ w'.cell? ⟨ga, 7, none⟩ = some (.slice A1 n1.f4.length c1)) (first | (with_reducible exact C8_ BA.out) | (with_reducible exact C8_ (blk_drew BA.out)) | exact C8_ (far8_ BA.out nab (.int .i64 n1.f0) (.int .i64 n1.f1.f0) (.string n1.f1.f1) (.string n1.f1.f2) (.string n1.f1.f3) (.bool n1.f2) (.bool n1.f3) (.slice A1 n1.f4.length c1))) (first | (go_at_call 19; replace HP := A_ HP.out.drew; replace BK := A_ (blk_drew BK.out); replace BA := A_ (blk_drew BA.out); replace HV := A_ (Kd.V_drew HV.out); (with_reducible refine (parser_not.calls g y u m2 d2 3 w0 _ HP.out.hI HP.out.hB).mono ?_); rintro e1 w1 ⟨u2, rfl, hx, hb⟩; have HX := A_ hx; have GB := A_ (blk_lt BK.out); have GW := A_ HP.out.hK.1; replace HP := A_ (HP.out.below hb); replace BK := A_ (blk_below BK.out hb); replace BA := A_ (blk_below BA.out hb); replace HV := A_ (Kd.V_below HV.out hb); clear Z ZK HN; have Z := bz8_ BA; have ZK := bz8_ BK; clear hx hb))
          go_wp2
          refine bodyPost_ret (results_ct rfl _ _ gb 27 #[.int .i64 n1.f0, .int .i64 n1.f1.f0, .string n1.f1.f1, .string n1.f1.f2, .string n1.f1.f3, .bool n1.f2, .bool n1.f3, .slice A1 n1.f4.length c1] (0, 0) _ rfl (put8_ BK.out ..) Tryz.underlying27 rfl (by kernel_rfl)) rfl ?_
          have p1 := V_all8 HV.out (fun q hq => hq.1.2.1) (.int .i64 n1.f0) (.int .i64 n1.f1.f0) (.string n1.f1.f1) (.string n1.f1.f2) (.string n1.f1.f3) (.bool n1.f2) (.bool n1.f3) (.slice A1 n1.f4.length c1)
          have p2 := HX.out.all8 GB.out GW.out (.int .i64 n1.f0) (.int .i64 n1.f1.f0) (.string n1.f1.f1) (.string n1.f1.f2) (.string n1.f1.f3) (.bool n1.f2) (.bool n1.f3) (.slice A1 n1.f4.length c1)
          have p3 := HP.out.all8 NB.out (.int .i64 n1.f0) (.int .i64 n1.f1.f0) (.string n1.f1.f1) (.string n1.f1.f2) (.string n1.f1.f3) (.bool n1.f2) (.bool n1.f3) (.slice A1 n1.f4.length c1)
          exact ⟨_, _, rfl, V_base (Kd.V_mono p1 (fun q hq => hq.1.1)), p2, p3⟩
        · replace h2 := (if_neg cl).symm.trans h2
          cases h2
set_option maxHeartbeats 8000000 in
set_option maxRecDepth 100000 in
theorem parser_expr.calls (k : Nat) : ExprAt k := by
  induction k using Nat.strongRecOn with
  | _ k ih =>
  intro g t m d r w0 w hI hB0 h
  have HP := A_ (PK.start hI hB0)
  have IH := A_ ih
  clear hI hB0 ih
  cases k with
  | zero => cases h
  | succ k =>
  cases t with
  | nil => cases h
  | cons x t =>
  rw [pExpr] at h
  by_cases c : x.f0 = 4
  · rw [if_pos c] at h
    have k4 : (x.f0 == 4) = true := beq_iff_eq.mpr c
    have HL := A_ h
    clear c h
    go_enter Tryz.func17, Tryz.ntmps17
    go_wp2_with (first | ((with_reducible refine gD 2 ?_); refine bxe_ 2 z8_ 27 ?_; intro gb hgb w2 hbox hb; have BK := A_ hbox; have NB := A_ (HP.out.new hgb); replace HP := A_ (HP.out.below hb); clear hb hbox hgb) | ((with_reducible refine gD 8 ?_); refine gL 8 Tryz.func18 #[.pointer (some ⟨g, 0, none⟩)] ?_; (with_reducible refine (parser_next.calls g x t m d w0 _ HP.out.hI HP.out.hB).mono ?_); rintro e1 w1 ⟨rfl, hb⟩; refine ⟨_, rfl, ?_⟩; replace HP := A_ (HP.out.below hb); replace BK := A_ (blk_below BK.out hb); clear hb) | ((with_reducible refine gD 14 ?_); refine gV 14 #[.pointer (some ⟨g, 0, none⟩)] Tryz.func39 #[.pointer (some ⟨g, 0, none⟩)] ?_; (with_reducible refine (parser_list.calls k (fun j hj => IH.out j (Nat.lt_succ_of_lt hj)) g x t m d r w0 _ HP.out.hI HP.out.hB HL.out).mono ?_); rintro e1 w1 ⟨v1, u1, rfl, hV, hx, hP⟩; refine ⟨_, rfl, ?_⟩; obtain ⟨A1, c1, rfl⟩ : ∃ A1 c1, v1 = .slice A1 r.n.f4.length c1 := Kd.V_slice hV; have HX := A_ hx; have GB := A_ (blk_lt BK.out); have GW := A_ HP.out.hK.1; have HV := A_ (Kd.V_mono (ok' := fun q => w.heap.size ≤ q ∧ q ≠ gb) hV (fun q hq => ⟨Nat.le_trans HP.out.hK.1 hq, Ne.symm (Nat.ne_of_lt (Nat.lt_of_lt_of_le (blk_lt BK.out) hq))⟩)); replace BK := A_ (hP.blk BK.out NB.out); replace HP := A_ (HP.out.trans hP); have Z := bz8_ BK; clear hx hV hP))
    refine bodyPost_ret (results_ct rfl _ _ gb 27 #[.int .i64 r.n.f0, .int .i64 r.n.f1.f0, .string r.n.f1.f1, .string r.n.f1.f2, .string r.n.f1.f3, .bool r.n.f2, .bool r.n.f3, .slice A1 r.n.f4.length c1] (0, 0) _ rfl (put8_ BK.out ..) Tryz.underlying27 rfl (by kernel_rfl)) rfl ?_; have p1 := V_all8 HV.out (fun q hq => hq.2) (.int .i64 r.n.f0) (.int .i64 r.n.f1.f0) (.string r.n.f1.f1) (.string r.n.f1.f2) (.string r.n.f1.f3) (.bool r.n.f2) (.bool r.n.f3) (.slice A1 r.n.f4.length c1); have p2 := HX.out.all8 GB.out GW.out (.int .i64 r.n.f0) (.int .i64 r.n.f1.f0) (.string r.n.f1.f1) (.string r.n.f1.f2) (.string r.n.f1.f3) (.bool r.n.f2) (.bool r.n.f3) (.slice A1 r.n.f4.length c1); have p3 := HP.out.all8 NB.out (.int .i64 r.n.f0) (.int .i64 r.n.f1.f0) (.string r.n.f1.f1) (.string r.n.f1.f2) (.string r.n.f1.f3) (.bool r.n.f2) (.bool r.n.f3) (.slice A1 r.n.f4.length c1); exact ⟨_, _, rfl, V_base (Kd.V_mono p1 (fun q hq => hq.1)), p2, p3⟩
  · rw [if_neg c] at h
    have k4 : (x.f0 == 4) = false := beq_eq_false_iff_ne.mpr c
    have HL := A_ h
    clear c h
    go_enter Tryz.func17, Tryz.ntmps17
    go_wp2_with (first | ((with_reducible refine gD 2 ?_); refine bxe_ 2 z8_ 27 ?_; intro gb hgb w2 hbox hb; have BK := A_ hbox; have NB := A_ (HP.out.new hgb); replace HP := A_ (HP.out.below hb); clear hb hbox hgb) | ((with_reducible refine gD 8 ?_); refine gL 8 Tryz.func18 #[.pointer (some ⟨g, 0, none⟩)] ?_; (with_reducible refine (parser_next.calls g x t m d w0 _ HP.out.hI HP.out.hB).mono ?_); rintro e1 w1 ⟨rfl, hb⟩; refine ⟨_, rfl, ?_⟩; replace HP := A_ (HP.out.below hb); replace BK := A_ (blk_below BK.out hb); clear hb) | ((with_reducible refine gD 14 ?_); refine gV 14 #[.pointer (some ⟨g, 0, none⟩)] Tryz.func38 #[.pointer (some ⟨g, 0, none⟩)] ?_; (with_reducible refine (parser_span.calls k g (x :: t) m d r w0 _ HP.out.hI HP.out.hB HL.out).mono ?_); rintro e1 w1 ⟨v1, u1, rfl, hV, hx, hP⟩; refine ⟨_, rfl, ?_⟩; obtain ⟨A1, c1, rfl⟩ : ∃ A1 c1, v1 = .slice A1 r.n.f4.length c1 := Kd.V_slice hV; have HX := A_ hx; have GB := A_ (blk_lt BK.out); have GW := A_ HP.out.hK.1; have HV := A_ (Kd.V_mono (ok' := fun q => w.heap.size ≤ q ∧ q ≠ gb) hV (fun q hq => ⟨Nat.le_trans HP.out.hK.1 hq, Ne.symm (Nat.ne_of_lt (Nat.lt_of_lt_of_le (blk_lt BK.out) hq))⟩)); replace BK := A_ (hP.blk BK.out NB.out); replace HP := A_ (HP.out.trans hP); have Z := bz8_ BK; clear hx hV hP))
    refine bodyPost_ret (results_ct rfl _ _ gb 27 #[.int .i64 r.n.f0, .int .i64 r.n.f1.f0, .string r.n.f1.f1, .string r.n.f1.f2, .string r.n.f1.f3, .bool r.n.f2, .bool r.n.f3, .slice A1 r.n.f4.length c1] (0, 0) _ rfl (put8_ BK.out ..) Tryz.underlying27 rfl (by kernel_rfl)) rfl ?_; have p1 := V_all8 HV.out (fun q hq => hq.2) (.int .i64 r.n.f0) (.int .i64 r.n.f1.f0) (.string r.n.f1.f1) (.string r.n.f1.f2) (.string r.n.f1.f3) (.bool r.n.f2) (.bool r.n.f3) (.slice A1 r.n.f4.length c1); have p2 := HX.out.all8 GB.out GW.out (.int .i64 r.n.f0) (.int .i64 r.n.f1.f0) (.string r.n.f1.f1) (.string r.n.f1.f2) (.string r.n.f1.f3) (.bool r.n.f2) (.bool r.n.f3) (.slice A1 r.n.f4.length c1); have p3 := HP.out.all8 NB.out (.int .i64 r.n.f0) (.int .i64 r.n.f1.f0) (.string r.n.f1.f1) (.string r.n.f1.f2) (.string r.n.f1.f3) (.bool r.n.f2) (.bool r.n.f3) (.slice A1 r.n.f4.length c1); exact ⟨_, _, rfl, V_base (Kd.V_mono p1 (fun q hq => hq.1)), p2, p3⟩
theorem strings_IndexByte.calls (a0 : ByteArray) (a1 r : Int) (w : World) (h : strings_IndexByte.f a0 a1 = some r) :
    Calls Tryz.prog 54 #[.string a0, .int .u8 a1] w fun e w' => e = .returned (.int .i64 r) ∧ ∃ nd, w' = w.drewN nd := by
  refine (Tryz.strings_IndexByte a0 a1 w).mono fun e w' ⟨he, hw⟩ => ⟨?_, 0, hw⟩
  rw [he, ← Option.some.inj h]
end Go.Proofs.YtjgjhekpiijniaaGreat.A
namespace Go.Proofs.YtjgjhekpiijniaaGreat.A
open Go.RowKit Go.Proofs.YtjgjhekpiijniaaGreatW.PrintWords Go.Proofs.YtjgjhekpiijniaaGreatW.PrintLast Go.Proofs.YtjgjhekpiijniaaGreatW.PrintMore
attribute [local go_sem] max2_int min2_int max_two min_two max_three min_three max_four min_four
set_option maxHeartbeats 8000000 in
set_option maxRecDepth 100000 in
theorem lex_word.calls (k : Nat) (a0 : ByteArray) (r : Int) (w : World) (h : lex_word.f k a0 = some r) :
  Calls Tryz.prog 36 #[.string a0] w fun e w' => e = .returned (.int .i64 r) ∧ Drawn0 w w' := by
 have H : (lex_word.l0 k a0 0) = some r := h; clear h; have H' := A_ H; clear H; go_enter Tryz.func36, Tryz.ntmps36; go_wp2; go_loopg [3] k (fun kq v3 w' => ∃ (x3_1 : Int), v3 = .int .i64 x3_1 ∧ Aside0 (lex_word.l0 kq a0 x3_1 = some r) ∧ Aside0 (kq ≤ k) ∧ Drawn0 w w')
 case atStart => exact ⟨(0), rf_, H', ⟨Nat.le_refl _⟩, by repeat (first | exact Drawn0.refl _ | apply Drawn0.step)⟩
 case round =>
  clear H'; obtain ⟨x3_1, rfl, HA, HK1, ⟨m1, rfl⟩⟩ := hrel
  cases gk with
  | zero => exact absurd HA.out (by simp [lex_word.l0])
  | succ k1 =>
   have H := HA.out; clear HA; simp only [lex_word.l0] at H
   by_cases c2 : x3_1 < (a0.size : Int)
   ·rw [if_pos c2] at H
    have c2b0 := decide_eq_true c2; clear c2
    by_cases c3 : 0 ≤ x3_1
    ·rw [if_pos c3] at H
     have c3b0 := decide_eq_true c3; clear c3; obtain ⟨t267, A5, H⟩ := bi_ H
     by_cases c6 : t267 ≥ 0
     ·rw [if_pos c6] at H
      have c6b0 := decide_eq_true c6; clear c6; have H' := A_ H; clear H; have p4 : 0 ≤ (x3_1 : Int) := od_; have q4 : x3_1 < (a0.size : Int) := od_; have hx4 := bt_at a0 x3_1; replace p4 := eq_true p4; replace q4 := eq_true q4; go_wp2_with (first | (go_at_call 54; (with_reducible refine (strings_IndexByte.calls (⟨#[48, 49, 50, 51, 52, 53, 54, 55, 56, 57, 88, 45, 115, 100, 99]⟩ : ByteArray) (bt a0 x3_1) t267 _ A5.out).mono ?_); rintro e w' ⟨rfl, ⟨nd, rfl⟩⟩)); go_roundg k1
      case measure => have := HK1.out; omega
      case rel => exact ⟨(wrap64 (x3_1 + 1)), rf_, H', ⟨by have := HK1.out; omega⟩, by repeat (first | exact Drawn0.refl _ | apply Drawn0.step)⟩
     ·rw [if_neg c6] at H
      have c6b0 := decide_eq_false c6; clear c6; obtain rfl := Option.some.inj H; have p4 : 0 ≤ (x3_1 : Int) := od_; have q4 : x3_1 < (a0.size : Int) := od_; have hx4 := bt_at a0 x3_1; replace p4 := eq_true p4; replace q4 := eq_true q4; go_wp2_with (first | (go_at_call 54; (with_reducible refine (strings_IndexByte.calls (⟨#[48, 49, 50, 51, 52, 53, 54, 55, 56, 57, 88, 45, 115, 100, 99]⟩ : ByteArray) (bt a0 x3_1) t267 _ A5.out).mono ?_); rintro e w' ⟨rfl, ⟨nd, rfl⟩⟩)); go_ret; exact ⟨by first | rfl | (simp; done) | (simp [*]; done), by repeat (first | exact Drawn0.refl _ | apply Drawn0.step)⟩
    ·rw [if_neg c3] at H
     exact absurd H (by simp)
   ·rw [if_neg c2] at H
    have c2b0 := decide_eq_false c2; clear c2; obtain rfl := Option.some.inj H; go_wp2; go_ret; exact ⟨by first | rfl | (simp; done) | (simp [*]; done), by repeat (first | exact Drawn0.refl _ | apply Drawn0.step)⟩
set_option maxHeartbeats 8000000 in
set_option maxRecDepth 100000 in
theorem stringslite_HasPrefix.calls (a0 a1 : ByteArray) (r : Bool) (w : World) (h : stringslite_HasPrefix.f a0 a1 = some r) :
  Calls Tryz.prog 55 #[.string a0, .string a1] w fun e w' => e = .returned (.bool r) ∧ Drawn0 w w' := by
 have H : (if (a0.size : Int) ≥ (a1.size : Int) then (if 0 ≤ (a1.size : Int) then (if (a1.size : Int) ≤ (a0.size : Int) then (some ((a0.extract 0 ((a1.size : Int) : Int).toNat).toList == a1.toList)) else (none)) else (none)) else (some false)) = some r := h; clear h
 by_cases c3 : (a0.size : Int) ≥ (a1.size : Int)
 ·rw [if_pos c3] at H
  have c3b0 := decide_eq_true c3; have c3b1 : decide (a1.size ≤ a0.size) = true := decide_eq_true (Int.ofNat_le.mp c3); clear c3
  by_cases c4 : 0 ≤ (a1.size : Int)
  ·rw [if_pos c4] at H
   have c4b0 := eq_true c4; have c4b1 := decide_eq_true c4; clear c4
   by_cases c5 : (a1.size : Int) ≤ (a0.size : Int)
   ·rw [if_pos c5] at H
    have c5b0 := eq_true c5; have c5b1 := decide_eq_true c5; clear c5; obtain rfl := Option.some.inj H; go_enter Tryz.func55, Tryz.ntmps55; go_wp2; go_ret; exact ⟨by first | rfl | (simp; done) | (simp [*]; done), by repeat (first | exact Drawn0.refl _ | apply Drawn0.step)⟩
   ·rw [if_neg c5] at H
    exact absurd H (by simp)
  ·rw [if_neg c4] at H
   exact absurd H (by simp)
 ·rw [if_neg c3] at H
  have c3b0 := decide_eq_false c3; have c3b1 : decide (a1.size ≤ a0.size) = false := decide_eq_false (fun h => c3 (Int.ofNat_le.mpr h)); clear c3; obtain rfl := Option.some.inj H; go_enter Tryz.func55, Tryz.ntmps55; go_wp2; go_ret; exact ⟨by first | rfl | (simp; done) | (simp [*]; done), by repeat (first | exact Drawn0.refl _ | apply Drawn0.step)⟩
set_option maxHeartbeats 8000000 in
set_option maxRecDepth 100000 in
theorem strings_HasPrefix.calls (a0 a1 : ByteArray) (r : Bool) (w : World) (h : strings_HasPrefix.f a0 a1 = some r) :
  Calls Tryz.prog 37 #[.string a0, .string a1] w fun e w' => e = .returned (.bool r) ∧ Drawn0 w w' := by
 have H : ((stringslite_HasPrefix.f a0 a1).bind fun t268 => (some t268)) = some r := h; clear h; obtain ⟨t268, A3, H⟩ := bi_ H; obtain rfl := Option.some.inj H; go_enter Tryz.func37, Tryz.ntmps37; go_wp2_with (first | (refine gC 55 ?_; refine gL 7 Tryz.func55 #[.string a0, .string a1] ?_; (with_reducible refine (stringslite_HasPrefix.calls a0 a1 t268 _ A3.out).mono ?_); rintro e w' ⟨rfl, ⟨nd, rfl⟩⟩; refine ⟨_, rfl, ?_⟩)); go_ret; exact ⟨by first | rfl | (simp; done) | (simp [*]; done), by repeat (first | exact Drawn0.refl _ | apply Drawn0.step)⟩
end Go.Proofs.YtjgjhekpiijniaaGreat.A
namespace Go.Proofs.YtjgjhekpiijniaaGreat.A
open Go.RowKit Go.Maps Go.WideShapes Go.Proofs.YtjgjhekpiijniaaGreatW.PrintWords Go.Proofs.YtjgjhekpiijniaaGreatW.PrintLast Go.Proofs.YtjgjhekpiijniaaGreatW.PrintMore
theorem wpList_insert_own {H : Type} {P : Program} (w : World) {ops : Array Oper} {rest : List Oper} {o : Oper} {a : Act} {Q : Exit → Act → World → Prop}
    (hg : o.guard = none) (m x v : Operand) (t : TypeId) (hop : o.op = Op.insert t m x v)
    (k e : TypeId) (K : Keyed P k) (ht : P.underlying t = some (.map k e)) (R : Value → Option (DataW H × List MemPlace)) (b n : Nat) (D : DataW H)
    (hm : a.eval m = .map (some b)) (hown : w.ownsMap P k R b n D) (hn : n < maxLen) (key val : Value) (kl : Lit) (hx : a.eval x = key) (hv : a.eval v = val) (hkey : keyOf P k key = some kl)
    (d : DataW H) (ps : List MemPlace) (hval : R val = some (d, ps))
    (hK : ∀ w', w'.ownsMap P k R b (n + 1) (D.put kl d) → w.grownBy w' (some b) → wpList P ops Q rest (a.put o.dst undef) w') :
    wpList P ops Q (o :: rest) a w := by
  refine wpList_plain hg fun K' hK' => ?_
  obtain ⟨w', hrun, r1, r2⟩ := hown.update K ht hn hkey hval
  unfold Oper.wp
  simp [execOp, hop, hm, hx, hv, hrun, Result.andThen]
  exact hK' _ _ (hK w' r1 r2)
def ent (k v : Int) : Lit × DataW Unit := (.int .u8 k, .lit (.int .i64 v))
def D7 : DataW Unit := (((((((DataW.map []).put (.int .u8 47) (.lit (.int .i64 1))).put (.int .u8 42) (.lit (.int .i64 3))).put (.int .u8 91) (.lit (.int .i64 4))).put (.int .u8 93) (.lit (.int .i64 5))).put (.int .u8 44) (.lit (.int .i64 6))).put (.int .u8 63) (.lit (.int .i64 7))).put (.int .u8 126) (.lit (.int .i64 8))
theorem D7_eq : D7 = .map [ent 42 3, ent 44 6, ent 47 1, ent 63 7, ent 91 4, ent 93 5, ent 126 8] := by kernel_rfl
def IsSigns (w : World) (g : Nat) : Prop := w.ownsMap Tryz.prog 5 (plainElem Tryz.prog 3) g 7 D7
set_option maxRecDepth 100000 in
theorem lex_signs.made (w : World) : Calls Tryz.prog 35 #[] w fun e w' => ∃ g, e = .returned (.map (some g)) ∧ IsSigns w' g ∧ Below w.heap.size w w' := by
  have HM := A_ (World.ownsMap_made (H := Unit) w Tryz.prog 5 (plainElem Tryz.prog 3))
  have HB := A_ ((Below.refl w.heap.size w).alloc (Nat.le_refl _) (.map #[] 0))
  have hmm := @run_makeMap Tryz.prog
  go_enter Tryz.func35, Tryz.ntmps35
  go_wp2_with (first | (refine wpList_insert_own _ rfl _ _ _ 64 rfl 5 3 (int_keyed Tryz.underlying5) Tryz.underlying64 (plainElem Tryz.prog 3) _ _ _ rfl HM.out (by unfold maxLen; omega) _ _ _ rfl rfl (keyOf_int_mk Tryz.underlying5 (by decide)) _ [] (plainElem_int Tryz.underlying3 (by decide)) ?_; intro w1 ho hg; have n0_ := A_ ho; have n1_ := A_ (HB.out.grown hg (HB.out.size) (fun k hk => by injection hk with hk; omega)); clear HM HB ho hg; have HM := n0_; have HB := n1_; clear n0_ n1_))
  go_ret
  exact ⟨_, rfl, HM.out, HB.out⟩
theorem sig_below {w w1 : World} {g : Nat} (h : IsSigns w g) (hb : Below w.heap.size w w1) : IsSigns w1 g := by
  obtain ⟨es, clock, h1, h2⟩ := h
  have hlt : g < w.heap.size := by
    rcases Nat.lt_or_ge g w.heap.size with h | h
    · exact h
    · rw [Array.getElem?_eq_none h] at h1; cases h1
  exact ⟨es, clock, (hb.block g hlt).trans h1, h2⟩
theorem sign_at (c : Int) : D7.atKey (.int .u8 c) (.lit (.int .i64 0)) = .lit (.int .i64 (signK c)) ∧ has D7 (.int .u8 c) = signB c := by
  have hk : ∀ n : Int, (Lit.int .u8 n).sameKey (.int .u8 c) = decide (n = c) := fun n => by simp [Lit.sameKey]
  rw [D7_eq]
  unfold signK signB
  by_cases h1 : c = 47
  · subst h1; constructor <;> rfl
  by_cases h2 : c = 42
  · subst h2; constructor <;> rfl
  by_cases h3 : c = 91
  · subst h3; constructor <;> rfl
  by_cases h4 : c = 93
  · subst h4; constructor <;> rfl
  by_cases h5 : c = 44
  · subst h5; constructor <;> rfl
  by_cases h6 : c = 63
  · subst h6; constructor <;> rfl
  by_cases h7 : c = 126
  · subst h7; constructor <;> rfl
  have e : ∀ n : Int, n ≠ c → decide (n = c) = false := fun n h => decide_eq_false h
  constructor
  · simp [DataW.atKey, ent, hk, Ne.symm h1, Ne.symm h2, Ne.symm h3, Ne.symm h4, Ne.symm h5, Ne.symm h6, Ne.symm h7, h1, h2, h3, h4, h5, h6, h7]
  · simp [has, ent, hk, Ne.symm h1, Ne.symm h2, Ne.symm h3, Ne.symm h4, Ne.symm h5, Ne.symm h6, Ne.symm h7, h1, h2, h3, h4, h5, h6, h7]
theorem wf_u8 {c : Int} (h : 0 ≤ c ∧ c ≤ 255) : (Lit.int .u8 c).wf = true := by
  have e1 : IntKind.min .u8 = 0 := by kernel_rfl
  have e2 : IntKind.max .u8 = 255 := by kernel_rfl
  simp only [Lit.wf, e1, e2, Bool.and_eq_true, decide_eq_true_eq]
  omega
theorem look_sign (w : World) {ops : Array Oper} {rest : List Oper} {o : Oper} {a : Act} {Q : Exit → Act → World → Prop} (hg : o.guard = none) (m x : Operand) (hop : o.op = Op.lookup 64 m x true) (g : Nat) (hm : a.eval m = .map (some g)) (hs : IsSigns w g) (c k : Int) (b : Bool) (hx : a.eval x = .int .u8 c) (h0 : 0 ≤ c ∧ c ≤ 255) (hf : lex_signs.f c = some (k, b))
    (hK : wpList Tryz.prog ops Q rest (a.put o.dst (.tuple #[.int .i64 k, .bool b])) w) : wpList Tryz.prog ops Q (o :: rest) a w := by
  refine wpList_lookup_own_ok_int w hg m x 64 hop 5 3 .i64 (int_keyed Tryz.underlying5) Tryz.underlying64 Tryz.underlying3 (Tryz.zeroValue3 w) g 7 D7 hm hs (.int .u8 c) (.int .u8 c) hx (keyOf_int_mk Tryz.underlying5 (wf_u8 h0)) ?_
  intro c' hat _
  obtain ⟨h1, h2⟩ := sign_at c
  rw [h1] at hat
  rw [h2]
  injection hat with hat
  injection hat with _ hat
  injection hf with hf
  injection hf with hf1 hf2
  rw [← hat, hf1, hf2]
  exact hK
end Go.Proofs.YtjgjhekpiijniaaGreat.A
namespace Go.Proofs.YtjgjhekpiijniaaGreat.A
open Go.RowKit Go.Proofs.YtjgjhekpiijniaaGreatW.PrintWords Go.Proofs.YtjgjhekpiijniaaGreatW.PrintLast Go.Proofs.YtjgjhekpiijniaaGreatW.PrintMore
attribute [local go_sem] max2_int min2_int max_two min_two max_three min_three max_four min_four
set_option maxHeartbeats 8000000 in
set_option maxRecDepth 100000 in
theorem lex_All.callsK (k : Nat) (a0 : ByteArray) (r1 : List (S46)) (r2 r3 : Int) (w0_ : World) (K : Ending → World → Prop) (hK : ∀ w1 : World, Below w0_.heap.size w0_ w1 → ∀ e w', (∃ v0_ : Value, e = .returned (.tuple #[v0_, .int .i64 r2, .int .i64 r3]) ∧ Kd.R k46 46 w' w1.heap.size (fun _ => True) v0_ r1 ∧ Below w1.heap.size w1 w') → K e w') (h : lex_All.f k a0 = some (r1, r2, r3)) :
  Calls Tryz.prog 16 #[.string a0] w0_ K := by
 have hu46 := Tryz.underlying46; have HKK := A_ hK; clear hK; have HB := A_ (Below.refl w0_.heap.size w0_); have H : (if (a0.size : Int) > 2000 then (some (([] : List (S46)), 2000, 7)) else (lex_All.l0 k a0 ([] : List (S46)) 0)) = some (r1, r2, r3) := h; clear h
 by_cases c2 : (a0.size : Int) > 2000
 ·rw [if_pos c2] at H
  have c2b0 := decide_eq_true c2; have c2b1 : decide (2000 < a0.size) = true := decide_eq_true (by omega); clear c2; simp only [Option.some.injEq, Prod.mk.injEq] at H; obtain ⟨rfl, rfl, rfl⟩ := H; go_enter Tryz.func16, Tryz.ntmps16; go_wp2; go_ret3; exact HKK.out w0_ (Below.refl _ _) _ _ ⟨_, by first | rfl | (simp [errW_none, errW_some] <;> rfl) | (simp [*, errW_none, errW_some] <;> rfl), by first | exact Kd.R_nil _ _ _ _ _ | exact Kd.N_nil _ _ _ _ _ | exact Kd.V_nil _ _ _ _ _ | exact Kd.Q_nil _ _ _ _ _ | exact Kd.S_nil _ _ _ _ _, hs_⟩
 ·rw [if_neg c2] at H
  have c2b0 := decide_eq_false c2; have c2b1 : decide (2000 < a0.size) = false := decide_eq_false (by omega); clear c2; have H' := A_ H; clear H; go_enter Tryz.func16, Tryz.ntmps16; go_wp2_with (first | (go_at_call 35; refine (lex_signs.made _).mono ?_; rintro e w ⟨gm, rfl, hm_, hb⟩; have HMS := A_ hm_; have HB3 := A_ hb; clear hm_ hb HB; have HB := A_ (Below.refl w.heap.size w))); go_loopg [6, 7] k (fun kq v6 v7 w' => ∃ (x6_1 : List (S46)) (x7_1 : Int), v7 = .int .i64 x7_1 ∧ Aside0 (lex_All.l0 kq a0 x6_1 x7_1 = some (r1, r2, r3)) ∧ Aside0 (kq ≤ k) ∧ Aside0 (Kd.R k46 46 w' w.heap.size (fun _ => True) v6 x6_1) ∧ Aside0 (Below w.heap.size w w'))
  case atStart => exact ⟨(([] : List (S46))), (0), rf_, H', ⟨Nat.le_refl _⟩, ⟨by first | exact Kd.R_nil _ _ _ _ _ | exact Kd.N_nil _ _ _ _ _ | exact Kd.V_nil _ _ _ _ _ | exact Kd.Q_nil _ _ _ _ _ | exact Kd.S_nil _ _ _ _ _⟩, ⟨hs_⟩⟩
  case round =>
   clear H'; (try clear c2); (try clear c2b0); (try clear c2b1); (try clear p2); obtain ⟨x6_1, x7_1, rfl, HA, HK1, HO_6, HB⟩ := hrel
   cases gk with
   | zero => exact absurd HA.out (by simp [lex_All.l0])
   | succ k1 =>
    have H := HA.out; clear HA; simp only [lex_All.l0] at H
    by_cases c3 : x7_1 < (a0.size : Int)
    ·rw [if_pos c3] at H
     have c3b0 := decide_eq_true c3; clear c3
     by_cases c4 : 0 ≤ x7_1
     ·rw [if_pos c4] at H
      have c4b0 := decide_eq_true c4; clear c4; obtain ⟨⟨t272, t273⟩, A6, H⟩ := bi_ H; have c7b0 := eq_true (od_ : 0 ≤ x7_1)
      by_cases c8 : x7_1 ≤ (a0.size : Int)
      ·rw [if_pos c8] at H
       have c8b0 := eq_true c8; have c8b1 := decide_eq_true c8; clear c8; obtain ⟨t274, A9, H⟩ := bi_ H
       by_cases c10 : t274 > 0
       ·rw [if_pos c10] at H
        have c10b0 := decide_eq_true c10; clear c10; have c11b0 := eq_true (od_ : 0 ≤ x7_1)
        by_cases c12 : x7_1 ≤ (wrap64 (x7_1 + t274))
        ·rw [if_pos c12] at H
         have c12b0 := eq_true c12; have c12b1 := decide_eq_true c12
         by_cases c13 : (wrap64 (x7_1 + t274)) ≤ (a0.size : Int)
         ·rw [if_pos c13] at H
          have c13b0 := eq_true c13; have c13b1 := decide_eq_true c13
          by_cases c14 : x6_1.length < 4398046511104
          ·rw [if_pos c14] at H
           have LMc14 := A_ c14; clear c14; obtain ⟨y275, hy275⟩ : ∃ y_ : List (S46), y_ = (x6_1 ++ [(⟨0, x7_1, a0.extract (x7_1 : Int).toNat ((wrap64 (x7_1 + t274)) : Int).toNat⟩ : S46)]) := ⟨_, rfl⟩; (replace H : (lex_All.l0 k1 a0 y275 (wrap64 (x7_1 + t274))) = some (r1, r2, r3) := by first | (rw [hy275]; with_reducible exact H) | (have H2_ := (Option.bind_some _ _).symm.trans H; rw [hy275]; with_reducible exact H2_) | (have H2_ := (Option.bind_some _ _).symm.trans H; with_reducible exact H2_) | with_reducible exact H | (rw [hy275]; exact H) | exact H); have Ny275 := A_ hy275; clear hy275; have H' := A_ H; clear H; have p5 : 0 ≤ (x7_1 : Int) := od_; have q5 : x7_1 < (a0.size : Int) := od_; have hx5 := bt_at a0 x7_1; replace p5 := eq_true p5; replace q5 := eq_true q5; go_wp2_with (first | (refine look_sign _ rfl _ _ rfl gm rfl (sig_below HMS.out hs_) (bt a0 x7_1) t272 t273 rfl (bt_range _ _) A6.out ?_) | (refine gC 36 ?_; refine gL 30 Tryz.func36 #[.string (a0.extract (x7_1 : Int).toNat a0.size)] ?_; (with_reducible refine (lex_word.calls k1 (a0.extract (x7_1 : Int).toNat a0.size) t274 _ A9.out).mono ?_); rintro e w' ⟨rfl, ⟨nd, rfl⟩⟩; refine ⟨_, rfl, ?_⟩) | ((with_reducible refine gate_builtin (b := .append) (xs := #[.tmp 35, .tmp 44]) rfl ?_); at_builtin; refine Kd.R_append k46 (w0 := w) w.heap.size rfl (.tmp 35) (.tmp 44) 36 46 (.agg #[(.int .i64 0), (.int .i64 0), (.string ⟨#[]⟩)]) 32 rfl Tryz.underlying36 info46 rfl (by decide) (by omega) u6 x6_1 (⟨0, x7_1, a0.extract (x7_1 : Int).toNat ((wrap64 (x7_1 + t274)) : Int).toNat⟩ : S46) [.int .i64 0, .int .i64 x7_1, .string (a0.extract (x7_1 : Int).toNat ((wrap64 (x7_1 + t274)) : Int).toNat)] (fun _ => True) (fun _ => False) rfl rfl ?aP (fun _ hk => hk.elim) ?aF ?aO ?aB ?aS ?aL ?_; (case aP => exact k46_mkM _ _ _ (⟨0, x7_1, a0.extract (x7_1 : Int).toNat ((wrap64 (x7_1 + t274)) : Int).toNat⟩ : S46)); (case aB => exact hs_); (case aF => exact (fun _ _ => trivial)); (case aO => exact (fxR_ HO_6.out)); (case aS => exact (below_size hs_)); (case aL => have := LMc14.out; omega); intro v276 w15 ho hb hg hat; rw [← Ny275.out] at ho; replace HB := A_ (hb); have HO277 := A_ (ho); clear HO_6; clear ho hb hg hat)); go_roundg k1
           case measure => have := HK1.out; omega
           case rel => exact ⟨(y275), (wrap64 (x7_1 + t274)), rf_, H', ⟨by have := HK1.out; omega⟩, ⟨fxR_ HO277.out⟩, ⟨hs_⟩⟩
          ·rw [if_neg c14] at H
           exact absurd H (by simp)
         ·rw [if_neg c13] at H
          exact absurd H (by simp)
        ·rw [if_neg c12] at H
         exact absurd H (by simp)
       ·rw [if_neg c10] at H
        have c10b0 := decide_eq_false c10; clear c10
        by_cases c16 : t273 = true
        ·subst c16
         (have H1 : (if x6_1.length < 4398046511104 then (lex_All.l0 k1 a0 (x6_1 ++ [(⟨t272, x7_1, (⟨#[]⟩ : ByteArray)⟩ : S46)]) (wrap64 (x7_1 + 1))) else (none)) = some (r1, r2, r3) := by rw [if_pos rfl] at H; exact H); clear H; have H := H1; clear H1
         by_cases c17 : x6_1.length < 4398046511104
         ·rw [if_pos c17] at H
          have LMc17 := A_ c17; clear c17; obtain ⟨y278, hy278⟩ : ∃ y_ : List (S46), y_ = (x6_1 ++ [(⟨t272, x7_1, (⟨#[]⟩ : ByteArray)⟩ : S46)]) := ⟨_, rfl⟩; (replace H : (lex_All.l0 k1 a0 y278 (wrap64 (x7_1 + 1))) = some (r1, r2, r3) := by first | (rw [hy278]; with_reducible exact H) | (have H2_ := (Option.bind_some _ _).symm.trans H; rw [hy278]; with_reducible exact H2_) | (have H2_ := (Option.bind_some _ _).symm.trans H; with_reducible exact H2_) | with_reducible exact H | (rw [hy278]; exact H) | exact H); have Ny278 := A_ hy278; clear hy278; have H' := A_ H; clear H; have p5 : 0 ≤ (x7_1 : Int) := od_; have q5 : x7_1 < (a0.size : Int) := od_; have hx5 := bt_at a0 x7_1; replace p5 := eq_true p5; replace q5 := eq_true q5; go_wp2_with (first | (refine look_sign _ rfl _ _ rfl gm rfl (sig_below HMS.out hs_) (bt a0 x7_1) t272 true rfl (bt_range _ _) A6.out ?_) | (refine gC 36 ?_; refine gL 30 Tryz.func36 #[.string (a0.extract (x7_1 : Int).toNat a0.size)] ?_; (with_reducible refine (lex_word.calls k1 (a0.extract (x7_1 : Int).toNat a0.size) t274 _ A9.out).mono ?_); rintro e w' ⟨rfl, ⟨nd, rfl⟩⟩; refine ⟨_, rfl, ?_⟩) | ((with_reducible refine gate_builtin (b := .append) (xs := #[.tmp 48, .tmp 52]) rfl ?_); at_builtin; refine Kd.R_append k46 (w0 := w) w.heap.size rfl (.tmp 48) (.tmp 52) 36 46 (.agg #[(.int .i64 0), (.int .i64 0), (.string ⟨#[]⟩)]) 32 rfl Tryz.underlying36 info46 rfl (by decide) (by omega) u6 x6_1 (⟨t272, x7_1, (⟨#[]⟩ : ByteArray)⟩ : S46) [.int .i64 t272, .int .i64 x7_1, .string ⟨#[]⟩] (fun _ => True) (fun _ => False) rfl rfl ?aP (fun _ hk => hk.elim) ?aF ?aO ?aB ?aS ?aL ?_; (case aP => exact k46_mkM _ _ _ (⟨t272, x7_1, (⟨#[]⟩ : ByteArray)⟩ : S46)); (case aB => exact hs_); (case aF => exact (fun _ _ => trivial)); (case aO => exact (fxR_ HO_6.out)); (case aS => exact (below_size hs_)); (case aL => have := LMc17.out; omega); intro v279 w18 ho hb hg hat; rw [← Ny278.out] at ho; replace HB := A_ (hb); have HO280 := A_ (ho); clear HO_6; clear ho hb hg hat)); go_roundg k1
          case measure => have := HK1.out; omega
          case rel => exact ⟨(y278), (wrap64 (x7_1 + 1)), rf_, H', ⟨by have := HK1.out; omega⟩, ⟨fxR_ HO280.out⟩, ⟨hs_⟩⟩
         ·rw [if_neg c17] at H
          exact absurd H (by simp)
        ·replace c16 := Bool.eq_false_iff.mpr c16
         subst c16; (have H1 : ((strings_HasPrefix.f (a0.extract (x7_1 : Int).toNat a0.size) (⟨#[46, 46]⟩ : ByteArray)).bind fun t281 => (if t281 = true then (if x6_1.length < 4398046511104 then (lex_All.l0 k1 a0 (x6_1 ++ [(⟨2, x7_1, (⟨#[]⟩ : ByteArray)⟩ : S46)]) (wrap64 (x7_1 + 2))) else (none)) else (if (bt a0 x7_1) = 32 then (lex_All.l0 k1 a0 x6_1 (wrap64 (x7_1 + 1))) else (some (([] : List (S46)), x7_1, 1))))) = some (r1, r2, r3) := by rw [if_neg (show ¬ (false = true) by decide)] at H; exact H); clear H; have H := H1; clear H1; have c19b0 := eq_true (od_ : 0 ≤ x7_1); have c20b0 := eq_true (od_ : x7_1 ≤ (a0.size : Int)); obtain ⟨t281, A21, H⟩ := bi_ H
         by_cases c22 : t281 = true
         ·subst c22
          (have H1 : (if x6_1.length < 4398046511104 then (lex_All.l0 k1 a0 (x6_1 ++ [(⟨2, x7_1, (⟨#[]⟩ : ByteArray)⟩ : S46)]) (wrap64 (x7_1 + 2))) else (none)) = some (r1, r2, r3) := by rw [if_pos rfl] at H; exact H); clear H; have H := H1; clear H1
          by_cases c23 : x6_1.length < 4398046511104
          ·rw [if_pos c23] at H
           have LMc23 := A_ c23; clear c23; obtain ⟨y282, hy282⟩ : ∃ y_ : List (S46), y_ = (x6_1 ++ [(⟨2, x7_1, (⟨#[]⟩ : ByteArray)⟩ : S46)]) := ⟨_, rfl⟩; (replace H : (lex_All.l0 k1 a0 y282 (wrap64 (x7_1 + 2))) = some (r1, r2, r3) := by first | (rw [hy282]; with_reducible exact H) | (have H2_ := (Option.bind_some _ _).symm.trans H; rw [hy282]; with_reducible exact H2_) | (have H2_ := (Option.bind_some _ _).symm.trans H; with_reducible exact H2_) | with_reducible exact H | (rw [hy282]; exact H) | exact H); have Ny282 := A_ hy282; clear hy282; have H' := A_ H; clear H; have p5 : 0 ≤ (x7_1 : Int) := od_; have q5 : x7_1 < (a0.size : Int) := od_; have hx5 := bt_at a0 x7_1; replace p5 := eq_true p5; replace q5 := eq_true q5; go_wp2_with (first | (refine look_sign _ rfl _ _ rfl gm rfl (sig_below HMS.out hs_) (bt a0 x7_1) t272 false rfl (bt_range _ _) A6.out ?_) | (refine gC 36 ?_; refine gL 30 Tryz.func36 #[.string (a0.extract (x7_1 : Int).toNat a0.size)] ?_; (with_reducible refine (lex_word.calls k1 (a0.extract (x7_1 : Int).toNat a0.size) t274 _ A9.out).mono ?_); rintro e w' ⟨rfl, ⟨nd, rfl⟩⟩; refine ⟨_, rfl, ?_⟩) | (refine gC 37 ?_; refine gL 58 Tryz.func37 #[.string (a0.extract (x7_1 : Int).toNat a0.size), .string ⟨#[46, 46]⟩] ?_; (with_reducible refine (strings_HasPrefix.calls (a0.extract (x7_1 : Int).toNat a0.size) (⟨#[46, 46]⟩ : ByteArray) true _ A21.out).mono ?_); rintro e w' ⟨rfl, ⟨nd, rfl⟩⟩; refine ⟨_, rfl, ?_⟩) | ((with_reducible refine gate_builtin (b := .append) (xs := #[.tmp 59, .tmp 62]) rfl ?_); at_builtin; refine Kd.R_append k46 (w0 := w) w.heap.size rfl (.tmp 59) (.tmp 62) 36 46 (.agg #[(.int .i64 0), (.int .i64 0), (.string ⟨#[]⟩)]) 32 rfl Tryz.underlying36 info46 rfl (by decide) (by omega) u6 x6_1 (⟨2, x7_1, (⟨#[]⟩ : ByteArray)⟩ : S46) [.int .i64 2, .int .i64 x7_1, .string ⟨#[]⟩] (fun _ => True) (fun _ => False) rfl rfl ?aP (fun _ hk => hk.elim) ?aF ?aO ?aB ?aS ?aL ?_; (case aP => exact k46_mkM _ _ _ (⟨2, x7_1, (⟨#[]⟩ : ByteArray)⟩ : S46)); (case aB => exact hs_); (case aF => exact (fun _ _ => trivial)); (case aO => exact (fxR_ HO_6.out)); (case aS => exact (below_size hs_)); (case aL => have := LMc23.out; omega); intro v283 w24 ho hb hg hat; rw [← Ny282.out] at ho; replace HB := A_ (hb); have HO284 := A_ (ho); clear HO_6; clear ho hb hg hat)); go_roundg k1
           case measure => have := HK1.out; omega
           case rel => exact ⟨(y282), (wrap64 (x7_1 + 2)), rf_, H', ⟨by have := HK1.out; omega⟩, ⟨fxR_ HO284.out⟩, ⟨hs_⟩⟩
          ·rw [if_neg c23] at H
           exact absurd H (by simp)
         ·replace c22 := Bool.eq_false_iff.mpr c22
          subst c22; (have H1 : (if (bt a0 x7_1) = 32 then (lex_All.l0 k1 a0 x6_1 (wrap64 (x7_1 + 1))) else (some (([] : List (S46)), x7_1, 1))) = some (r1, r2, r3) := by rw [if_neg (show ¬ (false = true) by decide)] at H; exact H); clear H; have H := H1; clear H1
          by_cases c26 : (bt a0 x7_1) = 32
          ·rw [if_pos c26] at H
           have c26b0 : ((bt a0 x7_1) == 32) = true := beq_iff_eq.mpr c26; have c26b1 : ((bt a0 x7_1) != 32) = false := bne_eq_false_iff_eq.mpr c26; clear c26; have H' := A_ H; clear H; have p5 : 0 ≤ (x7_1 : Int) := od_; have q5 : x7_1 < (a0.size : Int) := od_; have hx5 := bt_at a0 x7_1; replace p5 := eq_true p5; replace q5 := eq_true q5; go_wp2_with (first | (refine look_sign _ rfl _ _ rfl gm rfl (sig_below HMS.out hs_) (bt a0 x7_1) t272 false rfl (bt_range _ _) A6.out ?_) | (refine gC 36 ?_; refine gL 30 Tryz.func36 #[.string (a0.extract (x7_1 : Int).toNat a0.size)] ?_; (with_reducible refine (lex_word.calls k1 (a0.extract (x7_1 : Int).toNat a0.size) t274 _ A9.out).mono ?_); rintro e w' ⟨rfl, ⟨nd, rfl⟩⟩; refine ⟨_, rfl, ?_⟩) | (refine gC 37 ?_; refine gL 58 Tryz.func37 #[.string (a0.extract (x7_1 : Int).toNat a0.size), .string ⟨#[46, 46]⟩] ?_; (with_reducible refine (strings_HasPrefix.calls (a0.extract (x7_1 : Int).toNat a0.size) (⟨#[46, 46]⟩ : ByteArray) false _ A21.out).mono ?_); rintro e w' ⟨rfl, ⟨nd, rfl⟩⟩; refine ⟨_, rfl, ?_⟩; have p25 : 0 ≤ (x7_1 : Int) := od_; have q25 : x7_1 < (a0.size : Int) := od_; have hx25 := bt_at a0 x7_1; replace p25 := eq_true p25; replace q25 := eq_true q25)); go_roundg k1
           case measure => have := HK1.out; omega
           case rel => exact ⟨(x6_1), (wrap64 (x7_1 + 1)), rf_, H', ⟨by have := HK1.out; omega⟩, ⟨fxR_ HO_6.out⟩, ⟨hs_⟩⟩
          ·rw [if_neg c26] at H
           have c26b0 : ((bt a0 x7_1) == 32) = false := beq_eq_false_iff_ne.mpr c26; have c26b1 : ((bt a0 x7_1) != 32) = true := bne_iff_ne.mpr c26; simp only [Option.some.injEq, Prod.mk.injEq] at H; obtain ⟨rfl, rfl, rfl⟩ := H; have p5 : 0 ≤ (x7_1 : Int) := od_; have q5 : x7_1 < (a0.size : Int) := od_; have hx5 := bt_at a0 x7_1; replace p5 := eq_true p5; replace q5 := eq_true q5; go_wp2_with (first | (refine look_sign _ rfl _ _ rfl gm rfl (sig_below HMS.out hs_) (bt a0 x7_1) t272 false rfl (bt_range _ _) A6.out ?_) | (refine gC 36 ?_; refine gL 30 Tryz.func36 #[.string (a0.extract (x7_1 : Int).toNat a0.size)] ?_; (with_reducible refine (lex_word.calls k1 (a0.extract (x7_1 : Int).toNat a0.size) t274 _ A9.out).mono ?_); rintro e w' ⟨rfl, ⟨nd, rfl⟩⟩; refine ⟨_, rfl, ?_⟩) | (refine gC 37 ?_; refine gL 58 Tryz.func37 #[.string (a0.extract (x7_1 : Int).toNat a0.size), .string ⟨#[46, 46]⟩] ?_; (with_reducible refine (strings_HasPrefix.calls (a0.extract (x7_1 : Int).toNat a0.size) (⟨#[46, 46]⟩ : ByteArray) false _ A21.out).mono ?_); rintro e w' ⟨rfl, ⟨nd, rfl⟩⟩; refine ⟨_, rfl, ?_⟩; have p25 : 0 ≤ (x7_1 : Int) := od_; have q25 : x7_1 < (a0.size : Int) := od_; have hx25 := bt_at a0 x7_1; replace p25 := eq_true p25; replace q25 := eq_true q25)); go_ret3; exact HKK.out w HB3.out _ _ ⟨_, by first | rfl | (simp [errW_none, errW_some] <;> rfl) | (simp [*, errW_none, errW_some] <;> rfl), by first | exact Kd.R_nil _ _ _ _ _ | exact Kd.N_nil _ _ _ _ _ | exact Kd.V_nil _ _ _ _ _ | exact Kd.Q_nil _ _ _ _ _ | exact Kd.S_nil _ _ _ _ _, hs_⟩
      ·rw [if_neg c8] at H
       exact absurd H (by simp)
     ·rw [if_neg c4] at H
      exact absurd H (by simp)
    ·rw [if_neg c3] at H
     have c3b0 := decide_eq_false c3; clear c3
     by_cases c27 : x6_1.length < 4398046511104
     ·rw [if_pos c27] at H
      have LMc27 := A_ c27; clear c27; obtain ⟨y269, hy269⟩ : ∃ y_ : List (S46), y_ = (x6_1 ++ [(⟨9, (a0.size : Int), (⟨#[]⟩ : ByteArray)⟩ : S46)]) := ⟨_, rfl⟩; (replace H : (some (y269, (a0.size : Int), 0)) = some (r1, r2, r3) := by first | (rw [hy269]; with_reducible exact H) | (have H2_ := (Option.bind_some _ _).symm.trans H; rw [hy269]; with_reducible exact H2_) | (have H2_ := (Option.bind_some _ _).symm.trans H; with_reducible exact H2_) | with_reducible exact H | (rw [hy269]; exact H) | exact H); have Ny269 := A_ hy269; clear hy269; simp only [Option.some.injEq, Prod.mk.injEq] at H; obtain ⟨rfl, rfl, rfl⟩ := H; go_wp2_with (first | ((with_reducible refine gate_builtin (b := .append) (xs := #[.tmp 72, .tmp 76]) rfl ?_); at_builtin; refine Kd.R_append k46 (w0 := w) w.heap.size rfl (.tmp 72) (.tmp 76) 36 46 (.agg #[(.int .i64 0), (.int .i64 0), (.string ⟨#[]⟩)]) 32 rfl Tryz.underlying36 info46 rfl (by decide) (by omega) u6 x6_1 (⟨9, (a0.size : Int), (⟨#[]⟩ : ByteArray)⟩ : S46) [.int .i64 9, .int .i64 (a0.size : Int), .string ⟨#[]⟩] (fun _ => True) (fun _ => False) rfl rfl ?aP (fun _ hk => hk.elim) ?aF ?aO ?aB ?aS ?aL ?_; (case aP => exact k46_mkM _ _ _ (⟨9, (a0.size : Int), (⟨#[]⟩ : ByteArray)⟩ : S46)); (case aB => exact hs_); (case aF => exact (fun _ _ => trivial)); (case aO => exact (fxR_ HO_6.out)); (case aS => exact (below_size hs_)); (case aL => have := LMc27.out; omega); intro v270 w28 ho hb hg hat; rw [← Ny269.out] at ho; replace HB := A_ (hb); have HO271 := A_ (ho); clear HO_6; clear ho hb hg hat)); go_ret3; exact HKK.out w HB3.out _ _ ⟨_, by first | rfl | (simp [errW_none, errW_some] <;> rfl) | (simp [*, errW_none, errW_some] <;> rfl), fxR_ HO271.out, hs_⟩
     ·rw [if_neg c27] at H
      exact absurd H (by simp)
theorem lex_All.calls (k : Nat) (a0 : ByteArray) (r1 : List (S46)) (r2 r3 : Int) (w : World) (h : lex_All.f k a0 = some (r1, r2, r3)) :
    Calls Tryz.prog 16 #[.string a0] w fun e w' => ∃ v0_ : Value, e = .returned (.tuple #[v0_, .int .i64 r2, .int .i64 r3]) ∧ Kd.R k46 46 w' w.heap.size (fun _ => True) v0_ r1 ∧ Below w.heap.size w w' :=
  lex_All.callsK k a0 r1 r2 r3 w _ (fun w1 hb e w' ⟨v0_, he, hr, hb'⟩ => ⟨v0_, he, Kd.R_lower hr hb.size, hb.trans (hb'.mono hb.size)⟩) h
end Go.Proofs.YtjgjhekpiijniaaGreat.A
namespace Go.Proofs.YtjgjhekpiijniaaGreat.A
open Go.RowKit Go.Proofs.YtjgjhekpiijniaaGreatW.PrintWords Go.Proofs.YtjgjhekpiijniaaGreatW.PrintLast Go.Proofs.YtjgjhekpiijniaaGreatW.PrintMore
attribute [local go_sem] isSome_setCell fld46_0 fld46_1 fld46_2
theorem below8 {w W : World} {q : Nat} (h : Below w.heap.size w W) (hq : w.heap.size ≤ q) (a a1 c e f i j k : Value) : Below w.heap.size w ((((((((W.setCell ⟨q, 0, none⟩ a).setCell ⟨q, 1, none⟩ a1).setCell ⟨q, 2, none⟩ c).setCell ⟨q, 3, none⟩ e).setCell ⟨q, 4, none⟩ f).setCell ⟨q, 5, none⟩ i).setCell ⟨q, 6, none⟩ j).setCell ⟨q, 7, none⟩ k) :=
  below_set (below_set (below_set (below_set (below_set (below_set (below_set (below_set h hq) hq) hq) hq) hq) hq) hq) hq
theorem IsP.make {W W1 : World} {g : Nat} {A : Option Addr} {c : Nat} {t : List S46} {b : Nat} {ok : Nat → Prop} (ho : Kd.R k46 46 W b ok (.slice A t.length c) t) (hg : g = W.heap.size) (hb : W1.heap[g]? = some (.cells #[.slice A t.length c, .int .i64 0, .int .i64 0] 41 (0, 0))) : IsP W W1 g t 0 0 := by
  obtain ⟨_, hc, hC⟩ := Kd.R_reads' ho
  exact ⟨A, c, hb, Nat.le_of_eq hg.symm, hc, hC⟩
set_option maxHeartbeats 8000000 in
set_option maxRecDepth 100000 in
theorem parse_Parse.calls (k : Nat) (a0 : ByteArray) (r1 r2 : Int) (r3 r4 r5 : ByteArray) (r6 r7 : Bool) (r8 : List S27) (r9 r10 : Int) (w : World) (h : parse_Parse.f k a0 = some (r1, r2, r3, r4, r5, r6, r7, r8, r9, r10)) :
    Calls Tryz.prog 8 #[.string a0] w fun e w' => ∃ v7_ : Value, e = .returned (.tuple #[.agg #[.int .i64 r1, .int .i64 r2, .string r3, .string r4, .string r5, .bool r6, .bool r7, v7_], .int .i64 r9, .int .i64 r10]) ∧ Kd.V k27 27 w' w.heap.size (fun k_ => w.heap.size ≤ k_) v7_ r8 ∧ Below w.heap.size w w' := by
  have HB := A_ (Below.refl w.heap.size w)
  obtain ⟨⟨L1, L2, L3⟩, hL, h2⟩ := Option.bind_eq_some_iff.mp h
  clear h
  have HL := A_ hL
  clear hL
  by_cases c : L3 = 0
  · replace h2 := (if_pos c).symm.trans h2
    have k3 : (L3 != 0) = false := bne_eq_false_iff_eq.mpr c
    clear c
    obtain ⟨⟨n1, x1, t1, m1, d1⟩, hE, h3⟩ := Option.bind_eq_some_iff.mp h2
    clear h2
    have HE := A_ hE
    clear hE
    cases x1 with
    | some y =>
      simp only [Option.some.injEq, Prod.mk.injEq] at h3
      obtain ⟨rfl, rfl, rfl, rfl, rfl, rfl, rfl, rfl, rfl, rfl⟩ := h3
      go_enter Tryz.func8, Tryz.ntmps8
      go_wp2_with (first | ((with_reducible refine gD 2 ?_); refine bxe_ 2 z8_ 27 ?_; intro gb hgb w2 hbox hb; have BK := A_ hbox; have GE := A_ (show w.heap.size ≤ gb from by rw [hgb]; exact HB.out.size); replace HB := A_ (below_step HB.out hb); clear hb hbox hgb) | ((with_reducible refine gC 16 ?_); refine gL 13 Tryz.func16 #[.string a0] ?_; (with_reducible refine (lex_All.calls k a0 L1 L2 L3 _ HL.out).mono ?_); rintro e1 w1 ⟨v0, rfl, ho, hb⟩; refine ⟨_, rfl, ?_⟩; obtain ⟨A0, c0, rfl⟩ := Kd.R_slice ho; have HO := A_ ho; replace HB := A_ (below_step HB.out hb); replace BK := A_ (blk_below BK.out hb); have ZK := bz8_ BK; clear ho hb) | ((with_reducible refine gD 24 ?_); refine bxe_ 24 #[.slice A0 L1.length c0, .int .i64 0, .int .i64 0] 41 ?_; intro gp hgp w4 hbox hb; have HI := A_ (IsP.make HO.out hgp hbox); have HB0 := A_ hb; have NBP := A_ (show gb ≠ gp from by rw [hgp]; exact Nat.ne_of_lt (blk_lt BK.out)); have GP := A_ (show w.heap.size ≤ gp from by rw [hgp]; exact HB.out.size); replace BK := A_ (blk_below BK.out hb); have HW := HB; clear hb hbox hgp HO ZK) | ((with_reducible refine gC 17 ?_); refine gL 27 Tryz.func17 #[.pointer (some ⟨gp, 0, none⟩)] ?_; (with_reducible refine (parser_expr.calls k gp L1 0 0 _ _ _ HI.out HB0.out HE.out).mono ?_); rintro e1 w1 ⟨v1, u1, rfl, hV, hx, hP⟩; obtain ⟨qx, rfl, hqx, hX⟩ := hx; have NQB := A_ (show gb ≠ qx from Nat.ne_of_lt (Nat.lt_of_lt_of_le (blk_lt BK.out) hqx)); have BX := A_ hX; clear hX hqx; refine ⟨_, rfl, ?_⟩; obtain ⟨A1, c1, rfl⟩ : ∃ A1 c1, v1 = .slice A1 n1.f4.length c1 := Kd.V_slice hV; have HV := A_ (Kd.V_mono (ok' := fun q => w.heap.size ≤ q ∧ q ≠ gb) hV (fun q hq => ⟨Nat.le_trans (Nat.le_trans HB.out.size HB0.out.size) hq, Ne.symm (Nat.ne_of_lt (Nat.lt_of_lt_of_le (blk_lt BK.out) hq))⟩)); replace BK := A_ (hP.hK.blk BK.out NBP.out (by simp)); replace HB := A_ (below_step HW.out hP.hB); replace HI := A_ hP.hI; replace HB0 := A_ hP.hB; clear hV hP HW) | ((with_reducible refine gD 9 ?_); refine bxe_ 9 z8_ 27 ?_; intro ga hga w5 hbox hb; have BA := A_ hbox; have NBA := A_ (show gb ≠ ga from by rw [hga]; exact Nat.ne_of_lt (blk_lt BK.out)); have nba := NBA.out; have nab := Ne.symm nba; have NPA := A_ (show gp ≠ ga from by rw [hga]; exact Nat.ne_of_lt HI.out.lt); have GA := A_ (show w.heap.size ≤ ga from by rw [hga]; exact HB.out.size); have GA0 := A_ (show _ ≤ ga from by rw [hga]; exact HB0.out.size); replace HV := A_ (Kd.V_below (Kd.V_elderB HV.out ga (Nat.le_of_eq hga.symm)) hb); have NQA := A_ (show qx ≠ ga from by rw [hga]; exact Nat.ne_of_lt (blk_lt BX.out)); replace BX := A_ (blk_below BX.out hb); have hx0 := (blk_cell BX.out 0).trans rfl; have hx1 := (blk_cell BX.out 1).trans rfl; have nqa := NQA.out; replace HI := A_ (HI.out.below hb); replace HB0 := A_ (below_step HB0.out hb); replace HB := A_ (below_step HB.out hb); replace BK := A_ (blk_below BK.out hb); have Z := bz8_ BA; have ZK := bz8_ BK; clear hb hbox hga))
      have nqb := NQB.out
      have nbq := Ne.symm nqb
      go_region_held3 (fun w' => w'.cell? ⟨qx, 0, none⟩ = some (.int .i64 y.1) ∧ w'.cell? ⟨qx, 1, none⟩ = some (.int .i64 y.2)) (first | (with_reducible exact ⟨(blk_cell (far8_ BX.out NQA.out (.int .i64 n1.f0) (.int .i64 n1.f1.f0) (.string n1.f1.f1) (.string n1.f1.f2) (.string n1.f1.f3) (.bool n1.f2) (.bool n1.f3) (.slice A1 n1.f4.length c1)) 0).trans rfl, (blk_cell (far8_ BX.out NQA.out (.int .i64 n1.f0) (.int .i64 n1.f1.f0) (.string n1.f1.f1) (.string n1.f1.f2) (.string n1.f1.f3) (.bool n1.f2) (.bool n1.f3) (.slice A1 n1.f4.length c1)) 1).trans rfl⟩) | (with_reducible exact ⟨(blk_cell (blk_drew (far8_ BX.out NQA.out (.int .i64 n1.f0) (.int .i64 n1.f1.f0) (.string n1.f1.f1) (.string n1.f1.f2) (.string n1.f1.f3) (.bool n1.f2) (.bool n1.f3) (.slice A1 n1.f4.length c1))) 0).trans rfl, (blk_cell (blk_drew (far8_ BX.out NQA.out (.int .i64 n1.f0) (.int .i64 n1.f1.f0) (.string n1.f1.f1) (.string n1.f1.f2) (.string n1.f1.f3) (.bool n1.f2) (.bool n1.f3) (.slice A1 n1.f4.length c1))) 1).trans rfl⟩) | (with_reducible exact ⟨(blk_cell (blk_drew (far8_ (far8_ BX.out NQA.out (.int .i64 n1.f0) (.int .i64 n1.f1.f0) (.string n1.f1.f1) (.string n1.f1.f2) (.string n1.f1.f3) (.bool n1.f2) (.bool n1.f3) (.slice A1 n1.f4.length c1)) (Ne.symm NQB.out) (.int .i64 0) (.int .i64 0) (.string ⟨#[]⟩) (.string ⟨#[]⟩) (.string ⟨#[]⟩) (.bool false) (.bool false) (.slice none 0 0))) 0).trans rfl, (blk_cell (blk_drew (far8_ (far8_ BX.out NQA.out (.int .i64 n1.f0) (.int .i64 n1.f1.f0) (.string n1.f1.f1) (.string n1.f1.f2) (.string n1.f1.f3) (.bool n1.f2) (.bool n1.f3) (.slice A1 n1.f4.length c1)) (Ne.symm NQB.out) (.int .i64 0) (.int .i64 0) (.string ⟨#[]⟩) (.string ⟨#[]⟩) (.string ⟨#[]⟩) (.bool false) (.bool false) (.slice none 0 0))) 1).trans rfl⟩)) (fail)
      go_wp2
      refine bodyPost_ret (results_ctt rfl _ _ gb 27 z8_ (0, 0) _ rfl (blk_drew (put8_ (far8_ BK.out NBA.out (.int .i64 n1.f0) (.int .i64 n1.f1.f0) (.string n1.f1.f1) (.string n1.f1.f2) (.string n1.f1.f3) (.bool n1.f2) (.bool n1.f3) (.slice A1 n1.f4.length c1)) (.int .i64 0) (.int .i64 0) (.string ⟨#[]⟩) (.string ⟨#[]⟩) (.string ⟨#[]⟩) (.bool false) (.bool false) (.slice none 0 0))) Tryz.underlying27 rfl (by kernel_rfl)) rfl ?_
      have p1 := below_drew (below8 (below8 HB.out GA.out (.int .i64 n1.f0) (.int .i64 n1.f1.f0) (.string n1.f1.f1) (.string n1.f1.f2) (.string n1.f1.f3) (.bool n1.f2) (.bool n1.f3) (.slice A1 n1.f4.length c1)) GE.out (.int .i64 0) (.int .i64 0) (.string ⟨#[]⟩) (.string ⟨#[]⟩) (.string ⟨#[]⟩) (.bool false) (.bool false) (.slice none 0 0))
      exact ⟨_, rfl, Kd.V_nil _ _ _ _ _, p1⟩
    | none =>
      cases t1 with
      | nil => cases h3
      | cons y u =>
      by_cases cy : y.f0 = 9
      · replace h3 := (if_pos cy).symm.trans h3
        have k9 : (y.f0 != 9) = false := bne_eq_false_iff_eq.mpr cy
        clear cy
        simp only [Option.some.injEq, Prod.mk.injEq] at h3
        obtain ⟨rfl, rfl, rfl, rfl, rfl, rfl, rfl, rfl, rfl, rfl⟩ := h3
        go_enter Tryz.func8, Tryz.ntmps8
        go_wp2_with (first | ((with_reducible refine gD 2 ?_); refine bxe_ 2 z8_ 27 ?_; intro gb hgb w2 hbox hb; have BK := A_ hbox; have GE := A_ (show w.heap.size ≤ gb from by rw [hgb]; exact HB.out.size); replace HB := A_ (below_step HB.out hb); clear hb hbox hgb) | ((with_reducible refine gC 16 ?_); refine gL 13 Tryz.func16 #[.string a0] ?_; (with_reducible refine (lex_All.calls k a0 L1 L2 L3 _ HL.out).mono ?_); rintro e1 w1 ⟨v0, rfl, ho, hb⟩; refine ⟨_, rfl, ?_⟩; obtain ⟨A0, c0, rfl⟩ := Kd.R_slice ho; have HO := A_ ho; replace HB := A_ (below_step HB.out hb); replace BK := A_ (blk_below BK.out hb); have ZK := bz8_ BK; clear ho hb) | ((with_reducible refine gD 24 ?_); refine bxe_ 24 #[.slice A0 L1.length c0, .int .i64 0, .int .i64 0] 41 ?_; intro gp hgp w4 hbox hb; have HI := A_ (IsP.make HO.out hgp hbox); have HB0 := A_ hb; have NBP := A_ (show gb ≠ gp from by rw [hgp]; exact Nat.ne_of_lt (blk_lt BK.out)); have GP := A_ (show w.heap.size ≤ gp from by rw [hgp]; exact HB.out.size); replace BK := A_ (blk_below BK.out hb); have HW := HB; clear hb hbox hgp HO ZK) | ((with_reducible refine gC 17 ?_); refine gL 27 Tryz.func17 #[.pointer (some ⟨gp, 0, none⟩)] ?_; (with_reducible refine (parser_expr.calls k gp L1 0 0 _ _ _ HI.out HB0.out HE.out).mono ?_); rintro e1 w1 ⟨v1, u1, rfl, hV, hx, hP⟩; obtain rfl : u1 = .pointer none := hx; refine ⟨_, rfl, ?_⟩; obtain ⟨A1, c1, rfl⟩ : ∃ A1 c1, v1 = .slice A1 n1.f4.length c1 := Kd.V_slice hV; have HV := A_ (Kd.V_mono (ok' := fun q => w.heap.size ≤ q ∧ q ≠ gb) hV (fun q hq => ⟨Nat.le_trans (Nat.le_trans HB.out.size HB0.out.size) hq, Ne.symm (Nat.ne_of_lt (Nat.lt_of_lt_of_le (blk_lt BK.out) hq))⟩)); replace BK := A_ (hP.hK.blk BK.out NBP.out (by simp)); replace HB := A_ (below_step HW.out hP.hB); replace HI := A_ hP.hI; replace HB0 := A_ hP.hB; clear hV hP HW) | ((with_reducible refine gD 9 ?_); refine bxe_ 9 z8_ 27 ?_; intro ga hga w5 hbox hb; have BA := A_ hbox; have NBA := A_ (show gb ≠ ga from by rw [hga]; exact Nat.ne_of_lt (blk_lt BK.out)); have nba := NBA.out; have nab := Ne.symm nba; have NPA := A_ (show gp ≠ ga from by rw [hga]; exact Nat.ne_of_lt HI.out.lt); have GA := A_ (show w.heap.size ≤ ga from by rw [hga]; exact HB.out.size); have GA0 := A_ (show _ ≤ ga from by rw [hga]; exact HB0.out.size); replace HV := A_ (Kd.V_below (Kd.V_elderB HV.out ga (Nat.le_of_eq hga.symm)) hb); replace HI := A_ (HI.out.below hb); replace HB0 := A_ (below_step HB0.out hb); replace HB := A_ (below_step HB.out hb); replace BK := A_ (blk_below BK.out hb); have Z := bz8_ BA; have ZK := bz8_ BK; clear hb hbox hga) | (go_at_call 18; clear Z ZK; replace HI := A_ (HI.out.far8 NPA.out (.int .i64 n1.f0) (.int .i64 n1.f1.f0) (.string n1.f1.f1) (.string n1.f1.f2) (.string n1.f1.f3) (.bool n1.f2) (.bool n1.f3) (.slice A1 n1.f4.length c1)); replace HB0 := A_ (below8 HB0.out GA0.out (.int .i64 n1.f0) (.int .i64 n1.f1.f0) (.string n1.f1.f1) (.string n1.f1.f2) (.string n1.f1.f3) (.bool n1.f2) (.bool n1.f3) (.slice A1 n1.f4.length c1)); replace HB := A_ (below8 HB.out GA.out (.int .i64 n1.f0) (.int .i64 n1.f1.f0) (.string n1.f1.f1) (.string n1.f1.f2) (.string n1.f1.f3) (.bool n1.f2) (.bool n1.f3) (.slice A1 n1.f4.length c1)); replace BK := A_ (far8_ BK.out NBA.out (.int .i64 n1.f0) (.int .i64 n1.f1.f0) (.string n1.f1.f1) (.string n1.f1.f2) (.string n1.f1.f3) (.bool n1.f2) (.bool n1.f3) (.slice A1 n1.f4.length c1)); replace BA := A_ (put8_ BA.out (.int .i64 n1.f0) (.int .i64 n1.f1.f0) (.string n1.f1.f1) (.string n1.f1.f2) (.string n1.f1.f3) (.bool n1.f2) (.bool n1.f3) (.slice A1 n1.f4.length c1)); replace HV := A_ (V_all8 HV.out (fun q hq => hq.2) (.int .i64 n1.f0) (.int .i64 n1.f1.f0) (.string n1.f1.f1) (.string n1.f1.f2) (.string n1.f1.f3) (.bool n1.f2) (.bool n1.f3) (.slice A1 n1.f4.length c1)); (with_reducible refine (parser_next.calls gp y u m1 d1 _ _ HI.out HB0.out).mono ?_); rintro e1 w1 ⟨rfl, hb⟩; replace HI := A_ (HI.out.below hb); replace HB0 := A_ (below_step HB0.out hb); replace HB := A_ (below_step HB.out hb); replace BK := A_ (blk_below BK.out hb); replace BA := A_ (blk_below BA.out hb); replace HV := A_ (Kd.V_below HV.out hb); have Z := bz8_ BA; have ZK := bz8_ BK; clear hb))
        refine bodyPost_ret (results_ctt rfl _ _ gb 27 #[.int .i64 n1.f0, .int .i64 n1.f1.f0, .string n1.f1.f1, .string n1.f1.f2, .string n1.f1.f3, .bool n1.f2, .bool n1.f3, .slice A1 n1.f4.length c1] (0, 0) _ rfl (put8_ BK.out ..) Tryz.underlying27 rfl (by kernel_rfl)) rfl ?_
        have p1 := V_all8 HV.out (fun q hq => hq.1.2) (.int .i64 n1.f0) (.int .i64 n1.f1.f0) (.string n1.f1.f1) (.string n1.f1.f2) (.string n1.f1.f3) (.bool n1.f2) (.bool n1.f3) (.slice A1 n1.f4.length c1)
        have p2 := below8 HB.out GE.out (.int .i64 n1.f0) (.int .i64 n1.f1.f0) (.string n1.f1.f1) (.string n1.f1.f2) (.string n1.f1.f3) (.bool n1.f2) (.bool n1.f3) (.slice A1 n1.f4.length c1)
        exact ⟨_, rfl, V_base (Kd.V_mono p1 (fun q hq => hq.1.1)), p2⟩
      · replace h3 := (if_neg cy).symm.trans h3
        have k9 : (y.f0 != 9) = true := bne_iff_ne.mpr cy
        have hE : eNot y 3 = 3 := if_neg cy
        have HE3 := A_ hE
        clear cy hE
        simp only [Option.some.injEq, Prod.mk.injEq] at h3
        obtain ⟨rfl, rfl, rfl, rfl, rfl, rfl, rfl, rfl, rfl, rfl⟩ := h3
        go_enter Tryz.func8, Tryz.ntmps8
        go_wp2_with (first | ((with_reducible refine gD 2 ?_); refine bxe_ 2 z8_ 27 ?_; intro gb hgb w2 hbox hb; have BK := A_ hbox; have GE := A_ (show w.heap.size ≤ gb from by rw [hgb]; exact HB.out.size); replace HB := A_ (below_step HB.out hb); clear hb hbox hgb) | ((with_reducible refine gC 16 ?_); refine gL 13 Tryz.func16 #[.string a0] ?_; (with_reducible refine (lex_All.calls k a0 L1 L2 L3 _ HL.out).mono ?_); rintro e1 w1 ⟨v0, rfl, ho, hb⟩; refine ⟨_, rfl, ?_⟩; obtain ⟨A0, c0, rfl⟩ := Kd.R_slice ho; have HO := A_ ho; replace HB := A_ (below_step HB.out hb); replace BK := A_ (blk_below BK.out hb); have ZK := bz8_ BK; clear ho hb) | ((with_reducible refine gD 24 ?_); refine bxe_ 24 #[.slice A0 L1.length c0, .int .i64 0, .int .i64 0] 41 ?_; intro gp hgp w4 hbox hb; have HI := A_ (IsP.make HO.out hgp hbox); have HB0 := A_ hb; have NBP := A_ (show gb ≠ gp from by rw [hgp]; exact Nat.ne_of_lt (blk_lt BK.out)); have GP := A_ (show w.heap.size ≤ gp from by rw [hgp]; exact HB.out.size); replace BK := A_ (blk_below BK.out hb); have HW := HB; clear hb hbox hgp HO ZK) | ((with_reducible refine gC 17 ?_); refine gL 27 Tryz.func17 #[.pointer (some ⟨gp, 0, none⟩)] ?_; (with_reducible refine (parser_expr.calls k gp L1 0 0 _ _ _ HI.out HB0.out HE.out).mono ?_); rintro e1 w1 ⟨v1, u1, rfl, hV, hx, hP⟩; obtain rfl : u1 = .pointer none := hx; refine ⟨_, rfl, ?_⟩; obtain ⟨A1, c1, rfl⟩ : ∃ A1 c1, v1 = .slice A1 n1.f4.length c1 := Kd.V_slice hV; have HV := A_ (Kd.V_mono (ok' := fun q => w.heap.size ≤ q ∧ q ≠ gb) hV (fun q hq => ⟨Nat.le_trans (Nat.le_trans HB.out.size HB0.out.size) hq, Ne.symm (Nat.ne_of_lt (Nat.lt_of_lt_of_le (blk_lt BK.out) hq))⟩)); replace BK := A_ (hP.hK.blk BK.out NBP.out (by simp)); replace HB := A_ (below_step HW.out hP.hB); replace HI := A_ hP.hI; replace HB0 := A_ hP.hB; clear hV hP HW) | ((with_reducible refine gD 9 ?_); refine bxe_ 9 z8_ 27 ?_; intro ga hga w5 hbox hb; have BA := A_ hbox; have NBA := A_ (show gb ≠ ga from by rw [hga]; exact Nat.ne_of_lt (blk_lt BK.out)); have nba := NBA.out; have nab := Ne.symm nba; have NPA := A_ (show gp ≠ ga from by rw [hga]; exact Nat.ne_of_lt HI.out.lt); have GA := A_ (show w.heap.size ≤ ga from by rw [hga]; exact HB.out.size); have GA0 := A_ (show _ ≤ ga from by rw [hga]; exact HB0.out.size); replace HV := A_ (Kd.V_below (Kd.V_elderB HV.out ga (Nat.le_of_eq hga.symm)) hb); replace HI := A_ (HI.out.below hb); replace HB0 := A_ (below_step HB0.out hb); replace HB := A_ (below_step HB.out hb); replace BK := A_ (blk_below BK.out hb); have Z := bz8_ BA; have ZK := bz8_ BK; clear hb hbox hga) | (go_at_call 18; clear Z ZK; replace HI := A_ (HI.out.far8 NPA.out (.int .i64 n1.f0) (.int .i64 n1.f1.f0) (.string n1.f1.f1) (.string n1.f1.f2) (.string n1.f1.f3) (.bool n1.f2) (.bool n1.f3) (.slice A1 n1.f4.length c1)); replace HB0 := A_ (below8 HB0.out GA0.out (.int .i64 n1.f0) (.int .i64 n1.f1.f0) (.string n1.f1.f1) (.string n1.f1.f2) (.string n1.f1.f3) (.bool n1.f2) (.bool n1.f3) (.slice A1 n1.f4.length c1)); replace HB := A_ (below8 HB.out GA.out (.int .i64 n1.f0) (.int .i64 n1.f1.f0) (.string n1.f1.f1) (.string n1.f1.f2) (.string n1.f1.f3) (.bool n1.f2) (.bool n1.f3) (.slice A1 n1.f4.length c1)); replace BK := A_ (far8_ BK.out NBA.out (.int .i64 n1.f0) (.int .i64 n1.f1.f0) (.string n1.f1.f1) (.string n1.f1.f2) (.string n1.f1.f3) (.bool n1.f2) (.bool n1.f3) (.slice A1 n1.f4.length c1)); replace BA := A_ (put8_ BA.out (.int .i64 n1.f0) (.int .i64 n1.f1.f0) (.string n1.f1.f1) (.string n1.f1.f2) (.string n1.f1.f3) (.bool n1.f2) (.bool n1.f3) (.slice A1 n1.f4.length c1)); replace HV := A_ (V_all8 HV.out (fun q hq => hq.2) (.int .i64 n1.f0) (.int .i64 n1.f1.f0) (.string n1.f1.f1) (.string n1.f1.f2) (.string n1.f1.f3) (.bool n1.f2) (.bool n1.f3) (.slice A1 n1.f4.length c1)); (with_reducible refine (parser_next.calls gp y u m1 d1 _ _ HI.out HB0.out).mono ?_); rintro e1 w1 ⟨rfl, hb⟩; replace HI := A_ (HI.out.below hb); replace HB0 := A_ (below_step HB0.out hb); replace HB := A_ (below_step HB.out hb); replace BK := A_ (blk_below BK.out hb); replace BA := A_ (blk_below BA.out hb); replace HV := A_ (Kd.V_below HV.out hb); have Z := bz8_ BA; have ZK := bz8_ BK; clear hb) | ((with_reducible refine gD 39 ?_); refine gL 39 Tryz.func19 #[.pointer (some ⟨gp, 0, none⟩), .int .i64 3] ?_; (with_reducible refine (parser_not.calls gp y u m1 d1 3 _ _ HI.out HB0.out).mono ?_); rintro e1 w1 ⟨u2, rfl, hx, hb⟩; rw [HE3.out] at hx; obtain ⟨qx, rfl, hqx, hX⟩ := hx; refine ⟨_, rfl, ?_⟩; have NQB := A_ (show gb ≠ qx from Nat.ne_of_lt (Nat.lt_of_lt_of_le (blk_lt BK.out) hqx)); have BX := A_ hX; have hx0 := (blk_cell BX.out 0).trans rfl; have hx1 := (blk_cell BX.out 1).trans rfl; replace HB := A_ (below_step HB.out hb); replace BK := A_ (blk_below BK.out hb); clear Z ZK; have ZK := bz8_ BK; have nqb := NQB.out; have nbq := Ne.symm nqb; clear hqx hX hb))
        go_region_held3 (fun w' => w'.cell? ⟨qx, 0, none⟩ = some (.int .i64 y.f1) ∧ w'.cell? ⟨qx, 1, none⟩ = some (.int .i64 3)) (first | (with_reducible exact ⟨(blk_cell BX.out 0).trans rfl, (blk_cell BX.out 1).trans rfl⟩) | (with_reducible exact ⟨(blk_cell (blk_drew BX.out) 0).trans rfl, (blk_cell (blk_drew BX.out) 1).trans rfl⟩) | (with_reducible exact ⟨(blk_cell (blk_drew (far8_ BX.out (Ne.symm NQB.out) (.int .i64 0) (.int .i64 0) (.string ⟨#[]⟩) (.string ⟨#[]⟩) (.string ⟨#[]⟩) (.bool false) (.bool false) (.slice none 0 0))) 0).trans rfl, (blk_cell (blk_drew (far8_ BX.out (Ne.symm NQB.out) (.int .i64 0) (.int .i64 0) (.string ⟨#[]⟩) (.string ⟨#[]⟩) (.string ⟨#[]⟩) (.bool false) (.bool false) (.slice none 0 0))) 1).trans rfl⟩)) (fail)
        go_wp2
        refine bodyPost_ret (results_ctt rfl _ _ gb 27 z8_ (0, 0) _ rfl (blk_drew (put8_ BK.out (.int .i64 0) (.int .i64 0) (.string ⟨#[]⟩) (.string ⟨#[]⟩) (.string ⟨#[]⟩) (.bool false) (.bool false) (.slice none 0 0))) Tryz.underlying27 rfl (by kernel_rfl)) rfl ?_
        have p1 := below_drew (below8 HB.out GE.out (.int .i64 0) (.int .i64 0) (.string ⟨#[]⟩) (.string ⟨#[]⟩) (.string ⟨#[]⟩) (.bool false) (.bool false) (.slice none 0 0))
        exact ⟨_, rfl, Kd.V_nil _ _ _ _ _, p1⟩
  · replace h2 := (if_neg c).symm.trans h2
    have k3 : (L3 != 0) = true := bne_iff_ne.mpr c
    clear c
    simp only [Option.some.injEq, Prod.mk.injEq] at h2
    obtain ⟨rfl, rfl, rfl, rfl, rfl, rfl, rfl, rfl, rfl, rfl⟩ := h2
    go_enter Tryz.func8, Tryz.ntmps8
    go_wp2_with (first | ((with_reducible refine gD 2 ?_); refine bxe_ 2 z8_ 27 ?_; intro gb hgb w2 hbox hb; have BK := A_ hbox; have GE := A_ (show w.heap.size ≤ gb from by rw [hgb]; exact HB.out.size); replace HB := A_ (below_step HB.out hb); clear hb hbox hgb) | ((with_reducible refine gC 16 ?_); refine gL 13 Tryz.func16 #[.string a0] ?_; (with_reducible refine (lex_All.calls k a0 L1 L2 L3 _ HL.out).mono ?_); rintro e1 w1 ⟨v0, rfl, ho, hb⟩; refine ⟨_, rfl, ?_⟩; obtain ⟨A0, c0, rfl⟩ := Kd.R_slice ho; have HO := A_ ho; replace HB := A_ (below_step HB.out hb); replace BK := A_ (blk_below BK.out hb); have ZK := bz8_ BK; clear ho hb))
    refine bodyPost_ret (results_ctt rfl _ _ gb 27 z8_ (0, 0) _ rfl (put8_ BK.out ..) Tryz.underlying27 rfl (by kernel_rfl)) rfl ?_
    exact ⟨_, rfl, Kd.V_nil _ _ _ _ _, below8 HB.out GE.out ..⟩
end Go.Proofs.YtjgjhekpiijniaaGreat.A
namespace Go.Proofs.YtjgjhekpiijniaaGreat.A
open Go.RowKit Go.Proofs.YtjgjhekpiijniaaGreatW.PrintWords Go.Proofs.YtjgjhekpiijniaaGreatW.PrintLast Go.Proofs.YtjgjhekpiijniaaGreatW.PrintMore
attribute [local go_sem] max2_int min2_int max_two min_two max_three min_three max_four min_four
attribute [local go_sem] isSome_setCell
set_option maxHeartbeats 8000000 in
set_option maxRecDepth 100000 in
theorem lustrumlaw13_awake.callsT (k : Nat)  (r : Bool) (w : World) (hrT_ : r = true) (h : lustrumlaw13_awake.f k  = some r) :
  Calls Tryz.prog 7 #[] w fun e w' => e = .returned (.bool r) ∧ Below w.heap.size w w' := by
 have hu27 := Tryz.underlying27; have HB := A_ (Below.refl w.heap.size w); have H : ((parse_Parse.f k (⟨#[91, 49, 57, 56, 52, 126, 63, 44, 32, 46, 46, 47, 49, 57, 88, 52, 93]⟩ : ByteArray)).bind fun bt101 => ((parse_Parse.f k (⟨#[49, 57, 56, 52, 47, 91]⟩ : ByteArray)).bind fun bt114 => ((parse_Parse.f k (⟨#[91, 49, 57, 56, 52]⟩ : ByteArray)).bind fun bt127 => (if bt101.2.2.2.2.2.2.2.2.2 = 0 then (if bt101.2.2.2.2.2.2.2.2.1 = 17 then ((print_Text.f k bt101.1 bt101.2.1 bt101.2.2.1 bt101.2.2.2.1 bt101.2.2.2.2.1 bt101.2.2.2.2.2.1 bt101.2.2.2.2.2.2.1 bt101.2.2.2.2.2.2.2.1).bind fun t140 => (if t140.toList = ([91, 49, 57, 56, 52, 63, 126, 44, 32, 46, 46, 47, 49, 57, 88, 52, 93] : List UInt8) then (if bt114.2.2.2.2.2.2.2.2.1 = 5 then (if bt114.2.2.2.2.2.2.2.2.2 = 3 then (if bt127.2.2.2.2.2.2.2.2.1 = 5 then (some (bt127.2.2.2.2.2.2.2.2.2 == 4)) else (some false)) else (some false)) else (some false)) else (some false))) else (some false)) else (some false))))) = some r := h; clear h; obtain ⟨⟨t101, t102, t103, t104, t105, t106, t107, t108, t111, t112⟩, A1, H⟩ := bi_ H; obtain ⟨⟨t114, t115, t116, t117, t118, t119, t120, t121, t124, t125⟩, A2, H⟩ := bi_ H; obtain ⟨⟨t127, t128, t129, t130, t131, t132, t133, t134, t137, t138⟩, A3, H⟩ := bi_ H
 by_cases c4 : t112 = 0
 ·rw [if_pos c4] at H
  have c4b0 : (t112 == 0) = true := beq_iff_eq.mpr c4; have c4b1 : (t112 != 0) = false := bne_eq_false_iff_eq.mpr c4; clear c4
  by_cases c5 : t111 = 17
  ·rw [if_pos c5] at H
   have c5b0 : (t111 == 17) = true := beq_iff_eq.mpr c5; have c5b1 : (t111 != 17) = false := bne_eq_false_iff_eq.mpr c5; clear c5; obtain ⟨t140, A6, H⟩ := bi_ H
   by_cases c7 : t140.toList = ([91, 49, 57, 56, 52, 63, 126, 44, 32, 46, 46, 47, 49, 57, 88, 52, 93] : List UInt8)
   ·rw [if_pos c7] at H
    have c7b0 : (t140.toList == ([91, 49, 57, 56, 52, 63, 126, 44, 32, 46, 46, 47, 49, 57, 88, 52, 93] : List UInt8)) = true := beq_iff_eq.mpr c7; have c7b1 : (t140.toList != ([91, 49, 57, 56, 52, 63, 126, 44, 32, 46, 46, 47, 49, 57, 88, 52, 93] : List UInt8)) = false := bne_eq_false_iff_eq.mpr c7; clear c7
    by_cases c8 : t124 = 5
    ·rw [if_pos c8] at H
     have c8b0 : (t124 == 5) = true := beq_iff_eq.mpr c8; have c8b1 : (t124 != 5) = false := bne_eq_false_iff_eq.mpr c8; clear c8
     by_cases c9 : t125 = 3
     ·rw [if_pos c9] at H
      have c9b0 : (t125 == 3) = true := beq_iff_eq.mpr c9; have c9b1 : (t125 != 3) = false := bne_eq_false_iff_eq.mpr c9; clear c9
      by_cases c10 : t137 = 5
      ·rw [if_pos c10] at H
       have c10b0 : (t137 == 5) = true := beq_iff_eq.mpr c10; have c10b1 : (t137 != 5) = false := bne_eq_false_iff_eq.mpr c10; clear c10; obtain rfl := Option.some.inj H; clear hrT_; go_enter Tryz.func7, Tryz.ntmps7; go_wp2_with (first | ((with_reducible refine gC 8 ?_); refine goesL_ (some 11) rfl rfl Tryz.func8 (by kernel_rfl) rfl #[.string ⟨#[91, 49, 57, 56, 52, 126, 63, 44, 32, 46, 46, 47, 49, 57, 88, 52, 93]⟩] rfl ml_ ?_; (with_reducible refine (parse_Parse.calls k (⟨#[91, 49, 57, 56, 52, 126, 63, 44, 32, 46, 46, 47, 49, 57, 88, 52, 93]⟩ : ByteArray) t101 t102 t103 t104 t105 t106 t107 t108 t111 t112 _ A1.out).mono ?_); rintro e w11 ⟨v109, rfl, ho0, hb⟩; refine ⟨_, rfl, ?_⟩; have HO110 := A_ (Kd.V_lower (Kd.V_mono (ok' := fun k_ => True) ho0 (fun k_ hk_ => trivial)) (below_size hs_)); replace HB := bs_ hb; (try clear hb); (try clear ho0)) | ((with_reducible refine gD 1 ?_); refine bxe_ 1 z8_ 27 ?_; intro gb113 hg w12 hbox hb; replace HO110 := eV_ HO110 hg hb; have BK113 := A_ (hbox); have GW113 := gs_ w hg; have GE113 := gs_ w hg; replace HB := bs_ hb; clear hb hbox hg; have Z13 := bz8_ BK113; obtain ⟨Ao14, co14, eo14⟩ := Kd.V_slice HO110.out; subst eo14) | ((with_reducible refine gC 8 ?_); refine goesL_ (some 16) rfl rfl Tryz.func8 (by kernel_rfl) rfl #[.string ⟨#[49, 57, 56, 52, 47, 91]⟩] rfl ml_ ?_; (with_reducible refine (parse_Parse.calls k (⟨#[49, 57, 56, 52, 47, 91]⟩ : ByteArray) t114 t115 t116 t117 t118 t119 t120 t121 t124 t125 _ A2.out).mono ?_); rintro e w15 ⟨v122, rfl, ho0, hb⟩; refine ⟨_, rfl, ?_⟩; replace HO110 := bV_ HO110 hb; have HO123 := A_ (Kd.V_lower (Kd.V_mono (ok' := fun k_ => k_ ≠ gb113) ho0 (fun k_ hk_ => (fb_ BK113 k_ hk_))) (below_size hs_)); replace BK113 := bp_ BK113 (.cells (n8_ t101 t102 t103 t104 t105 t106 t107 (.slice Ao14 t108.length co14)) 27 (0, 0)) hb; replace HB := bs_ hb; (try clear hb); (try clear ho0)) | ((with_reducible refine gD 4 ?_); refine bxe_ 4 z8_ 27 ?_; intro gb126 hg w16 hbox hb; replace HO110 := eV_ HO110 hg hb; replace HO123 := eV_ HO123 hg hb; have BK126 := A_ (hbox); have GW126 := gs_ w hg; have GE126 := gs_ w hg; replace HB := bs_ hb; have NB113_126 := nl_ BK113 hg; have NB126_113 := ng_ BK113 hg; replace BK113 := bb_ BK113 hb; clear hb hbox hg; have hnb17 := NB126_113.out; have hnc17 := NB113_126.out; have Z18 := bz8_ BK126; obtain ⟨Ao19, co19, eo19⟩ := Kd.V_slice HO123.out; subst eo19) | ((with_reducible refine gC 8 ?_); refine goesL_ (some 21) rfl rfl Tryz.func8 (by kernel_rfl) rfl #[.string ⟨#[91, 49, 57, 56, 52]⟩] rfl ml_ ?_; (with_reducible refine (parse_Parse.calls k (⟨#[91, 49, 57, 56, 52]⟩ : ByteArray) t127 t128 t129 t130 t131 t132 t133 t134 t137 t138 _ A3.out).mono ?_); rintro e w20 ⟨v135, rfl, ho0, hb⟩; refine ⟨_, rfl, ?_⟩; replace HO110 := bV_ HO110 hb; replace HO123 := bV_ HO123 hb; have HO136 := A_ (Kd.V_lower (Kd.V_mono (ok' := fun k_ => k_ ≠ gb113 ∧ k_ ≠ gb126) ho0 (fun k_ hk_ => ⟨(Kd.freshB (g := gb113) (o := .cells (n8_ t101 t102 t103 t104 t105 t106 t107 (.slice Ao14 t108.length co14)) 27 (0, 0)) (pf_ NB113_126 BK113) k_ hk_), (fb_ BK126 k_ hk_)⟩)) (below_size hs_)); replace BK113 := A_ (blk_below (g := gb113) (o := .cells (n8_ t101 t102 t103 t104 t105 t106 t107 (.slice Ao14 t108.length co14)) 27 (0, 0)) (pf_ NB113_126 BK113) hb); replace BK126 := bp_ BK126 (.cells (n8_ t114 t115 t116 t117 t118 t119 t120 (.slice Ao19 t121.length co19)) 27 (0, 0)) hb; replace HB := bs_ hb; (try clear hb); (try clear ho0)) | ((with_reducible refine gD 7 ?_); refine bxe_ 7 z8_ 27 ?_; intro gb139 hg w21 hbox hb; replace HO110 := eV_ HO110 hg hb; replace HO123 := eV_ HO123 hg hb; replace HO136 := eV_ HO136 hg hb; have BK139 := A_ (hbox); have GW139 := gs_ w hg; have GE139 := gs_ w hg; replace HB := bs_ hb; have NB113_139 := nl_ BK113 hg; have NB139_113 := ng_ BK113 hg; replace BK113 := bb_ BK113 hb; have NB126_139 := nl_ BK126 hg; have NB139_126 := ng_ BK126 hg; replace BK126 := bb_ BK126 hb; clear hb hbox hg; have hnb22 := NB139_113.out; have hnc22 := NB113_139.out; have hnb23 := NB139_126.out; have hnc23 := NB126_139.out; have Z24 := bz8_ BK139; obtain ⟨Ao25, co25, eo25⟩ := Kd.V_slice HO136.out; subst eo25; have Z26 := bz8_ BK113) | (go_at_call 13; (with_reducible refine (print_Text.calls k t101 t102 t103 t104 t105 t106 t107 _ _ t108 t140 _ ?side1 ?side2 A6.out).mono ?_); (case side1 => refine (Kd.V_reads' (e := 27) (base := w.heap.size) (ok := fun k_ => (((True ∧ k_ ≠ gb113) ∧ k_ ≠ gb126) ∧ k_ ≠ gb139)) (n := t108.length) (c := co14) ?_).2.2; exact (fxV_ HO110.out)); (case side2 => exact (Kd.V_reads' HO110.out).2.1); rintro e w27 ⟨rfl, hb⟩; replace HO110 := bV_ HO110 hb; replace HO123 := bV_ HO123 hb; replace HO136 := bV_ HO136 hb; replace BK113 := A_ (blk_below (g := gb113) (o := .cells (n8_ t101 t102 t103 t104 t105 t106 t107 (.slice Ao14 t108.length co14)) 27 (0, 0)) (pf_ NB113_139 BK113) hb); replace BK126 := A_ (blk_below (g := gb126) (o := .cells (n8_ t114 t115 t116 t117 t118 t119 t120 (.slice Ao19 t121.length co19)) 27 (0, 0)) (pf_ NB126_139 BK126) hb); replace BK139 := bp_ BK139 (.cells (n8_ t127 t128 t129 t130 t131 t132 t133 (.slice Ao25 t134.length co25)) 27 (0, 0)) hb; replace HB := bs_ hb; (try clear hb)))
       go_ret; exact ⟨re_, hs_⟩
      ·rw [if_neg c10] at H
       have c10b0 : (t137 == 5) = false := beq_eq_false_iff_ne.mpr c10; have c10b1 : (t137 != 5) = true := bne_iff_ne.mpr c10; exact absurd ((Option.some.inj H).trans hrT_) (by decide)
     ·rw [if_neg c9] at H
      have c9b0 : (t125 == 3) = false := beq_eq_false_iff_ne.mpr c9; have c9b1 : (t125 != 3) = true := bne_iff_ne.mpr c9; exact absurd ((Option.some.inj H).trans hrT_) (by decide)
    ·rw [if_neg c8] at H
     have c8b0 : (t124 == 5) = false := beq_eq_false_iff_ne.mpr c8; have c8b1 : (t124 != 5) = true := bne_iff_ne.mpr c8; exact absurd ((Option.some.inj H).trans hrT_) (by decide)
   ·rw [if_neg c7] at H
    have c7b0 : (t140.toList == ([91, 49, 57, 56, 52, 63, 126, 44, 32, 46, 46, 47, 49, 57, 88, 52, 93] : List UInt8)) = false := beq_eq_false_iff_ne.mpr c7; have c7b1 : (t140.toList != ([91, 49, 57, 56, 52, 63, 126, 44, 32, 46, 46, 47, 49, 57, 88, 52, 93] : List UInt8)) = true := bne_iff_ne.mpr c7; exact absurd ((Option.some.inj H).trans hrT_) (by decide)
  ·rw [if_neg c5] at H
   have c5b0 : (t111 == 17) = false := beq_eq_false_iff_ne.mpr c5; have c5b1 : (t111 != 17) = true := bne_iff_ne.mpr c5; exact absurd ((Option.some.inj H).trans hrT_) (by decide)
 ·rw [if_neg c4] at H
  have c4b0 : (t112 == 0) = false := beq_eq_false_iff_ne.mpr c4; have c4b1 : (t112 != 0) = true := bne_iff_ne.mpr c4; exact absurd ((Option.some.inj H).trans hrT_) (by decide)
theorem Ev.only13 {α : Type} {f : Nat → Option α} {r q : α} (hm : ∀ k, LeO (f k) (f (k + 1))) (h : Ev f r) {k : Nat} (hk : f k = some q) : q = r := by
  obtain ⟨K, hK⟩ := h
  have up : ∀ j, f (k + j) = some q := fun j => by
    induction j with
    | zero => exact hk
    | succ j ih => exact hm (k + j) q ih
  exact Option.some.inj ((up K).symm.trans (hK (k + K) (by omega)))
theorem lustrumlaw13_awake.calls (k : Nat) (r : Bool) (w : World) (h : lustrumlaw13_awake.f k = some r) :
    Calls Tryz.prog 7 #[] w fun e w' => e = .returned (.bool r) ∧ Below w.heap.size w w' := lustrumlaw13_awake.callsT k r w (Ev.only13 lustrumlaw13_awake.mono awake13 h) h
end Go.Proofs.YtjgjhekpiijniaaGreat.A
namespace Go.Proofs.YtjgjhekpiijniaaGreat.A
open Go.RowKit Go.Proofs.YtjgjhekpiijniaaGreatW.PrintWords Go.Proofs.YtjgjhekpiijniaaGreatW.PrintLast Go.Proofs.YtjgjhekpiijniaaGreatW.PrintMore
attribute [local go_sem] max2_int min2_int max_two min_two max_three min_three max_four min_four isSome_setCell
attribute [local go_sem high] eqA23
abbrev SameAt (k : Nat) : Prop := ∀ (a0_0 a0_1 : Int) (a0_2 a0_3 a0_4 : ByteArray) (a0_5 a0_6 : Bool) (A0_7 : Option Addr) (c0_7 : Nat) (l0_7 : List (S27)) (a1_0 a1_1 : Int) (a1_2 a1_3 a1_4 : ByteArray) (a1_5 a1_6 : Bool) (A1_7 : Option Addr) (c1_7 : Nat) (l1_7 : List (S27)) (r : Bool) (w : World) (hr0_7 : Kd.C k27 w A0_7 l0_7.length l0_7) (hc0_7 : l0_7.length ≤ c0_7) (hr1_7 : Kd.C k27 w A1_7 l1_7.length l1_7) (hc1_7 : l1_7.length ≤ c1_7) (h : tree_Same.f k a0_0 a0_1 a0_2 a0_3 a0_4 a0_5 a0_6 l0_7 a1_0 a1_1 a1_2 a1_3 a1_4 a1_5 a1_6 l1_7 = some r),
    Calls Tryz.prog 10 #[.agg #[.int .i64 a0_0, .int .i64 a0_1, .string a0_2, .string a0_3, .string a0_4, .bool a0_5, .bool a0_6, .slice A0_7 l0_7.length c0_7], .agg #[.int .i64 a1_0, .int .i64 a1_1, .string a1_2, .string a1_3, .string a1_4, .bool a1_5, .bool a1_6, .slice A1_7 l1_7.length c1_7]] w fun e w' => e = .returned (.bool r) ∧ Below w.heap.size w w'
set_option maxHeartbeats 8000000 in
set_option maxRecDepth 100000 in
theorem slices_EqualFunc.calls (k : Nat) (ihS : ∀ j, j < k → SameAt j) (A0 : Option Addr) (c0 : Nat) (l0 : List (S27)) (A1 : Option Addr) (c1 : Nat) (l1 : List (S27))  (r : Bool) (w : World) (hr0 : Kd.C k27 w A0 l0.length l0) (hc0 : l0.length ≤ c0) (hr1 : Kd.C k27 w A1 l1.length l1) (hc1 : l1.length ≤ c1) (h : slices_EqualFunc.f k l0 l1 = some r) :
  Calls Tryz.prog 24 #[.slice A0 l0.length c0, .slice A1 l1.length c1, .func (.func 10) #[] #[]] w fun e w' => e = .returned (.bool r) ∧ Below w.heap.size w w' := by
 have hu27 := Tryz.underlying27; have HR0 := A_ hr0; have HC0 := A_ hc0; clear hr0 hc0; have HR1 := A_ hr1; have HC1 := A_ hc1; clear hr1 hc1; have HB := A_ (Below.refl w.heap.size w); have H : (if (l0.length : Int) = (l1.length : Int) then (slices_EqualFunc.l0 k l1 l0 (l0.length : Int) 0) else (some false)) = some r := h; clear h
 by_cases c4 : (l0.length : Int) = (l1.length : Int)
 ·rw [if_pos c4] at H
  have c4b0 : ((l0.length : Int) == (l1.length : Int)) = true := beq_iff_eq.mpr c4; have c4b1 : ((l0.length : Int) != (l1.length : Int)) = false := bne_eq_false_iff_eq.mpr c4; (have c4b2 : (l0.length == l1.length) = true := by first | simpa using c4 | (simp at c4 ⊢; omega)); clear c4; have H' := A_ H; clear H; go_enter Tryz.func24, Tryz.ntmps24; go_wp2; go_loopg [17] k (fun kq v17 w' => ∃ (x17_1 : Int), v17 = .int .i64 x17_1 ∧ Aside0 (slices_EqualFunc.l0 kq l1 l0 (l0.length : Int) x17_1 = some r) ∧ Aside0 (kq ≤ k) ∧ Aside0 (Below w.heap.size w w'))
  case atStart => exact ⟨(0), rf_, H', ⟨Nat.le_refl _⟩, ⟨hs_⟩⟩
  case round =>
   clear H'; (try clear c1); (try clear p2); (try clear c4); (try clear c4b0); (try clear c4b1); (try clear c4b2); obtain ⟨x17_1, rfl, HA, HK1, HB⟩ := hrel
   cases gk with
   | zero => exact absurd HA.out (by simp [slices_EqualFunc.l0])
   | succ k1 =>
    have H := HA.out; clear HA; simp only [slices_EqualFunc.l0] at H
    by_cases c5 : x17_1 < (l0.length : Int)
    ·rw [if_pos c5] at H
     have c5b0 := decide_eq_true c5; clear c5
     by_cases c6 : 0 ≤ x17_1
     ·rw [if_pos c6] at H
      have c6b0 := decide_eq_true c6; clear c6
      by_cases c7 : x17_1 < (l0.length : Int)
      ·rw [if_pos c7] at H
       have c7b0 := decide_eq_true c7; clear c7
       by_cases c8 : x17_1 < (l1.length : Int)
       ·rw [if_pos c8] at H
        have c8b0 := decide_eq_true c8; clear c8; obtain ⟨t105, A9, H⟩ := bi_ H
        by_cases c10 : t105 = true
        ·subst c10
         replace H := iP_ H; have H' := A_ H; clear H; have p101 : 0 ≤ (x17_1 : Int) := od_; have q101 : x17_1 < (l0.length : Int) := od_; obtain ⟨ad101, A101_7, c101_7, e101, hx101_0, hx101_1, hx101_2, hx101_3, hx101_4, hx101_5, hx101_6, hx101_7, hl101_7, hi101_7⟩ := at_T27 HR0.out x17_1 p101 q101
         cases e101
         replace hx101_0 := cl_ HB hx101_0; replace hx101_1 := cl_ HB hx101_1; replace hx101_2 := cl_ HB hx101_2; replace hx101_3 := cl_ HB hx101_3; replace hx101_4 := cl_ HB hx101_4; replace hx101_5 := cl_ HB hx101_5; replace hx101_6 := cl_ HB hx101_6; replace hx101_7 := cl_ HB hx101_7; have HR101_7 := A_ hi101_7; have HC101_7 := A_ hl101_7; clear hi101_7 hl101_7; replace p101 := eq_true p101; replace q101 := eq_true q101; go_wp2_with (first | (refine gx_ w 8 z8_ 27 ?_; clear HB; intro gb102 w11 BK102 GE102 HB; have GW102 := GE102; have Z12 := bz8_ BK102; have p103 : 0 ≤ (x17_1 : Int) := od_; have q103 : x17_1 < (l1.length : Int) := od_; obtain ⟨ad103, A103_7, c103_7, e103, hx103_0, hx103_1, hx103_2, hx103_3, hx103_4, hx103_5, hx103_6, hx103_7, hl103_7, hi103_7⟩ := at_T27 HR1.out x17_1 p103 q103; cases e103; have hn103_0 : ad103.block ≠ gb102 := Nat.ne_of_lt (Nat.lt_of_lt_of_le (by have := World.block_lt_of_cell? _ _ hx103_0; first | rwa [add_block] at this | exact this) GW102.out); have hn103_1 : ad103.block ≠ gb102 := Nat.ne_of_lt (Nat.lt_of_lt_of_le (by have := World.block_lt_of_cell? _ _ hx103_0; first | rwa [add_block] at this | exact this) GW102.out); have hn103_2 : ad103.block ≠ gb102 := Nat.ne_of_lt (Nat.lt_of_lt_of_le (by have := World.block_lt_of_cell? _ _ hx103_0; first | rwa [add_block] at this | exact this) GW102.out); have hn103_3 : ad103.block ≠ gb102 := Nat.ne_of_lt (Nat.lt_of_lt_of_le (by have := World.block_lt_of_cell? _ _ hx103_0; first | rwa [add_block] at this | exact this) GW102.out); have hn103_4 : ad103.block ≠ gb102 := Nat.ne_of_lt (Nat.lt_of_lt_of_le (by have := World.block_lt_of_cell? _ _ hx103_0; first | rwa [add_block] at this | exact this) GW102.out); have hn103_5 : ad103.block ≠ gb102 := Nat.ne_of_lt (Nat.lt_of_lt_of_le (by have := World.block_lt_of_cell? _ _ hx103_0; first | rwa [add_block] at this | exact this) GW102.out); have hn103_6 : ad103.block ≠ gb102 := Nat.ne_of_lt (Nat.lt_of_lt_of_le (by have := World.block_lt_of_cell? _ _ hx103_0; first | rwa [add_block] at this | exact this) GW102.out); have hn103_7 : ad103.block ≠ gb102 := Nat.ne_of_lt (Nat.lt_of_lt_of_le (by have := World.block_lt_of_cell? _ _ hx103_0; first | rwa [add_block] at this | exact this) GW102.out); replace hx103_0 := cl_ HB hx103_0; replace hx103_1 := cl_ HB hx103_1; replace hx103_2 := cl_ HB hx103_2; replace hx103_3 := cl_ HB hx103_3; replace hx103_4 := cl_ HB hx103_4; replace hx103_5 := cl_ HB hx103_5; replace hx103_6 := cl_ HB hx103_6; replace hx103_7 := cl_ HB hx103_7; have HR103_7 := A_ hi103_7; have HC103_7 := A_ hl103_7; clear hi103_7 hl103_7; replace hx103_0 := (cell_far (p := ⟨gb102, 0, none⟩) (ne_ hn103_0) (.int .i64 ((rd_T27 l0 x17_1).f0))).trans hx103_0; replace hx103_1 := (cell_far (p := ⟨gb102, 0, none⟩) (ne_ hn103_0) (.int .i64 ((rd_T27 l0 x17_1).f0))).trans hx103_1; replace hx103_2 := (cell_far (p := ⟨gb102, 0, none⟩) (ne_ hn103_0) (.int .i64 ((rd_T27 l0 x17_1).f0))).trans hx103_2; replace hx103_3 := (cell_far (p := ⟨gb102, 0, none⟩) (ne_ hn103_0) (.int .i64 ((rd_T27 l0 x17_1).f0))).trans hx103_3; replace hx103_4 := (cell_far (p := ⟨gb102, 0, none⟩) (ne_ hn103_0) (.int .i64 ((rd_T27 l0 x17_1).f0))).trans hx103_4; replace hx103_5 := (cell_far (p := ⟨gb102, 0, none⟩) (ne_ hn103_0) (.int .i64 ((rd_T27 l0 x17_1).f0))).trans hx103_5; replace hx103_6 := (cell_far (p := ⟨gb102, 0, none⟩) (ne_ hn103_0) (.int .i64 ((rd_T27 l0 x17_1).f0))).trans hx103_6; replace hx103_7 := (cell_far (p := ⟨gb102, 0, none⟩) (ne_ hn103_0) (.int .i64 ((rd_T27 l0 x17_1).f0))).trans hx103_7; replace hx103_0 := (cell_far (p := ⟨gb102, 1, none⟩) (ne_ hn103_1) (.int .i64 ((rd_T27 l0 x17_1).f1.f0))).trans hx103_0; replace hx103_1 := (cell_far (p := ⟨gb102, 1, none⟩) (ne_ hn103_1) (.int .i64 ((rd_T27 l0 x17_1).f1.f0))).trans hx103_1; replace hx103_2 := (cell_far (p := ⟨gb102, 1, none⟩) (ne_ hn103_1) (.int .i64 ((rd_T27 l0 x17_1).f1.f0))).trans hx103_2; replace hx103_3 := (cell_far (p := ⟨gb102, 1, none⟩) (ne_ hn103_1) (.int .i64 ((rd_T27 l0 x17_1).f1.f0))).trans hx103_3; replace hx103_4 := (cell_far (p := ⟨gb102, 1, none⟩) (ne_ hn103_1) (.int .i64 ((rd_T27 l0 x17_1).f1.f0))).trans hx103_4; replace hx103_5 := (cell_far (p := ⟨gb102, 1, none⟩) (ne_ hn103_1) (.int .i64 ((rd_T27 l0 x17_1).f1.f0))).trans hx103_5; replace hx103_6 := (cell_far (p := ⟨gb102, 1, none⟩) (ne_ hn103_1) (.int .i64 ((rd_T27 l0 x17_1).f1.f0))).trans hx103_6; replace hx103_7 := (cell_far (p := ⟨gb102, 1, none⟩) (ne_ hn103_1) (.int .i64 ((rd_T27 l0 x17_1).f1.f0))).trans hx103_7; replace hx103_0 := (cell_far (p := ⟨gb102, 2, none⟩) (ne_ hn103_2) (.string ((rd_T27 l0 x17_1).f1.f1))).trans hx103_0; replace hx103_1 := (cell_far (p := ⟨gb102, 2, none⟩) (ne_ hn103_2) (.string ((rd_T27 l0 x17_1).f1.f1))).trans hx103_1; replace hx103_2 := (cell_far (p := ⟨gb102, 2, none⟩) (ne_ hn103_2) (.string ((rd_T27 l0 x17_1).f1.f1))).trans hx103_2; replace hx103_3 := (cell_far (p := ⟨gb102, 2, none⟩) (ne_ hn103_2) (.string ((rd_T27 l0 x17_1).f1.f1))).trans hx103_3; replace hx103_4 := (cell_far (p := ⟨gb102, 2, none⟩) (ne_ hn103_2) (.string ((rd_T27 l0 x17_1).f1.f1))).trans hx103_4; replace hx103_5 := (cell_far (p := ⟨gb102, 2, none⟩) (ne_ hn103_2) (.string ((rd_T27 l0 x17_1).f1.f1))).trans hx103_5; replace hx103_6 := (cell_far (p := ⟨gb102, 2, none⟩) (ne_ hn103_2) (.string ((rd_T27 l0 x17_1).f1.f1))).trans hx103_6; replace hx103_7 := (cell_far (p := ⟨gb102, 2, none⟩) (ne_ hn103_2) (.string ((rd_T27 l0 x17_1).f1.f1))).trans hx103_7; replace hx103_0 := (cell_far (p := ⟨gb102, 3, none⟩) (ne_ hn103_3) (.string ((rd_T27 l0 x17_1).f1.f2))).trans hx103_0; replace hx103_1 := (cell_far (p := ⟨gb102, 3, none⟩) (ne_ hn103_3) (.string ((rd_T27 l0 x17_1).f1.f2))).trans hx103_1; replace hx103_2 := (cell_far (p := ⟨gb102, 3, none⟩) (ne_ hn103_3) (.string ((rd_T27 l0 x17_1).f1.f2))).trans hx103_2; replace hx103_3 := (cell_far (p := ⟨gb102, 3, none⟩) (ne_ hn103_3) (.string ((rd_T27 l0 x17_1).f1.f2))).trans hx103_3; replace hx103_4 := (cell_far (p := ⟨gb102, 3, none⟩) (ne_ hn103_3) (.string ((rd_T27 l0 x17_1).f1.f2))).trans hx103_4; replace hx103_5 := (cell_far (p := ⟨gb102, 3, none⟩) (ne_ hn103_3) (.string ((rd_T27 l0 x17_1).f1.f2))).trans hx103_5; replace hx103_6 := (cell_far (p := ⟨gb102, 3, none⟩) (ne_ hn103_3) (.string ((rd_T27 l0 x17_1).f1.f2))).trans hx103_6; replace hx103_7 := (cell_far (p := ⟨gb102, 3, none⟩) (ne_ hn103_3) (.string ((rd_T27 l0 x17_1).f1.f2))).trans hx103_7; replace hx103_0 := (cell_far (p := ⟨gb102, 4, none⟩) (ne_ hn103_4) (.string ((rd_T27 l0 x17_1).f1.f3))).trans hx103_0; replace hx103_1 := (cell_far (p := ⟨gb102, 4, none⟩) (ne_ hn103_4) (.string ((rd_T27 l0 x17_1).f1.f3))).trans hx103_1; replace hx103_2 := (cell_far (p := ⟨gb102, 4, none⟩) (ne_ hn103_4) (.string ((rd_T27 l0 x17_1).f1.f3))).trans hx103_2; replace hx103_3 := (cell_far (p := ⟨gb102, 4, none⟩) (ne_ hn103_4) (.string ((rd_T27 l0 x17_1).f1.f3))).trans hx103_3; replace hx103_4 := (cell_far (p := ⟨gb102, 4, none⟩) (ne_ hn103_4) (.string ((rd_T27 l0 x17_1).f1.f3))).trans hx103_4; replace hx103_5 := (cell_far (p := ⟨gb102, 4, none⟩) (ne_ hn103_4) (.string ((rd_T27 l0 x17_1).f1.f3))).trans hx103_5; replace hx103_6 := (cell_far (p := ⟨gb102, 4, none⟩) (ne_ hn103_4) (.string ((rd_T27 l0 x17_1).f1.f3))).trans hx103_6; replace hx103_7 := (cell_far (p := ⟨gb102, 4, none⟩) (ne_ hn103_4) (.string ((rd_T27 l0 x17_1).f1.f3))).trans hx103_7; replace hx103_0 := (cell_far (p := ⟨gb102, 5, none⟩) (ne_ hn103_5) (.bool ((rd_T27 l0 x17_1).f2))).trans hx103_0; replace hx103_1 := (cell_far (p := ⟨gb102, 5, none⟩) (ne_ hn103_5) (.bool ((rd_T27 l0 x17_1).f2))).trans hx103_1; replace hx103_2 := (cell_far (p := ⟨gb102, 5, none⟩) (ne_ hn103_5) (.bool ((rd_T27 l0 x17_1).f2))).trans hx103_2; replace hx103_3 := (cell_far (p := ⟨gb102, 5, none⟩) (ne_ hn103_5) (.bool ((rd_T27 l0 x17_1).f2))).trans hx103_3; replace hx103_4 := (cell_far (p := ⟨gb102, 5, none⟩) (ne_ hn103_5) (.bool ((rd_T27 l0 x17_1).f2))).trans hx103_4; replace hx103_5 := (cell_far (p := ⟨gb102, 5, none⟩) (ne_ hn103_5) (.bool ((rd_T27 l0 x17_1).f2))).trans hx103_5; replace hx103_6 := (cell_far (p := ⟨gb102, 5, none⟩) (ne_ hn103_5) (.bool ((rd_T27 l0 x17_1).f2))).trans hx103_6; replace hx103_7 := (cell_far (p := ⟨gb102, 5, none⟩) (ne_ hn103_5) (.bool ((rd_T27 l0 x17_1).f2))).trans hx103_7; replace hx103_0 := (cell_far (p := ⟨gb102, 6, none⟩) (ne_ hn103_6) (.bool ((rd_T27 l0 x17_1).f3))).trans hx103_0; replace hx103_1 := (cell_far (p := ⟨gb102, 6, none⟩) (ne_ hn103_6) (.bool ((rd_T27 l0 x17_1).f3))).trans hx103_1; replace hx103_2 := (cell_far (p := ⟨gb102, 6, none⟩) (ne_ hn103_6) (.bool ((rd_T27 l0 x17_1).f3))).trans hx103_2; replace hx103_3 := (cell_far (p := ⟨gb102, 6, none⟩) (ne_ hn103_6) (.bool ((rd_T27 l0 x17_1).f3))).trans hx103_3; replace hx103_4 := (cell_far (p := ⟨gb102, 6, none⟩) (ne_ hn103_6) (.bool ((rd_T27 l0 x17_1).f3))).trans hx103_4; replace hx103_5 := (cell_far (p := ⟨gb102, 6, none⟩) (ne_ hn103_6) (.bool ((rd_T27 l0 x17_1).f3))).trans hx103_5; replace hx103_6 := (cell_far (p := ⟨gb102, 6, none⟩) (ne_ hn103_6) (.bool ((rd_T27 l0 x17_1).f3))).trans hx103_6; replace hx103_7 := (cell_far (p := ⟨gb102, 6, none⟩) (ne_ hn103_6) (.bool ((rd_T27 l0 x17_1).f3))).trans hx103_7; replace hx103_0 := (cell_far (p := ⟨gb102, 7, none⟩) (ne_ hn103_7) (.slice A101_7 ((rd_T27 l0 x17_1).f4).length c101_7)).trans hx103_0; replace hx103_1 := (cell_far (p := ⟨gb102, 7, none⟩) (ne_ hn103_7) (.slice A101_7 ((rd_T27 l0 x17_1).f4).length c101_7)).trans hx103_1; replace hx103_2 := (cell_far (p := ⟨gb102, 7, none⟩) (ne_ hn103_7) (.slice A101_7 ((rd_T27 l0 x17_1).f4).length c101_7)).trans hx103_2; replace hx103_3 := (cell_far (p := ⟨gb102, 7, none⟩) (ne_ hn103_7) (.slice A101_7 ((rd_T27 l0 x17_1).f4).length c101_7)).trans hx103_3; replace hx103_4 := (cell_far (p := ⟨gb102, 7, none⟩) (ne_ hn103_7) (.slice A101_7 ((rd_T27 l0 x17_1).f4).length c101_7)).trans hx103_4; replace hx103_5 := (cell_far (p := ⟨gb102, 7, none⟩) (ne_ hn103_7) (.slice A101_7 ((rd_T27 l0 x17_1).f4).length c101_7)).trans hx103_5; replace hx103_6 := (cell_far (p := ⟨gb102, 7, none⟩) (ne_ hn103_7) (.slice A101_7 ((rd_T27 l0 x17_1).f4).length c101_7)).trans hx103_6; replace hx103_7 := (cell_far (p := ⟨gb102, 7, none⟩) (ne_ hn103_7) (.slice A101_7 ((rd_T27 l0 x17_1).f4).length c101_7)).trans hx103_7; clear hn103_0; clear hn103_1; clear hn103_2; clear hn103_3; clear hn103_4; clear hn103_5; clear hn103_6; clear hn103_7; replace p103 := eq_true p103; replace q103 := eq_true q103) | (refine gD 9 ?_; refine bxe_ 9 z8_ 27 ?_; intro gb104 hg w13 hbox hb; have BK104 := A_ (hbox); have GW104 := gs_ w hg; have GE104 := gs_ w hg; replace HB := bs_ hb; have NB102_104 := nl_ BK102 hg; have NB104_102 := ng_ BK102 hg; replace BK102 := bp_ BK102 (.cells #[.int .i64 ((rd_T27 l0 x17_1).f0), .int .i64 ((rd_T27 l0 x17_1).f1.f0), .string ((rd_T27 l0 x17_1).f1.f1), .string ((rd_T27 l0 x17_1).f1.f2), .string ((rd_T27 l0 x17_1).f1.f3), .bool ((rd_T27 l0 x17_1).f2), .bool ((rd_T27 l0 x17_1).f3), .slice A101_7 ((rd_T27 l0 x17_1).f4).length c101_7] 27 (0, 0)) hb; clear hb hbox hg; have hnb14 := NB104_102.out; have hnc14 := NB102_104.out; have Z15 := bz8_ BK104; have Z16 := bz8_ BK102) | (go_at_call 10; (refine (ihS k1 (by have := HK1.out; omega) ((rd_T27 l0 x17_1).f0) ((rd_T27 l0 x17_1).f1.f0) ((rd_T27 l0 x17_1).f1.f1) ((rd_T27 l0 x17_1).f1.f2) ((rd_T27 l0 x17_1).f1.f3) ((rd_T27 l0 x17_1).f2) ((rd_T27 l0 x17_1).f3) _ _ ((rd_T27 l0 x17_1).f4) ((rd_T27 l1 x17_1).f0) ((rd_T27 l1 x17_1).f1.f0) ((rd_T27 l1 x17_1).f1.f1) ((rd_T27 l1 x17_1).f1.f2) ((rd_T27 l1 x17_1).f1.f3) ((rd_T27 l1 x17_1).f2) ((rd_T27 l1 x17_1).f3) _ _ ((rd_T27 l1 x17_1).f4) true _ ?side1 ?side2 ?side3 ?side4 A9.out).mono ?_); (case side1 => exact Kd.C_below HR101_7.out hs_); (case side2 => exact HC101_7.out); (case side3 => exact Kd.C_below HR103_7.out hs_); (case side4 => exact HC103_7.out); rintro e w17 ⟨rfl, hb⟩; replace BK102 := A_ (blk_below (g := gb102) (o := .cells #[.int .i64 ((rd_T27 l0 x17_1).f0), .int .i64 ((rd_T27 l0 x17_1).f1.f0), .string ((rd_T27 l0 x17_1).f1.f1), .string ((rd_T27 l0 x17_1).f1.f2), .string ((rd_T27 l0 x17_1).f1.f3), .bool ((rd_T27 l0 x17_1).f2), .bool ((rd_T27 l0 x17_1).f3), .slice A101_7 ((rd_T27 l0 x17_1).f4).length c101_7] 27 (0, 0)) (pf_ NB102_104 BK102) hb); replace BK104 := bp_ BK104 (.cells #[.int .i64 ((rd_T27 l1 x17_1).f0), .int .i64 ((rd_T27 l1 x17_1).f1.f0), .string ((rd_T27 l1 x17_1).f1.f1), .string ((rd_T27 l1 x17_1).f1.f2), .string ((rd_T27 l1 x17_1).f1.f3), .bool ((rd_T27 l1 x17_1).f2), .bool ((rd_T27 l1 x17_1).f3), .slice A103_7 ((rd_T27 l1 x17_1).f4).length c103_7] 27 (0, 0)) hb; replace HB := bs_ hb; (try clear hb)))
         go_roundg k1
         case measure => have := HK1.out; omega
         case rel => exact ⟨(wrap64 (x17_1 + 1)), rf_, H', ⟨by have := HK1.out; omega⟩, ⟨hs_⟩⟩
        ·replace c10 := Bool.eq_false_iff.mpr c10
         subst c10; replace H := iN_ H; obtain rfl := Option.some.inj H; have p101 : 0 ≤ (x17_1 : Int) := od_; have q101 : x17_1 < (l0.length : Int) := od_; obtain ⟨ad101, A101_7, c101_7, e101, hx101_0, hx101_1, hx101_2, hx101_3, hx101_4, hx101_5, hx101_6, hx101_7, hl101_7, hi101_7⟩ := at_T27 HR0.out x17_1 p101 q101
         cases e101
         replace hx101_0 := cl_ HB hx101_0; replace hx101_1 := cl_ HB hx101_1; replace hx101_2 := cl_ HB hx101_2; replace hx101_3 := cl_ HB hx101_3; replace hx101_4 := cl_ HB hx101_4; replace hx101_5 := cl_ HB hx101_5; replace hx101_6 := cl_ HB hx101_6; replace hx101_7 := cl_ HB hx101_7; have HR101_7 := A_ hi101_7; have HC101_7 := A_ hl101_7; clear hi101_7 hl101_7; replace p101 := eq_true p101; replace q101 := eq_true q101; go_wp2_with (first | (refine gx_ w 8 z8_ 27 ?_; clear HB; intro gb102 w18 BK102 GE102 HB; have GW102 := GE102; have Z19 := bz8_ BK102; have p103 : 0 ≤ (x17_1 : Int) := od_; have q103 : x17_1 < (l1.length : Int) := od_; obtain ⟨ad103, A103_7, c103_7, e103, hx103_0, hx103_1, hx103_2, hx103_3, hx103_4, hx103_5, hx103_6, hx103_7, hl103_7, hi103_7⟩ := at_T27 HR1.out x17_1 p103 q103; cases e103; have hn103_0 : ad103.block ≠ gb102 := Nat.ne_of_lt (Nat.lt_of_lt_of_le (by have := World.block_lt_of_cell? _ _ hx103_0; first | rwa [add_block] at this | exact this) GW102.out); have hn103_1 : ad103.block ≠ gb102 := Nat.ne_of_lt (Nat.lt_of_lt_of_le (by have := World.block_lt_of_cell? _ _ hx103_0; first | rwa [add_block] at this | exact this) GW102.out); have hn103_2 : ad103.block ≠ gb102 := Nat.ne_of_lt (Nat.lt_of_lt_of_le (by have := World.block_lt_of_cell? _ _ hx103_0; first | rwa [add_block] at this | exact this) GW102.out); have hn103_3 : ad103.block ≠ gb102 := Nat.ne_of_lt (Nat.lt_of_lt_of_le (by have := World.block_lt_of_cell? _ _ hx103_0; first | rwa [add_block] at this | exact this) GW102.out); have hn103_4 : ad103.block ≠ gb102 := Nat.ne_of_lt (Nat.lt_of_lt_of_le (by have := World.block_lt_of_cell? _ _ hx103_0; first | rwa [add_block] at this | exact this) GW102.out); have hn103_5 : ad103.block ≠ gb102 := Nat.ne_of_lt (Nat.lt_of_lt_of_le (by have := World.block_lt_of_cell? _ _ hx103_0; first | rwa [add_block] at this | exact this) GW102.out); have hn103_6 : ad103.block ≠ gb102 := Nat.ne_of_lt (Nat.lt_of_lt_of_le (by have := World.block_lt_of_cell? _ _ hx103_0; first | rwa [add_block] at this | exact this) GW102.out); have hn103_7 : ad103.block ≠ gb102 := Nat.ne_of_lt (Nat.lt_of_lt_of_le (by have := World.block_lt_of_cell? _ _ hx103_0; first | rwa [add_block] at this | exact this) GW102.out); replace hx103_0 := cl_ HB hx103_0; replace hx103_1 := cl_ HB hx103_1; replace hx103_2 := cl_ HB hx103_2; replace hx103_3 := cl_ HB hx103_3; replace hx103_4 := cl_ HB hx103_4; replace hx103_5 := cl_ HB hx103_5; replace hx103_6 := cl_ HB hx103_6; replace hx103_7 := cl_ HB hx103_7; have HR103_7 := A_ hi103_7; have HC103_7 := A_ hl103_7; clear hi103_7 hl103_7; replace hx103_0 := (cell_far (p := ⟨gb102, 0, none⟩) (ne_ hn103_0) (.int .i64 ((rd_T27 l0 x17_1).f0))).trans hx103_0; replace hx103_1 := (cell_far (p := ⟨gb102, 0, none⟩) (ne_ hn103_0) (.int .i64 ((rd_T27 l0 x17_1).f0))).trans hx103_1; replace hx103_2 := (cell_far (p := ⟨gb102, 0, none⟩) (ne_ hn103_0) (.int .i64 ((rd_T27 l0 x17_1).f0))).trans hx103_2; replace hx103_3 := (cell_far (p := ⟨gb102, 0, none⟩) (ne_ hn103_0) (.int .i64 ((rd_T27 l0 x17_1).f0))).trans hx103_3; replace hx103_4 := (cell_far (p := ⟨gb102, 0, none⟩) (ne_ hn103_0) (.int .i64 ((rd_T27 l0 x17_1).f0))).trans hx103_4; replace hx103_5 := (cell_far (p := ⟨gb102, 0, none⟩) (ne_ hn103_0) (.int .i64 ((rd_T27 l0 x17_1).f0))).trans hx103_5; replace hx103_6 := (cell_far (p := ⟨gb102, 0, none⟩) (ne_ hn103_0) (.int .i64 ((rd_T27 l0 x17_1).f0))).trans hx103_6; replace hx103_7 := (cell_far (p := ⟨gb102, 0, none⟩) (ne_ hn103_0) (.int .i64 ((rd_T27 l0 x17_1).f0))).trans hx103_7; replace hx103_0 := (cell_far (p := ⟨gb102, 1, none⟩) (ne_ hn103_1) (.int .i64 ((rd_T27 l0 x17_1).f1.f0))).trans hx103_0; replace hx103_1 := (cell_far (p := ⟨gb102, 1, none⟩) (ne_ hn103_1) (.int .i64 ((rd_T27 l0 x17_1).f1.f0))).trans hx103_1; replace hx103_2 := (cell_far (p := ⟨gb102, 1, none⟩) (ne_ hn103_1) (.int .i64 ((rd_T27 l0 x17_1).f1.f0))).trans hx103_2; replace hx103_3 := (cell_far (p := ⟨gb102, 1, none⟩) (ne_ hn103_1) (.int .i64 ((rd_T27 l0 x17_1).f1.f0))).trans hx103_3; replace hx103_4 := (cell_far (p := ⟨gb102, 1, none⟩) (ne_ hn103_1) (.int .i64 ((rd_T27 l0 x17_1).f1.f0))).trans hx103_4; replace hx103_5 := (cell_far (p := ⟨gb102, 1, none⟩) (ne_ hn103_1) (.int .i64 ((rd_T27 l0 x17_1).f1.f0))).trans hx103_5; replace hx103_6 := (cell_far (p := ⟨gb102, 1, none⟩) (ne_ hn103_1) (.int .i64 ((rd_T27 l0 x17_1).f1.f0))).trans hx103_6; replace hx103_7 := (cell_far (p := ⟨gb102, 1, none⟩) (ne_ hn103_1) (.int .i64 ((rd_T27 l0 x17_1).f1.f0))).trans hx103_7; replace hx103_0 := (cell_far (p := ⟨gb102, 2, none⟩) (ne_ hn103_2) (.string ((rd_T27 l0 x17_1).f1.f1))).trans hx103_0; replace hx103_1 := (cell_far (p := ⟨gb102, 2, none⟩) (ne_ hn103_2) (.string ((rd_T27 l0 x17_1).f1.f1))).trans hx103_1; replace hx103_2 := (cell_far (p := ⟨gb102, 2, none⟩) (ne_ hn103_2) (.string ((rd_T27 l0 x17_1).f1.f1))).trans hx103_2; replace hx103_3 := (cell_far (p := ⟨gb102, 2, none⟩) (ne_ hn103_2) (.string ((rd_T27 l0 x17_1).f1.f1))).trans hx103_3; replace hx103_4 := (cell_far (p := ⟨gb102, 2, none⟩) (ne_ hn103_2) (.string ((rd_T27 l0 x17_1).f1.f1))).trans hx103_4; replace hx103_5 := (cell_far (p := ⟨gb102, 2, none⟩) (ne_ hn103_2) (.string ((rd_T27 l0 x17_1).f1.f1))).trans hx103_5; replace hx103_6 := (cell_far (p := ⟨gb102, 2, none⟩) (ne_ hn103_2) (.string ((rd_T27 l0 x17_1).f1.f1))).trans hx103_6; replace hx103_7 := (cell_far (p := ⟨gb102, 2, none⟩) (ne_ hn103_2) (.string ((rd_T27 l0 x17_1).f1.f1))).trans hx103_7; replace hx103_0 := (cell_far (p := ⟨gb102, 3, none⟩) (ne_ hn103_3) (.string ((rd_T27 l0 x17_1).f1.f2))).trans hx103_0; replace hx103_1 := (cell_far (p := ⟨gb102, 3, none⟩) (ne_ hn103_3) (.string ((rd_T27 l0 x17_1).f1.f2))).trans hx103_1; replace hx103_2 := (cell_far (p := ⟨gb102, 3, none⟩) (ne_ hn103_3) (.string ((rd_T27 l0 x17_1).f1.f2))).trans hx103_2; replace hx103_3 := (cell_far (p := ⟨gb102, 3, none⟩) (ne_ hn103_3) (.string ((rd_T27 l0 x17_1).f1.f2))).trans hx103_3; replace hx103_4 := (cell_far (p := ⟨gb102, 3, none⟩) (ne_ hn103_3) (.string ((rd_T27 l0 x17_1).f1.f2))).trans hx103_4; replace hx103_5 := (cell_far (p := ⟨gb102, 3, none⟩) (ne_ hn103_3) (.string ((rd_T27 l0 x17_1).f1.f2))).trans hx103_5; replace hx103_6 := (cell_far (p := ⟨gb102, 3, none⟩) (ne_ hn103_3) (.string ((rd_T27 l0 x17_1).f1.f2))).trans hx103_6; replace hx103_7 := (cell_far (p := ⟨gb102, 3, none⟩) (ne_ hn103_3) (.string ((rd_T27 l0 x17_1).f1.f2))).trans hx103_7; replace hx103_0 := (cell_far (p := ⟨gb102, 4, none⟩) (ne_ hn103_4) (.string ((rd_T27 l0 x17_1).f1.f3))).trans hx103_0; replace hx103_1 := (cell_far (p := ⟨gb102, 4, none⟩) (ne_ hn103_4) (.string ((rd_T27 l0 x17_1).f1.f3))).trans hx103_1; replace hx103_2 := (cell_far (p := ⟨gb102, 4, none⟩) (ne_ hn103_4) (.string ((rd_T27 l0 x17_1).f1.f3))).trans hx103_2; replace hx103_3 := (cell_far (p := ⟨gb102, 4, none⟩) (ne_ hn103_4) (.string ((rd_T27 l0 x17_1).f1.f3))).trans hx103_3; replace hx103_4 := (cell_far (p := ⟨gb102, 4, none⟩) (ne_ hn103_4) (.string ((rd_T27 l0 x17_1).f1.f3))).trans hx103_4; replace hx103_5 := (cell_far (p := ⟨gb102, 4, none⟩) (ne_ hn103_4) (.string ((rd_T27 l0 x17_1).f1.f3))).trans hx103_5; replace hx103_6 := (cell_far (p := ⟨gb102, 4, none⟩) (ne_ hn103_4) (.string ((rd_T27 l0 x17_1).f1.f3))).trans hx103_6; replace hx103_7 := (cell_far (p := ⟨gb102, 4, none⟩) (ne_ hn103_4) (.string ((rd_T27 l0 x17_1).f1.f3))).trans hx103_7; replace hx103_0 := (cell_far (p := ⟨gb102, 5, none⟩) (ne_ hn103_5) (.bool ((rd_T27 l0 x17_1).f2))).trans hx103_0; replace hx103_1 := (cell_far (p := ⟨gb102, 5, none⟩) (ne_ hn103_5) (.bool ((rd_T27 l0 x17_1).f2))).trans hx103_1; replace hx103_2 := (cell_far (p := ⟨gb102, 5, none⟩) (ne_ hn103_5) (.bool ((rd_T27 l0 x17_1).f2))).trans hx103_2; replace hx103_3 := (cell_far (p := ⟨gb102, 5, none⟩) (ne_ hn103_5) (.bool ((rd_T27 l0 x17_1).f2))).trans hx103_3; replace hx103_4 := (cell_far (p := ⟨gb102, 5, none⟩) (ne_ hn103_5) (.bool ((rd_T27 l0 x17_1).f2))).trans hx103_4; replace hx103_5 := (cell_far (p := ⟨gb102, 5, none⟩) (ne_ hn103_5) (.bool ((rd_T27 l0 x17_1).f2))).trans hx103_5; replace hx103_6 := (cell_far (p := ⟨gb102, 5, none⟩) (ne_ hn103_5) (.bool ((rd_T27 l0 x17_1).f2))).trans hx103_6; replace hx103_7 := (cell_far (p := ⟨gb102, 5, none⟩) (ne_ hn103_5) (.bool ((rd_T27 l0 x17_1).f2))).trans hx103_7; replace hx103_0 := (cell_far (p := ⟨gb102, 6, none⟩) (ne_ hn103_6) (.bool ((rd_T27 l0 x17_1).f3))).trans hx103_0; replace hx103_1 := (cell_far (p := ⟨gb102, 6, none⟩) (ne_ hn103_6) (.bool ((rd_T27 l0 x17_1).f3))).trans hx103_1; replace hx103_2 := (cell_far (p := ⟨gb102, 6, none⟩) (ne_ hn103_6) (.bool ((rd_T27 l0 x17_1).f3))).trans hx103_2; replace hx103_3 := (cell_far (p := ⟨gb102, 6, none⟩) (ne_ hn103_6) (.bool ((rd_T27 l0 x17_1).f3))).trans hx103_3; replace hx103_4 := (cell_far (p := ⟨gb102, 6, none⟩) (ne_ hn103_6) (.bool ((rd_T27 l0 x17_1).f3))).trans hx103_4; replace hx103_5 := (cell_far (p := ⟨gb102, 6, none⟩) (ne_ hn103_6) (.bool ((rd_T27 l0 x17_1).f3))).trans hx103_5; replace hx103_6 := (cell_far (p := ⟨gb102, 6, none⟩) (ne_ hn103_6) (.bool ((rd_T27 l0 x17_1).f3))).trans hx103_6; replace hx103_7 := (cell_far (p := ⟨gb102, 6, none⟩) (ne_ hn103_6) (.bool ((rd_T27 l0 x17_1).f3))).trans hx103_7; replace hx103_0 := (cell_far (p := ⟨gb102, 7, none⟩) (ne_ hn103_7) (.slice A101_7 ((rd_T27 l0 x17_1).f4).length c101_7)).trans hx103_0; replace hx103_1 := (cell_far (p := ⟨gb102, 7, none⟩) (ne_ hn103_7) (.slice A101_7 ((rd_T27 l0 x17_1).f4).length c101_7)).trans hx103_1; replace hx103_2 := (cell_far (p := ⟨gb102, 7, none⟩) (ne_ hn103_7) (.slice A101_7 ((rd_T27 l0 x17_1).f4).length c101_7)).trans hx103_2; replace hx103_3 := (cell_far (p := ⟨gb102, 7, none⟩) (ne_ hn103_7) (.slice A101_7 ((rd_T27 l0 x17_1).f4).length c101_7)).trans hx103_3; replace hx103_4 := (cell_far (p := ⟨gb102, 7, none⟩) (ne_ hn103_7) (.slice A101_7 ((rd_T27 l0 x17_1).f4).length c101_7)).trans hx103_4; replace hx103_5 := (cell_far (p := ⟨gb102, 7, none⟩) (ne_ hn103_7) (.slice A101_7 ((rd_T27 l0 x17_1).f4).length c101_7)).trans hx103_5; replace hx103_6 := (cell_far (p := ⟨gb102, 7, none⟩) (ne_ hn103_7) (.slice A101_7 ((rd_T27 l0 x17_1).f4).length c101_7)).trans hx103_6; replace hx103_7 := (cell_far (p := ⟨gb102, 7, none⟩) (ne_ hn103_7) (.slice A101_7 ((rd_T27 l0 x17_1).f4).length c101_7)).trans hx103_7; clear hn103_0; clear hn103_1; clear hn103_2; clear hn103_3; clear hn103_4; clear hn103_5; clear hn103_6; clear hn103_7; replace p103 := eq_true p103; replace q103 := eq_true q103) | (refine gD 9 ?_; refine bxe_ 9 z8_ 27 ?_; intro gb104 hg w20 hbox hb; have BK104 := A_ (hbox); have GW104 := gs_ w hg; have GE104 := gs_ w hg; replace HB := bs_ hb; have NB102_104 := nl_ BK102 hg; have NB104_102 := ng_ BK102 hg; replace BK102 := bp_ BK102 (.cells #[.int .i64 ((rd_T27 l0 x17_1).f0), .int .i64 ((rd_T27 l0 x17_1).f1.f0), .string ((rd_T27 l0 x17_1).f1.f1), .string ((rd_T27 l0 x17_1).f1.f2), .string ((rd_T27 l0 x17_1).f1.f3), .bool ((rd_T27 l0 x17_1).f2), .bool ((rd_T27 l0 x17_1).f3), .slice A101_7 ((rd_T27 l0 x17_1).f4).length c101_7] 27 (0, 0)) hb; clear hb hbox hg; have hnb21 := NB104_102.out; have hnc21 := NB102_104.out; have Z22 := bz8_ BK104; have Z23 := bz8_ BK102) | (go_at_call 10; (refine (ihS k1 (by have := HK1.out; omega) ((rd_T27 l0 x17_1).f0) ((rd_T27 l0 x17_1).f1.f0) ((rd_T27 l0 x17_1).f1.f1) ((rd_T27 l0 x17_1).f1.f2) ((rd_T27 l0 x17_1).f1.f3) ((rd_T27 l0 x17_1).f2) ((rd_T27 l0 x17_1).f3) _ _ ((rd_T27 l0 x17_1).f4) ((rd_T27 l1 x17_1).f0) ((rd_T27 l1 x17_1).f1.f0) ((rd_T27 l1 x17_1).f1.f1) ((rd_T27 l1 x17_1).f1.f2) ((rd_T27 l1 x17_1).f1.f3) ((rd_T27 l1 x17_1).f2) ((rd_T27 l1 x17_1).f3) _ _ ((rd_T27 l1 x17_1).f4) false _ ?side1 ?side2 ?side3 ?side4 A9.out).mono ?_); (case side1 => exact Kd.C_below HR101_7.out hs_); (case side2 => exact HC101_7.out); (case side3 => exact Kd.C_below HR103_7.out hs_); (case side4 => exact HC103_7.out); rintro e w24 ⟨rfl, hb⟩; replace BK102 := A_ (blk_below (g := gb102) (o := .cells #[.int .i64 ((rd_T27 l0 x17_1).f0), .int .i64 ((rd_T27 l0 x17_1).f1.f0), .string ((rd_T27 l0 x17_1).f1.f1), .string ((rd_T27 l0 x17_1).f1.f2), .string ((rd_T27 l0 x17_1).f1.f3), .bool ((rd_T27 l0 x17_1).f2), .bool ((rd_T27 l0 x17_1).f3), .slice A101_7 ((rd_T27 l0 x17_1).f4).length c101_7] 27 (0, 0)) (pf_ NB102_104 BK102) hb); replace BK104 := bp_ BK104 (.cells #[.int .i64 ((rd_T27 l1 x17_1).f0), .int .i64 ((rd_T27 l1 x17_1).f1.f0), .string ((rd_T27 l1 x17_1).f1.f1), .string ((rd_T27 l1 x17_1).f1.f2), .string ((rd_T27 l1 x17_1).f1.f3), .bool ((rd_T27 l1 x17_1).f2), .bool ((rd_T27 l1 x17_1).f3), .slice A103_7 ((rd_T27 l1 x17_1).f4).length c103_7] 27 (0, 0)) hb; replace HB := bs_ hb; (try clear hb)))
         go_ret; exact ⟨re_, hs_⟩
       ·rw [if_neg c8] at H
        exact absurd H (by simp)
      ·rw [if_neg c7] at H
       exact absurd H (by simp)
     ·rw [if_neg c6] at H
      exact absurd H (by simp)
    ·rw [if_neg c5] at H
     have c5b0 := decide_eq_false c5; clear c5; obtain rfl := Option.some.inj H; go_wp2; go_ret; exact ⟨re_, hs_⟩
 ·rw [if_neg c4] at H
  have c4b0 : ((l0.length : Int) == (l1.length : Int)) = false := beq_eq_false_iff_ne.mpr c4; have c4b1 : ((l0.length : Int) != (l1.length : Int)) = true := bne_iff_ne.mpr c4; (have c4b2 : (l0.length == l1.length) = false := by first | simpa using c4 | (simp at c4 ⊢; omega)); obtain rfl := Option.some.inj H; go_enter Tryz.func24, Tryz.ntmps24; go_wp2; go_ret; exact ⟨re_, hs_⟩
set_option maxHeartbeats 8000000 in
set_option maxRecDepth 100000 in
theorem tree_Same.calls (k : Nat) : ∀ (a0_0 a0_1 : Int) (a0_2 a0_3 a0_4 : ByteArray) (a0_5 a0_6 : Bool) (A0_7 : Option Addr) (c0_7 : Nat) (l0_7 : List (S27)) (a1_0 a1_1 : Int) (a1_2 a1_3 a1_4 : ByteArray) (a1_5 a1_6 : Bool) (A1_7 : Option Addr) (c1_7 : Nat) (l1_7 : List (S27)) (r : Bool) (w : World) (hr0_7 : Kd.C k27 w A0_7 l0_7.length l0_7) (hc0_7 : l0_7.length ≤ c0_7) (hr1_7 : Kd.C k27 w A1_7 l1_7.length l1_7) (hc1_7 : l1_7.length ≤ c1_7) (h : tree_Same.f k a0_0 a0_1 a0_2 a0_3 a0_4 a0_5 a0_6 l0_7 a1_0 a1_1 a1_2 a1_3 a1_4 a1_5 a1_6 l1_7 = some r),
  Calls Tryz.prog 10 #[.agg #[.int .i64 a0_0, .int .i64 a0_1, .string a0_2, .string a0_3, .string a0_4, .bool a0_5, .bool a0_6, .slice A0_7 l0_7.length c0_7], .agg #[.int .i64 a1_0, .int .i64 a1_1, .string a1_2, .string a1_3, .string a1_4, .bool a1_5, .bool a1_6, .slice A1_7 l1_7.length c1_7]] w fun e w' => e = .returned (.bool r) ∧ Below w.heap.size w w' := by
 induction k using Nat.strongRecOn with
 | _ k ih =>
 intro a0_0 a0_1 a0_2 a0_3 a0_4 a0_5 a0_6 A0_7 c0_7 l0_7 a1_0 a1_1 a1_2 a1_3 a1_4 a1_5 a1_6 A1_7 c1_7 l1_7 r w hr0_7 hc0_7 hr1_7 hc1_7 h
 cases k with
 | zero => exact absurd h (by simp [tree_Same.f])
 | succ k =>
 rw [tree_Same.f_succ] at h; have hu27 := Tryz.underlying27; have hu24 := Tryz.underlying24; have HR0_7 := A_ hr0_7; have HC0_7 := A_ hc0_7; clear hr0_7 hc0_7; have HR1_7 := A_ hr1_7; have HC1_7 := A_ hc1_7; clear hr1_7 hc1_7; have HB := A_ (Below.refl w.heap.size w); have H : (if a0_0 = a1_0 then (if (a0_1 == a1_1 && (a0_2.toList == a1_2.toList && (a0_3.toList == a1_3.toList && (a0_4.toList == a1_4.toList)))) = true then (if (a0_5 == a1_5) = true then (if (a0_6 == a1_6) = true then ((slices_EqualFunc.f k l0_7 l1_7).bind fun t103 => (some t103)) else (some false)) else (some false)) else (some false)) else (some false)) = some r := h; clear h
 by_cases c3 : a0_0 = a1_0
 ·rw [if_pos c3] at H
  have c3b0 : (a0_0 == a1_0) = true := beq_iff_eq.mpr c3; have c3b1 : (a0_0 != a1_0) = false := bne_eq_false_iff_eq.mpr c3; clear c3
  by_cases c4 : (a0_1 == a1_1 && (a0_2.toList == a1_2.toList && (a0_3.toList == a1_3.toList && (a0_4.toList == a1_4.toList)))) = true
  ·rw [if_pos c4] at H
   have c4b0 : (a0_1 == a1_1 && (a0_2.toList == a1_2.toList && (a0_3.toList == a1_3.toList && (a0_4.toList == a1_4.toList)))) = true := c4; (try (have c4b1 : decide (a0_1 = a1_1 && (a0_2.toList == a1_2.toList && (a0_3.toList == a1_3.toList && (a0_4.toList == a1_4.toList)))) = true := by simpa using c4)); (try (have c4b2 : (a0_1 == a1_1 && (a0_2.toList == a1_2.toList && (a0_3.toList == a1_3.toList && (a0_4.toList == a1_4.toList)))) = true := by simpa using c4)); clear c4
   by_cases c5 : (a0_5 == a1_5) = true
   ·rw [if_pos c5] at H
    have c5b0 : (a0_5 == a1_5) = true := c5; (try (have c5b1 : decide (a0_5 = a1_5) = true := by simpa using c5)); (try (have c5b2 : (a0_5 == a1_5) = true := by simpa using c5)); clear c5
    by_cases c6 : (a0_6 == a1_6) = true
    ·rw [if_pos c6] at H
     have c6b0 : (a0_6 == a1_6) = true := c6; (try (have c6b1 : decide (a0_6 = a1_6) = true := by simpa using c6)); (try (have c6b2 : (a0_6 == a1_6) = true := by simpa using c6)); clear c6; obtain ⟨t103, A7, H⟩ := bi_ H; obtain rfl := Option.some.inj H; go_enter Tryz.func10, Tryz.ntmps10; go_wp2_with (first | (refine gx_ w 2 (n8_ a0_0 a0_1 a0_2 a0_3 a0_4 a0_5 a0_6 (.slice A0_7 l0_7.length c0_7)) 27 ?_; clear HB; intro gb101 w8 BK101 GE101 HB; have GW101 := GE101) | (refine gD 3 ?_; refine bxe_ 3 (n8_ a1_0 a1_1 a1_2 a1_3 a1_4 a1_5 a1_6 (.slice A1_7 l1_7.length c1_7)) 27 ?_; intro gb102 hg w9 hbox hb; have BK102 := A_ (hbox); have GW102 := gs_ w hg; have GE102 := gs_ w hg; replace HB := bs_ hb; have NB101_102 := nl_ BK101 hg; have NB102_101 := ng_ BK101 hg; replace BK101 := bb_ BK101 hb; clear hb hbox hg; have hnb10 := NB101_102.out; have hnc10 := NB102_101.out; have Z11 := bz8_ BK101; have Z12 := bz8_ BK102) | (go_at_call 24; (with_reducible refine (slices_EqualFunc.calls k (fun j hj => ih j (Nat.lt_succ_of_lt hj)) _ _ l0_7 _ _ l1_7  t103 _ ?side1 ?side2 ?side3 ?side4 A7.out).mono ?_); (case side1 => exact cb_ HR0_7); (case side2 => exact HC0_7.out); (case side3 => exact cb_ HR1_7); (case side4 => exact HC1_7.out); rintro e w13 ⟨rfl, hb⟩; replace BK101 := bb_ BK101 hb; replace BK102 := bb_ BK102 hb; replace HB := bs_ hb; (try clear hb)))
     go_ret; exact ⟨re_, hs_⟩
    ·rw [if_neg c6] at H
     (have c6b0 : (a0_6 == a1_6) = false := by simpa using c6); (try (have c6b1 : decide (a0_6 = a1_6) = false := by simpa using c6)); (try (have c6b2 : (a0_6 == a1_6) = false := by simpa using c6)); (try (have c6b3 : ¬ (a0_6 = a1_6) := by simpa using c6)); clear c6; obtain rfl := Option.some.inj H; go_enter Tryz.func10, Tryz.ntmps10; go_wp2_with (first | (refine gx_ w 2 (n8_ a0_0 a0_1 a0_2 a0_3 a0_4 a0_5 a0_6 (.slice A0_7 l0_7.length c0_7)) 27 ?_; clear HB; intro gb101 w14 BK101 GE101 HB; have GW101 := GE101) | (refine gD 3 ?_; refine bxe_ 3 (n8_ a1_0 a1_1 a1_2 a1_3 a1_4 a1_5 a1_6 (.slice A1_7 l1_7.length c1_7)) 27 ?_; intro gb102 hg w15 hbox hb; have BK102 := A_ (hbox); have GW102 := gs_ w hg; have GE102 := gs_ w hg; replace HB := bs_ hb; have NB101_102 := nl_ BK101 hg; have NB102_101 := ng_ BK101 hg; replace BK101 := bb_ BK101 hb; clear hb hbox hg; have hnb16 := NB101_102.out; have hnc16 := NB102_101.out; have Z17 := bz8_ BK101; have Z18 := bz8_ BK102))
     go_ret; exact ⟨re_, hs_⟩
   ·rw [if_neg c5] at H
    (have c5b0 : (a0_5 == a1_5) = false := by simpa using c5); (try (have c5b1 : decide (a0_5 = a1_5) = false := by simpa using c5)); (try (have c5b2 : (a0_5 == a1_5) = false := by simpa using c5)); (try (have c5b3 : ¬ (a0_5 = a1_5) := by simpa using c5)); clear c5; obtain rfl := Option.some.inj H; go_enter Tryz.func10, Tryz.ntmps10; go_wp2_with (first | (refine gx_ w 2 (n8_ a0_0 a0_1 a0_2 a0_3 a0_4 a0_5 a0_6 (.slice A0_7 l0_7.length c0_7)) 27 ?_; clear HB; intro gb101 w19 BK101 GE101 HB; have GW101 := GE101) | (refine gD 3 ?_; refine bxe_ 3 (n8_ a1_0 a1_1 a1_2 a1_3 a1_4 a1_5 a1_6 (.slice A1_7 l1_7.length c1_7)) 27 ?_; intro gb102 hg w20 hbox hb; have BK102 := A_ (hbox); have GW102 := gs_ w hg; have GE102 := gs_ w hg; replace HB := bs_ hb; have NB101_102 := nl_ BK101 hg; have NB102_101 := ng_ BK101 hg; replace BK101 := bb_ BK101 hb; clear hb hbox hg; have hnb21 := NB101_102.out; have hnc21 := NB102_101.out; have Z22 := bz8_ BK101; have Z23 := bz8_ BK102))
    go_ret; exact ⟨re_, hs_⟩
  ·rw [if_neg c4] at H
   (have c4b0 : (a0_1 == a1_1 && (a0_2.toList == a1_2.toList && (a0_3.toList == a1_3.toList && (a0_4.toList == a1_4.toList)))) = false := by simpa using c4); (try (have c4b1 : decide (a0_1 = a1_1 && (a0_2.toList == a1_2.toList && (a0_3.toList == a1_3.toList && (a0_4.toList == a1_4.toList)))) = false := by simpa using c4)); (try (have c4b2 : (a0_1 == a1_1 && (a0_2.toList == a1_2.toList && (a0_3.toList == a1_3.toList && (a0_4.toList == a1_4.toList)))) = false := by simpa using c4)); (try (have c4b3 : ¬ (a0_1 = a1_1 && (a0_2.toList == a1_2.toList && (a0_3.toList == a1_3.toList && (a0_4.toList == a1_4.toList)))) := by simpa using c4)); clear c4; obtain rfl := Option.some.inj H; go_enter Tryz.func10, Tryz.ntmps10; go_wp2_with (first | (refine gx_ w 2 (n8_ a0_0 a0_1 a0_2 a0_3 a0_4 a0_5 a0_6 (.slice A0_7 l0_7.length c0_7)) 27 ?_; clear HB; intro gb101 w24 BK101 GE101 HB; have GW101 := GE101) | (refine gD 3 ?_; refine bxe_ 3 (n8_ a1_0 a1_1 a1_2 a1_3 a1_4 a1_5 a1_6 (.slice A1_7 l1_7.length c1_7)) 27 ?_; intro gb102 hg w25 hbox hb; have BK102 := A_ (hbox); have GW102 := gs_ w hg; have GE102 := gs_ w hg; replace HB := bs_ hb; have NB101_102 := nl_ BK101 hg; have NB102_101 := ng_ BK101 hg; replace BK101 := bb_ BK101 hb; clear hb hbox hg; have hnb26 := NB101_102.out; have hnc26 := NB102_101.out; have Z27 := bz8_ BK101; have Z28 := bz8_ BK102))
   go_ret; exact ⟨re_, hs_⟩
 ·rw [if_neg c3] at H
  have c3b0 : (a0_0 == a1_0) = false := beq_eq_false_iff_ne.mpr c3; have c3b1 : (a0_0 != a1_0) = true := bne_iff_ne.mpr c3; obtain rfl := Option.some.inj H; go_enter Tryz.func10, Tryz.ntmps10; go_wp2_with (first | (refine gx_ w 2 (n8_ a0_0 a0_1 a0_2 a0_3 a0_4 a0_5 a0_6 (.slice A0_7 l0_7.length c0_7)) 27 ?_; clear HB; intro gb101 w29 BK101 GE101 HB; have GW101 := GE101) | (refine gD 3 ?_; refine bxe_ 3 (n8_ a1_0 a1_1 a1_2 a1_3 a1_4 a1_5 a1_6 (.slice A1_7 l1_7.length c1_7)) 27 ?_; intro gb102 hg w30 hbox hb; have BK102 := A_ (hbox); have GW102 := gs_ w hg; have GE102 := gs_ w hg; replace HB := bs_ hb; have NB101_102 := nl_ BK101 hg; have NB102_101 := ng_ BK101 hg; replace BK101 := bb_ BK101 hb; clear hb hbox hg; have hnb31 := NB101_102.out; have hnc31 := NB102_101.out; have Z32 := bz8_ BK101; have Z33 := bz8_ BK102))
  go_ret; exact ⟨re_, hs_⟩
end Go.Proofs.YtjgjhekpiijniaaGreat.A
namespace Go.Proofs.YtjgjhekpiijniaaGreat.A
open Go.RowKit Go.Proofs.YtjgjhekpiijniaaGreatW.PrintWords Go.Proofs.YtjgjhekpiijniaaGreatW.PrintLast Go.Proofs.YtjgjhekpiijniaaGreatW.PrintMore
attribute [local go_sem] max2_int min2_int max_two min_two max_three min_three max_four min_four
attribute [local go_sem] isSome_setCell
set_option maxHeartbeats 8000000 in
set_option maxRecDepth 100000 in
theorem lustrumref10_Count.calls (k : Nat) : ∀ (a0_0 a0_1 : Int) (a0_2 a0_3 a0_4 : ByteArray) (a0_5 a0_6 : Bool) (A0_7 : Option Addr) (c0_7 : Nat) (l0_7 : List (S27)) (r : Int) (w : World) (hr0_7 : Kd.C k27 w A0_7 l0_7.length l0_7) (hc0_7 : l0_7.length ≤ c0_7) (h : lustrumref10_Count.f k a0_0 a0_1 a0_2 a0_3 a0_4 a0_5 a0_6 l0_7 = some r),
  Calls Tryz.prog 25 #[.agg #[.int .i64 a0_0, .int .i64 a0_1, .string a0_2, .string a0_3, .string a0_4, .bool a0_5, .bool a0_6, .slice A0_7 l0_7.length c0_7]] w fun e w' => e = .returned (.int .i64 r) ∧ Below w.heap.size w w' := by
 induction k using Nat.strongRecOn with
 | _ k ih =>
 intro a0_0 a0_1 a0_2 a0_3 a0_4 a0_5 a0_6 A0_7 c0_7 l0_7 r w hr0_7 hc0_7 h
 cases k with
 | zero => exact absurd h (by simp [lustrumref10_Count.f])
 | succ k =>
 simp only [lustrumref10_Count.f] at h; have hu27 := Tryz.underlying27; have HR0_7 := A_ hr0_7; have HC0_7 := A_ hc0_7; clear hr0_7 hc0_7; have HB := A_ (Below.refl w.heap.size w); have H : (lustrumref10_Count.l0 k 1 0 a0_0 a0_1 a0_2 a0_3 a0_4 a0_5 a0_6 l0_7) = some r := h; clear h; have H' := A_ H; clear H; go_enter Tryz.func25, Tryz.ntmps25; go_wp2_with (first | (refine gx_ w 1 (n8_ a0_0 a0_1 a0_2 a0_3 a0_4 a0_5 a0_6 (.slice A0_7 l0_7.length c0_7)) 27 ?_; clear HB; intro gb229 w2 BK229 GE229 HB; have GW229 := GE229)); go_loopg [3, 4] k (fun kq v3 v4 w' => ∃ (x3_1 : Int) (x4_1 : Int), v3 = .int .i64 x3_1 ∧ v4 = .int .i64 x4_1 ∧ Aside0 (lustrumref10_Count.l0 kq x3_1 x4_1 a0_0 a0_1 a0_2 a0_3 a0_4 a0_5 a0_6 l0_7 = some r) ∧ Aside0 (kq ≤ k) ∧ Aside0 (w'.heap[gb229]? = some (.cells #[.int .i64 a0_0, .int .i64 a0_1, .string a0_2, .string a0_3, .string a0_4, .bool a0_5, .bool a0_6, (.slice A0_7 l0_7.length c0_7)] 27 (0, 0))) ∧ Aside0 (Below w.heap.size w w'))
 case atStart => exact ⟨(1), (0), rf_, rf_, H', ⟨Nat.le_refl _⟩, ⟨bl_ BK229.out⟩, ⟨hs_⟩⟩
 case round =>
  clear H'; (try clear c2); (try clear p2); obtain ⟨x3_1, x4_1, rfl, rfl, HA, HK1, BK229, HB⟩ := hrel
  cases gk with
  | zero => exact absurd HA.out (by simp [lustrumref10_Count.l0])
  | succ k1 =>
   have H := HA.out; clear HA; simp only [lustrumref10_Count.l0] at H
   by_cases c3 : x4_1 < (l0_7.length : Int)
   ·rw [if_pos c3] at H
    have c3b0 := decide_eq_true c3; clear c3
    by_cases c4 : 0 ≤ x4_1
    ·rw [if_pos c4] at H
     have c4b0 := decide_eq_true c4; clear c4; obtain ⟨t231, A5, H⟩ := bi_ H; have H' := A_ H; clear H; have Z6 := bz8_ BK229; have p230 : 0 ≤ (x4_1 : Int) := od_; have q230 : x4_1 < (l0_7.length : Int) := od_; obtain ⟨ad230, A230_7, c230_7, e230, hx230_0, hx230_1, hx230_2, hx230_3, hx230_4, hx230_5, hx230_6, hx230_7, hl230_7, hi230_7⟩ := at_T27 HR0_7.out x4_1 p230 q230
     cases e230
     replace hx230_0 := cl_ HB hx230_0; replace hx230_1 := cl_ HB hx230_1; replace hx230_2 := cl_ HB hx230_2; replace hx230_3 := cl_ HB hx230_3; replace hx230_4 := cl_ HB hx230_4; replace hx230_5 := cl_ HB hx230_5; replace hx230_6 := cl_ HB hx230_6; replace hx230_7 := cl_ HB hx230_7; have HR230_7 := A_ hi230_7; have HC230_7 := A_ hl230_7; clear hi230_7 hl230_7; replace p230 := eq_true p230; replace q230 := eq_true q230; go_wp2_with (first | (refine gC 25 ?_; refine gL 18 Tryz.func25 #[.agg #[.int .i64 ((rd_T27 l0_7 x4_1).f0), .int .i64 ((rd_T27 l0_7 x4_1).f1.f0), .string ((rd_T27 l0_7 x4_1).f1.f1), .string ((rd_T27 l0_7 x4_1).f1.f2), .string ((rd_T27 l0_7 x4_1).f1.f3), .bool ((rd_T27 l0_7 x4_1).f2), .bool ((rd_T27 l0_7 x4_1).f3), .slice A230_7 ((rd_T27 l0_7 x4_1).f4).length c230_7]] ?_; (with_reducible refine (ih k1 (by have := HK1.out; omega) ((rd_T27 l0_7 x4_1).f0) ((rd_T27 l0_7 x4_1).f1.f0) ((rd_T27 l0_7 x4_1).f1.f1) ((rd_T27 l0_7 x4_1).f1.f2) ((rd_T27 l0_7 x4_1).f1.f3) ((rd_T27 l0_7 x4_1).f2) ((rd_T27 l0_7 x4_1).f3) _ _ ((rd_T27 l0_7 x4_1).f4) t231 _ ?side1 ?side2 A5.out).mono ?_); (case side1 => exact cb_ HR230_7); (case side2 => exact HC230_7.out); rintro e w7 ⟨rfl, hb⟩; refine ⟨_, rfl, ?_⟩; replace BK229 := bb_ BK229 hb; replace HB := bs_ hb; (try clear hb))); go_roundg k1
     case measure => have := HK1.out; omega
     case rel => exact ⟨(wrap64 (x3_1 + t231)), (wrap64 (x4_1 + 1)), rf_, rf_, H', ⟨by have := HK1.out; omega⟩, ⟨bl_ BK229.out⟩, ⟨hs_⟩⟩
    ·rw [if_neg c4] at H
     exact absurd H (by simp)
   ·rw [if_neg c3] at H
    have c3b0 := decide_eq_false c3; have c3b9 := c3b0; (try simp only [hl230_7] at c3b9); clear c3; obtain rfl := Option.some.inj H; have Z8 := bz8_ BK229; go_wp2; go_ret; exact ⟨re_, hs_⟩
set_option maxHeartbeats 8000000 in
set_option maxRecDepth 100000 in
theorem lustrumref10_short.calls (k : Nat) : ∀ (a0_0 a0_1 : Int) (a0_2 a0_3 a0_4 : ByteArray) (a0_5 a0_6 : Bool) (A0_7 : Option Addr) (c0_7 : Nat) (l0_7 : List (S27)) (r : Bool) (w : World) (hr0_7 : Kd.C k27 w A0_7 l0_7.length l0_7) (hc0_7 : l0_7.length ≤ c0_7) (h : lustrumref10_short.f k a0_0 a0_1 a0_2 a0_3 a0_4 a0_5 a0_6 l0_7 = some r),
  Calls Tryz.prog 26 #[.agg #[.int .i64 a0_0, .int .i64 a0_1, .string a0_2, .string a0_3, .string a0_4, .bool a0_5, .bool a0_6, .slice A0_7 l0_7.length c0_7]] w fun e w' => e = .returned (.bool r) ∧ Below w.heap.size w w' := by
 induction k using Nat.strongRecOn with
 | _ k ih =>
 intro a0_0 a0_1 a0_2 a0_3 a0_4 a0_5 a0_6 A0_7 c0_7 l0_7 r w hr0_7 hc0_7 h
 cases k with
 | zero => exact absurd h (by simp [lustrumref10_short.f])
 | succ k =>
 simp only [lustrumref10_short.f] at h; have hu27 := Tryz.underlying27; have HR0_7 := A_ hr0_7; have HC0_7 := A_ hc0_7; clear hr0_7 hc0_7; have HB := A_ (Below.refl w.heap.size w); have H : (if (a0_2.size : Int) > 10 then (lustrumref10_short.j0 k true a0_0 a0_1 a0_2 a0_3 a0_4 a0_5 a0_6 l0_7) else (if (a0_3.size : Int) > 10 then (lustrumref10_short.j0 k true a0_0 a0_1 a0_2 a0_3 a0_4 a0_5 a0_6 l0_7) else (lustrumref10_short.j0 k (decide ((a0_4.size : Int) > 10)) a0_0 a0_1 a0_2 a0_3 a0_4 a0_5 a0_6 l0_7))) = some r := h; clear h; have HC2 := A_ H; clear H; go_enter Tryz.func26, Tryz.ntmps26; go_upto_region 1 with (first | (refine gD 1 ?_; (try (refine gate_guard (by rfl) ?_; dsimp only)); refine bxe_ 1 (n8_ a0_0 a0_1 a0_2 a0_3 a0_4 a0_5 a0_6 (.slice A0_7 l0_7.length c0_7)) 27 ?_; intro gb232 hg w3 hbox hb; have BK232 := A_ (hbox); have GW232 := gs_ w hg; have GE232 := gs_ w hg; replace HB := bs_ hb; clear hb hbox hg)); (try simp only [Act.put, List.setIfInBounds_toArray, List.set_cons_zero, List.set_cons_succ]); go_cut [22] (fun v22 wc => ∃ (kq : Nat) (x22_1 : Bool), v22 = .bool x22_1 ∧ Aside0 (lustrumref10_short.j0 kq x22_1 a0_0 a0_1 a0_2 a0_3 a0_4 a0_5 a0_6 l0_7 = some r) ∧ Aside0 (kq ≤ k) ∧ Aside0 (wc.heap[gb232]? = some (.cells #[.int .i64 a0_0, .int .i64 a0_1, .string a0_2, .string a0_3, .string a0_4, .bool a0_5, .bool a0_6, (.slice A0_7 l0_7.length c0_7)] 27 (0, 0))) ∧ Aside0 (Below w.heap.size w wc))
 case first =>
  have H := HC2.out; clear HC2
  by_cases c4 : (a0_2.size : Int) > 10
  ·rw [if_pos c4] at H
   have c4b0 := decide_eq_true c4; have c4b1 : decide (10 < a0_2.size) = true := decide_eq_true (by omega); clear c4; (first | rw [c4b0] | (simp only [i64_w, i32_w]; rw [c4b0]) | skip); have H' := A_ H; clear H; have Z5 := bz8_ BK232; go_wp2; go_meet
   case rel => exact ⟨_, (true), rf_, H', ⟨by first | omega | exact Nat.le_refl _⟩, ⟨bl_ BK232.out⟩, ⟨hs_⟩⟩
  ·rw [if_neg c4] at H
   have c4b0 := decide_eq_false c4; have c4b1 : decide (10 < a0_2.size) = false := decide_eq_false (by omega); clear c4; (first | rw [c4b0] | (simp only [i64_w, i32_w]; rw [c4b0]) | skip)
   by_cases c6 : (a0_3.size : Int) > 10
   ·rw [if_pos c6] at H
    have c6b0 := decide_eq_true c6; have c6b1 : decide (10 < a0_3.size) = true := decide_eq_true (by omega); clear c6; have H' := A_ H; clear H; have Z7 := bz8_ BK232; go_wp2; go_meet
    case rel => exact ⟨_, (true), rf_, H', ⟨by first | omega | exact Nat.le_refl _⟩, ⟨bl_ BK232.out⟩, ⟨hs_⟩⟩
   ·rw [if_neg c6] at H
    have c6b0 := decide_eq_false c6; have c6b1 : decide (10 < a0_3.size) = false := decide_eq_false (by omega); clear c6; have H' := A_ H; clear H; have Z8 := bz8_ BK232; go_wp2; go_meet
    case rel => exact ⟨_, (decide ((a0_4.size : Int) > 10)), rf_, H', ⟨by first | omega | exact Nat.le_refl _⟩, ⟨bl_ BK232.out⟩, ⟨hs_⟩⟩
 case rest =>
  clear HC2; (try clear p2); (try clear c4); (try clear c4b0); (try clear c4b1); (try clear c6); (try clear c6b0); (try clear c6b1); (try clear Z5); (try clear Z7); (try clear Z8); obtain ⟨kq, x22_1, rfl, HA, HJ1, BK232, HB⟩ := hcut
  cases kq with
  | zero => exact absurd HA.out (by simp [lustrumref10_short.j0])
  | succ kj1 =>
   have H := HA.out; clear HA; simp only [lustrumref10_short.j0] at H
   by_cases c9 : x22_1 = true
   ·subst c9
    replace H := iP_ H; obtain rfl := Option.some.inj H; go_wp2; go_ret; exact ⟨re_, hs_⟩
   ·replace c9 := Bool.eq_false_iff.mpr c9
    subst c9; replace H := iN_ H; have H' := A_ H; clear H; go_wp2; go_loopg [3] kj1 (fun kq v3 w' => ∃ (x3_2 : Int), v3 = .int .i64 x3_2 ∧ Aside0 (lustrumref10_short.l0 kq x3_2 a0_0 a0_1 a0_2 a0_3 a0_4 a0_5 a0_6 l0_7 = some r) ∧ Aside0 (kq ≤ kj1) ∧ Aside0 (w'.heap[gb232]? = some (.cells #[.int .i64 a0_0, .int .i64 a0_1, .string a0_2, .string a0_3, .string a0_4, .bool a0_5, .bool a0_6, (.slice A0_7 l0_7.length c0_7)] 27 (0, 0))) ∧ Aside0 (Below w.heap.size w w'))
    case atStart => exact ⟨(0), rf_, H', ⟨Nat.le_refl _⟩, ⟨bl_ BK232.out⟩, ⟨hs_⟩⟩
    case round =>
     clear H'; (try clear p2); (try clear c4); (try clear c4b0); (try clear c4b1); (try clear c6); (try clear c6b0); (try clear c6b1); (try clear c9); (try clear Z5); (try clear Z7); (try clear Z8); (try clear p2); obtain ⟨x3_2, rfl, HA, HK2, BK232, HB⟩ := hrel
     cases gk with
     | zero => exact absurd HA.out (by simp [lustrumref10_short.l0])
     | succ k2 =>
      have H := HA.out; clear HA; simp only [lustrumref10_short.l0] at H
      by_cases c10 : x3_2 < (l0_7.length : Int)
      ·rw [if_pos c10] at H
       have c10b0 := decide_eq_true c10; clear c10
       by_cases c11 : 0 ≤ x3_2
       ·rw [if_pos c11] at H
        have c11b0 := decide_eq_true c11; clear c11; obtain ⟨t234, A12, H⟩ := bi_ H
        by_cases c13 : t234 = true
        ·subst c13
         replace H := iP_ H; have H' := A_ H; clear H; have Z14 := bz8_ BK232; have p233 : 0 ≤ (x3_2 : Int) := od_; have q233 : x3_2 < (l0_7.length : Int) := od_; obtain ⟨ad233, A233_7, c233_7, e233, hx233_0, hx233_1, hx233_2, hx233_3, hx233_4, hx233_5, hx233_6, hx233_7, hl233_7, hi233_7⟩ := at_T27 HR0_7.out x3_2 p233 q233
         cases e233
         replace hx233_0 := cl_ HB hx233_0; replace hx233_1 := cl_ HB hx233_1; replace hx233_2 := cl_ HB hx233_2; replace hx233_3 := cl_ HB hx233_3; replace hx233_4 := cl_ HB hx233_4; replace hx233_5 := cl_ HB hx233_5; replace hx233_6 := cl_ HB hx233_6; replace hx233_7 := cl_ HB hx233_7; have HR233_7 := A_ hi233_7; have HC233_7 := A_ hl233_7; clear hi233_7 hl233_7; replace p233 := eq_true p233; replace q233 := eq_true q233; go_wp2_with (first | (refine gC 26 ?_; refine gL 35 Tryz.func26 #[.agg #[.int .i64 ((rd_T27 l0_7 x3_2).f0), .int .i64 ((rd_T27 l0_7 x3_2).f1.f0), .string ((rd_T27 l0_7 x3_2).f1.f1), .string ((rd_T27 l0_7 x3_2).f1.f2), .string ((rd_T27 l0_7 x3_2).f1.f3), .bool ((rd_T27 l0_7 x3_2).f2), .bool ((rd_T27 l0_7 x3_2).f3), .slice A233_7 ((rd_T27 l0_7 x3_2).f4).length c233_7]] ?_; (with_reducible refine (ih k2 (by have := HJ1.out; have := HK2.out; omega) ((rd_T27 l0_7 x3_2).f0) ((rd_T27 l0_7 x3_2).f1.f0) ((rd_T27 l0_7 x3_2).f1.f1) ((rd_T27 l0_7 x3_2).f1.f2) ((rd_T27 l0_7 x3_2).f1.f3) ((rd_T27 l0_7 x3_2).f2) ((rd_T27 l0_7 x3_2).f3) _ _ ((rd_T27 l0_7 x3_2).f4) true _ ?side1 ?side2 A12.out).mono ?_); (case side1 => exact cb_ HR233_7); (case side2 => exact HC233_7.out); rintro e w15 ⟨rfl, hb⟩; refine ⟨_, rfl, ?_⟩; replace BK232 := bb_ BK232 hb; replace HB := bs_ hb; (try clear hb))); go_roundg k2
         case measure => have := HJ1.out; have := HK2.out; omega
         case rel => exact ⟨(wrap64 (x3_2 + 1)), rf_, H', ⟨by have := HJ1.out; have := HK2.out; omega⟩, ⟨bl_ BK232.out⟩, ⟨hs_⟩⟩
        ·replace c13 := Bool.eq_false_iff.mpr c13
         subst c13; replace H := iN_ H; obtain rfl := Option.some.inj H; have Z16 := bz8_ BK232; have p233 : 0 ≤ (x3_2 : Int) := od_; have q233 : x3_2 < (l0_7.length : Int) := od_; obtain ⟨ad233, A233_7, c233_7, e233, hx233_0, hx233_1, hx233_2, hx233_3, hx233_4, hx233_5, hx233_6, hx233_7, hl233_7, hi233_7⟩ := at_T27 HR0_7.out x3_2 p233 q233
         cases e233
         replace hx233_0 := cl_ HB hx233_0; replace hx233_1 := cl_ HB hx233_1; replace hx233_2 := cl_ HB hx233_2; replace hx233_3 := cl_ HB hx233_3; replace hx233_4 := cl_ HB hx233_4; replace hx233_5 := cl_ HB hx233_5; replace hx233_6 := cl_ HB hx233_6; replace hx233_7 := cl_ HB hx233_7; have HR233_7 := A_ hi233_7; have HC233_7 := A_ hl233_7; clear hi233_7 hl233_7; replace p233 := eq_true p233; replace q233 := eq_true q233; go_wp2_with (first | (refine gC 26 ?_; refine gL 35 Tryz.func26 #[.agg #[.int .i64 ((rd_T27 l0_7 x3_2).f0), .int .i64 ((rd_T27 l0_7 x3_2).f1.f0), .string ((rd_T27 l0_7 x3_2).f1.f1), .string ((rd_T27 l0_7 x3_2).f1.f2), .string ((rd_T27 l0_7 x3_2).f1.f3), .bool ((rd_T27 l0_7 x3_2).f2), .bool ((rd_T27 l0_7 x3_2).f3), .slice A233_7 ((rd_T27 l0_7 x3_2).f4).length c233_7]] ?_; (with_reducible refine (ih k2 (by have := HJ1.out; have := HK2.out; omega) ((rd_T27 l0_7 x3_2).f0) ((rd_T27 l0_7 x3_2).f1.f0) ((rd_T27 l0_7 x3_2).f1.f1) ((rd_T27 l0_7 x3_2).f1.f2) ((rd_T27 l0_7 x3_2).f1.f3) ((rd_T27 l0_7 x3_2).f2) ((rd_T27 l0_7 x3_2).f3) _ _ ((rd_T27 l0_7 x3_2).f4) false _ ?side1 ?side2 A12.out).mono ?_); (case side1 => exact cb_ HR233_7); (case side2 => exact HC233_7.out); rintro e w17 ⟨rfl, hb⟩; refine ⟨_, rfl, ?_⟩; replace BK232 := bb_ BK232 hb; replace HB := bs_ hb; (try clear hb))); go_ret; exact ⟨re_, hs_⟩
       ·rw [if_neg c11] at H
        exact absurd H (by simp)
      ·rw [if_neg c10] at H
       have c10b0 := decide_eq_false c10; have c10b9 := c10b0; (try simp only [hl233_7] at c10b9); (try simp only [hl239_7] at c10b9); clear c10; obtain rfl := Option.some.inj H; have Z18 := bz8_ BK232; go_wp2; go_ret; exact ⟨re_, hs_⟩
set_option maxHeartbeats 8000000 in
set_option maxRecDepth 100000 in
theorem lustrumref10_Few.calls (k : Nat) (a0_0 a0_1 : Int) (a0_2 a0_3 a0_4 : ByteArray) (a0_5 a0_6 : Bool) (A0_7 : Option Addr) (c0_7 : Nat) (l0_7 : List (S27)) (r : Bool) (w : World) (hr0_7 : Kd.C k27 w A0_7 l0_7.length l0_7) (hc0_7 : l0_7.length ≤ c0_7) (h : lustrumref10_Few.f k a0_0 a0_1 a0_2 a0_3 a0_4 a0_5 a0_6 l0_7 = some r) :
  Calls Tryz.prog 11 #[.agg #[.int .i64 a0_0, .int .i64 a0_1, .string a0_2, .string a0_3, .string a0_4, .bool a0_5, .bool a0_6, .slice A0_7 l0_7.length c0_7]] w fun e w' => e = .returned (.bool r) ∧ Below w.heap.size w w' := by
 have hu27 := Tryz.underlying27; have HR0_7 := A_ hr0_7; have HC0_7 := A_ hc0_7; clear hr0_7 hc0_7; have HB := A_ (Below.refl w.heap.size w); have H : ((lustrumref10_Count.f k a0_0 a0_1 a0_2 a0_3 a0_4 a0_5 a0_6 l0_7).bind fun t236 => (if t236 ≤ 120 then ((lustrumref10_short.f k a0_0 a0_1 a0_2 a0_3 a0_4 a0_5 a0_6 l0_7).bind fun t237 => (some t237)) else (some false))) = some r := h; clear h; obtain ⟨t236, A2, H⟩ := bi_ H
 by_cases c3 : t236 ≤ 120
 ·rw [if_pos c3] at H
  have c3b0 := decide_eq_true c3; clear c3; obtain ⟨t237, A4, H⟩ := bi_ H; obtain rfl := Option.some.inj H; go_enter Tryz.func11, Tryz.ntmps11; go_wp2_with (first | (refine gx_ w 1 (n8_ a0_0 a0_1 a0_2 a0_3 a0_4 a0_5 a0_6 (.slice A0_7 l0_7.length c0_7)) 27 ?_; clear HB; intro gb235 w5 BK235 GE235 HB; have GW235 := GE235; have Z6 := bz8_ BK235) | (refine gC 25 ?_; refine gL 4 Tryz.func25 #[.agg (n8_ a0_0 a0_1 a0_2 a0_3 a0_4 a0_5 a0_6 (.slice A0_7 l0_7.length c0_7))] ?_; (with_reducible refine (lustrumref10_Count.calls k a0_0 a0_1 a0_2 a0_3 a0_4 a0_5 a0_6 _ _ l0_7 t236 _ ?side1 ?side2 A2.out).mono ?_); (case side1 => exact cb_ HR0_7); (case side2 => exact HC0_7.out); rintro e w7 ⟨rfl, hb⟩; refine ⟨_, rfl, ?_⟩; replace BK235 := bb_ BK235 hb; replace HB := bs_ hb; (try clear hb); have Z8 := bz8_ BK235) | (go_at_call 26; (with_reducible refine (lustrumref10_short.calls k a0_0 a0_1 a0_2 a0_3 a0_4 a0_5 a0_6 _ _ l0_7 t237 _ ?side1 ?side2 A4.out).mono ?_); (case side1 => exact cb_ HR0_7); (case side2 => exact HC0_7.out); rintro e w9 ⟨rfl, hb⟩; replace BK235 := bb_ BK235 hb; replace HB := bs_ hb; (try clear hb)))
  go_ret; exact ⟨re_, hs_⟩
 ·rw [if_neg c3] at H
  have c3b0 := decide_eq_false c3; clear c3; obtain rfl := Option.some.inj H; go_enter Tryz.func11, Tryz.ntmps11; go_wp2_with (first | (refine gx_ w 1 (n8_ a0_0 a0_1 a0_2 a0_3 a0_4 a0_5 a0_6 (.slice A0_7 l0_7.length c0_7)) 27 ?_; clear HB; intro gb235 w10 BK235 GE235 HB; have GW235 := GE235; have Z11 := bz8_ BK235) | (refine gC 25 ?_; refine gL 4 Tryz.func25 #[.agg (n8_ a0_0 a0_1 a0_2 a0_3 a0_4 a0_5 a0_6 (.slice A0_7 l0_7.length c0_7))] ?_; (with_reducible refine (lustrumref10_Count.calls k a0_0 a0_1 a0_2 a0_3 a0_4 a0_5 a0_6 _ _ l0_7 t236 _ ?side1 ?side2 A2.out).mono ?_); (case side1 => exact cb_ HR0_7); (case side2 => exact HC0_7.out); rintro e w12 ⟨rfl, hb⟩; refine ⟨_, rfl, ?_⟩; replace BK235 := bb_ BK235 hb; replace HB := bs_ hb; (try clear hb))); go_ret; exact ⟨re_, hs_⟩
set_option maxHeartbeats 8000000 in
set_option maxRecDepth 100000 in
theorem lustrumlaw13_ParseCut.calls (k : Nat) (a0_0 a0_1 : Int) (a0_2 a0_3 a0_4 : ByteArray) (a0_5 a0_6 : Bool) (A0_7 : Option Addr) (c0_7 : Nat) (l0_7 : List (S27)) (r : Bool) (w : World) (hrT_ : r = true) (hr0_7 : Kd.C k27 w A0_7 l0_7.length l0_7) (hc0_7 : l0_7.length ≤ c0_7) (h : lustrumlaw13_ParseCut.f k a0_0 a0_1 a0_2 a0_3 a0_4 a0_5 a0_6 l0_7 = some r) :
  Calls Tryz.prog 5 #[.agg #[.int .i64 a0_0, .int .i64 a0_1, .string a0_2, .string a0_3, .string a0_4, .bool a0_5, .bool a0_6, .slice A0_7 l0_7.length c0_7]] w fun e w' => e = .returned (.bool r) ∧ Below w.heap.size w w' := by
 have hu27 := Tryz.underlying27; have HR0_7 := A_ hr0_7; have HC0_7 := A_ hc0_7; clear hr0_7 hc0_7; have HB := A_ (Below.refl w.heap.size w); have H : ((lustrumlaw13_awake.f k).bind fun t161 => ((lustrumref10_Few.f k a0_0 a0_1 a0_2 a0_3 a0_4 a0_5 a0_6 l0_7).bind fun t162 => (if t162 = true then ((tree_Sane.f k a0_0 a0_1 a0_2 a0_3 a0_4 a0_5 a0_6 l0_7).bind fun t163 => (lustrumlaw13_ParseCut.j0 k t161 (!t163) a0_0 a0_1 a0_2 a0_3 a0_4 a0_5 a0_6 l0_7)) else (lustrumlaw13_ParseCut.j0 k t161 true a0_0 a0_1 a0_2 a0_3 a0_4 a0_5 a0_6 l0_7)))) = some r := h; clear h; obtain ⟨t161, A2, H⟩ := bi_ H; have HC3 := A_ H; clear H; go_enter Tryz.func5, Tryz.ntmps5; go_upto_region 2 with (first | ((with_reducible refine gD 1 ?_); (try (refine gate_guard (by rfl) ?_; dsimp only)); refine bxe_ 1 (n8_ a0_0 a0_1 a0_2 a0_3 a0_4 a0_5 a0_6 (.slice A0_7 l0_7.length c0_7)) 27 ?_; intro gb160 hg w4 hbox hb; have BK160 := A_ (hbox); have GW160 := gs_ w hg; have GE160 := gs_ w hg; replace HB := bs_ hb; clear hb hbox hg) | ((with_reducible refine gC 7 ?_); refine goesL_ (some 9) rfl rfl Tryz.func7 (by kernel_rfl) rfl #[] rfl ml_ ?_; (with_reducible refine (lustrumlaw13_awake.calls k  t161 _ A2.out).mono ?_); rintro e w5 ⟨rfl, hb⟩; refine ⟨_, rfl, ?_⟩; replace BK160 := bb_ BK160 hb; replace HB := bs_ hb; (try clear hb))); (try simp only [Act.put, List.setIfInBounds_toArray, List.set_cons_zero, List.set_cons_succ]); go_cut [17] (fun v17 wc => ∃ (kq : Nat) (x17_2 : Bool), v17 = .bool x17_2 ∧ Aside0 (lustrumlaw13_ParseCut.j0 kq t161 x17_2 a0_0 a0_1 a0_2 a0_3 a0_4 a0_5 a0_6 l0_7 = some r) ∧ Aside0 (kq ≤ k) ∧ Aside0 (wc.heap[gb160]? = some (.cells #[.int .i64 a0_0, .int .i64 a0_1, .string a0_2, .string a0_3, .string a0_4, .bool a0_5, .bool a0_6, (.slice A0_7 l0_7.length c0_7)] 27 (0, 0))) ∧ Aside0 (Below w.heap.size w wc))
 case first =>
  have H := HC3.out; clear HC3; obtain ⟨t162, A6, H⟩ := bi_ H
  by_cases c7 : t162 = true
  ·subst c7
   replace H := iP_ H; obtain ⟨t163, A8, H⟩ := bi_ H; have H' := A_ H; clear H; have Z9 := bz8_ BK160; go_wp2_with (first | ((with_reducible refine gC 11 ?_); refine goesL_ (some 11) rfl rfl Tryz.func11 (by kernel_rfl) rfl #[.agg #[.int .i64 a0_0, .int .i64 a0_1, .string a0_2, .string a0_3, .string a0_4, .bool a0_5, .bool a0_6, .slice A0_7 l0_7.length c0_7]] rfl ml_ ?_; (with_reducible refine (lustrumref10_Few.calls k a0_0 a0_1 a0_2 a0_3 a0_4 a0_5 a0_6 _ _ l0_7 true _ ?side1 ?side2 A6.out).mono ?_); (case side1 => repeat (first | exact (Kd.C_below HR0_7.out HB.out) | (with_reducible refine Kd.C_alloc ?_ _) | (with_reducible refine Kd.C_drewN ?_ _) | (with_reducible refine Kd.C_drew ?_))); (case side2 => exact HC0_7.out); rintro e w10 ⟨rfl, hb⟩; refine ⟨_, rfl, ?_⟩; replace BK160 := bb_ BK160 hb; replace HB := bs_ hb; (try clear hb); have Z11 := bz8_ BK160) | (go_at_call 12; (with_reducible refine (tree_Sane.calls k a0_0 a0_1 a0_2 a0_3 a0_4 a0_5 a0_6 _ _ l0_7 t163 _ ?side1 ?side2 A8.out).mono ?_); (case side1 => repeat (first | exact (Kd.C_below HR0_7.out HB.out) | (with_reducible refine Kd.C_alloc ?_ _) | (with_reducible refine Kd.C_drewN ?_ _) | (with_reducible refine Kd.C_drew ?_))); (case side2 => exact HC0_7.out); rintro e w12 ⟨rfl, hb⟩; replace BK160 := bb_ BK160 hb; replace HB := bs_ hb; (try clear hb)))
   go_meet
   case rel => exact ⟨_, (!t163), rf_, H', ⟨by first | omega | exact Nat.le_refl _⟩, ⟨bl_ BK160.out⟩, ⟨hs_⟩⟩
  ·replace c7 := Bool.eq_false_iff.mpr c7
   subst c7; replace H := iN_ H; have H' := A_ H; clear H; have Z13 := bz8_ BK160; go_wp2_with (first | ((with_reducible refine gC 11 ?_); refine goesL_ (some 11) rfl rfl Tryz.func11 (by kernel_rfl) rfl #[.agg #[.int .i64 a0_0, .int .i64 a0_1, .string a0_2, .string a0_3, .string a0_4, .bool a0_5, .bool a0_6, .slice A0_7 l0_7.length c0_7]] rfl ml_ ?_; (with_reducible refine (lustrumref10_Few.calls k a0_0 a0_1 a0_2 a0_3 a0_4 a0_5 a0_6 _ _ l0_7 false _ ?side1 ?side2 A6.out).mono ?_); (case side1 => repeat (first | exact (Kd.C_below HR0_7.out HB.out) | (with_reducible refine Kd.C_alloc ?_ _) | (with_reducible refine Kd.C_drewN ?_ _) | (with_reducible refine Kd.C_drew ?_))); (case side2 => exact HC0_7.out); rintro e w14 ⟨rfl, hb⟩; refine ⟨_, rfl, ?_⟩; replace BK160 := bb_ BK160 hb; replace HB := bs_ hb; (try clear hb))); go_meet
   case rel => exact ⟨_, (true), rf_, H', ⟨by first | omega | exact Nat.le_refl _⟩, ⟨bl_ BK160.out⟩, ⟨hs_⟩⟩
 case rest =>
  clear HC3; (try clear c1); (try clear p2); (try clear c5); (try clear c7); (try clear c11); (try clear Z11); (try clear Z13); (try clear Z9); obtain ⟨kq, x17_2, rfl, HA, HJ2, BK160, HB⟩ := hcut
  cases kq with
  | zero => exact absurd HA.out (by simp [lustrumlaw13_ParseCut.j0])
  | succ kj2 =>
   have H := HA.out; clear HA; simp only [lustrumlaw13_ParseCut.j0] at H
   by_cases c15 : x17_2 = true
   ·subst c15
    replace H := iP_ H; obtain rfl := Option.some.inj H; clear hrT_; go_wp2; go_ret; exact ⟨re_, hs_⟩
   ·replace c15 := Bool.eq_false_iff.mpr c15
    subst c15; replace H := iN_ H; obtain ⟨t164, A16, H⟩ := bi_ H; obtain ⟨ji17, hji17⟩ : ∃ j_ : Int, (mx 0 (wrap64 ((t164.size : Int) - 1))) = j_ := ⟨_, rfl⟩; (replace H : (if 0 ≤ (ji17) then (if (ji17) ≤ (t164.size : Int) then ((parse_Parse.f kj2 (t164.extract 0 ((ji17) : Int).toNat)).bind fun bt165 => (if bt165.2.2.2.2.2.2.2.2.2 = 0 then (if t161 = true then ((tree_Same.f kj2 bt165.1 bt165.2.1 bt165.2.2.1 bt165.2.2.2.1 bt165.2.2.2.2.1 bt165.2.2.2.2.2.1 bt165.2.2.2.2.2.2.1 bt165.2.2.2.2.2.2.2.1 a0_0 a0_1 a0_2 a0_3 a0_4 a0_5 a0_6 l0_7).bind fun t178 => (if t178 = true then (some false) else (if bt165.2.2.2.2.2.2.2.2.1 = ((t164.extract 0 ((ji17) : Int).toNat).size : Int) then (some (a0_0 != 2)) else (some false)))) else (some false)) else (if t161 = true then (if bt165.2.2.2.2.2.2.2.2.1 ≥ 0 then (if bt165.2.2.2.2.2.2.2.2.1 ≤ ((t164.extract 0 ((ji17) : Int).toNat).size : Int) then (if a0_0 = 2 then (if bt165.2.2.2.2.2.2.2.2.2 = 4 then (some (bt165.2.2.2.2.2.2.2.2.1 == ((t164.extract 0 ((ji17) : Int).toNat).size : Int))) else (some false)) else (some true)) else (some false)) else (some false)) else (some false)))) else (none)) else (none)) = some r := by first | (rw [hji17] at H; exact H) | (simp only [hji17] at H ⊢; exact H)); (try rw [hji17] at A16); (try (have hji17l : 0 ≤ ji17 := by (rw [← hji17]; unfold mx; (repeat' split) <;> omega)))
    (try (have hji17m : 0 ≤ ji17 := by omega)); have hji17_ : (if 0 < (wrap64 ((t164.size : Int) - 1)) then (wrap64 ((t164.size : Int) - 1)) else 0) = ji17 := hji17
    by_cases c18 : 0 ≤ (ji17)
    ·rw [if_pos c18] at H
     have c18b0 := eq_true c18; have c18b1 := decide_eq_true c18; clear c18
     by_cases c19 : (ji17) ≤ (t164.size : Int)
     ·rw [if_pos c19] at H
      have hsz17 : ((t164.extract 0 ((ji17) : Int).toNat).size : Int) = max ji17 0 := by simp [ByteArray.size_extract]; omega
      have c19b0 := eq_true c19; have c19b1 := decide_eq_true c19; clear c19; obtain ⟨⟨t165, t166, t167, t168, t169, t170, t171, t172, t175, t176⟩, A20, H⟩ := bi_ H
      by_cases c21 : t176 = 0
      ·rw [if_pos c21] at H
       have c21b0 : (t176 == 0) = true := beq_iff_eq.mpr c21; have c21b1 : (t176 != 0) = false := bne_eq_false_iff_eq.mpr c21; clear c21
       by_cases c22 : t161 = true
       ·subst c22
        replace H := iP_ H; obtain ⟨t178, A23, H⟩ := bi_ H
        by_cases c24 : t178 = true
        ·subst c24
         replace H := iP_ H; exact absurd ((Option.some.inj H).trans hrT_) (by decide)
        ·replace c24 := Bool.eq_false_iff.mpr c24
         subst c24; replace H := iN_ H
         by_cases c34 : t175 = ((t164.extract 0 ((ji17) : Int).toNat).size : Int)
         ·rw [if_pos c34] at H
          have c34b0 : (t175 == ((t164.extract 0 ((ji17) : Int).toNat).size : Int)) = true := beq_iff_eq.mpr c34; have c34b1 : (t175 != ((t164.extract 0 ((ji17) : Int).toNat).size : Int)) = false := bne_eq_false_iff_eq.mpr c34; clear c34; rw [hsz17] at c34b0 c34b1; obtain rfl := Option.some.inj H; clear hrT_; have Z35 := bz8_ BK160; go_wp2_with (first | ((with_reducible refine gC 13 ?_); refine goesL_ (some 20) rfl rfl Tryz.func13 (by kernel_rfl) rfl #[.agg #[.int .i64 a0_0, .int .i64 a0_1, .string a0_2, .string a0_3, .string a0_4, .bool a0_5, .bool a0_6, .slice A0_7 l0_7.length c0_7]] rfl ml_ ?_; (with_reducible refine (print_Text.calls kj2 a0_0 a0_1 a0_2 a0_3 a0_4 a0_5 a0_6 _ _ l0_7 t164 _ ?side1 ?side2 A16.out).mono ?_); (case side1 => repeat (first | exact (Kd.C_below HR0_7.out HB.out) | (with_reducible refine Kd.C_alloc ?_ _) | (with_reducible refine Kd.C_drewN ?_ _) | (with_reducible refine Kd.C_drew ?_))); (case side2 => exact HC0_7.out); rintro e w36 ⟨rfl, hb⟩; refine ⟨_, rfl, ?_⟩; replace BK160 := bb_ BK160 hb; replace HB := bs_ hb; (try clear hb)) | ((with_reducible refine gC 8 ?_); refine goesL_ (some 29) rfl rfl Tryz.func8 (by kernel_rfl) rfl #[.string (t164.extract 0 ((ji17) : Int).toNat)] rfl (by (try simp only [List.map_toArray, List.map_cons, List.map_nil]); first | done | (simp only [hji17]; rfl) | rfl | (simp only [List.length_drop, List.length_take]; rfl)) ?_; (with_reducible refine (parse_Parse.calls kj2 (t164.extract 0 ((ji17) : Int).toNat) t165 t166 t167 t168 t169 t170 t171 t172 t175 t176 _ A20.out).mono ?_); rintro e w37 ⟨v173, rfl, ho0, hb⟩; refine ⟨_, rfl, ?_⟩; have HO174 := A_ (Kd.V_lower (Kd.V_mono (ok' := fun k_ => k_ ≠ gb160) ho0 (fun k_ hk_ => (fb_ BK160 k_ hk_))) (below_size hs_)); replace BK160 := bb_ BK160 hb; replace HB := bs_ hb; (try clear hb); (try clear ho0)) | ((with_reducible refine gD 6 ?_); (try (refine gate_guard (by rfl) ?_; dsimp only)); refine bxe_ 6 z8_ 27 ?_; intro gb177 hg w38 hbox hb; replace HO174 := eV_ HO174 hg hb; have BK177 := A_ (hbox); have GW177 := gs_ w hg; have GE177 := gs_ w hg; replace HB := bs_ hb; have NB160_177 := nl_ BK160 hg; have NB177_160 := ng_ BK160 hg; replace BK160 := bb_ BK160 hb; clear hb hbox hg; have hnb39 := NB177_160.out; have hnc39 := NB160_177.out; have Z40 := bz8_ BK177; obtain ⟨Ao41, co41, eo41⟩ := Kd.V_slice HO174.out; subst eo41; have Z42 := bz8_ BK160) | (go_at_call 10; (with_reducible refine (tree_Same.calls kj2 t165 t166 t167 t168 t169 t170 t171 _ _ t172 a0_0 a0_1 a0_2 a0_3 a0_4 a0_5 a0_6 _ _ l0_7 false _ ?side1 ?side2 ?side3 ?side4 A23.out).mono ?_); (case side1 => refine (Kd.V_reads' (e := 27) (base := w.heap.size) (ok := fun k_ => (k_ ≠ gb160 ∧ k_ ≠ gb177)) (n := t172.length) (c := co41) ?_).2.2; exact (fxV_ HO174.out)); (case side2 => exact (Kd.V_reads' HO174.out).2.1); (case side3 => exact Kd.C_below HR0_7.out hs_); (case side4 => exact HC0_7.out); rintro e w43 ⟨rfl, hb⟩; replace HO174 := bV_ HO174 hb; replace BK160 := A_ (blk_below (g := gb160) (o := .cells (n8_ a0_0 a0_1 a0_2 a0_3 a0_4 a0_5 a0_6 (.slice A0_7 l0_7.length c0_7)) 27 (0, 0)) (pf_ NB160_177 BK160) hb); replace BK177 := bp_ BK177 (.cells (n8_ t165 t166 t167 t168 t169 t170 t171 (.slice Ao41 t172.length co41)) 27 (0, 0)) hb; replace HB := bs_ hb; (try clear hb); have Z44 := bz8_ BK160))
          go_ret; exact ⟨by first | rfl | (simp [errW_none, errW_some] <;> rfl) | (simp only [← hji17]; first | rfl | (simp [errW_none, errW_some] <;> rfl)) | (simp [*, errW_none, errW_some] <;> rfl), hs_⟩
         ·rw [if_neg c34] at H
          have c34b0 : (t175 == ((t164.extract 0 ((ji17) : Int).toNat).size : Int)) = false := beq_eq_false_iff_ne.mpr c34; have c34b1 : (t175 != ((t164.extract 0 ((ji17) : Int).toNat).size : Int)) = true := bne_iff_ne.mpr c34; exact absurd ((Option.some.inj H).trans hrT_) (by decide)
       ·replace c22 := Bool.eq_false_iff.mpr c22
        subst c22; replace H := iN_ H; exact absurd ((Option.some.inj H).trans hrT_) (by decide)
      ·rw [if_neg c21] at H
       have c21b0 : (t176 == 0) = false := beq_eq_false_iff_ne.mpr c21; have c21b1 : (t176 != 0) = true := bne_iff_ne.mpr c21
       by_cases c61 : t161 = true
       ·subst c61
        replace H := iP_ H
        by_cases c62 : t175 ≥ 0
        ·rw [if_pos c62] at H
         have c62b0 := decide_eq_true c62; clear c62
         by_cases c63 : t175 ≤ ((t164.extract 0 ((ji17) : Int).toNat).size : Int)
         ·rw [if_pos c63] at H
          have c63b0 : decide (t175 ≤ ((t164.extract 0 ((ji17) : Int).toNat).size : Int)) = true := decide_eq_true c63; clear c63; rw [hsz17] at c63b0
          by_cases c64 : a0_0 = 2
          ·rw [if_pos c64] at H
           have c64b0 : (a0_0 == 2) = true := beq_iff_eq.mpr c64; have c64b1 : (a0_0 != 2) = false := bne_eq_false_iff_eq.mpr c64; clear c64
           by_cases c65 : t176 = 4
           ·rw [if_pos c65] at H
            have c65b0 : (t176 == 4) = true := beq_iff_eq.mpr c65; have c65b1 : (t176 != 4) = false := bne_eq_false_iff_eq.mpr c65; clear c65; obtain rfl := Option.some.inj H; clear hrT_; have Z66 := bz8_ BK160; go_wp2_with (first | ((with_reducible refine gC 13 ?_); refine goesL_ (some 20) rfl rfl Tryz.func13 (by kernel_rfl) rfl #[.agg #[.int .i64 a0_0, .int .i64 a0_1, .string a0_2, .string a0_3, .string a0_4, .bool a0_5, .bool a0_6, .slice A0_7 l0_7.length c0_7]] rfl ml_ ?_; (with_reducible refine (print_Text.calls kj2 a0_0 a0_1 a0_2 a0_3 a0_4 a0_5 a0_6 _ _ l0_7 t164 _ ?side1 ?side2 A16.out).mono ?_); (case side1 => repeat (first | exact (Kd.C_below HR0_7.out HB.out) | (with_reducible refine Kd.C_alloc ?_ _) | (with_reducible refine Kd.C_drewN ?_ _) | (with_reducible refine Kd.C_drew ?_))); (case side2 => exact HC0_7.out); rintro e w67 ⟨rfl, hb⟩; refine ⟨_, rfl, ?_⟩; replace BK160 := bb_ BK160 hb; replace HB := bs_ hb; (try clear hb)) | ((with_reducible refine gC 8 ?_); refine goesL_ (some 29) rfl rfl Tryz.func8 (by kernel_rfl) rfl #[.string (t164.extract 0 ((ji17) : Int).toNat)] rfl (by (try simp only [List.map_toArray, List.map_cons, List.map_nil]); first | done | (simp only [hji17]; rfl) | rfl | (simp only [List.length_drop, List.length_take]; rfl)) ?_; (with_reducible refine (parse_Parse.calls kj2 (t164.extract 0 ((ji17) : Int).toNat) t165 t166 t167 t168 t169 t170 t171 t172 t175 t176 _ A20.out).mono ?_); rintro e w68 ⟨v173, rfl, ho0, hb⟩; refine ⟨_, rfl, ?_⟩; have HO174 := A_ (Kd.V_lower (Kd.V_mono (ok' := fun k_ => k_ ≠ gb160) ho0 (fun k_ hk_ => (fb_ BK160 k_ hk_))) (below_size hs_)); replace BK160 := bb_ BK160 hb; replace HB := bs_ hb; (try clear hb); (try clear ho0)) | ((with_reducible refine gD 6 ?_); (try (refine gate_guard (by rfl) ?_; dsimp only)); refine bxe_ 6 z8_ 27 ?_; intro gb177 hg w69 hbox hb; replace HO174 := eV_ HO174 hg hb; have BK177 := A_ (hbox); have GW177 := gs_ w hg; have GE177 := gs_ w hg; replace HB := bs_ hb; have NB160_177 := nl_ BK160 hg; have NB177_160 := ng_ BK160 hg; replace BK160 := bb_ BK160 hb; clear hb hbox hg; have hnb70 := NB177_160.out; have hnc70 := NB160_177.out; have Z71 := bz8_ BK177; obtain ⟨Ao72, co72, eo72⟩ := Kd.V_slice HO174.out; subst eo72; have Z73 := bz8_ BK160))
            go_ret; exact ⟨by first | rfl | (simp [errW_none, errW_some] <;> rfl) | (simp only [← hji17]; first | rfl | (simp [errW_none, errW_some] <;> rfl)) | (simp [*, errW_none, errW_some] <;> rfl), hs_⟩
           ·rw [if_neg c65] at H
            have c65b0 : (t176 == 4) = false := beq_eq_false_iff_ne.mpr c65; have c65b1 : (t176 != 4) = true := bne_iff_ne.mpr c65; exact absurd ((Option.some.inj H).trans hrT_) (by decide)
          ·rw [if_neg c64] at H
           have c64b0 : (a0_0 == 2) = false := beq_eq_false_iff_ne.mpr c64; have c64b1 : (a0_0 != 2) = true := bne_iff_ne.mpr c64; obtain rfl := Option.some.inj H; clear hrT_; have Z82 := bz8_ BK160; go_wp2_with (first | ((with_reducible refine gC 13 ?_); refine goesL_ (some 20) rfl rfl Tryz.func13 (by kernel_rfl) rfl #[.agg #[.int .i64 a0_0, .int .i64 a0_1, .string a0_2, .string a0_3, .string a0_4, .bool a0_5, .bool a0_6, .slice A0_7 l0_7.length c0_7]] rfl ml_ ?_; (with_reducible refine (print_Text.calls kj2 a0_0 a0_1 a0_2 a0_3 a0_4 a0_5 a0_6 _ _ l0_7 t164 _ ?side1 ?side2 A16.out).mono ?_); (case side1 => repeat (first | exact (Kd.C_below HR0_7.out HB.out) | (with_reducible refine Kd.C_alloc ?_ _) | (with_reducible refine Kd.C_drewN ?_ _) | (with_reducible refine Kd.C_drew ?_))); (case side2 => exact HC0_7.out); rintro e w83 ⟨rfl, hb⟩; refine ⟨_, rfl, ?_⟩; replace BK160 := bb_ BK160 hb; replace HB := bs_ hb; (try clear hb)) | ((with_reducible refine gC 8 ?_); refine goesL_ (some 29) rfl rfl Tryz.func8 (by kernel_rfl) rfl #[.string (t164.extract 0 ((ji17) : Int).toNat)] rfl (by (try simp only [List.map_toArray, List.map_cons, List.map_nil]); first | done | (simp only [hji17]; rfl) | rfl | (simp only [List.length_drop, List.length_take]; rfl)) ?_; (with_reducible refine (parse_Parse.calls kj2 (t164.extract 0 ((ji17) : Int).toNat) t165 t166 t167 t168 t169 t170 t171 t172 t175 t176 _ A20.out).mono ?_); rintro e w84 ⟨v173, rfl, ho0, hb⟩; refine ⟨_, rfl, ?_⟩; have HO174 := A_ (Kd.V_lower (Kd.V_mono (ok' := fun k_ => k_ ≠ gb160) ho0 (fun k_ hk_ => (fb_ BK160 k_ hk_))) (below_size hs_)); replace BK160 := bb_ BK160 hb; replace HB := bs_ hb; (try clear hb); (try clear ho0)) | ((with_reducible refine gD 6 ?_); (try (refine gate_guard (by rfl) ?_; dsimp only)); refine bxe_ 6 z8_ 27 ?_; intro gb177 hg w85 hbox hb; replace HO174 := eV_ HO174 hg hb; have BK177 := A_ (hbox); have GW177 := gs_ w hg; have GE177 := gs_ w hg; replace HB := bs_ hb; have NB160_177 := nl_ BK160 hg; have NB177_160 := ng_ BK160 hg; replace BK160 := bb_ BK160 hb; clear hb hbox hg; have hnb86 := NB177_160.out; have hnc86 := NB160_177.out; have Z87 := bz8_ BK177; obtain ⟨Ao88, co88, eo88⟩ := Kd.V_slice HO174.out; subst eo88; have Z89 := bz8_ BK160))
           go_ret; exact ⟨by first | rfl | (simp [errW_none, errW_some] <;> rfl) | (simp only [← hji17]; first | rfl | (simp [errW_none, errW_some] <;> rfl)) | (simp [*, errW_none, errW_some] <;> rfl), hs_⟩
         ·rw [if_neg c63] at H
          have c63b0 : decide (t175 ≤ ((t164.extract 0 ((ji17) : Int).toNat).size : Int)) = false := decide_eq_false c63; clear c63; exact absurd ((Option.some.inj H).trans hrT_) (by decide)
        ·rw [if_neg c62] at H
         have c62b0 := decide_eq_false c62; clear c62; exact absurd ((Option.some.inj H).trans hrT_) (by decide)
       ·replace c61 := Bool.eq_false_iff.mpr c61
        subst c61; replace H := iN_ H; exact absurd ((Option.some.inj H).trans hrT_) (by decide)
     ·rw [if_neg c19] at H
      exact absurd H (by simp)
    ·rw [if_neg c18] at H
     exact absurd H (by simp)
def Out (v : List S46) (e : S46) (m d : Nat) (R : PR) : Prop :=
  (R.x = none ∧ rt R.n = true ∧ R.m = ((m + nd R.n : Nat) : Int) ∧ m + nd R.n ≤ 64 ∧ R.d = (d : Int) ∧ d + dp R.n ≤ 8 ∧ ∃ v', R.t = v' ++ [e] ∧ v' <:+ v ∧ v'.length < v.length)
  ∨ ∃ a c, R.x = some (a, c) ∧ (∃ x, x ∈ v ++ [e] ∧ a = x.f1) ∧ c ≠ 0
def OutE (v : List S46) (e : S46) (m : Nat) (d : Int) (R : PR) : Prop :=
  (R.x = none ∧ endV R.n = true ∧ R.m = ((m + 1 : Nat) : Int) ∧ m + 1 ≤ 64 ∧ R.d = d ∧ ∃ v', R.t = v' ++ [e] ∧ v' <:+ v ∧ v'.length < v.length)
  ∨ ∃ a c, R.x = some (a, c) ∧ (∃ x, x ∈ v ++ [e] ∧ a = x.f1) ∧ c ≠ 0
def shortW (v : List S46) : Prop := ∀ x, x ∈ v → x.f2.size ≤ 4611686018427387904
theorem eNot_ne (x : S46) (c : Int) (h : c ≠ 0) : eNot x c ≠ 0 := by unfold eNot; split <;> omega
theorem cons_of (v : List S46) (e : S46) : ∃ y u, v ++ [e] = y :: u := by cases v with
  | nil => exact ⟨_, _, rfl⟩
  | cons y u => exact ⟨_, _, rfl⟩
theorem marked_any (e : S46) (he : e.f0 = 9) (p : S24) : ∀ (v : List S46) (a b : Bool), ∃ a' b' v', pMarked (v ++ [e]) p a b = some (⟨0, p, a', b', []⟩, v' ++ [e]) ∧ v' <:+ v
  | [], a, b => ⟨a, b, [], by rw [List.nil_append, pMarked, if_neg (by omega), if_neg (by omega)], List.suffix_refl _⟩
  | x :: v, a, b => by
    rw [List.cons_append, pMarked]
    by_cases c7 : x.f0 = 7
    · rw [if_pos c7]
      by_cases ca : a = false
      · rw [if_pos ca]
        obtain ⟨a', b', v', h, hs⟩ := marked_any e he p v true b
        exact ⟨a', b', v', h, hs.trans (List.suffix_cons _ _)⟩
      · rw [if_neg ca]; exact ⟨a, b, x :: v, rfl, List.suffix_refl _⟩
    · rw [if_neg c7]
      by_cases c8 : x.f0 = 8
      · rw [if_pos c8]
        by_cases cb : b = false
        · rw [if_pos cb]
          obtain ⟨a', b', v', h, hs⟩ := marked_any e he p v a true
          exact ⟨a', b', v', h, hs.trans (List.suffix_cons _ _)⟩
        · rw [if_neg cb]; exact ⟨a, b, x :: v, rfl, List.suffix_refl _⟩
      · rw [if_neg c8]; exact ⟨a, b, x :: v, rfl, List.suffix_refl _⟩
theorem endV_pt (p : S24) (a b : Bool) (h : ptV p = true) : endV ⟨0, p, a, b, []⟩ = true := by
  unfold endV
  rw [if_pos rfl]
  show (decide (([] : List S27) = []) && ptV p) = true
  rw [h]; simp
theorem endV_kz (k : Int) (h : k = 3 ∨ k = 4) : endV (kz k) = true := by
  have hb : bareV (kz k) = true := bare_mk k []
  unfold endV
  rw [hb, if_neg (show ¬ (kz k).f0 = 0 by show ¬ k = 0; omega), if_pos (show (kz k).f0 = 3 ∨ (kz k).f0 = 4 from h)]
  simp [kz]
theorem end_any (e : S46) (he : e.f0 = 9) (v : List S46) (hw : shortW v) (m : Nat) (d : Int) (hm : m ≤ 64) : ∃ R, Ev (fun k => pEnd k (m : Int) d (v ++ [e])) R ∧ OutE v e m d R := by
  cases v with
  | nil =>
    refine ⟨⟨pz, some (e.f1, eNot e 3), [e], (m : Int), d⟩, ?_, .inr ⟨_, _, rfl, ⟨e, by simp, rfl⟩, eNot_ne _ _ (by omega)⟩⟩
    unfold pEnd
    exact Ev.iff_ (by omega) (Ev.iff_ (by omega) (Ev.iff_ (by omega) (Ev.now _)))
  | cons x v =>
    have bad : ∀ c : Int, c ≠ 0 → OutE (x :: v) e m d ⟨pz, some (x.f1, eNot x c), x :: (v ++ [e]), (m : Int), d⟩ := fun c hc => .inr ⟨_, _, rfl, ⟨x, by simp, rfl⟩, eNot_ne _ _ hc⟩
    unfold pEnd
    by_cases c0 : x.f0 = 0
    · by_cases c64 : (m : Int) = 64
      · exact ⟨_, Ev.ift c0 (Ev.ift c64 (Ev.now _)), bad 6 (by omega)⟩
      · have hx := hw x (by simp)
        have hm1 : m + 1 ≤ 64 := by omega
        have hrd := read_any x.f2.data.toList (by rw [← bsize]; exact hx)
        rw [bA_mk] at hrd
        unfold pWord
        rw [up1 (by omega)]
        rcases hrd with ⟨p, hp, _, hr⟩ | ⟨_, hr⟩
        · obtain ⟨a', b', v', hM, hs⟩ := marked_any e he ⟨p.f0, p.f1, p.f2, p.f3⟩ v false false
          refine ⟨⟨⟨0, ⟨p.f0, p.f1, p.f2, p.f3⟩, a', b', []⟩, none, v' ++ [e], ((m + 1 : Nat) : Int), d⟩, Ev.ift c0 (Ev.iff_ c64 (Ev.bind hr (Ev.ift rfl (Ev.bnow hM (Ev.now _))))), .inl ⟨rfl, endV_pt _ _ _ hp, rfl, hm1, rfl, v', rfl, hs.trans (List.suffix_cons _ _), ?_⟩⟩
          have := hs.length_le
          rw [List.length_cons]; omega
        · exact ⟨⟨pz, some (x.f1, eNot x 2), x :: (v ++ [e]), ((m + 1 : Nat) : Int), d⟩, Ev.ift c0 (Ev.iff_ c64 (Ev.bind hr (Ev.iff_ (by simp) (Ev.now _)))), .inr ⟨_, _, rfl, ⟨x, by simp, rfl⟩, eNot_ne _ _ (by omega)⟩⟩
    by_cases c2 : x.f0 = 2
    · by_cases c64 : (m : Int) = 64
      · exact ⟨_, Ev.iff_ c0 (Ev.ift c2 (Ev.ift c64 (Ev.now _))), bad 6 (by omega)⟩
      · rw [up1 (by omega)]
        exact ⟨⟨kz 3, none, v ++ [e], ((m + 1 : Nat) : Int), d⟩, Ev.iff_ c0 (Ev.ift c2 (Ev.iff_ c64 (Ev.now _))), .inl ⟨rfl, endV_kz 3 (.inl rfl), rfl, by omega, rfl, v, rfl, List.suffix_cons _ _, by simp⟩⟩
    by_cases c3 : x.f0 = 3
    · by_cases c64 : (m : Int) = 64
      · exact ⟨_, Ev.iff_ c0 (Ev.iff_ c2 (Ev.ift c3 (Ev.ift c64 (Ev.now _)))), bad 6 (by omega)⟩
      · rw [up1 (by omega)]
        exact ⟨⟨kz 4, none, v ++ [e], ((m + 1 : Nat) : Int), d⟩, Ev.iff_ c0 (Ev.iff_ c2 (Ev.ift c3 (Ev.iff_ c64 (Ev.now _)))), .inl ⟨rfl, endV_kz 4 (.inr rfl), rfl, by omega, rfl, v, rfl, List.suffix_cons _ _, by simp⟩⟩
    · exact ⟨_, Ev.iff_ c0 (Ev.iff_ c2 (Ev.iff_ c3 (Ev.now _))), bad 3 (by omega)⟩
theorem nd_end {n : S27} (h : endV n = true) : nd n = 1 := by rw [nd_eq, (end_kinds h).1]; rfl
theorem dp_end0 {n : S27} (h : endV n = true) : dp n = 0 := by
  obtain ⟨h4, hk⟩ := end_kinds h
  rw [dp_eq, if_neg (by omega), h4]; rfl
theorem shortW.suf {v' v : List S46} (hw : shortW v) (h : v' <:+ v) : shortW v' := fun x hx => hw x (h.subset hx)
theorem span_any (e : S46) (he : e.f0 = 9) (v : List S46) (hw : shortW v) (m d : Nat) (hm : m ≤ 64) (hd : d ≤ 8) : ∃ R, Ev (fun k => pSpan k (m : Int) (d : Int) (v ++ [e])) R ∧ Out v e m d R := by
  obtain ⟨R, hR, hO⟩ := end_any e he v hw m d hm
  unfold pSpan
  rcases hO with ⟨hx, hn, hm', hm1, hd', v', ht, hs, hl⟩ | ⟨a, c, hx, hp, hc⟩
  · obtain ⟨n, x, t, m', d'⟩ := R
    simp only at hx hn hm' hd' ht
    subst hx; subst hm'; subst hd'; subst ht
    have h1 := nd_end hn
    have hdp := dp_end0 hn
    have done : ∀ y u, v' ++ [e] = y :: u → y.f0 ≠ 1 → ∃ R, Ev (fun k => (pEnd k (m : Int) (d : Int) (v ++ [e])).bind fun r => match r.x with
        | some _ => some r
        | none => match r.t with
          | [] => none
          | y :: u => if y.f0 = 1 then (if r.m = 64 then some ⟨r.n, some (y.f1, eNot y 6), y :: u, r.m, r.d⟩ else (pEnd k (wrap64 (r.m + 1)) r.d u).bind fun s => some ⟨⟨1, ⟨0, ⟨#[]⟩, ⟨#[]⟩, ⟨#[]⟩⟩, false, false, [r.n, s.n]⟩, s.x, s.t, s.m, s.d⟩)
            else if r.n.f0 = 0 then some ⟨r.n, none, y :: u, r.m, r.d⟩ else some ⟨r.n, some (y.f1, eNot y 3), y :: u, r.m, r.d⟩) R ∧ Out v e m d R := fun y u hyu hy => by
      rw [hyu] at hR
      have hmem : y ∈ v ++ [e] := by
        have : y ∈ v' ++ [e] := by rw [hyu]; simp
        rcases List.mem_append.1 this with h | h
        · exact List.mem_append.2 (.inl (hs.subset h))
        · exact List.mem_append.2 (.inr h)
      by_cases cn : n.f0 = 0
      · refine ⟨_, Ev.bind hR (Ev.iff_ hy (Ev.ift cn (Ev.now _))), .inl ⟨rfl, by rw [rt_eq, if_pos cn]; exact hn, by rw [h1], (show m + nd n ≤ 64 by omega), rfl, (show d + dp n ≤ 8 by omega), v', hyu.symm, hs, hl⟩⟩
      · exact ⟨_, Ev.bind hR (Ev.iff_ hy (Ev.iff_ cn (Ev.now _))), .inr ⟨_, _, rfl, ⟨y, hmem, rfl⟩, eNot_ne _ _ (by omega)⟩⟩
    cases v' with
    | nil => exact done e [] rfl (by omega)
    | cons y u =>
      by_cases cy : y.f0 = 1
      · have hmem : y ∈ v ++ [e] := List.mem_append.2 (.inl (hs.subset (by simp)))
        by_cases c64 : ((m + 1 : Nat) : Int) = 64
        · exact ⟨_, Ev.bind hR (Ev.ift cy (Ev.ift c64 (Ev.now _))), .inr ⟨_, _, rfl, ⟨y, hmem, rfl⟩, eNot_ne _ _ (by omega)⟩⟩
        · have hu : u <:+ v := (List.suffix_cons y u).trans hs
          obtain ⟨S, hS, hSO⟩ := end_any e he u (hw.suf hu) (m + 2) d (by omega)
          have hE : Ev (fun k => (pEnd k (wrap64 (((m + 1 : Nat) : Int) + 1)) (d : Int) (u ++ [e])).bind fun s => some (⟨⟨1, ⟨0, ⟨#[]⟩, ⟨#[]⟩, ⟨#[]⟩⟩, false, false, [n, s.n]⟩, s.x, s.t, s.m, s.d⟩ : PR)) ⟨⟨1, ⟨0, ⟨#[]⟩, ⟨#[]⟩, ⟨#[]⟩⟩, false, false, [n, S.n]⟩, S.x, S.t, S.m, S.d⟩ := by
            rw [up1 (by omega)]
            exact Ev.bind hS (Ev.now _)
          refine ⟨_, Ev.bind hR (Ev.ift cy (Ev.iff_ c64 hE)), ?_⟩
          rcases hSO with ⟨sx, sn, sm, sm1, sd, w', st, ss, sl⟩ | ⟨a, c, sx, ⟨x, hx, hax⟩, hc⟩
          · have s1 := nd_end sn
            have s2 := dp_end0 sn
            have hnd : nd (⟨1, ⟨0, ⟨#[]⟩, ⟨#[]⟩, ⟨#[]⟩⟩, false, false, [n, S.n]⟩ : S27) = 3 := by rw [nd, ndL, ndL, ndL, h1, s1]
            have hdp2 : dp (⟨1, ⟨0, ⟨#[]⟩, ⟨#[]⟩, ⟨#[]⟩⟩, false, false, [n, S.n]⟩ : S27) = 0 := by rw [dp, if_neg (by decide), dpL, dpL, dpL, hdp, s2]; rfl
            refine .inl ⟨sx, ?_, ?_, by rw [hnd]; omega, sd, by rw [hdp2]; omega, w', st, ss.trans hu, ?_⟩
            · rw [rt_eq, if_neg (show ¬ (1 : Int) = 0 by decide), if_pos rfl]
              show (bareV ⟨1, ⟨0, e0, e0, e0⟩, false, false, [n, S.n]⟩ && two [n, S.n]) = true
              rw [bare_mk, two, hn, sn]; rfl
            · show S.m = _
              rw [sm, hnd]
            · simp only [List.length_cons] at hl; omega
          · refine .inr ⟨a, c, sx, ⟨x, ?_, hax⟩, hc⟩
            rcases List.mem_append.1 hx with h | h
            · exact List.mem_append.2 (.inl (hu.subset h))
            · exact List.mem_append.2 (.inr h)
      · exact done y (u ++ [e]) rfl cy
  · refine ⟨R, Ev.bind hR ?_, .inr ⟨a, c, hx, hp, hc⟩⟩
    rw [hx]; exact Ev.now _
theorem rtL_app : ∀ l u : List S27, rtL (l ++ u) = (rtL l && rtL u)
  | [], u => by simp [rtL]
  | x :: l, u => by rw [List.cons_append, rtL, rtL, rtL_app l u, Bool.and_assoc]
def ExprAny (e : S46) (v : List S46) : Prop := ∀ m d : Nat, m ≤ 64 → d ≤ 8 → ∃ R, Ev (fun k => pExpr k (m : Int) (d : Int) (v ++ [e])) R ∧ Out v e m d R
def ItemsAny (e : S46) (v : List S46) : Prop := ∀ (x : S46) (acc : List S27) (m d : Nat), rtL acc = true → m + 1 + ndL acc ≤ 64 → d + 1 + dpL acc ≤ 8 →
  ∃ R, Ev (fun k => pItems k ((m + 1 + ndL acc : Nat) : Int) ((d + 1 : Nat) : Int) (x :: (v ++ [e])) acc) R ∧ Out v e m d R
theorem expr_of (e : S46) (he : e.f0 = 9) (v : List S46) (hw : shortW v) (ih : ∀ u, u.length < v.length → shortW u → ItemsAny e u) : ExprAny e v := fun m d hm hd => by
  by_cases hv : ∃ x u, v = x :: u ∧ x.f0 = 4
  · obtain ⟨x, u, rfl, h4⟩ := hv
    have mem : x ∈ (x :: u) ++ [e] := by simp
    by_cases c8 : d = 8
    · refine ⟨⟨pz, some (x.f1, eNot x 5), x :: (u ++ [e]), (m : Int), (d : Int)⟩, ?_, .inr ⟨_, _, rfl, ⟨x, mem, rfl⟩, eNot_ne _ _ (by omega)⟩⟩
      refine Ev.step (f := fun k => pList k (m : Int) (d : Int) x (u ++ [e])) (fun k => by rw [List.cons_append, pExpr, if_pos h4]) ?_
      exact Ev.step (fun k => by rw [pList, if_pos (by omega)]) (Ev.now _)
    by_cases c64 : m = 64
    · refine ⟨⟨pz, some (x.f1, eNot x 6), x :: (u ++ [e]), (m : Int), (d : Int)⟩, ?_, .inr ⟨_, _, rfl, ⟨x, mem, rfl⟩, eNot_ne _ _ (by omega)⟩⟩
      refine Ev.step (f := fun k => pList k (m : Int) (d : Int) x (u ++ [e])) (fun k => by rw [List.cons_append, pExpr, if_pos h4]) ?_
      exact Ev.step (fun k => by rw [pList, if_neg (by omega), if_pos (by omega)]) (Ev.now _)
    · obtain ⟨R, hR, hO⟩ := ih u (by simp) (hw.suf (List.suffix_cons x u)) x [] m d rfl (by simp only [ndL]; omega) (by simp only [dpL]; omega)
      simp only [ndL, Nat.add_zero] at hR
      refine ⟨R, ?_, ?_⟩
      · refine Ev.step (f := fun k => pList k (m : Int) (d : Int) x (u ++ [e])) (fun k => by rw [List.cons_append, pExpr, if_pos h4]) ?_
        exact Ev.step (fun k => by rw [pList, if_neg (by omega), if_neg (by omega), up1 (by omega), up1 (by omega)]) hR
      · rcases hO with ⟨h1, h2, h3, h5, h6, h7, v', ht, hs, hl⟩ | ⟨a, c, hx, ⟨y, hy, hay⟩, hc⟩
        · exact .inl ⟨h1, h2, h3, h5, h6, h7, v', ht, hs.trans (List.suffix_cons x u), by rw [List.length_cons]; omega⟩
        · exact .inr ⟨a, c, hx, ⟨y, by rw [List.cons_append]; exact List.mem_cons_of_mem _ hy, hay⟩, hc⟩
  · obtain ⟨R, hR, hO⟩ := span_any e he v hw m d hm hd
    refine ⟨R, ?_, hO⟩
    cases v with
    | nil => exact Ev.step (fun k => by rw [List.nil_append, pExpr, if_neg (by omega)]) hR
    | cons x u => exact Ev.step (fun k => by rw [List.cons_append, pExpr, if_neg (fun h => hv ⟨x, u, rfl, h⟩)]) hR
theorem items_of (e : S46) (he : e.f0 = 9) (v : List S46) (hw : shortW v) (hE : ExprAny e v) (ih : ∀ u, u.length < v.length → shortW u → ItemsAny e u) : ItemsAny e v := fun x acc m d hrt hm hd => by
  obtain ⟨R, hR, hO⟩ := hE (m + 1 + ndL acc) (d + 1) hm (by omega)
  have hlen := len_nd acc
  rcases hO with ⟨h1, h2, h3, h5, h6, h7, v', ht, hs, hl⟩ | ⟨a, c, hx, hp, hc⟩
  · obtain ⟨n, x', t, m', d'⟩ := R
    simp only at h1 h2 h3 h5 h6 h7 ht
    subst h1; subst h3; subst h6
    have e1 : m + 1 + ndL acc + nd n = m + 1 + ndL (acc ++ [n]) := by rw [ndL_app, ndL, ndL]; omega
    have e2 : rtL (acc ++ [n]) = true := by rw [rtL_app, hrt, rtL, h2]; rfl
    have e3 : d + 1 + dpL (acc ++ [n]) ≤ 8 := by rw [dpL_app, dpL, dpL]; omega
    have hl2 : (acc ++ [n]).length ≤ 64 := by have := len_nd (acc ++ [n]); omega
    have other : ∀ y u, v' ++ [e] = y :: u → y.f0 ≠ 6 → y.f0 ≠ 5 → ∃ R, Ev (fun k => pItems k ((m + 1 + ndL acc : Nat) : Int) ((d + 1 : Nat) : Int) (x :: (v ++ [e])) acc) R ∧ Out v e m d R := fun y u hyu c6 c5 => by
      have hmem : y ∈ v ++ [e] := by
        have : y ∈ v' ++ [e] := by rw [hyu]; simp
        rcases List.mem_append.1 this with h | h
        · exact List.mem_append.2 (.inl (hs.subset h))
        · exact List.mem_append.2 (.inr h)
      rw [ht, hyu] at hR
      exact ⟨_, Ev.step (fun k => pItems_one k _ _ x _ acc) (Ev.bind hR (Ev.ift (by omega) (Ev.iff_ c6 (Ev.iff_ c5 (Ev.now _))))), .inr ⟨_, _, rfl, ⟨y, hmem, rfl⟩, eNot_ne _ _ (by omega)⟩⟩
    cases v' with
    | nil => exact other e [] rfl (by omega) (by omega)
    | cons y u =>
      have hu : u <:+ v := (List.suffix_cons y u).trans hs
      simp only [List.length_cons] at hl
      rw [ht, List.cons_append] at hR
      by_cases c6 : y.f0 = 6
      · obtain ⟨S, hS, hSO⟩ := ih u (by omega) (hw.suf hu) y (acc ++ [n]) m d e2 (by omega) e3
        rw [← e1] at hS
        refine ⟨S, items_step hR (by omega) (.inl ⟨c6, hS⟩), ?_⟩
        rcases hSO with ⟨s1, s2, s3, s5, s6, s7, w', st, ss, sl⟩ | ⟨a, c, sx, ⟨z, hz, haz⟩, hc⟩
        · exact .inl ⟨s1, s2, s3, s5, s6, s7, w', st, ss.trans hu, by omega⟩
        · refine .inr ⟨a, c, sx, ⟨z, ?_, haz⟩, hc⟩
          rcases List.mem_append.1 hz with h | h
          · exact List.mem_append.2 (.inl (hu.subset h))
          · exact List.mem_append.2 (.inr h)
      by_cases c5 : y.f0 = 5
      · have hnd : nd (⟨2, ⟨0, e0, e0, e0⟩, false, false, acc ++ [n]⟩ : S27) = 1 + ndL (acc ++ [n]) := by rw [nd]; omega
        have hdp : dp (⟨2, ⟨0, e0, e0, e0⟩, false, false, acc ++ [n]⟩ : S27) = dpL (acc ++ [n]) + 1 := by rw [dp, if_pos rfl]
        refine ⟨⟨⟨2, ⟨0, e0, e0, e0⟩, false, false, acc ++ [n]⟩, none, u ++ [e], ((m + 1 + ndL acc + nd n : Nat) : Int), (d : Int)⟩, items_step hR (by omega) (.inr ⟨c5, ?_, by omega⟩), .inl ⟨rfl, ?_, ?_, by rw [hnd]; omega, rfl, by rw [hdp]; omega, u, rfl, hu, by omega⟩⟩
        · rw [w64 (by omega) (by omega)]
          have : ((d + 1 : Nat) : Int) - 1 = (d : Int) := by omega
          rw [this]
        · rw [rt_eq, if_neg (show ¬ (2 : Int) = 0 by decide), if_neg (show ¬ (2 : Int) = 1 by decide), if_pos rfl, bare_mk]
          show (true && (decide (acc ++ [n] ≠ []) && rtL (acc ++ [n]))) = true
          rw [e2]; simp
        · show ((m + 1 + ndL acc + nd n : Nat) : Int) = _
          rw [hnd, e1]; omega
      · exact other y (u ++ [e]) rfl c6 c5
  · refine ⟨R, Ev.step (fun k => pItems_one k _ _ x _ acc) (Ev.bind hR ?_), .inr ⟨a, c, hx, hp, hc⟩⟩
    rw [hx]; exact Ev.now _
theorem items_any (e : S46) (he : e.f0 = 9) : ∀ (M : Nat) (v : List S46), v.length ≤ M → shortW v → ItemsAny e v
  | 0, v, hl, hw => items_of e he v hw (expr_of e he v hw (fun u h _ => by omega)) (fun u h _ => by omega)
  | M + 1, v, hl, hw => items_of e he v hw (expr_of e he v hw (fun u h hu => items_any e he M u (by omega) hu)) (fun u h hu => items_any e he M u (by omega) hu)
theorem expr_any (e : S46) (he : e.f0 = 9) (v : List S46) (hw : shortW v) : ExprAny e v := expr_of e he v hw (fun u _ hu => items_any e he _ u (Nat.le_refl _) hu)
end Go.Proofs.YtjgjhekpiijniaaGreat.A