/- Walks of functions, and plain facts about what they compute. No conditions. -/
import Derived.Test.YtfehdlkklfcnpaaZs0
import Derived.Lib.SliceRun
import Derived.Shelf.Strings.Builder1
import Derived.Shelf.Strings.Builder2
import Derived.Shelf.Strings.OnBuilder
import Derived.Shelf.Small.Strs
import Derived.Shelf.Strings.Search1
import Derived.Shelf.Strings.Prefix
set_option linter.unusedVariables false
set_option linter.unusedSimpArgs false
namespace Go.Proofs.Ytfehdlkklfcnpaa.A
open Go.RowKit Go.Proofs.YtfehdlkklfcnpaaW.PrintWords Go.Proofs.YtfehdlkklfcnpaaW.PrintLast Go.Proofs.YtfehdlkklfcnpaaW.PrintMore
theorem bl_irr (a : List UInt8) : Op.bytesLess a a = false := by
  have h := less_flip a a
  rw [beq_self_eq_true, Bool.or_true] at h
  simpa using h.symm
theorem bl_asym {a b : List UInt8} (h : Op.bytesLess a b = true) : Op.bytesLess b a = false := by
  have h1 := less_flip a b
  rw [h, Bool.true_or] at h1
  simpa using h1.symm
theorem bl_tri {a b : List UInt8} (h : Op.bytesLess a b = false) (h' : Op.bytesLess b a = false) : a = b := by
  have h1 := less_flip a b
  rw [h, h', Bool.false_or] at h1
  simpa using h1
theorem bl_trans : ∀ {a b c : List UInt8}, Op.bytesLess a b = true → Op.bytesLess b c = true → Op.bytesLess a c = true
  | _, [], _, h, _ => by simp [Op.bytesLess] at h
  | [], y :: b, [], _, h => by simp [Op.bytesLess] at h
  | [], y :: b, z :: c, _, _ => rfl
  | x :: a, y :: b, [], _, h => by simp [Op.bytesLess] at h
  | x :: a, y :: b, z :: c, h, h' => by
    simp only [Op.bytesLess, Bool.or_eq_true, decide_eq_true_eq, Bool.and_eq_true, beq_iff_eq] at h h' ⊢
    rcases h with h | ⟨rfl, h⟩
    · rcases h' with h' | ⟨rfl, h'⟩
      · exact .inl (UInt8.lt_trans h h')
      · exact .inl h
    · rcases h' with h' | ⟨rfl, h'⟩
      · exact .inl h'
      · exact .inr ⟨rfl, bl_trans h h'⟩
theorem bl_le_lt {a b c : List UInt8} (h : Op.bytesLess b a = false) (h' : Op.bytesLess b c = true) : Op.bytesLess a c = true := by
  cases h1 : Op.bytesLess a b with
  | true => exact bl_trans h1 h'
  | false => rw [bl_tri h1 h]; exact h'
theorem bl_lt_le {a b c : List UInt8} (h : Op.bytesLess a b = true) (h' : Op.bytesLess c b = false) : Op.bytesLess a c = true := by
  cases h1 : Op.bytesLess b c with
  | true => exact bl_trans h h1
  | false => rw [← bl_tri h1 h']; exact h
theorem bl_le_trans {a b c : List UInt8} (h : Op.bytesLess b a = false) (h' : Op.bytesLess c b = false) : Op.bytesLess c a = false := by
  cases h1 : Op.bytesLess c a with
  | false => rfl
  | true =>
    have := bl_lt_le h1 h
    rw [this] at h'
    exact h'
abbrev rise (l : List S26) : Prop := l.Pairwise (fun a b => lsT a b = true)
theorem rise_only : ∀ (l u : List S26), rise l → rise u → (∀ x, x ∈ l ↔ x ∈ u) → l = u
  | [], [], _, _, _ => rfl
  | [], y :: u, _, _, h => by have := (h y).2 (by simp); simp at this
  | x :: l, [], _, _, h => by have := (h x).1 (by simp); simp at this
  | x :: l, y :: u, hl, hu, h => by
    obtain ⟨hx, hl'⟩ := List.pairwise_cons.1 hl
    obtain ⟨hy, hu'⟩ := List.pairwise_cons.1 hu
    have e : x = y := by
      rcases List.mem_cons.1 ((h x).1 (by simp)) with e | hm
      · exact e
      · rcases List.mem_cons.1 ((h y).2 (by simp)) with e | hm'
        · exact e.symm
        · have h1 := hy x hm
          have h2 := hx y hm'
          have h3 := bl_asym h1
          exact absurd (h2.symm.trans h3) (by simp)
    subst e
    rw [rise_only l u hl' hu' (fun z => ⟨fun hz => ?_, fun hz => ?_⟩)]
    · rcases List.mem_cons.1 ((h z).1 (List.mem_cons_of_mem _ hz)) with e | hm
      · subst e
        have := hx z hz
        rw [lsT, bl_irr] at this
        cases this
      · exact hm
    · rcases List.mem_cons.1 ((h z).2 (List.mem_cons_of_mem _ hz)) with e | hm
      · subst e
        have := hy z hz
        rw [lsT, bl_irr] at this
        cases this
      · exact hm
theorem putV_rise (n : S26) : ∀ l : List S26, rise l → rise (putV n l)
  | [], _ => by rw [putV]; exact List.pairwise_singleton _ _
  | x :: l, h => by
    obtain ⟨hx, hl⟩ := List.pairwise_cons.1 h
    rw [putV]
    by_cases h1 : lsT x n = true
    · rw [if_pos h1]
      refine List.pairwise_cons.2 ⟨fun y hy => ?_, putV_rise n l hl⟩
      rcases putV_mem n l y hy with rfl | hy
      · exact h1
      · exact hx y hy
    · rw [if_neg h1]
      by_cases h2 : lsT n x = true
      · rw [if_pos h2]
        refine List.pairwise_cons.2 ⟨fun y hy => ?_, h⟩
        rcases List.mem_cons.1 hy with rfl | hy
        · exact h2
        · exact bl_trans h2 (hx y hy)
      · rw [if_neg h2]
        exact h
theorem putV_has (n : S26) : ∀ l : List S26, (∀ y, y ∈ l → y ∈ putV n l) ∧ ∃ y, y ∈ putV n l ∧ txV y = txV n
  | [] => ⟨fun y h => by simp at h, n, by simp [putV], rfl⟩
  | x :: l => by
    obtain ⟨ih1, y, hy, hy'⟩ := putV_has n l
    rw [putV]
    by_cases h1 : lsT x n = true
    · rw [if_pos h1]
      refine ⟨fun z hz => ?_, y, List.mem_cons_of_mem _ hy, hy'⟩
      rcases List.mem_cons.1 hz with rfl | hz
      · exact List.mem_cons_self
      · exact List.mem_cons_of_mem _ (ih1 z hz)
    · rw [if_neg h1]
      by_cases h2 : lsT n x = true
      · rw [if_pos h2]
        exact ⟨fun z hz => List.mem_cons_of_mem _ hz, n, List.mem_cons_self, rfl⟩
      · rw [if_neg h2]
        exact ⟨fun z hz => hz, x, List.mem_cons_self, bl_tri (by simpa using h1) (by simpa using h2)⟩
theorem txV_inj {a b : S26} (ha : saneV a = true) (hb : saneV b = true) (h : txV a = txV b) : a = b := by
  unfold txV at h
  rw [if_pos ha, if_pos hb] at h
  have := tx_inj _ a b [] [] (Nat.le_refl _) (sane_rt ha).2.2 (sane_rt hb).2.2 trivial trivial (by rw [List.append_nil, List.append_nil]; exact h)
  exact this.1
def clV (l : List S26) : List S26 := l.foldl (fun acc n => putV n acc) []
theorem cl_fold : ∀ (l acc : List S26), rise acc → (∀ x, x ∈ acc → saneV x = true) → (∀ x, x ∈ l → saneV x = true) →
    rise (l.foldl (fun acc n => putV n acc) acc) ∧ (l.foldl (fun acc n => putV n acc) acc).length ≤ acc.length + l.length ∧ ∀ x, x ∈ l.foldl (fun acc n => putV n acc) acc ↔ x ∈ acc ∨ x ∈ l
  | [], acc, hr, _, _ => ⟨hr, by simp, fun x => by simp⟩
  | n :: l, acc, hr, ha, hl => by
    have hn := hl n (by simp)
    have hp : ∀ x, x ∈ putV n acc ↔ x = n ∨ x ∈ acc := fun x => ⟨putV_mem n acc x, fun h => by
      obtain ⟨h1, y, h2, h3⟩ := putV_has n acc
      rcases h with rfl | h
      · have hy : saneV y = true := by
          rcases putV_mem x acc y h2 with rfl | h
          · exact hn
          · exact ha y h
        have e := txV_inj hy hn h3
        rw [e] at h2
        exact h2
      · exact h1 x h⟩
    obtain ⟨h1, h2, h3⟩ := cl_fold l (putV n acc) (putV_rise n acc hr) (fun x hx => by
      rcases (hp x).1 hx with rfl | hx
      · exact hn
      · exact ha x hx) (fun x hx => hl x (List.mem_cons_of_mem _ hx))
    have := putV_len n acc
    refine ⟨h1, by simp only [List.foldl_cons, List.length_cons]; omega, fun x => ?_⟩
    rw [List.foldl_cons, h3, hp, List.mem_cons]
    constructor
    · rintro ((h | h) | h)
      · exact .inr (.inl h)
      · exact .inl h
      · exact .inr (.inr h)
    · rintro (h | h | h)
      · exact .inl (.inr h)
      · exact .inl (.inl h)
      · exact .inr h
theorem clV_is {l : List S26} (hl : ∀ x, x ∈ l → saneV x = true) : rise (clV l) ∧ (clV l).length ≤ l.length ∧ ∀ x, x ∈ clV l ↔ x ∈ l := by
  obtain ⟨h1, h2, h3⟩ := cl_fold l [] List.Pairwise.nil (fun x h => by simp at h) hl
  exact ⟨h1, by simpa [clV] using h2, fun x => by rw [clV, h3]; simp⟩
abbrev tup (n : S26) : Int × Int × ByteArray × ByteArray × ByteArray × Bool × Bool × List S26 := (n.f0, n.f1.f0, n.f1.f1, n.f1.f2, n.f1.f3, n.f2, n.f3, n.f4)
def oneV (l : List S26) : S26 := if l.length = 1 then rd_T26 l 0 else ⟨2, ⟨0, ⟨#[]⟩, ⟨#[]⟩, ⟨#[]⟩⟩, false, false, l⟩
def cnV (n : S26) : S26 := if saneV n = true then (if n.f0 = 2 then oneV (clV (flV n)) else n) else ⟨0, ⟨0, ⟨#[]⟩, ⟨#[]⟩, ⟨#[]⟩⟩, false, false, []⟩
theorem rCanon_l0 (L : List S26) (hg : ∀ x, x ∈ L → goodN x) (hl : L.length ≤ 1048576) : ∀ (t p acc : List S26), p ++ t = L → acc.length ≤ p.length → (∀ x, x ∈ acc → goodN x) →
    Ev (fun k => lustrumref12_Canon.l0 k (p ++ t) acc (p.length : Int)) (tup (oneV (t.foldl (fun a n => putV n a) acc)))
  | [], p, acc, he, ha, hga => by
    rw [List.append_nil, List.foldl_nil]
    by_cases h1 : acc.length = 1
    · have e : oneV acc = rd_T26 acc 0 := by unfold oneV; rw [if_pos h1]
      rw [e]
      refine Ev.step (fun k => by rw [lustrumref12_Canon.l0, if_neg (by omega), if_pos (by omega), if_pos (by omega)]) ?_
      exact Ev.now _
    · have e : oneV acc = ⟨2, ⟨0, ⟨#[]⟩, ⟨#[]⟩, ⟨#[]⟩⟩, false, false, acc⟩ := by unfold oneV; rw [if_neg h1]
      rw [e]
      refine Ev.step (fun k => by rw [lustrumref12_Canon.l0, if_neg (by omega), if_neg (by omega)]) ?_
      exact Ev.now _
  | x :: t, p, acc, he, ha, hga => by
    have hx := hg x (by rw [← he]; simp)
    have hpl : p.length + 1 ≤ L.length := by rw [← he, List.length_append, List.length_cons]; omega
    have hq : (p ++ x :: t).length ≤ 4611686018427387904 := by rw [he]; omega
    refine Ev.step (f := fun k => (lustrumref12_put.f k acc x.f0 x.f1.f0 x.f1.f1 x.f1.f2 x.f1.f3 x.f2 x.f3 x.f4).bind fun u => lustrumref12_Canon.l0 k (p ++ x :: t) u ((p ++ [x]).length : Int)) (fun k => by rw [lustrumref12_Canon.l0, if_pos (at_lt p x t), if_pos (at_0 p), at_rd26, at_next hq]) ?_
    refine Ev.bind (put_f x hx acc hga (by omega)) ?_
    have h2 := putV_len x acc
    have := rCanon_l0 L hg hl t (p ++ [x]) (putV x acc) (by rw [← at_app]; exact he) (by rw [List.length_append, List.length_singleton]; omega) (fun y hy => by
      rcases putV_mem x acc y hy with rfl | hy
      · exact hx
      · exact hga y hy)
    rw [← at_app] at this
    exact this
theorem flV_good {n : S26} (hw : wfN n) (hb : nd n ≤ 1048576) : ∀ x, x ∈ flV n → goodN x := fun x hx => by
  obtain ⟨h1, h2⟩ := flV_wf _ n (Nat.le_refl _) hw x hx
  exact ⟨h1, by omega⟩
theorem rCanon_t (n : S26) (hw : wfN n) (hb : nd n ≤ 1048576) : Ev (fun k => lustrumref12_Canon.f k n.f0 n.f1.f0 n.f1.f1 n.f1.f2 n.f1.f3 n.f2 n.f3 n.f4) (tup (cnV n)) := by
  refine Ev.bind (rSane_f10 n hw (by omega)) ?_
  unfold cnV
  cases hv : saneV n with
  | false =>
    rw [if_neg (by simp)]
    exact Ev.iff_ (by simp) (Ev.now _)
  | true =>
    rw [if_pos rfl]
    refine Ev.ift rfl ?_
    by_cases c : n.f0 = 2
    · rw [if_pos c]
      refine Ev.ift c (Ev.bind (rflat_f _ n (Nat.le_refl _) hb) ?_)
      have hl := flV_len _ n (Nat.le_refl _)
      exact rCanon_l0 (flV n) (flV_good hw hb) (by omega) (flV n) [] [] rfl (Nat.le_refl _) (fun x h => by simp at h)
    · rw [if_neg c]
      exact Ev.iff_ c (Ev.now _)
noncomputable def lsK (x y : KE) : Bool := Op.bytesLess (tyT x.nd).toList (tyT y.nd).toList
def gK (l : List KE) (i : Nat) : KE := l.getD i zKE
theorem rd_gK (l : List KE) (i : Nat) : rdOf zKE l (i : Int) = gK l i := rfl
def Hp (l : List KE) (a e : Nat) : Prop := ∀ i c, a ≤ i → i ≠ e → (c = 2 * i + 1 ∨ c = 2 * i + 2) → c < l.length → lsK (gK l c) (gK l i) = false
def Gp (l : List KE) (a e : Nat) : Prop := ∀ p c, a ≤ p → (e = 2 * p + 1 ∨ e = 2 * p + 2) → (c = 2 * e + 1 ∨ c = 2 * e + 2) → c < l.length → lsK (gK l c) (gK l p) = false
def Hf (l : List KE) (a : Nat) : Prop := ∀ i c, a ≤ i → (c = 2 * i + 1 ∨ c = 2 * i + 2) → c < l.length → lsK (gK l c) (gK l i) = false
open Classical in
noncomputable def pickK (l : List KE) (j e : Nat) : Nat := if j < l.length ∧ lsK (gK l j) (gK l e) = true then j else e
noncomputable def lstK (l : List KE) (at_ : Nat) : Nat := pickK l (2 * at_ + 2) (pickK l (2 * at_ + 1) at_)
theorem wrapIn (n : Int) (h : -9223372036854775808 ≤ n ∧ n ≤ 9223372036854775807) : wrap64 n = n := by unfold wrap64; omega
theorem lst_spec (l : List KE) (a : Nat) : (lstK l a = a ∧ ∀ c, (c = 2 * a + 1 ∨ c = 2 * a + 2) → c < l.length → lsK (gK l c) (gK l a) = false) ∨
    ((lstK l a = 2 * a + 1 ∨ lstK l a = 2 * a + 2) ∧ lstK l a < l.length ∧ lsK (gK l (lstK l a)) (gK l a) = true ∧ ∀ c, (c = 2 * a + 1 ∨ c = 2 * a + 2) → c < l.length → lsK (gK l c) (gK l (lstK l a)) = false) := by
  unfold lstK
  by_cases h1 : 2 * a + 1 < l.length ∧ lsK (gK l (2 * a + 1)) (gK l a) = true
  · have e1 : pickK l (2 * a + 1) a = 2 * a + 1 := if_pos h1
    rw [e1]
    by_cases h2 : 2 * a + 2 < l.length ∧ lsK (gK l (2 * a + 2)) (gK l (2 * a + 1)) = true
    · have e2 : pickK l (2 * a + 2) (2 * a + 1) = 2 * a + 2 := if_pos h2
      rw [e2]
      refine .inr ⟨.inr rfl, h2.1, bl_trans h2.2 h1.2, fun c hc hl => ?_⟩
      rcases hc with rfl | rfl
      · exact bl_asym h2.2
      · exact bl_irr _
    · have e2 : pickK l (2 * a + 2) (2 * a + 1) = 2 * a + 1 := if_neg h2
      rw [e2]
      refine .inr ⟨.inl rfl, h1.1, h1.2, fun c hc hl => ?_⟩
      rcases hc with rfl | rfl
      · exact bl_irr _
      · simpa using fun h => h2 ⟨hl, h⟩
  · have e1 : pickK l (2 * a + 1) a = a := if_neg h1
    rw [e1]
    by_cases h2 : 2 * a + 2 < l.length ∧ lsK (gK l (2 * a + 2)) (gK l a) = true
    · have e2 : pickK l (2 * a + 2) a = 2 * a + 2 := if_pos h2
      rw [e2]
      refine .inr ⟨.inr rfl, h2.1, h2.2, fun c hc hl => ?_⟩
      rcases hc with rfl | rfl
      · have h3 : lsK (gK l (2 * a + 1)) (gK l a) = false := by simpa using fun h => h1 ⟨hl, h⟩
        exact bl_le_trans (bl_asym h2.2) h3
      · exact bl_irr _
    · have e2 : pickK l (2 * a + 2) a = a := if_neg h2
      rw [e2]
      refine .inl ⟨rfl, fun c hc hl => ?_⟩
      rcases hc with rfl | rfl
      · simpa using fun h => h1 ⟨hl, h⟩
      · simpa using fun h => h2 ⟨hl, h⟩
theorem l1_step (l : List KE) (hn : l.length ≤ 2097152) (a e j i : Nat) (js : List Int) (hj : j ≤ 4194305) (hi : i < js.length) (hjs : js.length = 2) (hr : rd js (i : Int) = (j : Int)) (he : e ≤ j) {r : List KE}
    (h : Ev (fun k => canon_sink.l1 k l (a : Int) ((pickK l j e : Nat) : Int) js 2 ((i + 1 : Nat) : Int)) r) : Ev (fun k => canon_sink.l1 k l (a : Int) (e : Int) js 2 (i : Int)) r := by
  have hw : wrap64 ((i : Int) + 1) = ((i + 1 : Nat) : Int) := by
    rw [wrapIn _ ⟨by omega, by omega⟩]; omega
  by_cases hjl : j < l.length
  · have hel : e < l.length := by omega
    refine Ev.step (f := fun k => if lsK (gK l j) (gK l e) = true then canon_sink.l1 k l (a : Int) (j : Int) js 2 ((i + 1 : Nat) : Int) else canon_sink.l1 k l (a : Int) (e : Int) js 2 ((i + 1 : Nat) : Int)) (fun k => by
      rw [canon_sink.l1, if_pos (by omega), if_pos (by omega), if_pos (by omega), hr, if_pos (by omega), if_pos (by omega)]
      simp only [canon_element_key.f, Option.bind_some]
      rw [if_pos (by omega), if_pos (by omega), rd_gK, rd_gK, hw]
      rfl) ?_
    by_cases h1 : lsK (gK l j) (gK l e) = true
    · have e1 : pickK l j e = j := if_pos ⟨hjl, h1⟩
      rw [e1] at h
      exact Ev.ift h1 h
    · have e1 : pickK l j e = e := if_neg (fun h => h1 h.2)
      rw [e1] at h
      exact Ev.iff_ h1 h
  · have e1 : pickK l j e = e := if_neg (fun h => hjl h.1)
    rw [e1] at h
    refine Ev.step (fun k => by rw [canon_sink.l1, if_pos (by omega), if_pos (by omega), if_pos (by omega), hr, if_neg (by omega), hw]) h
theorem pick_le (l : List KE) (j e : Nat) (h : e ≤ j) : pickK l j e ≤ j := by
  unfold pickK
  split <;> omega
theorem sink_round (l : List KE) (hn : l.length ≤ 2097152) (a : Nat) (ha : a ≤ 2097151) {r : List KE}
    (h1 : lstK l a = a → r = l) (h2 : lstK l a ≠ a → Ev (fun k => canon_sink.l0 k ((l.set a (gK l (lstK l a))).set (lstK l a) (gK l a)) ((lstK l a : Nat) : Int)) r) :
    Ev (fun k => canon_sink.l0 k l (a : Int)) r := by
  have w1 : wrap64 ((wrap64 (2 * (a : Int))) + 1) = ((2 * a + 1 : Nat) : Int) := by
    rw [wrapIn (2 * (a : Int)) ⟨by omega, by omega⟩, wrapIn _ ⟨by omega, by omega⟩]; omega
  have w2 : wrap64 ((wrap64 (2 * (a : Int))) + 2) = ((2 * a + 2 : Nat) : Int) := by
    rw [wrapIn (2 * (a : Int)) ⟨by omega, by omega⟩, wrapIn _ ⟨by omega, by omega⟩]; omega
  refine Ev.step (f := fun k => canon_sink.l1 k l (a : Int) (a : Int) [((2 * a + 1 : Nat) : Int), ((2 * a + 2 : Nat) : Int)] 2 ((0 : Nat) : Int)) (fun k => by rw [canon_sink.l0, w1, w2]; rfl) ?_
  refine l1_step l hn a a (2 * a + 1) 0 _ (by omega) (by simp) (by simp) rfl (by omega) ?_
  refine l1_step l hn a _ (2 * a + 2) 1 _ (by omega) (by simp) (by simp) rfl (Nat.le_trans (pick_le l _ _ (by omega)) (by omega)) ?_
  show Ev (fun k => canon_sink.l1 k l (a : Int) ((lstK l a : Nat) : Int) _ 2 ((1 + 1 : Nat) : Int)) r
  by_cases h : lstK l a = a
  · rw [h1 h]
    refine Ev.step (fun k => by rw [canon_sink.l1, if_neg (by omega), if_pos (by omega)]) ?_
    exact Ev.now _
  · rcases lst_spec l a with ⟨e, _⟩ | ⟨hc, hl, _⟩
    · exact absurd e h
    · refine Ev.step (fun k => by rw [canon_sink.l1, if_neg (by omega), if_neg (by omega), if_pos (by omega), if_pos (by omega), if_pos (by omega), if_pos (by omega), rd_gK, rd_gK, Int.toNat_natCast, Int.toNat_natCast]) (h2 h)
theorem gK_set (l : List KE) (a : Nat) (x : KE) (ha : a < l.length) (i : Nat) : gK (l.set a x) i = if i = a then x else gK l i := by
  unfold gK
  rw [List.getD_eq_getElem?_getD, List.getD_eq_getElem?_getD, List.getElem?_set]
  by_cases h : a = i
  · subst h
    rw [if_pos rfl, if_pos ha, if_pos rfl]
    rfl
  · rw [if_neg h, if_neg (Ne.symm h)]
theorem gK_get (l : List KE) (a : Nat) (ha : a < l.length) : gK l a = l[a] := by
  unfold gK
  rw [List.getD_eq_getElem?_getD, List.getElem?_eq_getElem ha]
  rfl
theorem swap_mem (l : List KE) (a b : Nat) (ha : a < l.length) (hb : b < l.length) (x : KE) : x ∈ (l.set a (gK l b)).set b (gK l a) ↔ x ∈ l := by
  rw [gK_get l a ha, gK_get l b hb]
  exact (List.set_set_perm ha hb).mem_iff
theorem sink_f (a0 : Nat) : ∀ (m : Nat) (l : List KE) (a : Nat), l.length ≤ a + m → l.length ≤ 2097152 → a ≤ 2097151 → a0 ≤ a → Hp l a0 a → Gp l a0 a →
    ∃ l', Ev (fun k => canon_sink.l0 k l (a : Int)) l' ∧ l'.length = l.length ∧ (∀ x, x ∈ l' ↔ x ∈ l) ∧ Hf l' a0 := by
  intro m
  induction m with
  | zero =>
    intro l a hm hn ha h0 hp hg
    rcases lst_spec l a with ⟨e, hs⟩ | ⟨hc, hl, _⟩
    · refine ⟨l, sink_round l hn a ha (fun _ => rfl) (fun h => absurd e h), rfl, fun _ => Iff.rfl, fun i c hi hc hcl => ?_⟩
      by_cases hia : i = a
      · subst hia; exact hs c hc hcl
      · exact hp i c hi hia hc hcl
    · omega
  | succ m ih =>
    intro l a hm hn ha h0 hp hg
    rcases lst_spec l a with ⟨e, hs⟩ | ⟨hc, hl, hless, hs⟩
    · refine ⟨l, sink_round l hn a ha (fun _ => rfl) (fun h => absurd e h), rfl, fun _ => Iff.rfl, fun i c hi hc hcl => ?_⟩
      by_cases hia : i = a
      · subst hia; exact hs c hc hcl
      · exact hp i c hi hia hc hcl
    · generalize hd : lstK l a = d at hc hl hless hs
      have hal : a < l.length := by omega
      have hne : d ≠ a := by omega
      have hg2 : ∀ i, gK ((l.set a (gK l d)).set d (gK l a)) i = if i = d then gK l a else if i = a then gK l d else gK l i := fun i => by
        rw [gK_set _ d _ (by rw [List.length_set]; exact hl), gK_set _ a _ hal]
      have hlen : ((l.set a (gK l d)).set d (gK l a)).length = l.length := by rw [List.length_set, List.length_set]
      obtain ⟨l', h1, h2, h3, h4⟩ := ih ((l.set a (gK l d)).set d (gK l a)) d (by rw [hlen]; omega) (by rw [hlen]; exact hn) (by omega) (by omega)
        (fun i c hi hid hic hcl => by
          rw [hlen] at hcl
          rw [hg2 c, hg2 i, if_neg hid]
          by_cases hia : i = a
          · rw [if_pos hia]
            subst hia
            by_cases hcd : c = d
            · rw [if_pos hcd]; exact bl_asym hless
            · rw [if_neg hcd, if_neg (by omega)]
              exact hs c hic hcl
          · rw [if_neg hia, if_neg (show c ≠ d by omega)]
            by_cases hca : c = a
            · rw [if_pos hca]
              subst hca
              exact hg i d hi hic hc hl
            · rw [if_neg hca]
              exact hp i c hi hia hic hcl)
        (fun p c hpa hdp hcd hcl => by
          rw [hlen] at hcl
          have hpa' : p = a := by omega
          subst hpa'
          rw [hg2 c, hg2 p, if_neg (by omega), if_neg (by omega), if_neg (by omega), if_pos rfl]
          exact hp d c (by omega) hne hcd hcl)
      refine ⟨l', sink_round l hn a ha (fun h => absurd (hd ▸ h) hne) (fun _ => by rw [hd]; exact h1), by rw [h2, hlen], fun x => ?_, h4⟩
      rw [h3]
      exact swap_mem l a d hal hl x
noncomputable abbrev keyK (x : KE) : List UInt8 := (tyT x.nd).toList
theorem rise_heap (l0 : List KE) (hn : l0.length ≤ 2097152) : ∀ (j : Nat) (l : List KE), l.length = l0.length → (∀ x, x ∈ l ↔ x ∈ l0) → j ≤ 1048577 → Hf l j →
    ∃ l', l'.length = l0.length ∧ (∀ x, x ∈ l' ↔ x ∈ l0) ∧ Hf l' 0 ∧ ∀ r, Ev (fun k => canonK_rising.l1 k l' [] ⟨#[]⟩) r → Ev (fun k => canonK_rising.l0 k l ((j : Int) - 1)) r := by
  intro j
  induction j with
  | zero =>
    intro l hl hm _ hf
    refine ⟨l, hl, hm, hf, fun r h => ?_⟩
    exact Ev.step (fun k => by rw [canonK_rising.l0, if_neg (by omega)]) h
  | succ j ih =>
    intro l hl hm hj hf
    obtain ⟨l1, h1, h2, h3, h4⟩ := sink_f j l.length l j (by omega) (by omega) (by omega) (Nat.le_refl _) (fun i c hi hne hc hcl => hf i c (by omega) hc hcl) (fun p c hp he _ _ => by omega)
    obtain ⟨l', g1, g2, g3, g4⟩ := ih l1 (by omega) (fun x => by rw [h3, hm]) (by omega) h4
    refine ⟨l', g1, g2, g3, fun r h => ?_⟩
    have e1 : ((j + 1 : Nat) : Int) - 1 = (j : Int) := by omega
    rw [e1]
    refine Ev.step (f := fun k => (canon_sink.f k l (j : Int)).bind fun t => canonK_rising.l0 k t ((j : Int) - 1)) (fun k => by rw [canonK_rising.l0, if_pos (by omega), wrapIn _ ⟨by omega, by omega⟩]) ?_
    exact Ev.bind h1 (g4 r h)
theorem heap_min {l : List KE} (hf : Hf l 0) : ∀ (m i : Nat), i ≤ m → i < l.length → lsK (gK l i) (gK l 0) = false := by
  intro m
  induction m with
  | zero => intro i hi _; have : i = 0 := by omega
            subst this; exact bl_irr _
  | succ m ih =>
    intro i hi hl
    by_cases h0 : i = 0
    · subst h0; exact bl_irr _
    · have h1 := hf ((i - 1) / 2) i (Nat.zero_le _) (by omega) hl
      have h2 := ih ((i - 1) / 2) (by omega) (by omega)
      exact bl_le_trans h2 h1
theorem gK_mem {l : List KE} {i : Nat} (h : i < l.length) : gK l i ∈ l := by rw [gK_get l i h]; exact List.getElem_mem h
theorem mem_gK {l : List KE} {x : KE} (h : x ∈ l) : ∃ i, i < l.length ∧ gK l i = x := by
  obtain ⟨i, hi, e⟩ := List.getElem_of_mem h
  exact ⟨i, hi, by rw [gK_get l i hi]; exact e⟩
noncomputable def cutK (l : List KE) : List KE := (l.set 0 (gK l (l.length - 1))).take (l.length - 1)
theorem cut_len (l : List KE) : (cutK l).length = l.length - 1 := by unfold cutK; rw [List.length_take, List.length_set]; omega
theorem cut_gK (l : List KE) (i : Nat) (hi : i < l.length - 1) : gK (cutK l) i = if i = 0 then gK l (l.length - 1) else gK l i := by
  rw [← gK_set l 0 (gK l (l.length - 1)) (by omega) i]
  unfold gK cutK
  rw [List.getD_eq_getElem?_getD, List.getD_eq_getElem?_getD, List.getElem?_take, if_pos hi]
  rfl
theorem cut_mem (l : List KE) (h : 0 < l.length) (x : KE) : (x ∈ cutK l → x ∈ l) ∧ (x ∈ l → x = gK l 0 ∨ x ∈ cutK l) := by
  constructor
  · intro hx
    obtain ⟨i, hi, rfl⟩ := mem_gK hx
    rw [cut_len] at hi
    rw [cut_gK l i hi]
    split
    · exact gK_mem (by omega)
    · exact gK_mem (by omega)
  · intro hx
    obtain ⟨i, hi, rfl⟩ := mem_gK hx
    by_cases h0 : i = 0
    · subst h0; exact .inl rfl
    · refine .inr ?_
      by_cases h1 : i = l.length - 1
      · have h2 : 0 < (cutK l).length := by rw [cut_len]; omega
        have h3 := gK_mem h2
        rw [cut_gK l 0 (by omega), if_pos rfl, ← h1] at h3
        exact h3
      · have h2 : i < (cutK l).length := by rw [cut_len]; omega
        have h3 := gK_mem h2
        rw [cut_gK l i (by omega), if_neg h0] at h3
        exact h3
theorem cut_heap {l : List KE} (hf : Hf l 0) : Hp (cutK l) 0 0 := fun i c _ h0 hc hcl => by
  rw [cut_len] at hcl
  rw [cut_gK l c hcl, cut_gK l i (by omega), if_neg h0, if_neg (by omega)]
  exact hf i c (Nat.zero_le _) hc (by omega)
theorem rise_l1 : ∀ (n : Nat) (l out : List KE) (last : ByteArray), l.length = n → out.length + n ≤ 2097152 → Hf l 0 → out.Pairwise (fun a b => lsK a b = true) → (∀ y, y ∈ out → Op.bytesLess last.toList (keyK y) = false) →
    (last.toList ≠ [] → ∃ y, y ∈ out ∧ keyK y = last.toList) → (∀ x, x ∈ l → Op.bytesLess (keyK x) last.toList = false) → (∀ x, x ∈ l → keyK x ≠ []) →
    ∃ r, Ev (fun k => canonK_rising.l1 k l out last) r ∧ r.Pairwise (fun a b => lsK a b = true) ∧ (∀ x, x ∈ r → x ∈ l ∨ x ∈ out) ∧ (∀ x, x ∈ l ∨ x ∈ out → ∃ y, y ∈ r ∧ keyK y = keyK x) := by
  intro n
  induction n with
  | zero =>
    intro l out last hl hb hf hp _ _ _ _
    have e : l = [] := List.eq_nil_of_length_eq_zero hl
    subst e
    refine ⟨out, Ev.step (fun k => by rw [canonK_rising.l1, if_neg (by simp)]) (Ev.now _), hp, fun x h => .inr h, fun x h => ?_⟩
    rcases h with h | h
    · simp at h
    · exact ⟨x, h, rfl⟩
  | succ n ih =>
    intro l out last hl hb hf hp hlo hla hge hne
    have h0 : gK l 0 ∈ l := gK_mem (by omega)
    have w1 : wrap64 ((l.length : Int) - 1) = ((n : Nat) : Int) := by rw [wrapIn _ ⟨by omega, by omega⟩]; omega
    obtain ⟨l2, s1, s2, s3, s4⟩ := sink_f 0 (cutK l).length (cutK l) 0 (by omega) (by rw [cut_len]; omega) (by omega) (Nat.le_refl _) (cut_heap hf) (fun p c _ he _ _ => by omega)
    have hl2 : l2.length = n := by rw [s2, cut_len]; omega
    have hcut : ((l.set (0 : Int).toNat (rdOf zKE l ((n : Nat) : Int))).take ((n : Nat) : Int).toNat) = cutK l := by
      unfold cutK
      rw [rd_gK, Int.toNat_natCast, hl]
      rfl
    have hmin : ∀ x, x ∈ l → Op.bytesLess (keyK x) (keyK (gK l 0)) = false := fun x hx => by
      obtain ⟨i, hi, rfl⟩ := mem_gK hx
      exact heap_min hf i i (Nat.le_refl _) hi
    have hsub : ∀ x, x ∈ l2 → x ∈ l := fun x hx => (cut_mem l (by omega) x).1 ((s3 x).1 hx)
    by_cases he : (tyT (gK l 0).nd).toList = last.toList
    · obtain ⟨r, r1, r2, r3, r4⟩ := ih l2 out last hl2 (by omega) s4 hp hlo hla (fun x hx => hge x (hsub x hx)) (fun x hx => hne x (hsub x hx))
      refine ⟨r, ?_, r2, fun x hx => (r3 x hx).imp (hsub x) id, fun x hx => ?_⟩
      · refine Ev.step (f := fun k => (canon_sink.f k (cutK l) 0).bind fun t => canonK_rising.l1 k t out last) (fun k => by
          rw [canonK_rising.l1, if_pos (by omega), if_pos (by omega)]
          simp only [canon_element_key.f, Option.bind_some]
          rw [show rdOf zKE l 0 = gK l 0 from rfl, if_pos he, w1, if_pos (by omega), if_pos (by omega), if_pos (by omega), hcut]) ?_
        exact Ev.bind s1 r1
      · rcases hx with hx | hx
        · rcases (cut_mem l (by omega) x).2 hx with rfl | hx
          · obtain ⟨y, hy, e⟩ := hla (fun e => hne _ h0 (he.trans e))
            obtain ⟨z, hz, e2⟩ := r4 y (.inr hy)
            exact ⟨z, hz, e2.trans (e.trans he.symm)⟩
          · exact r4 x (.inl ((s3 x).2 hx))
        · exact r4 x (.inr hx)
    · have hlt : Op.bytesLess last.toList (keyK (gK l 0)) = true := by
        cases h : Op.bytesLess last.toList (keyK (gK l 0)) with
        | true => rfl
        | false => exact absurd (bl_tri (hge _ h0) h) he
      obtain ⟨r, r1, r2, r3, r4⟩ := ih l2 (out ++ [gK l 0]) (tyT (gK l 0).nd) hl2 (by rw [List.length_append, List.length_singleton]; omega) s4
        (List.pairwise_append.2 ⟨hp, List.pairwise_singleton _ _, fun a ha b hb => by
          rw [List.mem_singleton.1 hb]
          exact bl_le_lt (hlo a ha) hlt⟩)
        (fun y hy => by
          rcases List.mem_append.1 hy with hy | hy
          · exact bl_asym (bl_le_lt (hlo y hy) hlt)
          · rw [List.mem_singleton.1 hy]; exact bl_irr _)
        (fun _ => ⟨gK l 0, by simp, rfl⟩) (fun x hx => hmin x (hsub x hx)) (fun x hx => hne x (hsub x hx))
      refine ⟨r, ?_, r2, fun x hx => ?_, fun x hx => ?_⟩
      · refine Ev.step (f := fun k => (canon_sink.f k (cutK l) 0).bind fun t => canonK_rising.l1 k t (out ++ [gK l 0]) (tyT (gK l 0).nd)) (fun k => by
          rw [canonK_rising.l1, if_pos (by omega), if_pos (by omega)]
          simp only [canon_element_key.f, Option.bind_some]
          rw [show rdOf zKE l 0 = gK l 0 from rfl, if_neg he, if_pos (by omega), w1, if_pos (by omega), if_pos (by omega), if_pos (by omega), hcut]) ?_
        exact Ev.bind s1 r1
      · rcases r3 x hx with h | h
        · exact .inl (hsub x h)
        · rcases List.mem_append.1 h with h | h
          · exact .inr h
          · rw [List.mem_singleton.1 h]; exact .inl h0
      · rcases hx with hx | hx
        · rcases (cut_mem l (by omega) x).2 hx with rfl | hx
          · exact r4 _ (.inr (by simp))
          · exact r4 x (.inl ((s3 x).2 hx))
        · exact r4 x (.inr (List.mem_append_left _ hx))
theorem no_bytes : (⟨#[]⟩ : ByteArray).toList = [] := by rw [ba_toList]
theorem rising_f (l : List KE) (hn : l.length ≤ 2097152) (hne : ∀ x, x ∈ l → keyK x ≠ []) :
    ∃ r, Ev (fun k => canonK_rising.f k l) r ∧ r.Pairwise (fun a b => lsK a b = true) ∧ (∀ x, x ∈ r → x ∈ l) ∧ (∀ x, x ∈ l → ∃ y, y ∈ r ∧ keyK y = keyK x) := by
  have hw : wrap64 ((wrap64 ((l.length : Int) / 2)) - 1) = ((l.length / 2 : Nat) : Int) - 1 := by
    rw [wrapIn ((l.length : Int) / 2) ⟨by omega, by omega⟩, wrapIn _ ⟨by omega, by omega⟩]; omega
  obtain ⟨l', h1, h2, h3, h4⟩ := rise_heap l hn (l.length / 2) l rfl (fun _ => Iff.rfl) (by omega) (fun i c hi hc hcl => by omega)
  obtain ⟨r, r1, r2, r3, r4⟩ := rise_l1 l'.length l' [] ⟨#[]⟩ rfl (by simpa [h1] using hn) h3 List.Pairwise.nil (fun y h => by simp at h) (fun h => absurd no_bytes h) (fun x hx => by
    rw [no_bytes]
    cases keyK x <;> rfl) (fun x hx => hne x ((h2 x).1 hx))
  refine ⟨r, ?_, r2, fun x hx => ?_, fun x hx => r4 x (.inl ((h2 x).2 hx))⟩
  · unfold canonK_rising.f
    rw [hw]
    exact h4 r r1
  · rcases r3 x hx with h | h
    · exact (h2 x).1 h
    · simp at h
end Go.Proofs.Ytfehdlkklfcnpaa.A
namespace Go.Proofs.Ytfehdlkklfcnpaa.A
open Go.RowKit Go.Proofs.YtfehdlkklfcnpaaW.PrintWords Go.Proofs.YtfehdlkklfcnpaaW.PrintLast Go.Proofs.YtfehdlkklfcnpaaW.PrintMore
attribute [local go_sem] max2_int min2_int max_two min_two max_three min_three max_four min_four
noncomputable def canon_Canon.f (k : Nat) (a0_0 : Int) (a0_1 : Int) (a0_2 : ByteArray) (a0_3 : ByteArray) (a0_4 : ByteArray) (a0_5 : Bool) (a0_6 : Bool) (l0_7 : List (S26)) : Option (Int × Int × ByteArray × ByteArray × ByteArray × Bool × Bool × (List (S26))) := (tree_Sane.f k a0_0 a0_1 a0_2 a0_3 a0_4 a0_5 a0_6 l0_7).bind fun t214 => (if t214 = true then (if a0_0 = 2 then ((canon_rising.f k a0_0 a0_1 a0_2 a0_3 a0_4 a0_5 a0_6 l0_7).bind fun t218 => (if (t218.length : Int) = 1 then (if 0 < (t218.length : Int) then (some ((rd_T26 t218 0).f0, (rd_T26 t218 0).f1.f0, (rd_T26 t218 0).f1.f1, (rd_T26 t218 0).f1.f2, (rd_T26 t218 0).f1.f3, (rd_T26 t218 0).f2, (rd_T26 t218 0).f3, (rd_T26 t218 0).f4)) else (none)) else ((tree_OneOf.f t218).bind fun bt222 => (some (bt222.1, bt222.2.1, bt222.2.2.1, bt222.2.2.2.1, bt222.2.2.2.2.1, bt222.2.2.2.2.2.1, bt222.2.2.2.2.2.2.1, bt222.2.2.2.2.2.2.2))))) else ((slices_Clone.f l0_7).bind fun t215 => (some (a0_0, a0_1, a0_2, a0_3, a0_4, a0_5, a0_6, t215)))) else (some (0, 0, (⟨#[]⟩ : ByteArray), (⟨#[]⟩ : ByteArray), (⟨#[]⟩ : ByteArray), false, false, ([] : List (S26)))))
theorem canon_Canon.mono : ∀ a0 a1 a2 a3 a4 a5 a6 a7 k, LeO (canon_Canon.f k a0 a1 a2 a3 a4 a5 a6 a7) (canon_Canon.f (k + 1) a0 a1 a2 a3 a4 a5 a6 a7) := by
  intro a0 a1 a2 a3 a4 a5 a6 a7 k
  unfold canon_Canon.f
  repeat' (with_reducible first | apply canon_rising.mono | apply tree_Sane.mono | exact LeO.refl _ | exact LeO.none _ | refine LeO.ite ?_ ?_ | refine LeO.bind ?_ fun _ => ?_)
noncomputable def canon_Is.f (k : Nat) (a0_0 : Int) (a0_1 : Int) (a0_2 : ByteArray) (a0_3 : ByteArray) (a0_4 : ByteArray) (a0_5 : Bool) (a0_6 : Bool) (l0_7 : List (S26)) : Option (Bool) := (tree_Sane.f k a0_0 a0_1 a0_2 a0_3 a0_4 a0_5 a0_6 l0_7).bind fun t233 => (if t233 = true then ((canon_Canon.f k a0_0 a0_1 a0_2 a0_3 a0_4 a0_5 a0_6 l0_7).bind fun bt234 => ((tree_Same.f k bt234.1 bt234.2.1 bt234.2.2.1 bt234.2.2.2.1 bt234.2.2.2.2.1 bt234.2.2.2.2.2.1 bt234.2.2.2.2.2.2.1 bt234.2.2.2.2.2.2.2 a0_0 a0_1 a0_2 a0_3 a0_4 a0_5 a0_6 l0_7).bind fun t244 => (some t244))) else (some false))
theorem canon_Is.mono : ∀ a0 a1 a2 a3 a4 a5 a6 a7 k, LeO (canon_Is.f k a0 a1 a2 a3 a4 a5 a6 a7) (canon_Is.f (k + 1) a0 a1 a2 a3 a4 a5 a6 a7) := by
  intro a0 a1 a2 a3 a4 a5 a6 a7 k
  unfold canon_Is.f
  repeat' (with_reducible first | apply canon_Canon.mono | apply tree_Same.mono | apply tree_Sane.mono | exact LeO.refl _ | exact LeO.none _ | refine LeO.ite ?_ ?_ | refine LeO.bind ?_ fun _ => ?_)
def lustrumref12_Is.f (k : Nat) (a0_0 : Int) (a0_1 : Int) (a0_2 : ByteArray) (a0_3 : ByteArray) (a0_4 : ByteArray) (a0_5 : Bool) (a0_6 : Bool) (l0_7 : List (S26)) : Option (Bool) := (lustrumref10_Sane.f k a0_0 a0_1 a0_2 a0_3 a0_4 a0_5 a0_6 l0_7).bind fun t427 => (if t427 = true then ((lustrumref12_Canon.f k a0_0 a0_1 a0_2 a0_3 a0_4 a0_5 a0_6 l0_7).bind fun bt428 => ((lustrumref10_Same.f k bt428.1 bt428.2.1 bt428.2.2.1 bt428.2.2.2.1 bt428.2.2.2.2.1 bt428.2.2.2.2.2.1 bt428.2.2.2.2.2.2.1 bt428.2.2.2.2.2.2.2 a0_0 a0_1 a0_2 a0_3 a0_4 a0_5 a0_6 l0_7).bind fun t438 => (some t438))) else (some false))
theorem key_mk {x : S26} (h : goodN x) : keyK (mkK x) = txV x := by
  show (tyT x).toList = txV x
  rw [tyT_txV x h.1 h.2, bA_toList]
theorem Clone_e (l : List S26) (h : l.length < 1466015503701) : slices_Clone.f l = some l := by rw [slices_Clone.f, if_pos h]
theorem risingN_f (l : List S26) (hn : l.length ≤ 2097152) (hg : ∀ x, x ∈ l → goodN x) (hs : ∀ x, x ∈ l → saneV x = true) : Ev (fun k => risingN k l) (clV l) := by
  have hm : ∀ y, y ∈ l.map mkK → y.nd ∈ l ∧ y = mkK y.nd := fun y hy => by
    obtain ⟨x, hx, rfl⟩ := List.mem_map.1 hy
    exact ⟨hx, rfl⟩
  have hk : ∀ y, y ∈ l.map mkK → keyK y = txV y.nd := fun y hy => by
    obtain ⟨h1, h2⟩ := hm y hy
    rw [h2]
    exact key_mk (hg _ h1)
  obtain ⟨r, h1, h2, h3, h4⟩ := rising_f (l.map mkK) (by rw [List.length_map]; exact hn) (fun x hx => by
    rw [hk x hx]
    have hsx := hs _ (hm x hx).1
    have := tx_pos (sane_rt hsx).2.2
    unfold txV
    rw [if_pos hsx]
    intro e
    rw [e] at this
    simp at this)
  obtain ⟨c1, c2, c3⟩ := clV_is hs
  have e : r.map KE.nd = clV l := by
    refine rise_only _ _ ?_ c1 (fun x => ?_)
    · unfold rise
      rw [List.pairwise_map]
      refine h2.imp_of_mem (fun {a b} ha hb hab => ?_)
      have hab' : Op.bytesLess (keyK a) (keyK b) = true := hab
      rw [hk a (h3 a ha), hk b (h3 b hb)] at hab'
      exact hab'
    · rw [c3]
      constructor
      · intro hx
        obtain ⟨y, hy, rfl⟩ := List.mem_map.1 hx
        exact (hm y (h3 y hy)).1
      · intro hx
        obtain ⟨y, hy, e⟩ := h4 (mkK x) (List.mem_map.2 ⟨x, hx, rfl⟩)
        have hy2 := hm y (h3 y hy)
        rw [hk y (h3 y hy), key_mk (hg x hx)] at e
        have e2 : y.nd = x := txV_inj (hs _ hy2.1) (hs x hx) e
        exact List.mem_map.2 ⟨y, hy, e2⟩
  obtain ⟨K, hK⟩ := h1
  refine ⟨K, fun k hk => ?_⟩
  show (canonK_rising.f k (l.map mkK)).map (fun r => r.map KE.nd) = some (clV l)
  have h5 : canonK_rising.f k (l.map mkK) = some r := hK k hk
  rw [h5, ← e]
  rfl
theorem flV_saneV {n : S26} (h : saneV n = true) : ∀ x, x ∈ flV n → saneV x = true := fun x hx => (flV_sane _ n (Nat.le_refl _) h x hx).1
theorem Canon_t (n : S26) (hw : wfN n) (hb : nd n ≤ 1048576) : Ev (fun k => canon_Canon.f k n.f0 n.f1.f0 n.f1.f1 n.f1.f2 n.f1.f3 n.f2 n.f3 n.f4) (tup (cnV n)) := by
  refine Ev.bind (tSane_f n hw (by omega)) ?_
  unfold cnV
  cases hv : saneV n with
  | false =>
    rw [if_neg (by simp)]
    exact Ev.iff_ (by simp) (Ev.now _)
  | true =>
    rw [if_pos rfl]
    refine Ev.ift rfl ?_
    by_cases c : n.f0 = 2
    · rw [if_pos c]
      have hl := flV_len _ n (Nat.le_refl _)
      have hgd := flV_good hw hb
      have hsn := flV_saneV hv
      obtain ⟨c1, c2, c3⟩ := clV_is hsn
      refine Ev.ift c (Ev.bind (Ev.bind (flat_f _ n (Nat.le_refl _) hb hw hv) (risingN_f (flV n) (by omega) hgd hsn)) ?_)
      by_cases h1 : (clV (flV n)).length = 1
      · have e : oneV (clV (flV n)) = rd_T26 (clV (flV n)) 0 := by unfold oneV; rw [if_pos h1]
        rw [e]
        exact Ev.ift (by omega) (Ev.ift (by omega) (Ev.now _))
      · have e : oneV (clV (flV n)) = ⟨2, ⟨0, ⟨#[]⟩, ⟨#[]⟩, ⟨#[]⟩⟩, false, false, clV (flV n)⟩ := by unfold oneV; rw [if_neg h1]
        rw [e]
        refine Ev.iff_ (by omega) (Ev.bnow (x := (2, 0, (⟨#[]⟩ : ByteArray), (⟨#[]⟩ : ByteArray), (⟨#[]⟩ : ByteArray), false, false, clV (flV n))) ?_ (Ev.now _))
        unfold tree_OneOf.f
        rw [Clone_e _ (by omega)]
        rfl
    · rw [if_neg c]
      have hn := nd_eq n
      have hlen := len_nd n.f4
      refine Ev.iff_ c (Ev.bnow (Clone_e _ (by omega)) (Ev.now _))
noncomputable def lustrumlaw12_awake.f (k : Nat)  : Option (Bool) := (tree_Of.f 3 (⟨#[49, 57, 56, 52]⟩ : ByteArray) (⟨#[]⟩ : ByteArray) (⟨#[]⟩ : ByteArray) false false).bind fun bt245 => ((tree_Of.f 3 (⟨#[49, 57, 56, 53]⟩ : ByteArray) (⟨#[]⟩ : ByteArray) (⟨#[]⟩ : ByteArray) false false).bind fun bt256 => ((tree_OneOf.f (([(⟨bt245.1, (⟨bt245.2.1, bt245.2.2.1, bt245.2.2.2.1, bt245.2.2.2.2.1⟩ : S23), bt245.2.2.2.2.2.1, bt245.2.2.2.2.2.2.1, bt245.2.2.2.2.2.2.2⟩ : S26), (⟨bt256.1, (⟨bt256.2.1, bt256.2.2.1, bt256.2.2.2.1, bt256.2.2.2.2.1⟩ : S23), bt256.2.2.2.2.2.1, bt256.2.2.2.2.2.2.1, bt256.2.2.2.2.2.2.2⟩ : S26)] : List (S26)))).bind fun bt270 => ((tree_OneOf.f (([(⟨bt256.1, (⟨bt256.2.1, bt256.2.2.1, bt256.2.2.2.1, bt256.2.2.2.2.1⟩ : S23), bt256.2.2.2.2.2.1, bt256.2.2.2.2.2.2.1, bt256.2.2.2.2.2.2.2⟩ : S26), (⟨bt270.1, (⟨bt270.2.1, bt270.2.2.1, bt270.2.2.2.1, bt270.2.2.2.2.1⟩ : S23), bt270.2.2.2.2.2.1, bt270.2.2.2.2.2.2.1, bt270.2.2.2.2.2.2.2⟩ : S26)] : List (S26)))).bind fun bt283 => ((canon_Canon.f k bt283.1 bt283.2.1 bt283.2.2.1 bt283.2.2.2.1 bt283.2.2.2.2.1 bt283.2.2.2.2.2.1 bt283.2.2.2.2.2.2.1 bt283.2.2.2.2.2.2.2).bind fun bt293 => ((print_Text.f k bt293.1 bt293.2.1 bt293.2.2.1 bt293.2.2.2.1 bt293.2.2.2.2.1 bt293.2.2.2.2.2.1 bt293.2.2.2.2.2.2.1 bt293.2.2.2.2.2.2.2).bind fun t304 => (if t304.toList = ([91, 49, 57, 56, 52, 44, 32, 49, 57, 56, 53, 93] : List UInt8) then ((canon_Is.f k bt293.1 bt293.2.1 bt293.2.2.1 bt293.2.2.2.1 bt293.2.2.2.2.1 bt293.2.2.2.2.2.1 bt293.2.2.2.2.2.2.1 bt293.2.2.2.2.2.2.2).bind fun t305 => (if t305 = true then ((tree_OneOf.f (([(⟨bt245.1, (⟨bt245.2.1, bt245.2.2.1, bt245.2.2.2.1, bt245.2.2.2.2.1⟩ : S23), bt245.2.2.2.2.2.1, bt245.2.2.2.2.2.2.1, bt245.2.2.2.2.2.2.2⟩ : S26)] : List (S26)))).bind fun bt309 => ((canon_Canon.f k bt309.1 bt309.2.1 bt309.2.2.1 bt309.2.2.2.1 bt309.2.2.2.2.1 bt309.2.2.2.2.2.1 bt309.2.2.2.2.2.2.1 bt309.2.2.2.2.2.2.2).bind fun bt319 => ((tree_Same.f k bt319.1 bt319.2.1 bt319.2.2.1 bt319.2.2.2.1 bt319.2.2.2.2.1 bt319.2.2.2.2.2.1 bt319.2.2.2.2.2.2.1 bt319.2.2.2.2.2.2.2 bt245.1 bt245.2.1 bt245.2.2.1 bt245.2.2.2.1 bt245.2.2.2.2.1 bt245.2.2.2.2.2.1 bt245.2.2.2.2.2.2.1 bt245.2.2.2.2.2.2.2).bind fun t329 => (some t329)))) else (some false))) else (some false)))))))
theorem lustrumlaw12_awake.mono : ∀ k, LeO (lustrumlaw12_awake.f k ) (lustrumlaw12_awake.f (k + 1) ) := by
  intro  k
  unfold lustrumlaw12_awake.f
  repeat' (with_reducible first | apply canon_Canon.mono | apply canon_Is.mono | apply print_Text.mono | apply tree_Same.mono | exact LeO.refl _ | exact LeO.none _ | refine LeO.ite ?_ ?_ | refine LeO.bind ?_ fun _ => ?_)
noncomputable def lustrumlaw12_CanonIs.f (k : Nat) (a0_0 : Int) (a0_1 : Int) (a0_2 : ByteArray) (a0_3 : ByteArray) (a0_4 : ByteArray) (a0_5 : Bool) (a0_6 : Bool) (l0_7 : List (S26)) : Option (Bool) := (lustrumlaw12_awake.f k).bind fun t440 => ((lustrumref10_Few.f k a0_0 a0_1 a0_2 a0_3 a0_4 a0_5 a0_6 l0_7).bind fun t441 => (if t441 = true then (if t440 = true then ((canon_Canon.f k a0_0 a0_1 a0_2 a0_3 a0_4 a0_5 a0_6 l0_7).bind fun bt442 => ((lustrumref12_Canon.f k a0_0 a0_1 a0_2 a0_3 a0_4 a0_5 a0_6 l0_7).bind fun bt452 => ((tree_Same.f k bt442.1 bt442.2.1 bt442.2.2.1 bt442.2.2.2.1 bt442.2.2.2.2.1 bt442.2.2.2.2.2.1 bt442.2.2.2.2.2.2.1 bt442.2.2.2.2.2.2.2 bt452.1 bt452.2.1 bt452.2.2.1 bt452.2.2.2.1 bt452.2.2.2.2.1 bt452.2.2.2.2.2.1 bt452.2.2.2.2.2.2.1 bt452.2.2.2.2.2.2.2).bind fun t462 => (if t462 = true then ((canon_Is.f k a0_0 a0_1 a0_2 a0_3 a0_4 a0_5 a0_6 l0_7).bind fun t463 => ((lustrumref12_Is.f k a0_0 a0_1 a0_2 a0_3 a0_4 a0_5 a0_6 l0_7).bind fun t464 => (some (t463 == t464)))) else (some false))))) else (some false)) else (some t440)))
theorem cn_wf {n : S26} (hw : wfN n) (hb : nd n ≤ 1048576) : wfN (cnV n) := by
  unfold cnV
  cases hv : saneV n with
  | false => rw [if_neg (by simp)]; exact wf_leaf _ _ _ _ (by decide) (by decide) (by decide)
  | true =>
    rw [if_pos rfl]
    by_cases c : n.f0 = 2
    · rw [if_pos c]
      have hl := flV_len _ n (Nat.le_refl _)
      obtain ⟨c1, c2, c3⟩ := clV_is (flV_saneV hv)
      have hg : ∀ x, x ∈ clV (flV n) → wfN x := fun x hx => (flV_good hw hb x ((c3 x).1 hx)).1
      unfold oneV
      split
      · next h1 =>
        cases e : clV (flV n) with
        | nil => rw [e] at h1; simp at h1
        | cons x t => exact hg x (by rw [e]; simp)
      · exact .mk _ (by show 0 ≤ _; omega) (by show 0 ≤ _; omega) (by show 0 ≤ _; omega) (by show (clV (flV n)).length ≤ _; omega) hg
    · rw [if_neg c]; exact hw
theorem CanonIs_t' (haw : Ev (fun k => lustrumlaw12_awake.f k) true) (n : S26) (hn : wfN n) (hb : nd n ≤ 1048576) : Ev (fun k => lustrumlaw12_CanonIs.f k n.f0 n.f1.f0 n.f1.f1 n.f1.f2 n.f1.f3 n.f2 n.f3 n.f4) true := by
  obtain ⟨b1, f1, _⟩ := rFew_f n hn
  refine Ev.bind haw (Ev.bind f1 ?_)
  have hc := cn_wf hn hb
  cases b1 with
  | false => exact Ev.iff_ (by simp) (Ev.now _)
  | true =>
    refine Ev.ift rfl (Ev.ift rfl (Ev.bind (Canon_t n hn hb) (Ev.bind (rCanon_t n hn hb) (Ev.bind (tSame_f _ (cnV n) (cnV n) (Nat.le_refl _) hc) (Ev.ift (sm_refl _ _ (Nat.le_refl _)) ?_)))))
    have hIs : Ev (fun k => canon_Is.f k n.f0 n.f1.f0 n.f1.f1 n.f1.f2 n.f1.f3 n.f2 n.f3 n.f4) (if saneV n = true then sm (cnV n) n else false) := by
      refine Ev.bind (tSane_f n hn (by omega)) (Ev.pick ?_ (Ev.now _))
      exact Ev.bind (Canon_t n hn hb) (Ev.bind (tSame_f _ (cnV n) n (Nat.le_refl _) hc) (Ev.now _))
    have hRs : Ev (fun k => lustrumref12_Is.f k n.f0 n.f1.f0 n.f1.f1 n.f1.f2 n.f1.f3 n.f2 n.f3 n.f4) (if saneV n = true then sm (cnV n) n else false) := by
      refine Ev.bind (rSane_f10 n hn (by omega)) (Ev.pick ?_ (Ev.now _))
      exact Ev.bind (rCanon_t n hn hb) (Ev.bind (rSame_f _ (cnV n) n (Nat.le_refl _) hc) (Ev.now _))
    exact Ev.bind hIs (Ev.bind hRs (Ev.eq (Ev.now _) (by simp)))
def a12 : S26 := ⟨0, ⟨3, ⟨#[49, 57, 56, 52]⟩, ⟨#[]⟩, ⟨#[]⟩⟩, false, false, []⟩
def b12 : S26 := ⟨0, ⟨3, ⟨#[49, 57, 56, 53]⟩, ⟨#[]⟩, ⟨#[]⟩⟩, false, false, []⟩
def l12 : S26 := lN [a12, b12]
def n12 : S26 := lN [b12, l12]
def o12 : S26 := lN [a12]
theorem pv_a12 : ptV a12.f1 = true := by
  show (saneL [49, 57, 56, 52] && (true && (emptyV ⟨#[]⟩ && emptyV ⟨#[]⟩))) = true
  rw [emptyV_nil]; decide
theorem pv_b12 : ptV b12.f1 = true := by
  show (saneL [49, 57, 56, 53] && (true && (emptyV ⟨#[]⟩ && emptyV ⟨#[]⟩))) = true
  rw [emptyV_nil]; decide
theorem wf_a12 : wfN a12 := wf_leaf _ _ _ _ (by decide) (by decide) (by decide)
theorem wf_b12 : wfN b12 := wf_leaf _ _ _ _ (by decide) (by decide) (by decide)
theorem wf_lN {l : List S26} (hl : l.length ≤ 1000) (h : ∀ x, x ∈ l → wfN x) : wfN (lN l) := .mk _ (by show 0 ≤ _; decide) (by show 0 ≤ _; decide) (by show 0 ≤ _; decide) (by show l.length ≤ _; omega) h
theorem wf_l12 : wfN l12 := wf_lN (by decide) (fun x hx => by
  simp only [List.mem_cons, List.not_mem_nil, or_false] at hx
  rcases hx with rfl | rfl
  · exact wf_a12
  · exact wf_b12)
theorem wf_n12 : wfN n12 := wf_lN (by decide) (fun x hx => by
  simp only [List.mem_cons, List.not_mem_nil, or_false] at hx
  rcases hx with rfl | rfl
  · exact wf_b12
  · exact wf_l12)
theorem wf_o12 : wfN o12 := wf_lN (by decide) (fun x hx => by
  simp only [List.mem_cons, List.not_mem_nil, or_false] at hx
  rcases hx with rfl
  exact wf_a12)
theorem rt_a12 : rt a12 = true := by rw [rt_eq]; show (true && ptV a12.f1) = true; rw [pv_a12]; rfl
theorem rt_b12 : rt b12 = true := by rw [rt_eq]; show (true && ptV b12.f1) = true; rw [pv_b12]; rfl
theorem rt_l12 : rt l12 = true := by
  rw [rt_eq]
  show (bareV ⟨2, eP, false, false, [a12, b12]⟩ && (true && rtL [a12, b12])) = true
  rw [bare_e, rtL, rtL, rtL, rt_a12, rt_b12]; rfl
theorem sane_a12 : saneV a12 = true := by
  have h1 : nd a12 = 1 := by simp [a12, nd, ndL]
  have h2 : dp a12 = 0 := by simp [a12, dp, dpL]
  unfold saneV
  rw [h1, h2, rt_a12]; rfl
theorem sane_b12 : saneV b12 = true := by
  have h1 : nd b12 = 1 := by simp [b12, nd, ndL]
  have h2 : dp b12 = 0 := by simp [b12, dp, dpL]
  unfold saneV
  rw [h1, h2, rt_b12]; rfl
theorem sane_l12 : saneV l12 = true := by
  have h1 : nd l12 = 3 := by simp [l12, lN, a12, b12, nd, ndL]
  have h2 : dp l12 = 1 := by simp [l12, lN, a12, b12, dp, dpL]
  unfold saneV
  rw [h1, h2, rt_l12]; rfl
theorem sane_n12 : saneV n12 = true := by
  have h1 : nd n12 = 5 := by simp [n12, l12, lN, a12, b12, nd, ndL]
  have h2 : dp n12 = 2 := by simp [n12, l12, lN, a12, b12, dp, dpL]
  have h3 : rt n12 = true := by
    rw [rt_eq]
    show (bareV ⟨2, eP, false, false, [b12, l12]⟩ && (true && rtL [b12, l12])) = true
    rw [bare_e, rtL, rtL, rtL, rt_l12, rt_b12]; rfl
  unfold saneV
  rw [h1, h2, h3]; rfl
theorem sane_o12 : saneV o12 = true := by
  have h1 : nd o12 = 2 := by simp [o12, lN, a12, nd, ndL]
  have h2 : dp o12 = 1 := by simp [o12, lN, a12, dp, dpL]
  have h3 : rt o12 = true := by
    rw [rt_eq]
    show (bareV ⟨2, eP, false, false, [a12]⟩ && (true && rtL [a12])) = true
    rw [bare_e, rtL, rtL, rt_a12]; rfl
  unfold saneV
  rw [h1, h2, h3]; rfl
theorem tx_a12 : tx a12 = [49, 57, 56, 52] := by
  rw [tx_eq]
  show ptTxt a12.f1 ++ [] = _
  unfold ptTxt
  rw [pv_a12]; rfl
theorem tx_b12 : tx b12 = [49, 57, 56, 53] := by
  rw [tx_eq]
  show ptTxt b12.f1 ++ [] = _
  unfold ptTxt
  rw [pv_b12]; rfl
theorem txV_a12 : txV a12 = [49, 57, 56, 52] := by unfold txV; rw [if_pos sane_a12, tx_a12]
theorem txV_b12 : txV b12 = [49, 57, 56, 53] := by unfold txV; rw [if_pos sane_b12, tx_b12]
theorem txV_l12 : txV l12 = [91, 49, 57, 56, 52, 44, 32, 49, 57, 56, 53, 93] := by
  unfold txV
  rw [if_pos sane_l12, tx_eq]
  show 91 :: (Lib.join (txL [a12, b12]) [44, 32] ++ [93]) = _
  rw [txL, txL, txL, tx_a12, tx_b12]; rfl
theorem put_ab : putV a12 [b12] = [a12, b12] := by
  rw [putV, lsT, lsT, txV_a12, txV_b12, if_neg (by decide), if_pos (by decide)]
theorem put_ba : putV b12 [a12] = [a12, b12] := by
  rw [putV, lsT, txV_a12, txV_b12, if_pos (by decide), putV]
theorem put_bab : putV b12 [a12, b12] = [a12, b12] := by
  rw [putV, lsT, txV_a12, txV_b12, if_pos (by decide), putV, lsT, txV_b12, if_neg (by decide), if_neg (by decide)]
theorem fl_a12 : flV a12 = [a12] := by rw [flV_eq]; rfl
theorem fl_b12 : flV b12 = [b12] := by rw [flV_eq]; rfl
theorem fl_l12 : flV l12 = [a12, b12] := by
  rw [flV_eq]
  show flVL [a12, b12] = _
  rw [flVL, flVL, flVL, fl_a12, fl_b12]; rfl
theorem fl_n12 : flV n12 = [b12, a12, b12] := by
  rw [flV_eq]
  show flVL [b12, l12] = _
  rw [flVL, flVL, flVL, fl_b12, fl_l12]; rfl
theorem fl_o12 : flV o12 = [a12] := by
  rw [flV_eq]
  show flVL [a12] = _
  rw [flVL, flVL, fl_a12]; rfl
theorem cn_n12 : cnV n12 = l12 := by
  have e : clV (flV n12) = [a12, b12] := by
    rw [fl_n12]
    show putV b12 (putV a12 (putV b12 [])) = _
    rw [show putV b12 [] = [b12] from rfl, put_ab, put_bab]
  unfold cnV
  rw [if_pos sane_n12, e]
  rfl
theorem cn_l12 : cnV l12 = l12 := by
  have e : clV (flV l12) = [a12, b12] := by
    rw [fl_l12]
    show putV b12 (putV a12 []) = _
    rw [show putV a12 [] = [a12] from rfl, put_ba]
  unfold cnV
  rw [if_pos sane_l12, e]
  rfl
theorem cn_o12 : cnV o12 = a12 := by
  have e : clV (flV o12) = [a12] := by rw [fl_o12]; rfl
  unfold cnV
  rw [if_pos sane_o12, e]
  rfl
theorem awake12 : Ev (fun k => lustrumlaw12_awake.f k) true := by
  have hN := Canon_t n12 wf_n12 (by have := (sane_rt sane_n12).1; omega)
  have hL := Canon_t l12 wf_l12 (by have := (sane_rt sane_l12).1; omega)
  have hO := Canon_t o12 wf_o12 (by have := (sane_rt sane_o12).1; omega)
  have hT := pTx_f l12 wf_l12 (by have := (sane_rt sane_l12).1; omega)
  rw [cn_n12] at hN
  rw [cn_l12] at hL
  rw [cn_o12] at hO
  rw [txV_l12] at hT
  have hIs : Ev (fun k => canon_Is.f k l12.f0 l12.f1.f0 l12.f1.f1 l12.f1.f2 l12.f1.f3 l12.f2 l12.f3 l12.f4) true := by
    refine Ev.bind (tSane_f l12 wf_l12 (by have := (sane_rt sane_l12).1; omega)) (Ev.ift sane_l12 ?_)
    exact Ev.bind hL (Ev.bind (tSame_f _ l12 l12 (Nat.le_refl _) wf_l12) (Ev.eq (Ev.now _) (sm_refl _ _ (Nat.le_refl _))))
  refine Ev.bnow (x := (0, 3, ⟨#[49, 57, 56, 52]⟩, ⟨#[]⟩, ⟨#[]⟩, false, false, [])) rfl ?_
  refine Ev.bnow (x := (0, 3, ⟨#[49, 57, 56, 53]⟩, ⟨#[]⟩, ⟨#[]⟩, false, false, [])) rfl ?_
  refine Ev.bnow (x := (2, 0, ⟨#[]⟩, ⟨#[]⟩, ⟨#[]⟩, false, false, [a12, b12])) rfl ?_
  refine Ev.bnow (x := (2, 0, ⟨#[]⟩, ⟨#[]⟩, ⟨#[]⟩, false, false, [b12, l12])) rfl ?_
  refine Ev.bind hN (Ev.bind hT (Ev.ift (bA_toList _) (Ev.bind hIs (Ev.ift rfl ?_))))
  refine Ev.bnow (x := (2, 0, ⟨#[]⟩, ⟨#[]⟩, ⟨#[]⟩, false, false, [a12])) rfl ?_
  exact Ev.bind hO (Ev.bind (tSame_f _ a12 a12 (Nat.le_refl _) wf_a12) (Ev.eq (Ev.now _) (sm_refl _ _ (Nat.le_refl _))))
theorem CanonIs_t (n : S26) (hn : wfN n) (hb : nd n ≤ 1048576) : Ev (fun k => lustrumlaw12_CanonIs.f k n.f0 n.f1.f0 n.f1.f1 n.f1.f2 n.f1.f3 n.f2 n.f3 n.f4) true := CanonIs_t' awake12 n hn hb
theorem eql_nil24 (w : World) (a : Option Addr) (n c : Nat) : (binOp .eql 24 (.slice a n c) (.slice none 0 0)).run Try.prog w = .ok (.bool a.isNone) w := Lib.run_eql_slice_nil w 24 26 a n c 0 0 Try.underlying24
attribute [local go_sem] eql_nil24
set_option maxHeartbeats 8000000 in
set_option maxRecDepth 100000 in
theorem slices_Clone.calls (P0_ : Nat → Prop) (A0 : Option Addr) (c0 : Nat) (l0 r : List (S26)) (w : World) (hs0 : Kd.V k26 26 w w.heap.size (fun k_ => P0_ k_) (.slice A0 l0.length c0) l0) (h : slices_Clone.f l0 = some r) :
    Calls Try.prog 57 #[.slice A0 l0.length c0] w fun e w' => ∃ v0_ : Value, e = .returned (v0_) ∧ Kd.N k26 26 w' w.heap.size (fun k_ => (P0_ k_ ∨ w.heap.size ≤ k_)) v0_ r ∧ Below w.heap.size w w' := by
  have HO0 := A_ (show Kd.V k26 26 w w.heap.size (fun k_ => (P0_ k_ ∨ w.heap.size ≤ k_)) (.slice A0 l0.length c0) l0 from Kd.V_mono hs0 (fun k_ hk => .inl hk))
  have HB := A_ (Below.refl w.heap.size w)
  unfold slices_Clone.f at h
  by_cases c3 : l0.length < 1466015503701
  · rw [if_pos c3] at h
    have hr := Option.some.inj h
    clear h
    cases A0 with
    | none =>
      subst hr
      obtain ⟨A_, c_, e_, hl_, hf_⟩ := hs0
      have h0 : l0 = [] := by
        cases l0 with
        | nil => rfl
        | cons x t => obtain ⟨ad, _, e, _⟩ := Kd.C_get (Kd.F_now hf_) z26 0 (by omega) (by simp); injection e_ with e1; rw [← e1] at e; exact absurd e (by simp)
      subst h0
      clear e_ hl_ hf_ HO0
      go_enter Try.func57, Try.ntmps57
      go_wp2
      go_ret
      exact ⟨_, rfl, by exact Kd.N_nil _ _ _ _ _, HB.out⟩
    | some ad0 =>
    obtain ⟨y101, hy101⟩ : ∃ y_ : List (S26), y_ = (([] : List (S26))) := ⟨_, rfl⟩
    have Ny101 := A_ hy101
    replace c3 : y101.length + l0.length < 1466015503701 := by rw [hy101]; simpa using c3
    clear hy101
    have LMc3 := A_ c3
    clear c3
    obtain ⟨y104, hy104⟩ : ∃ y_ : List (S26), y_ = (y101 ++ l0) := ⟨_, rfl⟩
    have hy104_ := hy104
    have Ny104 := A_ hy104
    clear hy104
    have H2 : r = y104 := by rw [← hr, hy104_, Ny101.out]; rfl
    subst H2
    clear hy104_ hr
    go_enter Try.func57, Try.ntmps57
    go_wp2_with (first | (refine gD 5 ?_; refine Kd.N_lit k26 _ 26 ?hg (N' := 5) ?hd (xs := ([] : List (S26))) (inner := []) (ok := (fun k_ => (P0_ k_ ∨ w.heap.size ≤ k_))) (okp := (fun k_ => (P0_ k_ ∨ w.heap.size ≤ k_))) ?hr ?hp (fun _ hk => hk) ((show ∀ k_, w.heap.size ≤ k_ → (fun k_ => (P0_ k_ ∨ w.heap.size ≤ k_)) k_ from fun k_ hk => (.inr (Nat.le_trans (below_size hs_) hk))) _ (Nat.le_refl _)) (Below.refl _ _) (Nat.le_refl _) (by simp) ?_; (case hd => rfl); (case hg => rfl); (case hr => first | (go_simp; done) | (go_simp; rfl)); (case hp => exact (Reps.none _ _)); intro v163 w4 ho5 hb hg_ hnew_; clear hg_ hnew_; (first | rw [← Ny101.out] at ho5 | (simp only [Int.reduceToNat] at ho5; rw [← Ny101.out] at ho5)); replace HO0 := A_ (Kd.V_elder' (fxV_ HO0.out) (Kd.N_base ho5) hb); have HO164 := A_ (Kd.N_lower ho5 (below_size hs_)); replace HB := bs_ hb; clear hb ho5) | ((with_reducible refine gate_builtin (b := .append) (xs := #[.tmp 5, .tmp 6]) rfl ?_); at_builtin; refine Kd.N_append_rows k26 (w0 := w) w.heap.size rfl (.tmp 5) (.tmp 6) 24 26 (.agg #[(.int .i64 0), (.int .i64 0), (.string ⟨#[]⟩), (.string ⟨#[]⟩), (.string ⟨#[]⟩), (.bool false), (.bool false), (.slice none 0 0)]) 96 rfl Try.underlying24 info26 rfl (by decide) (by omega) v163 y101 l0 _ _ _ (fun k_ => (P0_ k_ ∨ w.heap.size ≤ k_)) (fun k_ => ((fun k_ => (P0_ k_ ∨ w.heap.size ≤ k_))) k_ ∧ nv_ k_ v163) rfl rfl ?aO ?aR (fun _ hk => hk) ?aF ?aB ?aS ?aL ?_; (case aR => exact (by skip; exact Kd.V_F (Kd.V_mono (ok' := (fun k_ => ((fun k_ => (P0_ k_ ∨ w.heap.size ≤ k_))) k_ ∧ nv_ k_ v163)) (HO0.out) (fun k_ hk => ⟨hk.1, hk.2⟩)))); (case aB => exact hs_); (case aF => exact (fun k_ hk => (.inr (Nat.le_trans (below_size hs_) hk)))); (case aO => exact (fxN_ HO164.out)); (case aS => exact (below_size hs_)); (case aL => have := LMc3.out; omega); intro v166 w6 ho hb hg hat; rw [← Ny104.out] at ho; replace HO0 := A_ (Kd.V_afterv (ok := (fun k_ => (P0_ k_ ∨ w.heap.size ≤ k_))) (fxV_ HO0.out) hg hat); replace HB := A_ (hb); have HO167 := A_ (ho); clear HO164; clear ho hb hg hat))
    go_ret
    exact ⟨_, by first | rfl | (simp [errW_none, errW_some] <;> rfl) | (simp [*, errW_none, errW_some] <;> rfl), fxN_ HO167.out, hs_⟩
  · rw [if_neg c3] at h
    exact absurd h (by simp)
end Go.Proofs.Ytfehdlkklfcnpaa.A
namespace Go.Proofs.Ytfehdlkklfcnpaa.A
open Go.RowKit Go.Proofs.YtfehdlkklfcnpaaW.PrintWords Go.Proofs.YtfehdlkklfcnpaaW.PrintLast Go.Proofs.YtfehdlkklfcnpaaW.PrintMore
attribute [local go_sem] max2_int min2_int max_two min_two max_three min_three max_four min_four
attribute [local go_sem] isSome_setCell
set_option maxHeartbeats 8000000 in
set_option maxRecDepth 100000 in
theorem tree_OneOf.calls (P0_ : Nat → Prop) (A0 : Option Addr) (c0 : Nat) (l0 : List (S26)) (r1 r2 : Int) (r3 r4 r5 : ByteArray) (r6 r7 : Bool) (r8 : List (S26)) (w : World) (hs0 : Kd.V k26 26 w w.heap.size (fun k_ => P0_ k_) (.slice A0 l0.length c0) l0) (h : tree_OneOf.f l0 = some (r1, r2, r3, r4, r5, r6, r7, r8)) :
  Calls Try.prog 30 #[.slice A0 l0.length c0] w fun e w' => ∃ v7_ : Value, e = .returned (.agg #[.int .i64 r1, .int .i64 r2, .string r3, .string r4, .string r5, .bool r6, .bool r7, v7_]) ∧ Kd.N k26 26 w' w.heap.size (fun k_ => (P0_ k_ ∨ w.heap.size ≤ k_)) v7_ r8 ∧ Below w.heap.size w w' := by
 have hu26 := Try.underlying26; have HO0 := A_ (show Kd.V k26 26 w w.heap.size (fun k_ => (P0_ k_ ∨ w.heap.size ≤ k_)) (.slice A0 l0.length c0) l0 from Kd.V_mono hs0 (fun k_ hk => .inl hk)); have HB := A_ (Below.refl w.heap.size w); have H : ((slices_Clone.f l0).bind fun t169 => (some (2, 0, (⟨#[]⟩ : ByteArray), (⟨#[]⟩ : ByteArray), (⟨#[]⟩ : ByteArray), false, false, t169))) = some (r1, r2, r3, r4, r5, r6, r7, r8) := h; clear h; obtain ⟨t169, A2, H⟩ := bi_ H; simp only [Option.some.injEq, Prod.mk.injEq] at H; obtain ⟨rfl, rfl, rfl, rfl, rfl, rfl, rfl, rfl⟩ := H; go_enter Try.func30, Try.ntmps30; go_wp2_with (first | (refine gD 2 ?_; refine bxe_ 2 z8_ 26 ?_; intro gb168 hg w3 hbox hb; replace HO0 := eV_ HO0 hg hb; have BK168 := A_ (hbox); have GW168 := gs_ w hg; have GE168 := gs_ w hg; replace HB := bs_ hb; clear hb hbox hg) | (refine gC 57 ?_; refine gL 4 Try.func57 #[.slice A0 l0.length c0] ?_; (with_reducible refine (slices_Clone.calls (fun k_ => ((P0_ k_ ∨ w.heap.size ≤ k_) ∧ k_ ≠ gb168)) _ _ l0 t169 _ ?side1 A2.out).mono ?_); (case side1 => exact HO0.out); rintro e w4 ⟨v170, rfl, ho0, hb⟩; refine ⟨_, rfl, ?_⟩; replace HO0 := dV_ HO0 ho0 hb; have HO171 := A_ (Kd.N_lower (Kd.N_mono (ok' := fun k_ => (P0_ k_ ∨ w.heap.size ≤ k_) ∧ k_ ≠ gb168) ho0 (fun k_ hk_ => ⟨hk_.elim (·.1) (fun hn_ => (.inr (Nat.le_trans (below_size hs_) hn_))), hk_.elim (·.2) (fb_ BK168 k_)⟩)) (below_size hs_)); replace BK168 := bb_ BK168 hb; replace HB := bs_ hb; (try clear hb); (try clear ho0); obtain ⟨Ao5, co5, eo5⟩ := Kd.N_slice HO171.out; subst eo5; have Z6 := bz8_ BK168))
 refine bodyPost_ret (results_cell_row rfl _ _ gb168 26 #[.int .i64 2, .int .i64 0, .string ⟨#[]⟩, .string ⟨#[]⟩, .string ⟨#[]⟩, .bool false, .bool false, .slice Ao5 t169.length co5] (0, 0) _ rfl (pb_ BK168.out) Try.underlying26 rfl (by kernel_rfl)) rfl ?_; exact ⟨_, by first | rfl | (simp [errW_none, errW_some] <;> rfl) | (simp [*, errW_none, errW_some] <;> rfl), fpN_ HO171.out, hs_⟩
theorem eqA23 (d : Nat) (w : World) (x0 y0 : Int) (x1 y1 : ByteArray) (x2 y2 : ByteArray) (x3 y3 : ByteArray) :
  (Op.equalIn (d + 2) 23 (.agg #[.int .i64 x0, .string x1, .string x2, .string x3]) (.agg #[.int .i64 y0, .string y1, .string y2, .string y3])).run Try.prog w = .ok (x0 == y0 && (x1.toList == y1.toList && (x2.toList == y2.toList && (x3.toList == y3.toList)))) w := by
 refine eqA_of Try.underlying23 (by kernel_rfl) ?_; refine eqf_cons (by rfl) (by go_simp; rfl) (by go_simp; rfl) (by go_simp) ?_; refine eqf_cons (by rfl) (by go_simp; rfl) (by go_simp; rfl) (by go_simp) ?_; refine eqf_cons (by rfl) (by go_simp; rfl) (by go_simp; rfl) (by go_simp) ?_; exact eqf_last (by rfl) (by go_simp; rfl) (by go_simp; rfl) (by go_simp)
set_option maxHeartbeats 8000000 in
set_option maxRecDepth 100000 in
theorem runs_Sane.calls (k : Nat) (A0 : Option Addr) (c0 : Nat) (l0 : List (S86)) (r : Bool) (w : World) (hr0 : Kd.C k86 w A0 l0.length l0) (hc0 : l0.length ≤ c0) (h : runs_Sane.f k l0 = some r) :
  Calls Try.prog 96 #[.slice A0 l0.length c0] w fun e w' => e = .returned (.bool r) ∧ Below w.heap.size w w' := by
 have hu86 := Try.underlying86; have HR0 := A_ hr0; have HC0 := A_ hc0; clear hr0 hc0; have HB := A_ (Below.refl w.heap.size w); have H : (runs_Sane.l0 k (-1099511627778) l0 (l0.length : Int) 0) = some r := h; clear h; have H' := A_ H; clear H; go_enter Try.func96, Try.ntmps96; go_wp2; go_loopg [3, 8] k (fun kq v3 v8 w' => ∃ (x3_1 : Int) (x8_1 : Int), v3 = .int .i64 x3_1 ∧ v8 = .int .i64 x8_1 ∧ Aside0 (runs_Sane.l0 kq x3_1 l0 (l0.length : Int) x8_1 = some r) ∧ Aside0 (kq ≤ k) ∧ Aside0 (Below w.heap.size w w'))
 case atStart => exact ⟨((-1099511627778)), (0), rf_, rf_, H', ⟨Nat.le_refl _⟩, ⟨hs_⟩⟩
 case round =>
  clear H'; obtain ⟨x3_1, x8_1, rfl, rfl, HA, HK1, HB⟩ := hrel
  cases gk with
  | zero => exact absurd HA.out (by simp [runs_Sane.l0])
  | succ k1 =>
   have H := HA.out; clear HA; simp only [runs_Sane.l0] at H
   by_cases c2 : x8_1 < (l0.length : Int)
   ·rw [if_pos c2] at H
    have c2b0 := decide_eq_true c2; clear c2
    by_cases c3 : 0 ≤ x8_1
    ·rw [if_pos c3] at H
     have c3b0 := decide_eq_true c3; clear c3
     by_cases c4 : x8_1 < (l0.length : Int)
     ·rw [if_pos c4] at H
      have c4b0 := decide_eq_true c4; clear c4
      by_cases c5 : ((rd_T86 l0 x8_1).f0) > ((rd_T86 l0 x8_1).f1)
      ·rw [if_pos c5] at H
       have c5b0 := decide_eq_true c5; clear c5; obtain rfl := Option.some.inj H; have p101 : 0 ≤ (x8_1 : Int) := od_; have q101 : x8_1 < (l0.length : Int) := od_; obtain ⟨ad101, e101, hx101_0, hx101_1⟩ := at_T86 HR0.out x8_1 p101 q101
       cases e101
       replace hx101_0 := cl_ HB hx101_0; replace hx101_1 := cl_ HB hx101_1; replace p101 := eq_true p101; replace q101 := eq_true q101; go_wp2_with (first | (refine gx_ w 5 #[.int .i64 0, .int .i64 0] 86 ?_; clear HB; intro gb102 w6 BK102 GE102 HB; have GW102 := GE102; have Z7 := bz2_ BK102)); go_ret; exact ⟨re_, hs_⟩
      ·rw [if_neg c5] at H
       have c5b0 := decide_eq_false c5; clear c5
       by_cases c8 : ((rd_T86 l0 x8_1).f0) < (wrap64 (x3_1 + 2))
       ·rw [if_pos c8] at H
        have c8b0 := decide_eq_true c8; clear c8; obtain rfl := Option.some.inj H; have p101 : 0 ≤ (x8_1 : Int) := od_; have q101 : x8_1 < (l0.length : Int) := od_; obtain ⟨ad101, e101, hx101_0, hx101_1⟩ := at_T86 HR0.out x8_1 p101 q101
        cases e101
        replace hx101_0 := cl_ HB hx101_0; replace hx101_1 := cl_ HB hx101_1; replace p101 := eq_true p101; replace q101 := eq_true q101; go_wp2_with (first | (refine gx_ w 5 #[.int .i64 0, .int .i64 0] 86 ?_; clear HB; intro gb102 w9 BK102 GE102 HB; have GW102 := GE102; have Z10 := bz2_ BK102)); go_ret; exact ⟨re_, hs_⟩
       ·rw [if_neg c8] at H
        have c8b0 := decide_eq_false c8; clear c8
        by_cases c11 : ((rd_T86 l0 x8_1).f1) > 1099511627776
        ·rw [if_pos c11] at H
         have c11b0 := decide_eq_true c11; clear c11; obtain rfl := Option.some.inj H; have p101 : 0 ≤ (x8_1 : Int) := od_; have q101 : x8_1 < (l0.length : Int) := od_; obtain ⟨ad101, e101, hx101_0, hx101_1⟩ := at_T86 HR0.out x8_1 p101 q101
         cases e101
         replace hx101_0 := cl_ HB hx101_0; replace hx101_1 := cl_ HB hx101_1; replace p101 := eq_true p101; replace q101 := eq_true q101; go_wp2_with (first | (refine gx_ w 5 #[.int .i64 0, .int .i64 0] 86 ?_; clear HB; intro gb102 w12 BK102 GE102 HB; have GW102 := GE102; have Z13 := bz2_ BK102)); go_ret; exact ⟨re_, hs_⟩
        ·rw [if_neg c11] at H
         have c11b0 := decide_eq_false c11; clear c11; have H' := A_ H; clear H; have p101 : 0 ≤ (x8_1 : Int) := od_; have q101 : x8_1 < (l0.length : Int) := od_; obtain ⟨ad101, e101, hx101_0, hx101_1⟩ := at_T86 HR0.out x8_1 p101 q101
         cases e101
         replace hx101_0 := cl_ HB hx101_0; replace hx101_1 := cl_ HB hx101_1; replace p101 := eq_true p101; replace q101 := eq_true q101; go_wp2_with (first | (refine gx_ w 5 #[.int .i64 0, .int .i64 0] 86 ?_; clear HB; intro gb102 w14 BK102 GE102 HB; have GW102 := GE102; have Z15 := bz2_ BK102)); go_roundg k1
         case measure => have := HK1.out; omega
         case rel => exact ⟨((rd_T86 l0 x8_1).f1), (wrap64 (x8_1 + 1)), rf_, rf_, H', ⟨by have := HK1.out; omega⟩, ⟨hs_⟩⟩
     ·rw [if_neg c4] at H
      exact absurd H (by simp)
    ·rw [if_neg c3] at H
     exact absurd H (by simp)
   ·rw [if_neg c2] at H
    have c2b0 := decide_eq_false c2; clear c2; obtain rfl := Option.some.inj H; go_wp2; go_ret; exact ⟨re_, hs_⟩
theorem runs_Make.calls (A0 : Option Addr) (c0 : Nat) (l0 r : List S86) (w : World) (hr0 : Kd.C k86 w A0 l0.length l0) (hc0 : l0.length ≤ c0) (h : runs_Make.f l0 = some r) :
    Calls Try.prog 97 #[.slice A0 l0.length c0] w fun e w' => ∃ v0_ : Value, e = .returned (v0_) ∧ Kd.R k86 86 w' w.heap.size (fun _ => True) v0_ r ∧ Below w.heap.size w w' := by
  exact absurd h (by simp [runs_Make.f])
set_option maxHeartbeats 8000000 in
set_option maxRecDepth 100000 in
theorem sets_known.calls (k : Nat) (P0_ : Nat → Prop) (A0 : Option Addr) (c0 : Nat) (l0 r : List (S86)) (w : World) (hs0 : Kd.V k86 86 w w.heap.size (fun k_ => P0_ k_) (.slice A0 l0.length c0) l0) (h : sets_known.f k l0 = some r) :
  Calls Try.prog 93 #[.slice A0 l0.length c0] w fun e w' => ∃ v0_ : Value, e = .returned (v0_) ∧ Kd.V k86 86 w' w.heap.size (fun k_ => (P0_ k_ ∨ w.heap.size ≤ k_)) v0_ r ∧ Below w.heap.size w w' := by
 have HO0 := A_ (show Kd.V k86 86 w w.heap.size (fun k_ => (P0_ k_ ∨ w.heap.size ≤ k_)) (.slice A0 l0.length c0) l0 from Kd.V_mono hs0 (fun k_ hk => .inl hk)); have HB := A_ (Below.refl w.heap.size w); have H : ((runs_Sane.f k l0).bind fun t103 => (if t103 = true then (some l0) else ((runs_Make.f l0).bind fun t104 => (some t104)))) = some r := h; clear h; replace H := Option.bind_eq_some_iff.mp H; obtain ⟨t103, A20, H⟩ := H; replace H : (if t103 = true then (some l0) else ((runs_Make.f l0).bind fun t104 => (some t104))) = some r := H; have A2 := A_ A20; clear A20
 by_cases c3 : t103 = true
 ·subst c3
  replace H := iP_ H; obtain rfl := Option.some.inj H; go_enter Try.func93, Try.ntmps93; go_wp2_with (first | (refine gC 96 ?_; refine gL 4 Try.func96 #[.slice A0 l0.length c0] ?_; (with_reducible refine (runs_Sane.calls k _ _ l0 true _ ?side1 ?side2 A2.out).mono ?_); (case side1 => exact cr_ (Kd.V_reads' HO0.out).2.2); (case side2 => exact (Kd.V_reads' HO0.out).2.1); rintro e w4 ⟨rfl, hb⟩; refine ⟨_, rfl, ?_⟩; replace HO0 := bV_ HO0 hb; replace HB := bs_ hb; (try clear hb))); go_ret; exact ⟨_, by first | rfl | (simp [errW_none, errW_some] <;> rfl) | (simp [*, errW_none, errW_some] <;> rfl), fxV_ HO0.out, hs_⟩
 ·replace c3 := Bool.eq_false_iff.mpr c3
  subst c3; replace H := iN_ H; replace H := Option.bind_eq_some_iff.mp H; obtain ⟨t104, A50, H⟩ := H; replace H : (some t104) = some r := H; have A5 := A_ A50; clear A50; obtain rfl := Option.some.inj H; go_enter Try.func93, Try.ntmps93; go_wp2_with (first | (refine gC 96 ?_; refine gL 4 Try.func96 #[.slice A0 l0.length c0] ?_; (with_reducible refine (runs_Sane.calls k _ _ l0 false _ ?side1 ?side2 A2.out).mono ?_); (case side1 => exact cr_ (Kd.V_reads' HO0.out).2.2); (case side2 => exact (Kd.V_reads' HO0.out).2.1); rintro e w6 ⟨rfl, hb⟩; refine ⟨_, rfl, ?_⟩; replace HO0 := bV_ HO0 hb; replace HB := bs_ hb; (try clear hb)) | (refine gC 97 ?_; refine gL 7 Try.func97 #[.slice A0 l0.length c0] ?_; (with_reducible refine (runs_Make.calls _ _ l0 t104 _ ?side1 ?side2 A5.out).mono ?_); (case side1 => exact cr_ (Kd.V_reads' HO0.out).2.2); (case side2 => exact (Kd.V_reads' HO0.out).2.1); rintro e w7 ⟨v105, rfl, ho0, hb⟩; refine ⟨_, rfl, ?_⟩; replace HO0 := A_ (Kd.V_elder' (hrV_ HO0.out) (Kd.R_base ho0) hb); have HO106 := A_ (Kd.R_lower (Kd.R_newM (M := fun k_ => (w.heap.size ≤ k_)) ho0 (below_size hs_) (fun k_ h_ => h_)) (below_size hs_)); replace HB := bs_ hb; (try clear hb); (try clear ho0))); go_ret; exact ⟨_, by first | rfl | (simp [errW_none, errW_some] <;> rfl) | (simp [*, errW_none, errW_some] <;> rfl), Kd.V_mono (Kd.R_V (by (with_reducible repeat (first | apply Kd.R_alloc | apply Kd.R_drewN | apply Kd.R_drew)); exact Kd.R_mono HO106.out (fun _ hk => hk.1))) (fun k_ hk => by first | exact ⟨(.inr (hk.1)), hk.2⟩ | exact (.inr (hk))), hs_⟩
def sets_Meet.T5 : Bool × List (List Nat × List Nat) := (true, [([], []), ([], []), ([0, 1], [0, 1]), ([2], [2]), ([3], [3]), ([], []), ([], []), ([5, 6], [5, 6]), ([7], [7]), ([8], [8]), ([4, 9], [4, 9]), ([], []), ([], []), ([11, 12], [11, 12]), ([13], [13]), ([14], [14]), ([], []), ([], []), ([16, 17], [16, 17]), ([18], [18]), ([19], [19]), ([15, 20], [15, 20]), ([10, 21], [10, 21]), ([], []), ([23, 22, 0, 1, 2, 3, 4, 5, 6, 7, 8, 9, 10, 11, 12, 13, 14, 15, 16, 17, 18, 19, 20, 21, 22, 23], [22, 23])])
def sets_Meet.B5 : List Nat := [0, 0, 3, 7, 15, 0, 0, 96, 224, 480, 1023, 0, 0, 6144, 14336, 30720, 0, 0, 196608, 458752, 983040, 2095104, 4194303, 0, 16777215]
theorem sets_Meet.tab5 : rtab .any (opsOf Try.f89 5) = sets_Meet.T5 := by kernel_rfl
theorem sets_Meet.bits5 : waitsOk sets_Meet.T5.2 sets_Meet.B5 = true := by kernel_rfl
def sets_Meet.T8 : Bool × List (List Nat × List Nat) := (true, [([], []), ([], []), ([0, 1], [0, 1]), ([2], [2]), ([3], [3]), ([], []), ([], []), ([5, 6], [5, 6]), ([7], [7]), ([8], [8]), ([4, 9], [4, 9])])
def sets_Meet.B8 : List Nat := [0, 0, 3, 7, 15, 0, 0, 96, 224, 480, 1023]
theorem sets_Meet.tab8 : rtab .any (opsOf Try.f89 8) = sets_Meet.T8 := by kernel_rfl
theorem sets_Meet.bits8 : waitsOk sets_Meet.T8.2 sets_Meet.B8 = true := by kernel_rfl
set_option maxHeartbeats 8000000 in
set_option maxRecDepth 100000 in
theorem sets_Meet.calls (k : Nat) (A0 : Option Addr) (c0 : Nat) (l0 : List (S86)) (A1 : Option Addr) (c1 : Nat) (l1 r : List (S86)) (w : World) (hr0 : Kd.C k86 w A0 l0.length l0) (hc0 : l0.length ≤ c0) (hr1 : Kd.C k86 w A1 l1.length l1) (hc1 : l1.length ≤ c1) (h : sets_Meet.f k l0 l1 = some r) :
  Calls Try.prog 89 #[.slice A0 l0.length c0, .slice A1 l1.length c1] w fun e w' => ∃ v0_ : Value, e = .returned (v0_) ∧ Kd.R k86 86 w' w.heap.size (fun _ => True) v0_ r ∧ Below w.heap.size w w' := by
 have hu86 := Try.underlying86; have HR0 := A_ hr0; have HC0 := A_ hc0; clear hr0 hc0; have HR1 := A_ hr1; have HC1 := A_ hc1; clear hr1 hc1; have HB := A_ (Below.refl w.heap.size w); have H : ((sets_known.f k l0).bind fun t107 => ((sets_known.f k l1).bind fun t110 => (sets_Meet.l0 k t107 t110 ([] : List (S86)) 0 0))) = some r := h; clear h; obtain ⟨t107, A3, H⟩ := bi_ H; obtain ⟨t110, A4, H⟩ := bi_ H; have H' := A_ H; clear H; go_enter Try.func89, Try.ntmps89; go_wp2_with (fail); (try go_step3); go_wp2_with (first | (refine gC 93 ?_; refine gL 10 Try.func93 #[.slice A0 l0.length c0] ?_; (with_reducible refine (sets_known.calls k (fun k_ => k_ < w.heap.size) _ _ l0 t107 _ ?side1 A3.out).mono ?_); (case side1 => exact Kd.V_mk HC0.out (Kd.F_below (Kd.C_F k86_heap HR0.out) hs_)); rintro e w5 ⟨v108, rfl, ho0, hb⟩; refine ⟨_, rfl, ?_⟩; have HO109 := A_ (Kd.V_lower (Kd.V_mono (ok' := fun k_ => True) ho0 (fun k_ hk_ => trivial)) (below_size hs_)); replace HB := bs_ hb; (try clear hb); (try clear ho0)) | (refine gC 93 ?_; refine gL 12 Try.func93 #[.slice A1 l1.length c1] ?_; (with_reducible refine (sets_known.calls k (fun k_ => k_ < w.heap.size) _ _ l1 t110 _ ?side1 A4.out).mono ?_); (case side1 => exact Kd.V_mk HC1.out (Kd.F_below (Kd.C_F k86_heap HR1.out) hs_)); rintro e w6 ⟨v111, rfl, ho0, hb⟩; refine ⟨_, rfl, ?_⟩; replace HO109 := bV_ HO109 hb; have HO112 := A_ (Kd.V_lower (Kd.V_mono (ok' := fun k_ => True) ho0 (fun k_ hk_ => trivial)) (below_size hs_)); replace HB := bs_ hb; (try clear hb); (try clear ho0))); (try (go_step3; try go_wp2_with (fail))); go_loopg [5, 6, 7] k (fun kq v5 v6 v7 w' => ∃ (x5_1 : List (S86)) (x6_1 : Int) (x7_1 : Int), v6 = .int .i64 x6_1 ∧ v7 = .int .i64 x7_1 ∧ Aside0 (sets_Meet.l0 kq t107 t110 x5_1 x6_1 x7_1 = some r) ∧ Aside0 (kq ≤ k) ∧ Aside0 (Kd.V k86 86 w' w.heap.size (fun k_ => nv_ k_ v5) v108 t107) ∧ Aside0 (Kd.V k86 86 w' w.heap.size (fun k_ => nv_ k_ v5) v111 t110) ∧ Aside0 (Kd.R k86 86 w' w.heap.size (fun _ => True) v5 x5_1) ∧ Aside0 (Below w.heap.size w w'))
 case atStart => exact ⟨(([] : List (S86))), (0), (0), rf_, rf_, H', ⟨Nat.le_refl _⟩, ⟨by (with_reducible repeat (first | apply Kd.V_alloc | apply Kd.V_drewN | apply Kd.V_drew)); exact Kd.V_mono HO109.out (fun _ hk => (by simp [Value.ownBlock]))⟩, ⟨by (with_reducible repeat (first | apply Kd.V_alloc | apply Kd.V_drewN | apply Kd.V_drew)); exact Kd.V_mono HO112.out (fun _ hk => (by simp [Value.ownBlock]))⟩, ⟨by first | exact Kd.R_nil _ _ _ _ _ | exact Kd.N_nil _ _ _ _ _ | exact Kd.V_nil _ _ _ _ _ | exact Kd.Q_nil _ _ _ _ _ | exact Kd.S_nil _ _ _ _ _⟩, ⟨hs_⟩⟩
 case round =>
  clear H'; (try clear c1); (try clear p2); (try clear p3); obtain ⟨x5_1, x6_1, x7_1, rfl, rfl, HA, HK1, HO_0, HO_1, HO_5, HB⟩ := hrel
  cases gk with
  | zero => exact absurd HA.out (by simp [sets_Meet.l0])
  | succ k1 =>
   have H := HA.out; clear HA; simp only [sets_Meet.l0] at H; have HC7 := A_ H; clear H; go_upto_region 4 with (fail); go_cut [22] (fun v22 wc => ∃ (kq : Nat) (x22_6 : Bool), v22 = .bool x22_6 ∧ Aside0 (sets_Meet.j1 kq t107 t110 x5_1 x6_1 x7_1 x22_6 = some r) ∧ Aside0 (kq ≤ k1) ∧ Aside0 (Kd.V k86 86 wc w.heap.size (fun k_ => nv_ k_ u5) v108 t107) ∧ Aside0 (Kd.V k86 86 wc w.heap.size (fun k_ => nv_ k_ u5) v111 t110) ∧ Aside0 (Kd.R k86 86 wc w.heap.size (fun _ => True) u5 x5_1) ∧ Aside0 (Below w.heap.size w wc))
   case first =>
    have H := HC7.out; clear HC7
    by_cases c8 : x6_1 < (t107.length : Int)
    ·rw [if_pos c8] at H
     have c8b0 := decide_eq_true c8; clear c8; (first | rw [c8b0] | (simp only [i64_w, i32_w]; rw [c8b0]) | skip); have H' := A_ H; clear H; obtain ⟨Ao9, co9, eo9⟩ := Kd.V_slice HO_0.out; subst eo9; obtain ⟨Ao10, co10, eo10⟩ := Kd.V_slice HO_1.out; subst eo10; go_wp2; go_meet
     case rel => exact ⟨_, (decide (x7_1 < (t110.length : Int))), rf_, H', ⟨by have := HK1.out; first | omega | exact Nat.le_refl _⟩, ⟨fxV_ HO_0.out⟩, ⟨fxV_ HO_1.out⟩, ⟨fxR_ HO_5.out⟩, ⟨hs_⟩⟩
    ·rw [if_neg c8] at H
     have c8b0 := decide_eq_false c8; clear c8; (first | rw [c8b0] | (simp only [i64_w, i32_w]; rw [c8b0]) | skip); have H' := A_ H; clear H; obtain ⟨Ao11, co11, eo11⟩ := Kd.V_slice HO_0.out; subst eo11; go_wp2; go_meet
     case rel => exact ⟨_, (false), rf_, H', ⟨by have := HK1.out; first | omega | exact Nat.le_refl _⟩, ⟨fxV_ HO_0.out⟩, ⟨fxV_ HO_1.out⟩, ⟨fxR_ HO_5.out⟩, ⟨hs_⟩⟩
   case rest =>
    clear HC7; (try clear c1); (try clear p2); (try clear p3); (try clear c8); (try clear c8b0); (try clear c9); (try clear p2); (try clear p3); obtain ⟨kq, x22_6, rfl, HA, HJ6, HO_0, HO_1, HO_5, HB⟩ := hcut
    cases kq with
    | zero => exact absurd HA.out (by simp [sets_Meet.j1])
    | succ kj6 =>
     have H := HA.out; clear HA; simp only [sets_Meet.j1] at H
     by_cases c12 : x22_6 = true
     ·subst c12
      replace H := iP_ H
      by_cases c13 : 0 ≤ x6_1
      ·rw [if_pos c13] at H
       have c13b0 := decide_eq_true c13; clear c13
       by_cases c14 : x6_1 < (t107.length : Int)
       ·rw [if_pos c14] at H
        have c14b0 := decide_eq_true c14; clear c14
        by_cases c15 : 0 ≤ x7_1
        ·rw [if_pos c15] at H
         have c15b0 := decide_eq_true c15; clear c15
         by_cases c16 : x7_1 < (t110.length : Int)
         ·rw [if_pos c16] at H
          have c16b0 := decide_eq_true c16; clear c16; obtain ⟨ji17, hji17⟩ : ∃ j_ : Int, (mx ((rd_T86 t107 x6_1).f0) ((rd_T86 t110 x7_1).f0)) = j_ := ⟨_, rfl⟩; (replace H : (if (ji17) ≤ (mn ((rd_T86 t107 x6_1).f1) ((rd_T86 t110 x7_1).f1)) then (if x5_1.length < 8796093022208 then ((some (x5_1 ++ [(⟨ji17, mn ((rd_T86 t107 x6_1).f1) ((rd_T86 t110 x7_1).f1)⟩ : S86)] : List (S86))).bind fun y118 => (if ((rd_T86 t107 x6_1).f1) < ((rd_T86 t110 x7_1).f1) then (sets_Meet.l0 kj6 t107 t110 y118 (wrap64 (x6_1 + 1)) x7_1) else (sets_Meet.l0 kj6 t107 t110 y118 x6_1 (wrap64 (x7_1 + 1))))) else (none)) else (if ((rd_T86 t107 x6_1).f1) < ((rd_T86 t110 x7_1).f1) then (sets_Meet.l0 kj6 t107 t110 x5_1 (wrap64 (x6_1 + 1)) x7_1) else (sets_Meet.l0 kj6 t107 t110 x5_1 x6_1 (wrap64 (x7_1 + 1))))) = some r := by first | (rw [hji17] at H; exact H) | (simp only [hji17] at H ⊢; exact H)); have hji17_ : (if ((rd_T86 t107 x6_1).f0) < ((rd_T86 t110 x7_1).f0) then ((rd_T86 t110 x7_1).f0) else ((rd_T86 t107 x6_1).f0)) = ji17 := hji17; obtain ⟨ji18, hji18⟩ : ∃ j_ : Int, (mn ((rd_T86 t107 x6_1).f1) ((rd_T86 t110 x7_1).f1)) = j_ := ⟨_, rfl⟩; (replace H : (if (ji17) ≤ (ji18) then (if x5_1.length < 8796093022208 then ((some (x5_1 ++ [(⟨ji17, ji18⟩ : S86)] : List (S86))).bind fun y118 => (if ((rd_T86 t107 x6_1).f1) < ((rd_T86 t110 x7_1).f1) then (sets_Meet.l0 kj6 t107 t110 y118 (wrap64 (x6_1 + 1)) x7_1) else (sets_Meet.l0 kj6 t107 t110 y118 x6_1 (wrap64 (x7_1 + 1))))) else (none)) else (if ((rd_T86 t107 x6_1).f1) < ((rd_T86 t110 x7_1).f1) then (sets_Meet.l0 kj6 t107 t110 x5_1 (wrap64 (x6_1 + 1)) x7_1) else (sets_Meet.l0 kj6 t107 t110 x5_1 x6_1 (wrap64 (x7_1 + 1))))) = some r := by first | (rw [hji18] at H; exact H) | (simp only [hji18] at H ⊢; exact H)); have hji18_ : (if ((rd_T86 t110 x7_1).f1) < ((rd_T86 t107 x6_1).f1) then ((rd_T86 t110 x7_1).f1) else ((rd_T86 t107 x6_1).f1)) = ji18 := hji18
          by_cases c19 : (ji17) ≤ (ji18)
          ·rw [if_pos c19] at H
           have c19b0 := decide_eq_true c19; clear c19
           by_cases c20 : x5_1.length < 8796093022208
           ·rw [if_pos c20] at H
            have LMc20 := A_ c20; clear c20; obtain ⟨y118, hy118⟩ : ∃ y_ : List (S86), y_ = (x5_1 ++ [(⟨ji17, ji18⟩ : S86)]) := ⟨_, rfl⟩; (replace H : (if ((rd_T86 t107 x6_1).f1) < ((rd_T86 t110 x7_1).f1) then (sets_Meet.l0 kj6 t107 t110 y118 (wrap64 (x6_1 + 1)) x7_1) else (sets_Meet.l0 kj6 t107 t110 y118 x6_1 (wrap64 (x7_1 + 1)))) = some r := hy_ hy118 H); have Ny118 := A_ hy118; clear hy118
            by_cases c21 : ((rd_T86 t107 x6_1).f1) < ((rd_T86 t110 x7_1).f1)
            ·rw [if_pos c21] at H
             have c21b0 := decide_eq_true c21; clear c21; have H' := A_ H; clear H; (try go_wp2); replace HO_0 := A_ (Kd.V_drew HO_0.out); replace HO_1 := A_ (Kd.V_drew HO_1.out); replace HO_5 := A_ (Kd.R_drew HO_5.out); replace HB := A_ (below_drew1 HB.out); obtain ⟨Ao23, co23, eo23⟩ := Kd.V_slice HO_0.out; (first | subst eo23 | (injection eo23 with f1_ f2_ f3_; have f4_ := f1_.symm; have f5_ := f3_.symm; clear f1_ f2_ f3_; subst f4_; subst f5_)); have p113 : 0 ≤ (x6_1 : Int) := od_; have q113 : x6_1 < (t107.length : Int) := od_; obtain ⟨ad113, e113, hx113_0, hx113_1⟩ := at_T86 (Kd.V_reads' HO_0.out).2.2 x6_1 p113 q113
             cases e113
             replace p113 := eq_true p113; replace q113 := eq_true q113; obtain ⟨Ao24, co24, eo24⟩ := Kd.V_slice HO_1.out; (first | subst eo24 | (injection eo24 with f1_ f2_ f3_; have f4_ := f1_.symm; have f5_ := f3_.symm; clear f1_ f2_ f3_; subst f4_; subst f5_)); have p114 : 0 ≤ (x7_1 : Int) := od_; have q114 : x7_1 < (t110.length : Int) := od_; obtain ⟨ad114, e114, hx114_0, hx114_1⟩ := at_T86 (Kd.V_reads' HO_1.out).2.2 x7_1 p114 q114
             cases e114
             replace p114 := eq_true p114; replace q114 := eq_true q114; have p115 : 0 ≤ (x6_1 : Int) := od_; have q115 : x6_1 < (t107.length : Int) := od_; obtain ⟨ad115, e115, hx115_0, hx115_1⟩ := at_T86 (Kd.V_reads' HO_0.out).2.2 x6_1 p115 q115; obtain rfl : ad113 = ad115 := (by injection e115); replace p115 := eq_true p115; replace q115 := eq_true q115; have p116 : 0 ≤ (x7_1 : Int) := od_; have q116 : x7_1 < (t110.length : Int) := od_; obtain ⟨ad116, e116, hx116_0, hx116_1⟩ := at_T86 (Kd.V_reads' HO_1.out).2.2 x7_1 p116 q116; obtain rfl : ad114 = ad116 := (by injection e116); replace p116 := eq_true p116; replace q116 := eq_true q116; refine start_ (n := 25) (S := fun w' => w'.cell? (ad113.add ((x6_1).toNat * 2)) = some (.int .i64 ((rd_T86 t107 x6_1).f0)) ∧ w'.cell? ⟨(ad113.add ((x6_1).toNat * 2)).block, (ad113.add ((x6_1).toNat * 2)).off + 1, none⟩ = some (.int .i64 ((rd_T86 t107 x6_1).f1)) ∧ w'.cell? (ad114.add ((x7_1).toNat * 2)) = some (.int .i64 ((rd_T86 t110 x7_1).f0)) ∧ w'.cell? ⟨(ad114.add ((x7_1).toNat * 2)).block, (ad114.add ((x7_1).toNat * 2)).off + 1, none⟩ = some (.int .i64 ((rd_T86 t110 x7_1).f1)) ∧ w'.cell? (ad113.add ((x6_1).toNat * 2)) = some (.int .i64 ((rd_T86 t107 x6_1).f0)) ∧ w'.cell? ⟨(ad113.add ((x6_1).toNat * 2)).block, (ad113.add ((x6_1).toNat * 2)).off + 1, none⟩ = some (.int .i64 ((rd_T86 t107 x6_1).f1)) ∧ w'.cell? (ad114.add ((x7_1).toNat * 2)) = some (.int .i64 ((rd_T86 t110 x7_1).f0)) ∧ w'.cell? ⟨(ad114.add ((x7_1).toNat * 2)).block, (ad114.add ((x7_1).toNat * 2)).off + 1, none⟩ = some (.int .i64 ((rd_T86 t110 x7_1).f1))) (ds := []) (ab 25 0) (by kernel_rfl) rfl rfl ⟨hx113_0, hx113_1, hx114_0, hx114_1, hx115_0, hx115_1, hx116_0, hx116_1⟩ (fun hHeld => ?_); refine with_tabW sets_Meet.tab5 sets_Meet.bits5 (fun HT_ HW_ => ?_); generalize wc.drew = w22 at HO_0 HO_1 HO_5 HB hx113_0 hx113_1 hx114_0 hx114_1 hx115_0 hx115_1 hx116_0 hx116_1 hHeld ⊢; refine pA 0 23 25 1 ?_; refine pA 1 24 25 3 ?_; refine pA 2 25 25 7 ?_; refine pA 3 26 25 15 ?_; refine pA 5 28 25 47 ?_; refine pA 6 29 25 111 ?_; refine pA 7 30 25 239 ?_; refine pA 8 31 25 495 ?_; refine pA 11 34 25 2543 ?_; refine pA 12 35 25 6639 ?_; refine pA 13 36 25 14831 ?_; refine pA 14 37 25 31215 ?_; refine pA 16 39 25 96751 ?_; refine pA 17 40 25 227823 ?_; refine pA 18 41 25 489967 ?_; refine pA 19 42 25 1014255 ?_; refine tB 4 27 25 1014271 ?_; refine tB 9 32 25 1014783 ?_; refine pA 10 33 25 1015807 ?_; refine tB 15 38 25 1048575 ?_; refine tB 20 43 25 2097151 ?_; refine pA 21 44 25 4194303 ?_; refine pA 22 45 25 8388607 ?_; refine oA 23 (some 8) 25 16777215 fun K hK => ?_; refine bxs_ 8 #[.int .i64 0, .int .i64 0] 86 ?_; intro gb117 hg w25 hbox hb; have NE0_ : ad113.block ≠ gb117 := (by have h_ := World.block_lt_of_cell? _ _ hHeld.1; rw [add_block] at h_; omega); have NE1_ : ad114.block ≠ gb117 := (by have h_ := World.block_lt_of_cell? _ _ hHeld.2.2.1; rw [add_block] at h_; omega); have HS0_ := (hb.cell (World.block_lt_of_cell? _ _ (hHeld.1))).trans (hHeld.1); have HS1_ := (hb.cell (World.block_lt_of_cell? _ _ (hHeld.2.1))).trans (hHeld.2.1); have HS2_ := (hb.cell (World.block_lt_of_cell? _ _ (hHeld.2.2.1))).trans (hHeld.2.2.1); have HS3_ := (hb.cell (World.block_lt_of_cell? _ _ (hHeld.2.2.2.1))).trans (hHeld.2.2.2.1); have HS4_ := (hb.cell (World.block_lt_of_cell? _ _ (hHeld.2.2.2.2.1))).trans (hHeld.2.2.2.2.1); have HS5_ := (hb.cell (World.block_lt_of_cell? _ _ (hHeld.2.2.2.2.2.1))).trans (hHeld.2.2.2.2.2.1)
             have HS6_ := (hb.cell (World.block_lt_of_cell? _ _ (hHeld.2.2.2.2.2.2.1))).trans (hHeld.2.2.2.2.2.2.1); have HS7_ := (hb.cell (World.block_lt_of_cell? _ _ (hHeld.2.2.2.2.2.2.2))).trans (hHeld.2.2.2.2.2.2.2); replace HO_0 := eV_ HO_0 hg hb; replace HO_1 := eV_ HO_1 hg hb; replace HO_5 := A_ (Kd.R_below (Kd.R_elderB (hrR_ HO_5.out) gb117 (Nat.le_of_eq hg.symm)) hb); have BK117 := A_ (hbox); have GW117 := gs_ w hg; have GE117 := gs_ w hg; replace HB := bs_ hb; clear hb hbox hg; refine hK.out _ _ ⟨HS0_, HS1_, HS2_, HS3_, HS4_, HS5_, HS6_, HS7_⟩ (fun hHeld => ?_); clear hK K; refine nA ?_; refine oA 24 none 25 33554431 fun K hK => ?_; have hs26 : w25.cell? ⟨gb117, 0, none⟩ = some (.int .i64 0) := bq_ BK117 0; have hfs26 := blk_frozen BK117.out 0; have hs27 : w25.cell? ⟨gb117, 1, none⟩ = some (.int .i64 0) := bq_ BK117 1; have hfs27 := blk_frozen BK117.out 1; refine sA ?_; refine hK.out _ _ ⟨((cell_far (p := ⟨gb117, _, none⟩) (ne_ NE0_) _).trans (((cell_far (p := ⟨gb117, _, none⟩) (ne_ NE0_) _).trans (hHeld.1)))), ((cell_far (p := ⟨gb117, _, none⟩) (ne_ NE0_) _).trans (((cell_far (p := ⟨gb117, _, none⟩) (ne_ NE0_) _).trans (hHeld.2.1)))), ((cell_far (p := ⟨gb117, _, none⟩) (ne_ NE1_) _).trans (((cell_far (p := ⟨gb117, _, none⟩) (ne_ NE1_) _).trans (hHeld.2.2.1)))), ((cell_far (p := ⟨gb117, _, none⟩) (ne_ NE1_) _).trans (((cell_far (p := ⟨gb117, _, none⟩) (ne_ NE1_) _).trans (hHeld.2.2.2.1)))), ((cell_far (p := ⟨gb117, _, none⟩) (ne_ NE0_) _).trans (((cell_far (p := ⟨gb117, _, none⟩) (ne_ NE0_) _).trans (hHeld.2.2.2.2.1)))), ((cell_far (p := ⟨gb117, _, none⟩) (ne_ NE0_) _).trans (((cell_far (p := ⟨gb117, _, none⟩) (ne_ NE0_) _).trans (hHeld.2.2.2.2.2.1)))), ((cell_far (p := ⟨gb117, _, none⟩) (ne_ NE1_) _).trans (((cell_far (p := ⟨gb117, _, none⟩) (ne_ NE1_) _).trans (hHeld.2.2.2.2.2.2.1)))), ((cell_far (p := ⟨gb117, _, none⟩) (ne_ NE1_) _).trans (((cell_far (p := ⟨gb117, _, none⟩) (ne_ NE1_) _).trans (hHeld.2.2.2.2.2.2.2))))⟩ (fun hHeld => ?_)
             clear hK K; refine done_ (done_of HT_.out (by kernel_rfl)) ?_; have Z28 := bz2_ BK117; (try go_wp2_with (first | ((with_reducible refine gate_builtin (b := .append) (xs := #[.tmp 51, .tmp 53]) rfl ?_); (try (refine gate_guard (by rfl) ?_; dsimp only)); at_builtin; refine Kd.R_append k86 (w0 := w) w.heap.size rfl (.tmp 51) (.tmp 53) 82 86 (.agg #[(.int .i64 0), (.int .i64 0)]) 16 rfl Try.underlying82 info86 rfl (by decide) (by omega) u5 x5_1 (⟨ji17, ji18⟩ : S86) [.int .i64 ji17, .int .i64 ji18] (fun k_ => k_ ≠ gb117) (fun _ => False) rfl (by first | (go_simp; done) | (go_simp; rfl)) ?aP (fun _ hk => hk.elim) ?aF ?aO ?aB ?aS ?aL ?_; (case aP => exact k86_mkM _ _ _ (⟨ji17, ji18⟩ : S86)); (case aB => exact hs_); (case aF => exact (fun k_ hk => fb_ BK117 k_ hk)); (case aO => exact (fpR_ HO_5.out)); (case aS => exact (below_size hs_)); (case aL => have := LMc20.out; omega); intro v119 w29 ho hb hg hat; rw [← Ny118.out] at ho; replace HO_0 := A_ (Kd.V_afterv (ok := (fun k_ => k_ ≠ gb117)) (fpV_ HO_0.out) hg hat); replace HO_1 := A_ (Kd.V_afterv (ok := (fun k_ => k_ ≠ gb117)) (fpV_ HO_1.out) hg hat); replace BK117 := A_ (blk_grown (g := gb117) (o := .cells #[.int .i64 ji17, .int .i64 ji18] 86 (0, 0)) (pb_ BK117.out) hg (Kd.R_away HO_5.out (fun _ hk => hk.2))); replace HB := A_ (hb); have HO120 := A_ (ho); clear HO_5; clear ho hb hg hat)))
             replace HO_0 := A_ (Kd.V_drew HO_0.out); replace HO_1 := A_ (Kd.V_drew HO_1.out); replace HO120 := A_ (Kd.R_drew HO120.out); replace BK117 := A_ (blk_drew BK117.out); replace HB := A_ (below_drew1 HB.out); have p121 : 0 ≤ (x6_1 : Int) := od_; have q121 : x6_1 < (t107.length : Int) := od_; obtain ⟨ad121, e121, hx121_0, hx121_1⟩ := at_T86 (Kd.V_reads' HO_0.out).2.2 x6_1 p121 q121; obtain rfl : ad113 = ad121 := (by injection e121); replace p121 := eq_true p121; replace q121 := eq_true q121; have p122 : 0 ≤ (x7_1 : Int) := od_; have q122 : x7_1 < (t110.length : Int) := od_; obtain ⟨ad122, e122, hx122_0, hx122_1⟩ := at_T86 (Kd.V_reads' HO_1.out).2.2 x7_1 p122 q122; obtain rfl : ad114 = ad122 := (by injection e122); replace p122 := eq_true p122; replace q122 := eq_true q122; refine start_ (n := 11) (S := fun w' => w'.cell? (ad113.add ((x6_1).toNat * 2)) = some (.int .i64 ((rd_T86 t107 x6_1).f0)) ∧ w'.cell? ⟨(ad113.add ((x6_1).toNat * 2)).block, (ad113.add ((x6_1).toNat * 2)).off + 1, none⟩ = some (.int .i64 ((rd_T86 t107 x6_1).f1)) ∧ w'.cell? (ad114.add ((x7_1).toNat * 2)) = some (.int .i64 ((rd_T86 t110 x7_1).f0)) ∧ w'.cell? ⟨(ad114.add ((x7_1).toNat * 2)).block, (ad114.add ((x7_1).toNat * 2)).off + 1, none⟩ = some (.int .i64 ((rd_T86 t110 x7_1).f1))) (ds := []) (ab 11 0) (by kernel_rfl) rfl rfl ⟨hx121_0, hx121_1, hx122_0, hx122_1⟩ (fun hHeld => ?_); refine with_tabW sets_Meet.tab8 sets_Meet.bits8 (fun HT_ HW_ => ?_); generalize w29.drew = w30 at HO_0 HO_1 HO120 BK117 HB hx121_0 hx121_1 hx122_0 hx122_1 hHeld ⊢; refine pA 0 55 11 1 ?_; refine pA 1 56 11 3 ?_; refine pA 2 57 11 7 ?_; refine pA 3 58 11 15 ?_; refine pA 5 60 11 47 ?_; refine pA 6 61 11 111 ?_; refine pA 7 62 11 239 ?_; refine pA 8 63 11 495 ?_; refine tB 4 59 11 511 ?_; refine tB 9 64 11 1023 ?_; refine pA 10 65 11 2047 ?_; refine done_ (done_of HT_.out (by kernel_rfl)) ?_; (try go_wp2); go_roundg kj6
             case measure => have := HK1.out; have := HJ6.out; omega
             case rel => exact ⟨(y118), (wrap64 (x6_1 + 1)), (x7_1), rf_, rf_, H', ⟨by have := HK1.out; have := HJ6.out; omega⟩, ⟨by (with_reducible repeat (first | apply Kd.V_alloc | apply Kd.V_drewN | apply Kd.V_drew)); exact Kd.V_mono HO_0.out (fun _ hk => hk.2)⟩, ⟨by (with_reducible repeat (first | apply Kd.V_alloc | apply Kd.V_drewN | apply Kd.V_drew)); exact Kd.V_mono HO_1.out (fun _ hk => hk.2)⟩, ⟨by (with_reducible repeat (first | apply Kd.R_alloc | apply Kd.R_drewN | apply Kd.R_drew)); exact Kd.R_mono HO120.out (fun _ hk => trivial)⟩, ⟨hs_⟩⟩
            ·rw [if_neg c21] at H
             have c21b0 := decide_eq_false c21; clear c21; have H' := A_ H; clear H; (try go_wp2); replace HO_0 := A_ (Kd.V_drew HO_0.out); replace HO_1 := A_ (Kd.V_drew HO_1.out); replace HO_5 := A_ (Kd.R_drew HO_5.out); replace HB := A_ (below_drew1 HB.out); obtain ⟨Ao32, co32, eo32⟩ := Kd.V_slice HO_0.out; (first | subst eo32 | (injection eo32 with f1_ f2_ f3_; have f4_ := f1_.symm; have f5_ := f3_.symm; clear f1_ f2_ f3_; subst f4_; subst f5_)); have p113 : 0 ≤ (x6_1 : Int) := od_; have q113 : x6_1 < (t107.length : Int) := od_; obtain ⟨ad113, e113, hx113_0, hx113_1⟩ := at_T86 (Kd.V_reads' HO_0.out).2.2 x6_1 p113 q113
             cases e113
             replace p113 := eq_true p113; replace q113 := eq_true q113; obtain ⟨Ao33, co33, eo33⟩ := Kd.V_slice HO_1.out; (first | subst eo33 | (injection eo33 with f1_ f2_ f3_; have f4_ := f1_.symm; have f5_ := f3_.symm; clear f1_ f2_ f3_; subst f4_; subst f5_)); have p114 : 0 ≤ (x7_1 : Int) := od_; have q114 : x7_1 < (t110.length : Int) := od_; obtain ⟨ad114, e114, hx114_0, hx114_1⟩ := at_T86 (Kd.V_reads' HO_1.out).2.2 x7_1 p114 q114
             cases e114
             replace p114 := eq_true p114; replace q114 := eq_true q114; have p115 : 0 ≤ (x6_1 : Int) := od_; have q115 : x6_1 < (t107.length : Int) := od_; obtain ⟨ad115, e115, hx115_0, hx115_1⟩ := at_T86 (Kd.V_reads' HO_0.out).2.2 x6_1 p115 q115; obtain rfl : ad113 = ad115 := (by injection e115); replace p115 := eq_true p115; replace q115 := eq_true q115; have p116 : 0 ≤ (x7_1 : Int) := od_; have q116 : x7_1 < (t110.length : Int) := od_; obtain ⟨ad116, e116, hx116_0, hx116_1⟩ := at_T86 (Kd.V_reads' HO_1.out).2.2 x7_1 p116 q116; obtain rfl : ad114 = ad116 := (by injection e116); replace p116 := eq_true p116; replace q116 := eq_true q116; refine start_ (n := 25) (S := fun w' => w'.cell? (ad113.add ((x6_1).toNat * 2)) = some (.int .i64 ((rd_T86 t107 x6_1).f0)) ∧ w'.cell? ⟨(ad113.add ((x6_1).toNat * 2)).block, (ad113.add ((x6_1).toNat * 2)).off + 1, none⟩ = some (.int .i64 ((rd_T86 t107 x6_1).f1)) ∧ w'.cell? (ad114.add ((x7_1).toNat * 2)) = some (.int .i64 ((rd_T86 t110 x7_1).f0)) ∧ w'.cell? ⟨(ad114.add ((x7_1).toNat * 2)).block, (ad114.add ((x7_1).toNat * 2)).off + 1, none⟩ = some (.int .i64 ((rd_T86 t110 x7_1).f1)) ∧ w'.cell? (ad113.add ((x6_1).toNat * 2)) = some (.int .i64 ((rd_T86 t107 x6_1).f0)) ∧ w'.cell? ⟨(ad113.add ((x6_1).toNat * 2)).block, (ad113.add ((x6_1).toNat * 2)).off + 1, none⟩ = some (.int .i64 ((rd_T86 t107 x6_1).f1)) ∧ w'.cell? (ad114.add ((x7_1).toNat * 2)) = some (.int .i64 ((rd_T86 t110 x7_1).f0)) ∧ w'.cell? ⟨(ad114.add ((x7_1).toNat * 2)).block, (ad114.add ((x7_1).toNat * 2)).off + 1, none⟩ = some (.int .i64 ((rd_T86 t110 x7_1).f1))) (ds := []) (ab 25 0) (by kernel_rfl) rfl rfl ⟨hx113_0, hx113_1, hx114_0, hx114_1, hx115_0, hx115_1, hx116_0, hx116_1⟩ (fun hHeld => ?_); refine with_tabW sets_Meet.tab5 sets_Meet.bits5 (fun HT_ HW_ => ?_); generalize wc.drew = w31 at HO_0 HO_1 HO_5 HB hx113_0 hx113_1 hx114_0 hx114_1 hx115_0 hx115_1 hx116_0 hx116_1 hHeld ⊢; refine pA 0 23 25 1 ?_; refine pA 1 24 25 3 ?_; refine pA 2 25 25 7 ?_; refine pA 3 26 25 15 ?_; refine pA 5 28 25 47 ?_; refine pA 6 29 25 111 ?_; refine pA 7 30 25 239 ?_; refine pA 8 31 25 495 ?_; refine pA 11 34 25 2543 ?_; refine pA 12 35 25 6639 ?_; refine pA 13 36 25 14831 ?_; refine pA 14 37 25 31215 ?_; refine pA 16 39 25 96751 ?_; refine pA 17 40 25 227823 ?_; refine pA 18 41 25 489967 ?_; refine pA 19 42 25 1014255 ?_; refine tB 4 27 25 1014271 ?_; refine tB 9 32 25 1014783 ?_; refine pA 10 33 25 1015807 ?_; refine tB 15 38 25 1048575 ?_; refine tB 20 43 25 2097151 ?_; refine pA 21 44 25 4194303 ?_; refine pA 22 45 25 8388607 ?_; refine oA 23 (some 8) 25 16777215 fun K hK => ?_; refine bxs_ 8 #[.int .i64 0, .int .i64 0] 86 ?_; intro gb117 hg w34 hbox hb; have NE0_ : ad113.block ≠ gb117 := (by have h_ := World.block_lt_of_cell? _ _ hHeld.1; rw [add_block] at h_; omega); have NE1_ : ad114.block ≠ gb117 := (by have h_ := World.block_lt_of_cell? _ _ hHeld.2.2.1; rw [add_block] at h_; omega); have HS0_ := (hb.cell (World.block_lt_of_cell? _ _ (hHeld.1))).trans (hHeld.1); have HS1_ := (hb.cell (World.block_lt_of_cell? _ _ (hHeld.2.1))).trans (hHeld.2.1); have HS2_ := (hb.cell (World.block_lt_of_cell? _ _ (hHeld.2.2.1))).trans (hHeld.2.2.1); have HS3_ := (hb.cell (World.block_lt_of_cell? _ _ (hHeld.2.2.2.1))).trans (hHeld.2.2.2.1); have HS4_ := (hb.cell (World.block_lt_of_cell? _ _ (hHeld.2.2.2.2.1))).trans (hHeld.2.2.2.2.1); have HS5_ := (hb.cell (World.block_lt_of_cell? _ _ (hHeld.2.2.2.2.2.1))).trans (hHeld.2.2.2.2.2.1)
             have HS6_ := (hb.cell (World.block_lt_of_cell? _ _ (hHeld.2.2.2.2.2.2.1))).trans (hHeld.2.2.2.2.2.2.1); have HS7_ := (hb.cell (World.block_lt_of_cell? _ _ (hHeld.2.2.2.2.2.2.2))).trans (hHeld.2.2.2.2.2.2.2); replace HO_0 := eV_ HO_0 hg hb; replace HO_1 := eV_ HO_1 hg hb; replace HO_5 := A_ (Kd.R_below (Kd.R_elderB (hrR_ HO_5.out) gb117 (Nat.le_of_eq hg.symm)) hb); have BK117 := A_ (hbox); have GW117 := gs_ w hg; have GE117 := gs_ w hg; replace HB := bs_ hb; clear hb hbox hg; refine hK.out _ _ ⟨HS0_, HS1_, HS2_, HS3_, HS4_, HS5_, HS6_, HS7_⟩ (fun hHeld => ?_); clear hK K; refine nA ?_; refine oA 24 none 25 33554431 fun K hK => ?_; have hs35 : w34.cell? ⟨gb117, 0, none⟩ = some (.int .i64 0) := bq_ BK117 0; have hfs35 := blk_frozen BK117.out 0; have hs36 : w34.cell? ⟨gb117, 1, none⟩ = some (.int .i64 0) := bq_ BK117 1; have hfs36 := blk_frozen BK117.out 1; refine sA ?_; refine hK.out _ _ ⟨((cell_far (p := ⟨gb117, _, none⟩) (ne_ NE0_) _).trans (((cell_far (p := ⟨gb117, _, none⟩) (ne_ NE0_) _).trans (hHeld.1)))), ((cell_far (p := ⟨gb117, _, none⟩) (ne_ NE0_) _).trans (((cell_far (p := ⟨gb117, _, none⟩) (ne_ NE0_) _).trans (hHeld.2.1)))), ((cell_far (p := ⟨gb117, _, none⟩) (ne_ NE1_) _).trans (((cell_far (p := ⟨gb117, _, none⟩) (ne_ NE1_) _).trans (hHeld.2.2.1)))), ((cell_far (p := ⟨gb117, _, none⟩) (ne_ NE1_) _).trans (((cell_far (p := ⟨gb117, _, none⟩) (ne_ NE1_) _).trans (hHeld.2.2.2.1)))), ((cell_far (p := ⟨gb117, _, none⟩) (ne_ NE0_) _).trans (((cell_far (p := ⟨gb117, _, none⟩) (ne_ NE0_) _).trans (hHeld.2.2.2.2.1)))), ((cell_far (p := ⟨gb117, _, none⟩) (ne_ NE0_) _).trans (((cell_far (p := ⟨gb117, _, none⟩) (ne_ NE0_) _).trans (hHeld.2.2.2.2.2.1)))), ((cell_far (p := ⟨gb117, _, none⟩) (ne_ NE1_) _).trans (((cell_far (p := ⟨gb117, _, none⟩) (ne_ NE1_) _).trans (hHeld.2.2.2.2.2.2.1)))), ((cell_far (p := ⟨gb117, _, none⟩) (ne_ NE1_) _).trans (((cell_far (p := ⟨gb117, _, none⟩) (ne_ NE1_) _).trans (hHeld.2.2.2.2.2.2.2))))⟩ (fun hHeld => ?_)
             clear hK K; refine done_ (done_of HT_.out (by kernel_rfl)) ?_; have Z37 := bz2_ BK117; (try go_wp2_with (first | ((with_reducible refine gate_builtin (b := .append) (xs := #[.tmp 51, .tmp 53]) rfl ?_); (try (refine gate_guard (by rfl) ?_; dsimp only)); at_builtin; refine Kd.R_append k86 (w0 := w) w.heap.size rfl (.tmp 51) (.tmp 53) 82 86 (.agg #[(.int .i64 0), (.int .i64 0)]) 16 rfl Try.underlying82 info86 rfl (by decide) (by omega) u5 x5_1 (⟨ji17, ji18⟩ : S86) [.int .i64 ji17, .int .i64 ji18] (fun k_ => k_ ≠ gb117) (fun _ => False) rfl (by first | (go_simp; done) | (go_simp; rfl)) ?aP (fun _ hk => hk.elim) ?aF ?aO ?aB ?aS ?aL ?_; (case aP => exact k86_mkM _ _ _ (⟨ji17, ji18⟩ : S86)); (case aB => exact hs_); (case aF => exact (fun k_ hk => fb_ BK117 k_ hk)); (case aO => exact (fpR_ HO_5.out)); (case aS => exact (below_size hs_)); (case aL => have := LMc20.out; omega); intro v119 w38 ho hb hg hat; rw [← Ny118.out] at ho; replace HO_0 := A_ (Kd.V_afterv (ok := (fun k_ => k_ ≠ gb117)) (fpV_ HO_0.out) hg hat); replace HO_1 := A_ (Kd.V_afterv (ok := (fun k_ => k_ ≠ gb117)) (fpV_ HO_1.out) hg hat); replace BK117 := A_ (blk_grown (g := gb117) (o := .cells #[.int .i64 ji17, .int .i64 ji18] 86 (0, 0)) (pb_ BK117.out) hg (Kd.R_away HO_5.out (fun _ hk => hk.2))); replace HB := A_ (hb); have HO120 := A_ (ho); clear HO_5; clear ho hb hg hat)))
             replace HO_0 := A_ (Kd.V_drew HO_0.out); replace HO_1 := A_ (Kd.V_drew HO_1.out); replace HO120 := A_ (Kd.R_drew HO120.out); replace BK117 := A_ (blk_drew BK117.out); replace HB := A_ (below_drew1 HB.out); have p121 : 0 ≤ (x6_1 : Int) := od_; have q121 : x6_1 < (t107.length : Int) := od_; obtain ⟨ad121, e121, hx121_0, hx121_1⟩ := at_T86 (Kd.V_reads' HO_0.out).2.2 x6_1 p121 q121; obtain rfl : ad113 = ad121 := (by injection e121); replace p121 := eq_true p121; replace q121 := eq_true q121; have p122 : 0 ≤ (x7_1 : Int) := od_; have q122 : x7_1 < (t110.length : Int) := od_; obtain ⟨ad122, e122, hx122_0, hx122_1⟩ := at_T86 (Kd.V_reads' HO_1.out).2.2 x7_1 p122 q122; obtain rfl : ad114 = ad122 := (by injection e122); replace p122 := eq_true p122; replace q122 := eq_true q122; refine start_ (n := 11) (S := fun w' => w'.cell? (ad113.add ((x6_1).toNat * 2)) = some (.int .i64 ((rd_T86 t107 x6_1).f0)) ∧ w'.cell? ⟨(ad113.add ((x6_1).toNat * 2)).block, (ad113.add ((x6_1).toNat * 2)).off + 1, none⟩ = some (.int .i64 ((rd_T86 t107 x6_1).f1)) ∧ w'.cell? (ad114.add ((x7_1).toNat * 2)) = some (.int .i64 ((rd_T86 t110 x7_1).f0)) ∧ w'.cell? ⟨(ad114.add ((x7_1).toNat * 2)).block, (ad114.add ((x7_1).toNat * 2)).off + 1, none⟩ = some (.int .i64 ((rd_T86 t110 x7_1).f1))) (ds := []) (ab 11 0) (by kernel_rfl) rfl rfl ⟨hx121_0, hx121_1, hx122_0, hx122_1⟩ (fun hHeld => ?_); refine with_tabW sets_Meet.tab8 sets_Meet.bits8 (fun HT_ HW_ => ?_); generalize w38.drew = w39 at HO_0 HO_1 HO120 BK117 HB hx121_0 hx121_1 hx122_0 hx122_1 hHeld ⊢; refine pA 0 55 11 1 ?_; refine pA 1 56 11 3 ?_; refine pA 2 57 11 7 ?_; refine pA 3 58 11 15 ?_; refine pA 5 60 11 47 ?_; refine pA 6 61 11 111 ?_; refine pA 7 62 11 239 ?_; refine pA 8 63 11 495 ?_; refine tB 4 59 11 511 ?_; refine tB 9 64 11 1023 ?_; refine pA 10 65 11 2047 ?_; refine done_ (done_of HT_.out (by kernel_rfl)) ?_; (try go_wp2); go_roundg kj6
             case measure => have := HK1.out; have := HJ6.out; omega
             case rel => exact ⟨(y118), (x6_1), (wrap64 (x7_1 + 1)), rf_, rf_, H', ⟨by have := HK1.out; have := HJ6.out; omega⟩, ⟨by (with_reducible repeat (first | apply Kd.V_alloc | apply Kd.V_drewN | apply Kd.V_drew)); exact Kd.V_mono HO_0.out (fun _ hk => hk.2)⟩, ⟨by (with_reducible repeat (first | apply Kd.V_alloc | apply Kd.V_drewN | apply Kd.V_drew)); exact Kd.V_mono HO_1.out (fun _ hk => hk.2)⟩, ⟨by (with_reducible repeat (first | apply Kd.R_alloc | apply Kd.R_drewN | apply Kd.R_drew)); exact Kd.R_mono HO120.out (fun _ hk => trivial)⟩, ⟨hs_⟩⟩
           ·rw [if_neg c20] at H
            exact absurd H (by simp)
          ·rw [if_neg c19] at H
           have c19b0 := decide_eq_false c19; clear c19
           by_cases c40 : ((rd_T86 t107 x6_1).f1) < ((rd_T86 t110 x7_1).f1)
           ·rw [if_pos c40] at H
            have c40b0 := decide_eq_true c40; clear c40; have H' := A_ H; clear H; (try go_wp2); replace HO_0 := A_ (Kd.V_drew HO_0.out); replace HO_1 := A_ (Kd.V_drew HO_1.out); replace HO_5 := A_ (Kd.R_drew HO_5.out); replace HB := A_ (below_drew1 HB.out); obtain ⟨Ao42, co42, eo42⟩ := Kd.V_slice HO_0.out; (first | subst eo42 | (injection eo42 with f1_ f2_ f3_; have f4_ := f1_.symm; have f5_ := f3_.symm; clear f1_ f2_ f3_; subst f4_; subst f5_)); have p113 : 0 ≤ (x6_1 : Int) := od_; have q113 : x6_1 < (t107.length : Int) := od_; obtain ⟨ad113, e113, hx113_0, hx113_1⟩ := at_T86 (Kd.V_reads' HO_0.out).2.2 x6_1 p113 q113
            cases e113
            replace p113 := eq_true p113; replace q113 := eq_true q113; obtain ⟨Ao43, co43, eo43⟩ := Kd.V_slice HO_1.out; (first | subst eo43 | (injection eo43 with f1_ f2_ f3_; have f4_ := f1_.symm; have f5_ := f3_.symm; clear f1_ f2_ f3_; subst f4_; subst f5_)); have p114 : 0 ≤ (x7_1 : Int) := od_; have q114 : x7_1 < (t110.length : Int) := od_; obtain ⟨ad114, e114, hx114_0, hx114_1⟩ := at_T86 (Kd.V_reads' HO_1.out).2.2 x7_1 p114 q114
            cases e114
            replace p114 := eq_true p114; replace q114 := eq_true q114; have p115 : 0 ≤ (x6_1 : Int) := od_; have q115 : x6_1 < (t107.length : Int) := od_; obtain ⟨ad115, e115, hx115_0, hx115_1⟩ := at_T86 (Kd.V_reads' HO_0.out).2.2 x6_1 p115 q115; obtain rfl : ad113 = ad115 := (by injection e115); replace p115 := eq_true p115; replace q115 := eq_true q115; have p116 : 0 ≤ (x7_1 : Int) := od_; have q116 : x7_1 < (t110.length : Int) := od_; obtain ⟨ad116, e116, hx116_0, hx116_1⟩ := at_T86 (Kd.V_reads' HO_1.out).2.2 x7_1 p116 q116; obtain rfl : ad114 = ad116 := (by injection e116); replace p116 := eq_true p116; replace q116 := eq_true q116; refine start_ (n := 25) (S := fun w' => w'.cell? (ad113.add ((x6_1).toNat * 2)) = some (.int .i64 ((rd_T86 t107 x6_1).f0)) ∧ w'.cell? ⟨(ad113.add ((x6_1).toNat * 2)).block, (ad113.add ((x6_1).toNat * 2)).off + 1, none⟩ = some (.int .i64 ((rd_T86 t107 x6_1).f1)) ∧ w'.cell? (ad114.add ((x7_1).toNat * 2)) = some (.int .i64 ((rd_T86 t110 x7_1).f0)) ∧ w'.cell? ⟨(ad114.add ((x7_1).toNat * 2)).block, (ad114.add ((x7_1).toNat * 2)).off + 1, none⟩ = some (.int .i64 ((rd_T86 t110 x7_1).f1)) ∧ w'.cell? (ad113.add ((x6_1).toNat * 2)) = some (.int .i64 ((rd_T86 t107 x6_1).f0)) ∧ w'.cell? ⟨(ad113.add ((x6_1).toNat * 2)).block, (ad113.add ((x6_1).toNat * 2)).off + 1, none⟩ = some (.int .i64 ((rd_T86 t107 x6_1).f1)) ∧ w'.cell? (ad114.add ((x7_1).toNat * 2)) = some (.int .i64 ((rd_T86 t110 x7_1).f0)) ∧ w'.cell? ⟨(ad114.add ((x7_1).toNat * 2)).block, (ad114.add ((x7_1).toNat * 2)).off + 1, none⟩ = some (.int .i64 ((rd_T86 t110 x7_1).f1))) (ds := []) (ab 25 0) (by kernel_rfl) rfl rfl ⟨hx113_0, hx113_1, hx114_0, hx114_1, hx115_0, hx115_1, hx116_0, hx116_1⟩ (fun hHeld => ?_); refine with_tabW sets_Meet.tab5 sets_Meet.bits5 (fun HT_ HW_ => ?_); generalize wc.drew = w41 at HO_0 HO_1 HO_5 HB hx113_0 hx113_1 hx114_0 hx114_1 hx115_0 hx115_1 hx116_0 hx116_1 hHeld ⊢; refine pA 0 23 25 1 ?_; refine pA 1 24 25 3 ?_; refine pA 2 25 25 7 ?_; refine pA 3 26 25 15 ?_; refine pA 5 28 25 47 ?_; refine pA 6 29 25 111 ?_; refine pA 7 30 25 239 ?_; refine pA 8 31 25 495 ?_; refine pA 11 34 25 2543 ?_; refine pA 12 35 25 6639 ?_; refine pA 13 36 25 14831 ?_; refine pA 14 37 25 31215 ?_; refine pA 16 39 25 96751 ?_; refine pA 17 40 25 227823 ?_; refine pA 18 41 25 489967 ?_; refine pA 19 42 25 1014255 ?_; refine tB 4 27 25 1014271 ?_; refine tB 9 32 25 1014783 ?_; refine pA 10 33 25 1015807 ?_; refine tB 15 38 25 1048575 ?_; refine tB 20 43 25 2097151 ?_; refine pA 21 44 25 4194303 ?_; refine pA 22 45 25 8388607 ?_; refine oA 23 (some 8) 25 16777215 fun K hK => ?_; refine bxs_ 8 #[.int .i64 0, .int .i64 0] 86 ?_; intro gb117 hg w44 hbox hb; have NE0_ : ad113.block ≠ gb117 := (by have h_ := World.block_lt_of_cell? _ _ hHeld.1; rw [add_block] at h_; omega); have NE1_ : ad114.block ≠ gb117 := (by have h_ := World.block_lt_of_cell? _ _ hHeld.2.2.1; rw [add_block] at h_; omega); have HS0_ := (hb.cell (World.block_lt_of_cell? _ _ (hHeld.1))).trans (hHeld.1); have HS1_ := (hb.cell (World.block_lt_of_cell? _ _ (hHeld.2.1))).trans (hHeld.2.1); have HS2_ := (hb.cell (World.block_lt_of_cell? _ _ (hHeld.2.2.1))).trans (hHeld.2.2.1); have HS3_ := (hb.cell (World.block_lt_of_cell? _ _ (hHeld.2.2.2.1))).trans (hHeld.2.2.2.1); have HS4_ := (hb.cell (World.block_lt_of_cell? _ _ (hHeld.2.2.2.2.1))).trans (hHeld.2.2.2.2.1); have HS5_ := (hb.cell (World.block_lt_of_cell? _ _ (hHeld.2.2.2.2.2.1))).trans (hHeld.2.2.2.2.2.1)
            have HS6_ := (hb.cell (World.block_lt_of_cell? _ _ (hHeld.2.2.2.2.2.2.1))).trans (hHeld.2.2.2.2.2.2.1); have HS7_ := (hb.cell (World.block_lt_of_cell? _ _ (hHeld.2.2.2.2.2.2.2))).trans (hHeld.2.2.2.2.2.2.2); replace HO_0 := eV_ HO_0 hg hb; replace HO_1 := eV_ HO_1 hg hb; replace HO_5 := A_ (Kd.R_below (Kd.R_elderB (hrR_ HO_5.out) gb117 (Nat.le_of_eq hg.symm)) hb); have BK117 := A_ (hbox); have GW117 := gs_ w hg; have GE117 := gs_ w hg; replace HB := bs_ hb; clear hb hbox hg; refine hK.out _ _ ⟨HS0_, HS1_, HS2_, HS3_, HS4_, HS5_, HS6_, HS7_⟩ (fun hHeld => ?_); clear hK K; refine nA ?_; refine oA 24 none 25 33554431 fun K hK => ?_; have hs45 : w44.cell? ⟨gb117, 0, none⟩ = some (.int .i64 0) := bq_ BK117 0; have hfs45 := blk_frozen BK117.out 0; have hs46 : w44.cell? ⟨gb117, 1, none⟩ = some (.int .i64 0) := bq_ BK117 1; have hfs46 := blk_frozen BK117.out 1; refine sA ?_; refine hK.out _ _ ⟨((cell_far (p := ⟨gb117, _, none⟩) (ne_ NE0_) _).trans (((cell_far (p := ⟨gb117, _, none⟩) (ne_ NE0_) _).trans (hHeld.1)))), ((cell_far (p := ⟨gb117, _, none⟩) (ne_ NE0_) _).trans (((cell_far (p := ⟨gb117, _, none⟩) (ne_ NE0_) _).trans (hHeld.2.1)))), ((cell_far (p := ⟨gb117, _, none⟩) (ne_ NE1_) _).trans (((cell_far (p := ⟨gb117, _, none⟩) (ne_ NE1_) _).trans (hHeld.2.2.1)))), ((cell_far (p := ⟨gb117, _, none⟩) (ne_ NE1_) _).trans (((cell_far (p := ⟨gb117, _, none⟩) (ne_ NE1_) _).trans (hHeld.2.2.2.1)))), ((cell_far (p := ⟨gb117, _, none⟩) (ne_ NE0_) _).trans (((cell_far (p := ⟨gb117, _, none⟩) (ne_ NE0_) _).trans (hHeld.2.2.2.2.1)))), ((cell_far (p := ⟨gb117, _, none⟩) (ne_ NE0_) _).trans (((cell_far (p := ⟨gb117, _, none⟩) (ne_ NE0_) _).trans (hHeld.2.2.2.2.2.1)))), ((cell_far (p := ⟨gb117, _, none⟩) (ne_ NE1_) _).trans (((cell_far (p := ⟨gb117, _, none⟩) (ne_ NE1_) _).trans (hHeld.2.2.2.2.2.2.1)))), ((cell_far (p := ⟨gb117, _, none⟩) (ne_ NE1_) _).trans (((cell_far (p := ⟨gb117, _, none⟩) (ne_ NE1_) _).trans (hHeld.2.2.2.2.2.2.2))))⟩ (fun hHeld => ?_)
            clear hK K; refine done_ (done_of HT_.out (by kernel_rfl)) ?_; have Z47 := bz2_ BK117; (try go_wp2); have n0_ : Aside0 (Kd.V k86 86 ((w44.setCell ⟨gb117, 0, none⟩ (.int .i64 ji17)).setCell ⟨gb117, 1, none⟩ (.int .i64 ji18)) w.heap.size (fun k_ => nv_ k_ u5 ∧ k_ ≠ gb117) (.slice (some ad113) t107.length co42) t107) := ⟨fpV_ HO_0.out⟩; have n1_ : Aside0 (Kd.V k86 86 ((w44.setCell ⟨gb117, 0, none⟩ (.int .i64 ji17)).setCell ⟨gb117, 1, none⟩ (.int .i64 ji18)) w.heap.size (fun k_ => nv_ k_ u5 ∧ k_ ≠ gb117) (.slice (some ad114) t110.length co43) t110) := ⟨fpV_ HO_1.out⟩; have n2_ : Aside0 (Kd.R k86 86 ((w44.setCell ⟨gb117, 0, none⟩ (.int .i64 ji17)).setCell ⟨gb117, 1, none⟩ (.int .i64 ji18)) w.heap.size (fun k_ => k_ ≠ gb117) u5 x5_1) := ⟨fpR_ HO_5.out⟩; have n3_ : Aside0 (((w44.setCell ⟨gb117, 0, none⟩ (.int .i64 ji17)).setCell ⟨gb117, 1, none⟩ (.int .i64 ji18)).heap[gb117]? = some (.cells #[.int .i64 ji17, .int .i64 ji18] 86 (0, 0))) := ⟨pb_ BK117.out⟩; have n4_ : Aside0 (Below w.heap.size w ((w44.setCell ⟨gb117, 0, none⟩ (.int .i64 ji17)).setCell ⟨gb117, 1, none⟩ (.int .i64 ji18))) := ⟨hs_⟩; (try clear HO_0); (try clear HO_1); (try clear HO_5); (try clear BK117); (try clear HB); generalize ((w44.setCell ⟨gb117, 0, none⟩ (.int .i64 ji17)).setCell ⟨gb117, 1, none⟩ (.int .i64 ji18)) = w48 at n0_ n1_ n2_ n3_ n4_ ⊢; have HO_0 := n0_; have HO_1 := n1_; have HO_5 := n2_; have BK117 := n3_; have HB := n4_; clear n0_ n1_ n2_ n3_ n4_; replace HO_0 := A_ (Kd.V_drew HO_0.out); replace HO_1 := A_ (Kd.V_drew HO_1.out); replace HO_5 := A_ (Kd.R_drew HO_5.out); replace BK117 := A_ (blk_drew BK117.out); replace HB := A_ (below_drew1 HB.out); have p123 : 0 ≤ (x6_1 : Int) := od_; have q123 : x6_1 < (t107.length : Int) := od_; obtain ⟨ad123, e123, hx123_0, hx123_1⟩ := at_T86 (Kd.V_reads' HO_0.out).2.2 x6_1 p123 q123; obtain rfl : ad113 = ad123 := (by injection e123); replace p123 := eq_true p123; replace q123 := eq_true q123; have p124 : 0 ≤ (x7_1 : Int) := od_; have q124 : x7_1 < (t110.length : Int) := od_; obtain ⟨ad124, e124, hx124_0, hx124_1⟩ := at_T86 (Kd.V_reads' HO_1.out).2.2 x7_1 p124 q124
            obtain rfl : ad114 = ad124 := (by injection e124); replace p124 := eq_true p124; replace q124 := eq_true q124; refine start_ (n := 11) (S := fun w' => w'.cell? (ad113.add ((x6_1).toNat * 2)) = some (.int .i64 ((rd_T86 t107 x6_1).f0)) ∧ w'.cell? ⟨(ad113.add ((x6_1).toNat * 2)).block, (ad113.add ((x6_1).toNat * 2)).off + 1, none⟩ = some (.int .i64 ((rd_T86 t107 x6_1).f1)) ∧ w'.cell? (ad114.add ((x7_1).toNat * 2)) = some (.int .i64 ((rd_T86 t110 x7_1).f0)) ∧ w'.cell? ⟨(ad114.add ((x7_1).toNat * 2)).block, (ad114.add ((x7_1).toNat * 2)).off + 1, none⟩ = some (.int .i64 ((rd_T86 t110 x7_1).f1))) (ds := []) (ab 11 0) (by kernel_rfl) rfl rfl ⟨hx123_0, hx123_1, hx124_0, hx124_1⟩ (fun hHeld => ?_); refine with_tabW sets_Meet.tab8 sets_Meet.bits8 (fun HT_ HW_ => ?_); generalize w48.drew = w49 at HO_0 HO_1 HO_5 BK117 HB hx123_0 hx123_1 hx124_0 hx124_1 hHeld ⊢; refine pA 0 55 11 1 ?_; refine pA 1 56 11 3 ?_; refine pA 2 57 11 7 ?_; refine pA 3 58 11 15 ?_; refine pA 5 60 11 47 ?_; refine pA 6 61 11 111 ?_; refine pA 7 62 11 239 ?_; refine pA 8 63 11 495 ?_; refine tB 4 59 11 511 ?_; refine tB 9 64 11 1023 ?_; refine pA 10 65 11 2047 ?_; refine done_ (done_of HT_.out (by kernel_rfl)) ?_; (try go_wp2); go_roundg kj6
            case measure => have := HK1.out; have := HJ6.out; omega
            case rel => exact ⟨(x5_1), (wrap64 (x6_1 + 1)), (x7_1), rf_, rf_, H', ⟨by have := HK1.out; have := HJ6.out; omega⟩, ⟨by (with_reducible repeat (first | apply Kd.V_alloc | apply Kd.V_drewN | apply Kd.V_drew)); exact Kd.V_mono HO_0.out (fun _ hk => hk.1)⟩, ⟨by (with_reducible repeat (first | apply Kd.V_alloc | apply Kd.V_drewN | apply Kd.V_drew)); exact Kd.V_mono HO_1.out (fun _ hk => hk.1)⟩, ⟨by (with_reducible repeat (first | apply Kd.R_alloc | apply Kd.R_drewN | apply Kd.R_drew)); exact Kd.R_mono HO_5.out (fun _ hk => trivial)⟩, ⟨hs_⟩⟩
           ·rw [if_neg c40] at H
            have c40b0 := decide_eq_false c40; clear c40; have H' := A_ H; clear H; (try go_wp2); replace HO_0 := A_ (Kd.V_drew HO_0.out); replace HO_1 := A_ (Kd.V_drew HO_1.out); replace HO_5 := A_ (Kd.R_drew HO_5.out); replace HB := A_ (below_drew1 HB.out); obtain ⟨Ao51, co51, eo51⟩ := Kd.V_slice HO_0.out; (first | subst eo51 | (injection eo51 with f1_ f2_ f3_; have f4_ := f1_.symm; have f5_ := f3_.symm; clear f1_ f2_ f3_; subst f4_; subst f5_)); have p113 : 0 ≤ (x6_1 : Int) := od_; have q113 : x6_1 < (t107.length : Int) := od_; obtain ⟨ad113, e113, hx113_0, hx113_1⟩ := at_T86 (Kd.V_reads' HO_0.out).2.2 x6_1 p113 q113
            cases e113
            replace p113 := eq_true p113; replace q113 := eq_true q113; obtain ⟨Ao52, co52, eo52⟩ := Kd.V_slice HO_1.out; (first | subst eo52 | (injection eo52 with f1_ f2_ f3_; have f4_ := f1_.symm; have f5_ := f3_.symm; clear f1_ f2_ f3_; subst f4_; subst f5_)); have p114 : 0 ≤ (x7_1 : Int) := od_; have q114 : x7_1 < (t110.length : Int) := od_; obtain ⟨ad114, e114, hx114_0, hx114_1⟩ := at_T86 (Kd.V_reads' HO_1.out).2.2 x7_1 p114 q114
            cases e114
            replace p114 := eq_true p114; replace q114 := eq_true q114; have p115 : 0 ≤ (x6_1 : Int) := od_; have q115 : x6_1 < (t107.length : Int) := od_; obtain ⟨ad115, e115, hx115_0, hx115_1⟩ := at_T86 (Kd.V_reads' HO_0.out).2.2 x6_1 p115 q115; obtain rfl : ad113 = ad115 := (by injection e115); replace p115 := eq_true p115; replace q115 := eq_true q115; have p116 : 0 ≤ (x7_1 : Int) := od_; have q116 : x7_1 < (t110.length : Int) := od_; obtain ⟨ad116, e116, hx116_0, hx116_1⟩ := at_T86 (Kd.V_reads' HO_1.out).2.2 x7_1 p116 q116; obtain rfl : ad114 = ad116 := (by injection e116); replace p116 := eq_true p116; replace q116 := eq_true q116; refine start_ (n := 25) (S := fun w' => w'.cell? (ad113.add ((x6_1).toNat * 2)) = some (.int .i64 ((rd_T86 t107 x6_1).f0)) ∧ w'.cell? ⟨(ad113.add ((x6_1).toNat * 2)).block, (ad113.add ((x6_1).toNat * 2)).off + 1, none⟩ = some (.int .i64 ((rd_T86 t107 x6_1).f1)) ∧ w'.cell? (ad114.add ((x7_1).toNat * 2)) = some (.int .i64 ((rd_T86 t110 x7_1).f0)) ∧ w'.cell? ⟨(ad114.add ((x7_1).toNat * 2)).block, (ad114.add ((x7_1).toNat * 2)).off + 1, none⟩ = some (.int .i64 ((rd_T86 t110 x7_1).f1)) ∧ w'.cell? (ad113.add ((x6_1).toNat * 2)) = some (.int .i64 ((rd_T86 t107 x6_1).f0)) ∧ w'.cell? ⟨(ad113.add ((x6_1).toNat * 2)).block, (ad113.add ((x6_1).toNat * 2)).off + 1, none⟩ = some (.int .i64 ((rd_T86 t107 x6_1).f1)) ∧ w'.cell? (ad114.add ((x7_1).toNat * 2)) = some (.int .i64 ((rd_T86 t110 x7_1).f0)) ∧ w'.cell? ⟨(ad114.add ((x7_1).toNat * 2)).block, (ad114.add ((x7_1).toNat * 2)).off + 1, none⟩ = some (.int .i64 ((rd_T86 t110 x7_1).f1))) (ds := []) (ab 25 0) (by kernel_rfl) rfl rfl ⟨hx113_0, hx113_1, hx114_0, hx114_1, hx115_0, hx115_1, hx116_0, hx116_1⟩ (fun hHeld => ?_); refine with_tabW sets_Meet.tab5 sets_Meet.bits5 (fun HT_ HW_ => ?_); generalize wc.drew = w50 at HO_0 HO_1 HO_5 HB hx113_0 hx113_1 hx114_0 hx114_1 hx115_0 hx115_1 hx116_0 hx116_1 hHeld ⊢; refine pA 0 23 25 1 ?_; refine pA 1 24 25 3 ?_; refine pA 2 25 25 7 ?_; refine pA 3 26 25 15 ?_; refine pA 5 28 25 47 ?_; refine pA 6 29 25 111 ?_; refine pA 7 30 25 239 ?_; refine pA 8 31 25 495 ?_; refine pA 11 34 25 2543 ?_; refine pA 12 35 25 6639 ?_; refine pA 13 36 25 14831 ?_; refine pA 14 37 25 31215 ?_; refine pA 16 39 25 96751 ?_; refine pA 17 40 25 227823 ?_; refine pA 18 41 25 489967 ?_; refine pA 19 42 25 1014255 ?_; refine tB 4 27 25 1014271 ?_; refine tB 9 32 25 1014783 ?_; refine pA 10 33 25 1015807 ?_; refine tB 15 38 25 1048575 ?_; refine tB 20 43 25 2097151 ?_; refine pA 21 44 25 4194303 ?_; refine pA 22 45 25 8388607 ?_; refine oA 23 (some 8) 25 16777215 fun K hK => ?_; refine bxs_ 8 #[.int .i64 0, .int .i64 0] 86 ?_; intro gb117 hg w53 hbox hb; have NE0_ : ad113.block ≠ gb117 := (by have h_ := World.block_lt_of_cell? _ _ hHeld.1; rw [add_block] at h_; omega); have NE1_ : ad114.block ≠ gb117 := (by have h_ := World.block_lt_of_cell? _ _ hHeld.2.2.1; rw [add_block] at h_; omega); have HS0_ := (hb.cell (World.block_lt_of_cell? _ _ (hHeld.1))).trans (hHeld.1); have HS1_ := (hb.cell (World.block_lt_of_cell? _ _ (hHeld.2.1))).trans (hHeld.2.1); have HS2_ := (hb.cell (World.block_lt_of_cell? _ _ (hHeld.2.2.1))).trans (hHeld.2.2.1); have HS3_ := (hb.cell (World.block_lt_of_cell? _ _ (hHeld.2.2.2.1))).trans (hHeld.2.2.2.1); have HS4_ := (hb.cell (World.block_lt_of_cell? _ _ (hHeld.2.2.2.2.1))).trans (hHeld.2.2.2.2.1); have HS5_ := (hb.cell (World.block_lt_of_cell? _ _ (hHeld.2.2.2.2.2.1))).trans (hHeld.2.2.2.2.2.1)
            have HS6_ := (hb.cell (World.block_lt_of_cell? _ _ (hHeld.2.2.2.2.2.2.1))).trans (hHeld.2.2.2.2.2.2.1); have HS7_ := (hb.cell (World.block_lt_of_cell? _ _ (hHeld.2.2.2.2.2.2.2))).trans (hHeld.2.2.2.2.2.2.2); replace HO_0 := eV_ HO_0 hg hb; replace HO_1 := eV_ HO_1 hg hb; replace HO_5 := A_ (Kd.R_below (Kd.R_elderB (hrR_ HO_5.out) gb117 (Nat.le_of_eq hg.symm)) hb); have BK117 := A_ (hbox); have GW117 := gs_ w hg; have GE117 := gs_ w hg; replace HB := bs_ hb; clear hb hbox hg; refine hK.out _ _ ⟨HS0_, HS1_, HS2_, HS3_, HS4_, HS5_, HS6_, HS7_⟩ (fun hHeld => ?_); clear hK K; refine nA ?_; refine oA 24 none 25 33554431 fun K hK => ?_; have hs54 : w53.cell? ⟨gb117, 0, none⟩ = some (.int .i64 0) := bq_ BK117 0; have hfs54 := blk_frozen BK117.out 0; have hs55 : w53.cell? ⟨gb117, 1, none⟩ = some (.int .i64 0) := bq_ BK117 1; have hfs55 := blk_frozen BK117.out 1; refine sA ?_; refine hK.out _ _ ⟨((cell_far (p := ⟨gb117, _, none⟩) (ne_ NE0_) _).trans (((cell_far (p := ⟨gb117, _, none⟩) (ne_ NE0_) _).trans (hHeld.1)))), ((cell_far (p := ⟨gb117, _, none⟩) (ne_ NE0_) _).trans (((cell_far (p := ⟨gb117, _, none⟩) (ne_ NE0_) _).trans (hHeld.2.1)))), ((cell_far (p := ⟨gb117, _, none⟩) (ne_ NE1_) _).trans (((cell_far (p := ⟨gb117, _, none⟩) (ne_ NE1_) _).trans (hHeld.2.2.1)))), ((cell_far (p := ⟨gb117, _, none⟩) (ne_ NE1_) _).trans (((cell_far (p := ⟨gb117, _, none⟩) (ne_ NE1_) _).trans (hHeld.2.2.2.1)))), ((cell_far (p := ⟨gb117, _, none⟩) (ne_ NE0_) _).trans (((cell_far (p := ⟨gb117, _, none⟩) (ne_ NE0_) _).trans (hHeld.2.2.2.2.1)))), ((cell_far (p := ⟨gb117, _, none⟩) (ne_ NE0_) _).trans (((cell_far (p := ⟨gb117, _, none⟩) (ne_ NE0_) _).trans (hHeld.2.2.2.2.2.1)))), ((cell_far (p := ⟨gb117, _, none⟩) (ne_ NE1_) _).trans (((cell_far (p := ⟨gb117, _, none⟩) (ne_ NE1_) _).trans (hHeld.2.2.2.2.2.2.1)))), ((cell_far (p := ⟨gb117, _, none⟩) (ne_ NE1_) _).trans (((cell_far (p := ⟨gb117, _, none⟩) (ne_ NE1_) _).trans (hHeld.2.2.2.2.2.2.2))))⟩ (fun hHeld => ?_)
            clear hK K; refine done_ (done_of HT_.out (by kernel_rfl)) ?_; have Z56 := bz2_ BK117; (try go_wp2); have n0_ : Aside0 (Kd.V k86 86 ((w53.setCell ⟨gb117, 0, none⟩ (.int .i64 ji17)).setCell ⟨gb117, 1, none⟩ (.int .i64 ji18)) w.heap.size (fun k_ => nv_ k_ u5 ∧ k_ ≠ gb117) (.slice (some ad113) t107.length co51) t107) := ⟨fpV_ HO_0.out⟩; have n1_ : Aside0 (Kd.V k86 86 ((w53.setCell ⟨gb117, 0, none⟩ (.int .i64 ji17)).setCell ⟨gb117, 1, none⟩ (.int .i64 ji18)) w.heap.size (fun k_ => nv_ k_ u5 ∧ k_ ≠ gb117) (.slice (some ad114) t110.length co52) t110) := ⟨fpV_ HO_1.out⟩; have n2_ : Aside0 (Kd.R k86 86 ((w53.setCell ⟨gb117, 0, none⟩ (.int .i64 ji17)).setCell ⟨gb117, 1, none⟩ (.int .i64 ji18)) w.heap.size (fun k_ => k_ ≠ gb117) u5 x5_1) := ⟨fpR_ HO_5.out⟩; have n3_ : Aside0 (((w53.setCell ⟨gb117, 0, none⟩ (.int .i64 ji17)).setCell ⟨gb117, 1, none⟩ (.int .i64 ji18)).heap[gb117]? = some (.cells #[.int .i64 ji17, .int .i64 ji18] 86 (0, 0))) := ⟨pb_ BK117.out⟩; have n4_ : Aside0 (Below w.heap.size w ((w53.setCell ⟨gb117, 0, none⟩ (.int .i64 ji17)).setCell ⟨gb117, 1, none⟩ (.int .i64 ji18))) := ⟨hs_⟩; (try clear HO_0); (try clear HO_1); (try clear HO_5); (try clear BK117); (try clear HB); generalize ((w53.setCell ⟨gb117, 0, none⟩ (.int .i64 ji17)).setCell ⟨gb117, 1, none⟩ (.int .i64 ji18)) = w57 at n0_ n1_ n2_ n3_ n4_ ⊢; have HO_0 := n0_; have HO_1 := n1_; have HO_5 := n2_; have BK117 := n3_; have HB := n4_; clear n0_ n1_ n2_ n3_ n4_; replace HO_0 := A_ (Kd.V_drew HO_0.out); replace HO_1 := A_ (Kd.V_drew HO_1.out); replace HO_5 := A_ (Kd.R_drew HO_5.out); replace BK117 := A_ (blk_drew BK117.out); replace HB := A_ (below_drew1 HB.out); have p123 : 0 ≤ (x6_1 : Int) := od_; have q123 : x6_1 < (t107.length : Int) := od_; obtain ⟨ad123, e123, hx123_0, hx123_1⟩ := at_T86 (Kd.V_reads' HO_0.out).2.2 x6_1 p123 q123; obtain rfl : ad113 = ad123 := (by injection e123); replace p123 := eq_true p123; replace q123 := eq_true q123; have p124 : 0 ≤ (x7_1 : Int) := od_; have q124 : x7_1 < (t110.length : Int) := od_; obtain ⟨ad124, e124, hx124_0, hx124_1⟩ := at_T86 (Kd.V_reads' HO_1.out).2.2 x7_1 p124 q124
            obtain rfl : ad114 = ad124 := (by injection e124); replace p124 := eq_true p124; replace q124 := eq_true q124; refine start_ (n := 11) (S := fun w' => w'.cell? (ad113.add ((x6_1).toNat * 2)) = some (.int .i64 ((rd_T86 t107 x6_1).f0)) ∧ w'.cell? ⟨(ad113.add ((x6_1).toNat * 2)).block, (ad113.add ((x6_1).toNat * 2)).off + 1, none⟩ = some (.int .i64 ((rd_T86 t107 x6_1).f1)) ∧ w'.cell? (ad114.add ((x7_1).toNat * 2)) = some (.int .i64 ((rd_T86 t110 x7_1).f0)) ∧ w'.cell? ⟨(ad114.add ((x7_1).toNat * 2)).block, (ad114.add ((x7_1).toNat * 2)).off + 1, none⟩ = some (.int .i64 ((rd_T86 t110 x7_1).f1))) (ds := []) (ab 11 0) (by kernel_rfl) rfl rfl ⟨hx123_0, hx123_1, hx124_0, hx124_1⟩ (fun hHeld => ?_); refine with_tabW sets_Meet.tab8 sets_Meet.bits8 (fun HT_ HW_ => ?_); generalize w57.drew = w58 at HO_0 HO_1 HO_5 BK117 HB hx123_0 hx123_1 hx124_0 hx124_1 hHeld ⊢; refine pA 0 55 11 1 ?_; refine pA 1 56 11 3 ?_; refine pA 2 57 11 7 ?_; refine pA 3 58 11 15 ?_; refine pA 5 60 11 47 ?_; refine pA 6 61 11 111 ?_; refine pA 7 62 11 239 ?_; refine pA 8 63 11 495 ?_; refine tB 4 59 11 511 ?_; refine tB 9 64 11 1023 ?_; refine pA 10 65 11 2047 ?_; refine done_ (done_of HT_.out (by kernel_rfl)) ?_; (try go_wp2); go_roundg kj6
            case measure => have := HK1.out; have := HJ6.out; omega
            case rel => exact ⟨(x5_1), (x6_1), (wrap64 (x7_1 + 1)), rf_, rf_, H', ⟨by have := HK1.out; have := HJ6.out; omega⟩, ⟨by (with_reducible repeat (first | apply Kd.V_alloc | apply Kd.V_drewN | apply Kd.V_drew)); exact Kd.V_mono HO_0.out (fun _ hk => hk.1)⟩, ⟨by (with_reducible repeat (first | apply Kd.V_alloc | apply Kd.V_drewN | apply Kd.V_drew)); exact Kd.V_mono HO_1.out (fun _ hk => hk.1)⟩, ⟨by (with_reducible repeat (first | apply Kd.R_alloc | apply Kd.R_drewN | apply Kd.R_drew)); exact Kd.R_mono HO_5.out (fun _ hk => trivial)⟩, ⟨hs_⟩⟩
         ·rw [if_neg c16] at H
          exact absurd H (by simp)
        ·rw [if_neg c15] at H
         exact absurd H (by simp)
       ·rw [if_neg c14] at H
        exact absurd H (by simp)
      ·rw [if_neg c13] at H
       exact absurd H (by simp)
     ·replace c12 := Bool.eq_false_iff.mpr c12
      subst c12; replace H := iN_ H; obtain rfl := Option.some.inj H; go_wp2; (try rw [Exit.noGoto_ret]); go_ret; exact ⟨_, by first | rfl | (simp [errW_none, errW_some] <;> rfl) | (simp [*, errW_none, errW_some] <;> rfl), fxR_ HO_5.out, hs_⟩
end Go.Proofs.Ytfehdlkklfcnpaa.A
namespace Go.Proofs.Ytfehdlkklfcnpaa.A
open Go.RowKit Go.Proofs.YtfehdlkklfcnpaaW.PrintWords Go.Proofs.YtfehdlkklfcnpaaW.PrintLast Go.Proofs.YtfehdlkklfcnpaaW.PrintMore
attribute [local go_sem] max2_int min2_int max_two min_two max_three min_three max_four min_four
attribute [local go_sem high] eqA23
set_option maxHeartbeats 8000000 in
set_option maxRecDepth 100000 in
theorem sets_Clip.calls (k : Nat) (A0 : Option Addr) (c0 : Nat) (l0 : List (S86)) (a1 a2 : Int) (r : List (S86)) (w : World) (hr0 : Kd.C k86 w A0 l0.length l0) (hc0 : l0.length ≤ c0) (h : sets_Clip.f k l0 a1 a2 = some r) :
  Calls Try.prog 82 #[.slice A0 l0.length c0, .int .i64 a1, .int .i64 a2] w fun e w' => ∃ v0_ : Value, e = .returned (v0_) ∧ Kd.R k86 86 w' w.heap.size (fun _ => True) v0_ r ∧ Below w.heap.size w w' := by
 have hu86 := Try.underlying86; have HR0 := A_ hr0; have HC0 := A_ hc0; clear hr0 hc0; have HB := A_ (Below.refl w.heap.size w); have H : ((sets_Meet.f k l0 (([(⟨a1, a2⟩ : S86)] : List (S86)))).bind fun t128 => (some t128)) = some r := h; clear h; obtain ⟨y125, hy125⟩ : ∃ y_ : List (S86), y_ = (([(⟨a1, a2⟩ : S86)] : List (S86))) := ⟨_, rfl⟩; (replace H : ((sets_Meet.f k l0 y125).bind fun t128 => (some t128)) = some r := hy_ hy125 H); have Ny125 := A_ hy125; clear hy125; obtain ⟨t128, A4, H⟩ := bi_ H; obtain rfl := Option.some.inj H; go_enter Try.func82, Try.ntmps82; go_wp2_with (first | (refine gD 11 ?_; refine Kd.R_lit k86 _ 86 ?hg (N := 11) ?hd (xs := ([(⟨a1, a2⟩ : S86)] : List (S86))) (inner := [.int .i64 a1, .int .i64 a2]) (ok := fun _ => True) (okp := fun _ => True) ?hr ?hp (fun _ hk => hk) trivial (Below.refl _ _) (Nat.le_refl _) (by simp) ?_; (case hd => rfl); (case hg => rfl); (case hr => first | (go_simp; done) | (go_simp; rfl)); (case hp => exact (Reps.c2 (show Kd.M k86 _ _ _ (⟨a1, a2⟩ : S86) [.int .i64 a1, .int .i64 a2] from (k86_mkM _ _ _ (⟨a1, a2⟩ : S86) )) (Reps.none _ _))); intro v126 w5 ho6 hb hg_ hnew_; clear hg_ hnew_; (first | rw [← Ny125.out] at ho6 | (simp only [Int.reduceToNat] at ho6; rw [← Ny125.out] at ho6)); have HO127 := A_ (Kd.R_lower ho6 (below_size hs_)); replace HB := bs_ hb; clear hb ho6; obtain ⟨Ao7, co7, eo7⟩ := Kd.R_slice HO127.out; subst eo7) | (refine gC 89 ?_; refine gL 12 Try.func89 #[.slice A0 l0.length c0, .slice Ao7 y125.length co7] ?_; (with_reducible refine (sets_Meet.calls k _ _ l0 _ _ y125 t128 _ ?side1 ?side2 ?side3 ?side4 A4.out).mono ?_); (case side1 => exact cb_ HR0); (case side2 => exact HC0.out); (case side3 => exact cr_ (Kd.R_reads' HO127.out).2.2); (case side4 => exact (Kd.R_reads' HO127.out).2.1); rintro e w8 ⟨v129, rfl, ho0, hb⟩; refine ⟨_, rfl, ?_⟩; have HO130 := A_ (Kd.R_lower (Kd.R_new' ho0 (Kd.R_lt (hrR_ HO127.out))) (below_size hs_)); replace HO127 := A_ (Kd.R_elder' (hrR_ HO127.out) (Kd.R_base ho0) hb); replace HB := bs_ hb; (try clear hb); (try clear ho0))); go_ret; exact ⟨_, by first | rfl | (simp [errW_none, errW_some] <;> rfl) | (simp [*, errW_none, errW_some] <;> rfl), by (with_reducible repeat (first | apply Kd.R_alloc | apply Kd.R_drewN | apply Kd.R_drew)); exact Kd.R_mono HO130.out (fun _ hk => trivial), hs_⟩
end Go.Proofs.Ytfehdlkklfcnpaa.A
namespace Go.Proofs.Ytfehdlkklfcnpaa.A
open Go.RowKit Go.Proofs.YtfehdlkklfcnpaaW.PrintWords Go.Proofs.YtfehdlkklfcnpaaW.PrintLast Go.Proofs.YtfehdlkklfcnpaaW.PrintMore
attribute [local go_sem] max2_int min2_int max_two min_two max_three min_three max_four min_four
attribute [local go_sem high] eqA23
attribute [local go_sem] isSome_setCell
set_option maxHeartbeats 8000000 in
set_option maxRecDepth 100000 in
theorem point_numbers.calls (k : Nat) (a0 : ByteArray) (a1 : Int) (r : List Int) (w : World) (h : point_numbers.f k a0 a1 = some r) :
  Calls Try.prog 72 #[.string a0, .int .i64 a1] w fun e w' => ∃ v0_ : Value, e = .returned (v0_) ∧ Kd.R (Kd.int .i64) 3 w' w.heap.size (fun _ => True) v0_ r ∧ Below w.heap.size w w' := by
 have hu86 := Try.underlying86; have HB := A_ (Below.refl w.heap.size w); have H : ((mask_Set.f a0).bind fun t131 => ((sets_Clip.f k t131 1 a1).bind fun t134 => (point_numbers.l0 k ([] : List Int) t134 (t134.length : Int) 0))) = some r := h; clear h; obtain ⟨t131, A3, H⟩ := bi_ H; obtain ⟨t134, A4, H⟩ := bi_ H; have H' := A_ H; clear H; go_enter Try.func72, Try.ntmps72; go_wp2_with (first | (refine gC 83 ?_; refine gL 10 Try.func83 #[.string a0] ?_; (with_reducible refine (mask_Set.calls a0 t131 _ A3.out).mono ?_); rintro e w5 ⟨v132, rfl, ho0, hb⟩; refine ⟨_, rfl, ?_⟩; have HO133 := A_ (Kd.R_lower ho0 (below_size hs_)); replace HB := bs_ hb; (try clear hb); (try clear ho0); obtain ⟨Ao6, co6, eo6⟩ := Kd.R_slice HO133.out; subst eo6) | (refine gC 82 ?_; refine gL 12 Try.func82 #[.slice Ao6 t131.length co6, .int .i64 1, .int .i64 a1] ?_; (with_reducible refine (sets_Clip.calls k _ _ t131 1 a1 t134 _ ?side1 ?side2 A4.out).mono ?_); (case side1 => exact cr_ (Kd.R_reads' HO133.out).2.2); (case side2 => exact (Kd.R_reads' HO133.out).2.1); rintro e w7 ⟨v135, rfl, ho0, hb⟩; refine ⟨_, rfl, ?_⟩; have HO136 := A_ (Kd.R_lower (Kd.R_new' ho0 (Kd.R_lt (hrR_ HO133.out))) (below_size hs_)); replace HO133 := A_ (Kd.R_elder' (hrR_ HO133.out) (Kd.R_base ho0) hb); replace HB := bs_ hb; (try clear hb); (try clear ho0); obtain ⟨Ao8, co8, eo8⟩ := Kd.R_slice HO136.out; subst eo8)); go_loopg [5, 14] k (fun kq v5 v14 w' => ∃ (x5_1 : List Int) (x14_1 : Int), v14 = .int .i64 x14_1 ∧ Aside0 (point_numbers.l0 kq x5_1 t134 (t134.length : Int) x14_1 = some r) ∧ Aside0 (kq ≤ k) ∧ Aside0 (Kd.R (Kd.int .i64) 3 w' w.heap.size (fun _ => True) v5 x5_1) ∧ Aside0 (Kd.R k86 86 w' w.heap.size (fun _ => True) (.slice Ao8 t134.length co8) t134) ∧ Aside0 (Below w.heap.size w w'))
 case atStart => exact ⟨(([] : List Int)), (0), rf_, H', ⟨Nat.le_refl _⟩, ⟨by first | exact Kd.R_nil _ _ _ _ _ | exact Kd.N_nil _ _ _ _ _ | exact Kd.V_nil _ _ _ _ _ | exact Kd.Q_nil _ _ _ _ _ | exact Kd.S_nil _ _ _ _ _⟩, ⟨by (with_reducible repeat (first | apply Kd.R_alloc | apply Kd.R_drewN | apply Kd.R_drew)); exact Kd.R_mono HO136.out (fun _ hk => trivial)⟩, ⟨hs_⟩⟩
 case round =>
  clear H'; (try clear p2); (try clear c7); (try clear c8); obtain ⟨x5_1, x14_1, rfl, HA, HK1, HO_5, HO_12, HB⟩ := hrel
  cases gk with
  | zero => exact absurd HA.out (by simp [point_numbers.l0])
  | succ k1 =>
   have H := HA.out; clear HA; simp only [point_numbers.l0] at H
   by_cases c9 : x14_1 < (t134.length : Int)
   ·rw [if_pos c9] at H
    have c9b0 := decide_eq_true c9; clear c9
    by_cases c10 : 0 ≤ x14_1
    ·rw [if_pos c10] at H
     have c10b0 := decide_eq_true c10; clear c10
     by_cases c11 : x14_1 < (t134.length : Int)
     ·rw [if_pos c11] at H
      have c11b0 := decide_eq_true c11; clear c11; have H' := A_ H; clear H; have p137 : 0 ≤ (x14_1 : Int) := od_; have q137 : x14_1 < (t134.length : Int) := od_; obtain ⟨ad137, e137, hx137_0, hx137_1⟩ := at_T86 (Kd.R_reads' HO_12.out).2.2 x14_1 p137 q137
      cases e137
      replace p137 := eq_true p137; replace q137 := eq_true q137; go_wp2_with (first | (refine gD 7 ?_; refine bxe_ 7 #[.int .i64 0, .int .i64 0] 86 ?_; intro gb138 hg w12 hbox hb; replace HO_5 := A_ (Kd.R_below (hrR_ HO_5.out) hb); replace HO_12 := A_ (Kd.R_below (Kd.R_elderB (hrR_ HO_12.out) gb138 (Nat.le_of_eq hg.symm)) hb); have BK138 := A_ (hbox); have GW138 := gs_ w hg; have GE138 := gs_ w hg; replace HB := bs_ hb; clear hb hbox hg; have Z13 := bz2_ BK138)); go_loopg [5, 8] k1 (fun kq v5 v8 w' => ∃ (x5_2 : List Int) (x8_2 : Int), v8 = .int .i64 x8_2 ∧ Aside0 (point_numbers.l1 kq x5_2 x8_2 t134 (t134.length : Int) x14_1 ((rd_T86 t134 x14_1).f0) ((rd_T86 t134 x14_1).f1) = some r) ∧ Aside0 (kq ≤ k1) ∧ Aside0 (Kd.R (Kd.int .i64) 3 w' w.heap.size (fun _ => True) v5 x5_2) ∧ Aside0 (Kd.R k86 86 w' w.heap.size (fun k_ => k_ ≠ gb138) (.slice (some ad137) t134.length co8) t134) ∧ Aside0 (w'.heap[gb138]? = some (.cells #[.int .i64 ((rd_T86 t134 x14_1).f0), .int .i64 ((rd_T86 t134 x14_1).f1)] 86 (0, 0))) ∧ Aside0 (Below w.heap.size w w'))
      case atStart => exact ⟨(x5_1), ((rd_T86 t134 x14_1).f0), rf_, H', ⟨Nat.le_refl _⟩, ⟨by (with_reducible repeat (first | apply Kd.R_alloc | apply Kd.R_drewN | apply Kd.R_drew)); exact Kd.R_mono (Kd.R_far (p := ⟨gb138, 1, none⟩) (Kd.R_far (p := ⟨gb138, 0, none⟩) (Kd.R_types HO_5.out BK138.out (by decide)) (fun _ hk => hk.2) (.int .i64 ((rd_T86 t134 x14_1).f0))) (fun _ hk => hk.2) (.int .i64 ((rd_T86 t134 x14_1).f1))) (fun _ hk => trivial)⟩, ⟨fpR_ HO_12.out⟩, ⟨pb_ BK138.out⟩, ⟨hs_⟩⟩
      case round =>
       clear H'; (try clear c1); (try clear p1); (try clear q1); (try clear hx1); (try clear p2); (try clear c7); (try clear c8); (try clear c9); (try clear c9b0); (try clear c10); (try clear c10b0); (try clear c11); (try clear c11b0); (try clear p13); (try clear q13); (try clear hx13); (try clear Z13); (try clear hx137_0); (try clear hx137_1); (try clear p137); (try clear p2); (try clear q137); obtain ⟨x5_2, x8_2, rfl, HA, HK2, HO_5, HO_12, BK138, HB⟩ := hrel
       cases gk with
       | zero => exact absurd HA.out (by simp [point_numbers.l1])
       | succ k2 =>
        have H := HA.out; clear HA; simp only [point_numbers.l1] at H
        by_cases c14 : x8_2 ≤ ((rd_T86 t134 x14_1).f1)
        ·rw [if_pos c14] at H
         have c14b0 := decide_eq_true c14; clear c14
         by_cases c15 : x5_2.length < 17592186044416
         ·rw [if_pos c15] at H
          have LMc15 := A_ c15; clear c15; obtain ⟨y139, hy139⟩ : ∃ y_ : List Int, y_ = (x5_2 ++ [x8_2]) := ⟨_, rfl⟩; (replace H : (point_numbers.l1 k2 y139 (wrap64 (x8_2 + 1)) t134 (t134.length : Int) x14_1 ((rd_T86 t134 x14_1).f0) ((rd_T86 t134 x14_1).f1)) = some r := hy_ hy139 H); have Ny139 := A_ hy139; clear hy139; have H' := A_ H; clear H; have Z16 := bz2_ BK138; go_wp2_with (first | ((with_reducible refine gate_builtin (b := .append) (xs := #[.tmp 26, .tmp 28]) rfl ?_); at_builtin; refine Kd.R_append (Kd.int .i64) (w0 := w) w.heap.size rfl (.tmp 26) (.tmp 28) 66 3 (.int .i64 0) 8 rfl Try.underlying66 info3 rfl (by decide) (by omega) u5 x5_2 x8_2 [.int .i64 x8_2] (fun _ => True) (fun _ => False) rfl rfl ?aP (fun _ hk => hk.elim) ?aF ?aO ?aB ?aS ?aL ?_; (case aP => exact rfl); (case aB => exact hs_); (case aF => exact (fun _ _ => trivial)); (case aO => exact (hrR_ HO_5.out)); (case aS => exact (below_size hs_)); (case aL => have := LMc15.out; omega); intro v140 w17 ho hb hg hat; rw [← Ny139.out] at ho; replace HO_12 := A_ (Kd.R_over' (hrR_ HO_12.out) (Kd.R_typed (hrR_ HO_5.out)) (by decide) hg); replace BK138 := A_ (blk_grown (g := gb138) (o := .cells #[.int .i64 ((rd_T86 t134 x14_1).f0), .int .i64 ((rd_T86 t134 x14_1).f1)] 86 (0, 0)) (bl_ BK138.out) hg (Kd.R_ne HO_5.out BK138.out (by decide))); replace HB := A_ (hb); have HO141 := A_ (ho); clear HO_5; clear ho hb hg hat)); go_roundg k2
          case measure => have := HK1.out; have := HK2.out; omega
          case rel => exact ⟨(y139), (wrap64 (x8_2 + 1)), rf_, H', ⟨by have := HK1.out; have := HK2.out; omega⟩, ⟨fxR_ HO141.out⟩, ⟨fxR_ HO_12.out⟩, ⟨bl_ BK138.out⟩, ⟨hs_⟩⟩
         ·rw [if_neg c15] at H
          exact absurd H (by simp)
        ·rw [if_neg c14] at H
         have c14b0 := decide_eq_false c14; clear c14; have H' := A_ H; clear H; have Z18 := bz2_ BK138; go_wp2; go_roundg k2
         case measure => have := HK1.out; have := HK2.out; omega
         case rel => exact ⟨(x5_2), (wrap64 (x14_1 + 1)), rf_, H', ⟨by have := HK1.out; have := HK2.out; omega⟩, ⟨fxR_ HO_5.out⟩, ⟨by (with_reducible repeat (first | apply Kd.R_alloc | apply Kd.R_drewN | apply Kd.R_drew)); exact Kd.R_mono HO_12.out (fun _ hk => trivial)⟩, ⟨hs_⟩⟩
     ·rw [if_neg c11] at H
      exact absurd H (by simp)
    ·rw [if_neg c10] at H
     exact absurd H (by simp)
   ·rw [if_neg c9] at H
    have c9b0 := decide_eq_false c9; clear c9; obtain rfl := Option.some.inj H; go_wp2; go_ret; exact ⟨_, by first | rfl | (simp [errW_none, errW_some] <;> rfl) | (simp [*, errW_none, errW_some] <;> rfl), fxR_ HO_5.out, hs_⟩
set_option maxHeartbeats 8000000 in
set_option maxRecDepth 100000 in
theorem point_some.calls (k : Nat) (a0 : ByteArray) (a1 a2 : Int) (r : Bool) (w : World) (h : point_some.f k a0 a1 a2 = some r) :
  Calls Try.prog 56 #[.string a0, .int .i64 a1, .int .i64 a2] w fun e w' => e = .returned (.bool r) ∧ Below w.heap.size w w' := by
 have HB := A_ (Below.refl w.heap.size w); have H : (if (a0.size : Int) = a1 then ((point_numbers.f k a0 a2).bind fun t142 => (some (decide ((t142.length : Int) > 0)))) else (some false)) = some r := h; clear h
 by_cases c4 : (a0.size : Int) = a1
 ·rw [if_pos c4] at H
  have c4b0 : ((a0.size : Int) == a1) = true := beq_iff_eq.mpr c4; have c4b1 : ((a0.size : Int) != a1) = false := bne_eq_false_iff_eq.mpr c4; clear c4; obtain ⟨t142, A5, H⟩ := bi_ H; obtain rfl := Option.some.inj H; go_enter Try.func56, Try.ntmps56; go_wp2_with (first | (go_at_call 72; (with_reducible refine (point_numbers.calls k a0 a2 t142 _ A5.out).mono ?_); rintro e w6 ⟨v143, rfl, ho0, hb⟩; have HO144 := A_ (Kd.R_lower ho0 (below_size hs_)); replace HB := bs_ hb; (try clear hb); (try clear ho0); obtain ⟨Ao7, co7, eo7⟩ := Kd.R_slice HO144.out; subst eo7)); go_ret; exact ⟨re_, hs_⟩
 ·rw [if_neg c4] at H
  have c4b0 : ((a0.size : Int) == a1) = false := beq_eq_false_iff_ne.mpr c4; have c4b1 : ((a0.size : Int) != a1) = true := bne_iff_ne.mpr c4; obtain rfl := Option.some.inj H; go_enter Try.func56, Try.ntmps56; go_wp2; go_ret; exact ⟨re_, hs_⟩
set_option maxHeartbeats 8000000 in
set_option maxRecDepth 100000 in
theorem point_Sane.calls (k : Nat) (a0_0 : Int) (a0_1 a0_2 a0_3 : ByteArray) (r : Bool) (w : World) (h : point_Sane.f k a0_0 a0_1 a0_2 a0_3 = some r) :
  Calls Try.prog 29 #[.agg #[.int .i64 a0_0, .string a0_1, .string a0_2, .string a0_3]] w fun e w' => e = .returned (.bool r) ∧ Below w.heap.size w w' := by
 have hu23 := Try.underlying23; have HB := A_ (Below.refl w.heap.size w); have H : ((mask_Sane.f a0_1).bind fun t146 => (if t146 = true then (if a0_2.toList = ([] : List UInt8) then (point_Sane.j0 k (a0_3.toList == ([] : List UInt8)) a0_0 a0_1 a0_2 a0_3) else (point_Sane.j0 k false a0_0 a0_1 a0_2 a0_3)) else (some false))) = some r := h; clear h; obtain ⟨t146, A2, H⟩ := bi_ H
 by_cases c3 : t146 = true
 ·subst c3
  replace H := iP_ H; have HC4 := A_ H; clear H; go_enter Try.func29, Try.ntmps29; go_upto_region 3 with (first | (refine gx_ w 1 (n4_ a0_0 a0_1 a0_2 a0_3) 23 ?_; clear HB; intro gb145 w5 BK145 GE145 HB; have GW145 := GE145; have Z6 := bz4_ BK145) | (refine gC 55 ?_; refine gL 6 Try.func55 #[.string a0_1] ?_; (with_reducible refine (mask_Sane.calls a0_1 true _ A2.out).mono ?_); rintro e w7 ⟨rfl, hb⟩; refine ⟨_, rfl, ?_⟩; replace BK145 := bb_ BK145 hb; replace HB := bs_ hb; (try clear hb))); (try simp only [Act.put, List.setIfInBounds_toArray, List.set_cons_zero, List.set_cons_succ]); go_cut [3] (fun v3 wc => ∃ (kq : Nat) (x3_3 : Bool), v3 = .bool x3_3 ∧ Aside0 (point_Sane.j0 kq x3_3 a0_0 a0_1 a0_2 a0_3 = some r) ∧ Aside0 (kq ≤ k) ∧ Aside0 (wc.heap[gb145]? = some (.cells (n4_ a0_0 a0_1 a0_2 a0_3) 23 (0, 0))) ∧ Aside0 (Below w.heap.size w wc))
  case first =>
   have H := HC4.out; clear HC4
   by_cases c8 : a0_2.toList = ([] : List UInt8)
   ·rw [if_pos c8] at H
    have c8b0 : (a0_2.toList == ([] : List UInt8)) = true := beq_iff_eq.mpr c8; have c8b1 : (a0_2.toList != ([] : List UInt8)) = false := bne_eq_false_iff_eq.mpr c8; clear c8; (first | rw [c8b0] | (simp only [i64_w, i32_w]; rw [c8b0]) | skip); have H' := A_ H; clear H; have Z9 := bz4_ BK145; go_wp2; go_meet
    case rel => exact ⟨_, ((a0_3.toList == ([] : List UInt8))), rf_, H', ⟨by first | omega | exact Nat.le_refl _⟩, ⟨bl_ BK145.out⟩, ⟨hs_⟩⟩
   ·rw [if_neg c8] at H
    have c8b0 : (a0_2.toList == ([] : List UInt8)) = false := beq_eq_false_iff_ne.mpr c8; have c8b1 : (a0_2.toList != ([] : List UInt8)) = true := bne_iff_ne.mpr c8; (first | rw [c8b0] | (simp only [i64_w, i32_w]; rw [c8b0]) | skip); have H' := A_ H; clear H; have Z10 := bz4_ BK145; go_wp2; go_meet
    case rel => exact ⟨_, (false), rf_, H', ⟨by first | omega | exact Nat.le_refl _⟩, ⟨bl_ BK145.out⟩, ⟨hs_⟩⟩
  case rest =>
   clear HC4; (try clear c2); (try clear p2); (try clear c3); (try clear c5); (try clear c8); (try clear c8b0); (try clear c8b1); (try clear Z10); (try clear Z6); (try clear Z9); obtain ⟨kq, x3_3, rfl, HA, HJ3, BK145, HB⟩ := hcut
   cases kq with
   | zero => exact absurd HA.out (by simp [point_Sane.j0])
   | succ kj3 =>
    have H := HA.out; clear HA; simp only [point_Sane.j0] at H
    by_cases c11 : a0_0 = 0
    ·rw [if_pos c11] at H
     have c11b0 : (a0_0 == 0) = true := beq_iff_eq.mpr c11; have c11b1 : (a0_0 != 0) = false := bne_eq_false_iff_eq.mpr c11; clear c11
     by_cases c12 : (a0_1.size : Int) = 4
     ·rw [if_pos c12] at H
      have c12b0 : ((a0_1.size : Int) == 4) = true := beq_iff_eq.mpr c12; have c12b1 : ((a0_1.size : Int) != 4) = false := bne_eq_false_iff_eq.mpr c12; clear c12; obtain ⟨t147, A13, H⟩ := bi_ H
      by_cases c14 : t147 = true
      ·subst c14
       replace H := iP_ H; obtain ⟨t148, A15, H⟩ := bi_ H; obtain rfl := Option.some.inj H; have Z16 := bz4_ BK145; go_wp2_with (first | (go_at_call 56; (with_reducible refine (point_some.calls kj3 a0_2 2 12 true _ A13.out).mono ?_); rintro e w17 ⟨rfl, hb⟩; replace BK145 := bb_ BK145 hb; replace HB := bs_ hb; (try clear hb); have Z18 := bz4_ BK145) | (go_at_call 56; (with_reducible refine (point_some.calls kj3 a0_3 2 31 t148 _ A15.out).mono ?_); rintro e w19 ⟨rfl, hb⟩; replace BK145 := bb_ BK145 hb; replace HB := bs_ hb; (try clear hb))); go_ret; exact ⟨re_, hs_⟩
      ·replace c14 := Bool.eq_false_iff.mpr c14
       subst c14; replace H := iN_ H; obtain rfl := Option.some.inj H; have Z20 := bz4_ BK145; go_wp2_with (first | (go_at_call 56; (with_reducible refine (point_some.calls kj3 a0_2 2 12 false _ A13.out).mono ?_); rintro e w21 ⟨rfl, hb⟩; replace BK145 := bb_ BK145 hb; replace HB := bs_ hb; (try clear hb))); go_ret; exact ⟨re_, hs_⟩
     ·rw [if_neg c12] at H
      have c12b0 : ((a0_1.size : Int) == 4) = false := beq_eq_false_iff_ne.mpr c12; have c12b1 : ((a0_1.size : Int) != 4) = true := bne_iff_ne.mpr c12; obtain rfl := Option.some.inj H; have Z22 := bz4_ BK145; go_wp2; go_ret; exact ⟨re_, hs_⟩
    ·rw [if_neg c11] at H
     have c11b0 : (a0_0 == 0) = false := beq_eq_false_iff_ne.mpr c11; have c11b1 : (a0_0 != 0) = true := bne_iff_ne.mpr c11
     by_cases c23 : a0_0 = 1
     ·rw [if_pos c23] at H
      have c23b0 : (a0_0 == 1) = true := beq_iff_eq.mpr c23; have c23b1 : (a0_0 != 1) = false := bne_eq_false_iff_eq.mpr c23; clear c23
      by_cases c24 : (a0_1.size : Int) = 4
      ·rw [if_pos c24] at H
       have c24b0 : ((a0_1.size : Int) == 4) = true := beq_iff_eq.mpr c24; have c24b1 : ((a0_1.size : Int) != 4) = false := bne_eq_false_iff_eq.mpr c24; clear c24; obtain ⟨t149, A25, H⟩ := bi_ H
       by_cases c26 : t149 = true
       ·subst c26
        replace H := iP_ H; obtain rfl := Option.some.inj H; have Z27 := bz4_ BK145; go_wp2_with (first | (go_at_call 56; (with_reducible refine (point_some.calls kj3 a0_2 2 12 true _ A25.out).mono ?_); rintro e w28 ⟨rfl, hb⟩; replace BK145 := bb_ BK145 hb; replace HB := bs_ hb; (try clear hb); have Z29 := bz4_ BK145)); go_ret; exact ⟨re_, hs_⟩
       ·replace c26 := Bool.eq_false_iff.mpr c26
        subst c26; replace H := iN_ H; obtain rfl := Option.some.inj H; have Z30 := bz4_ BK145; go_wp2_with (first | (go_at_call 56; (with_reducible refine (point_some.calls kj3 a0_2 2 12 false _ A25.out).mono ?_); rintro e w31 ⟨rfl, hb⟩; replace BK145 := bb_ BK145 hb; replace HB := bs_ hb; (try clear hb))); go_ret; exact ⟨re_, hs_⟩
      ·rw [if_neg c24] at H
       have c24b0 : ((a0_1.size : Int) == 4) = false := beq_eq_false_iff_ne.mpr c24; have c24b1 : ((a0_1.size : Int) != 4) = true := bne_iff_ne.mpr c24; obtain rfl := Option.some.inj H; have Z32 := bz4_ BK145; go_wp2; go_ret; exact ⟨re_, hs_⟩
     ·rw [if_neg c23] at H
      have c23b0 : (a0_0 == 1) = false := beq_eq_false_iff_ne.mpr c23; have c23b1 : (a0_0 != 1) = true := bne_iff_ne.mpr c23
      by_cases c33 : a0_0 = 2
      ·rw [if_pos c33] at H
       have c33b0 : (a0_0 == 2) = true := beq_iff_eq.mpr c33; have c33b1 : (a0_0 != 2) = false := bne_eq_false_iff_eq.mpr c33; clear c33
       by_cases c34 : (a0_1.size : Int) = 4
       ·rw [if_pos c34] at H
        have c34b0 : ((a0_1.size : Int) == 4) = true := beq_iff_eq.mpr c34; have c34b1 : ((a0_1.size : Int) != 4) = false := bne_eq_false_iff_eq.mpr c34; clear c34; obtain ⟨t150, A35, H⟩ := bi_ H
        by_cases c36 : t150 = true
        ·subst c36
         replace H := iP_ H; obtain rfl := Option.some.inj H; have Z37 := bz4_ BK145; go_wp2_with (first | (go_at_call 56; (with_reducible refine (point_some.calls kj3 a0_2 1 4 true _ A35.out).mono ?_); rintro e w38 ⟨rfl, hb⟩; replace BK145 := bb_ BK145 hb; replace HB := bs_ hb; (try clear hb); have Z39 := bz4_ BK145)); go_ret; exact ⟨re_, hs_⟩
        ·replace c36 := Bool.eq_false_iff.mpr c36
         subst c36; replace H := iN_ H; obtain rfl := Option.some.inj H; have Z40 := bz4_ BK145; go_wp2_with (first | (go_at_call 56; (with_reducible refine (point_some.calls kj3 a0_2 1 4 false _ A35.out).mono ?_); rintro e w41 ⟨rfl, hb⟩; replace BK145 := bb_ BK145 hb; replace HB := bs_ hb; (try clear hb))); go_ret; exact ⟨re_, hs_⟩
       ·rw [if_neg c34] at H
        have c34b0 : ((a0_1.size : Int) == 4) = false := beq_eq_false_iff_ne.mpr c34; have c34b1 : ((a0_1.size : Int) != 4) = true := bne_iff_ne.mpr c34; obtain rfl := Option.some.inj H; have Z42 := bz4_ BK145; go_wp2; go_ret; exact ⟨re_, hs_⟩
      ·rw [if_neg c33] at H
       have c33b0 : (a0_0 == 2) = false := beq_eq_false_iff_ne.mpr c33; have c33b1 : (a0_0 != 2) = true := bne_iff_ne.mpr c33
       by_cases c43 : a0_0 = 3
       ·rw [if_pos c43] at H
        have c43b0 : (a0_0 == 3) = true := beq_iff_eq.mpr c43; have c43b1 : (a0_0 != 3) = false := bne_eq_false_iff_eq.mpr c43; clear c43
        by_cases c44 : (a0_1.size : Int) = 4
        ·rw [if_pos c44] at H
         have c44b0 : ((a0_1.size : Int) == 4) = true := beq_iff_eq.mpr c44; have c44b1 : ((a0_1.size : Int) != 4) = false := bne_eq_false_iff_eq.mpr c44; clear c44; obtain rfl := Option.some.inj H; have Z45 := bz4_ BK145; go_wp2; go_ret; exact ⟨re_, hs_⟩
        ·rw [if_neg c44] at H
         have c44b0 : ((a0_1.size : Int) == 4) = false := beq_eq_false_iff_ne.mpr c44; have c44b1 : ((a0_1.size : Int) != 4) = true := bne_iff_ne.mpr c44; obtain rfl := Option.some.inj H; have Z46 := bz4_ BK145; go_wp2; go_ret; exact ⟨re_, hs_⟩
       ·rw [if_neg c43] at H
        have c43b0 : (a0_0 == 3) = false := beq_eq_false_iff_ne.mpr c43; have c43b1 : (a0_0 != 3) = true := bne_iff_ne.mpr c43
        by_cases c47 : a0_0 = 4
        ·rw [if_pos c47] at H
         have c47b0 : (a0_0 == 4) = true := beq_iff_eq.mpr c47; have c47b1 : (a0_0 != 4) = false := bne_eq_false_iff_eq.mpr c47; clear c47
         by_cases c48 : (a0_1.size : Int) = 3
         ·rw [if_pos c48] at H
          have c48b0 : ((a0_1.size : Int) == 3) = true := beq_iff_eq.mpr c48; have c48b1 : ((a0_1.size : Int) != 3) = false := bne_eq_false_iff_eq.mpr c48; clear c48; obtain rfl := Option.some.inj H; have Z49 := bz4_ BK145; go_wp2; go_ret; exact ⟨re_, hs_⟩
         ·rw [if_neg c48] at H
          have c48b0 : ((a0_1.size : Int) == 3) = false := beq_eq_false_iff_ne.mpr c48; have c48b1 : ((a0_1.size : Int) != 3) = true := bne_iff_ne.mpr c48; obtain rfl := Option.some.inj H; have Z50 := bz4_ BK145; go_wp2; go_ret; exact ⟨re_, hs_⟩
        ·rw [if_neg c47] at H
         have c47b0 : (a0_0 == 4) = false := beq_eq_false_iff_ne.mpr c47; have c47b1 : (a0_0 != 4) = true := bne_iff_ne.mpr c47
         by_cases c51 : a0_0 = 5
         ·rw [if_pos c51] at H
          have c51b0 : (a0_0 == 5) = true := beq_iff_eq.mpr c51; have c51b1 : (a0_0 != 5) = false := bne_eq_false_iff_eq.mpr c51; clear c51
          by_cases c52 : (a0_1.size : Int) = 2
          ·rw [if_pos c52] at H
           have c52b0 : ((a0_1.size : Int) == 2) = true := beq_iff_eq.mpr c52; have c52b1 : ((a0_1.size : Int) != 2) = false := bne_eq_false_iff_eq.mpr c52; clear c52; obtain rfl := Option.some.inj H; have Z53 := bz4_ BK145; go_wp2; go_ret; exact ⟨re_, hs_⟩
          ·rw [if_neg c52] at H
           have c52b0 : ((a0_1.size : Int) == 2) = false := beq_eq_false_iff_ne.mpr c52; have c52b1 : ((a0_1.size : Int) != 2) = true := bne_iff_ne.mpr c52; obtain rfl := Option.some.inj H; have Z54 := bz4_ BK145; go_wp2; go_ret; exact ⟨re_, hs_⟩
         ·rw [if_neg c51] at H
          have c51b0 : (a0_0 == 5) = false := beq_eq_false_iff_ne.mpr c51; have c51b1 : (a0_0 != 5) = true := bne_iff_ne.mpr c51; obtain rfl := Option.some.inj H; have Z55 := bz4_ BK145; go_wp2; go_ret; exact ⟨re_, hs_⟩
 ·replace c3 := Bool.eq_false_iff.mpr c3
  subst c3; replace H := iN_ H; obtain rfl := Option.some.inj H; go_enter Try.func29, Try.ntmps29; go_wp2_with (first | (refine gx_ w 1 (n4_ a0_0 a0_1 a0_2 a0_3) 23 ?_; clear HB; intro gb145 w56 BK145 GE145 HB; have GW145 := GE145; have Z57 := bz4_ BK145) | (refine gC 55 ?_; refine gL 6 Try.func55 #[.string a0_1] ?_; (with_reducible refine (mask_Sane.calls a0_1 false _ A2.out).mono ?_); rintro e w58 ⟨rfl, hb⟩; refine ⟨_, rfl, ?_⟩; replace BK145 := bb_ BK145 hb; replace HB := bs_ hb; (try clear hb))); go_ret; exact ⟨re_, hs_⟩
set_option maxHeartbeats 8000000 in
set_option maxRecDepth 100000 in
theorem tree_bare.calls (a0_0 a0_1 : Int) (a0_2 a0_3 a0_4 : ByteArray) (a0_5 a0_6 : Bool) (A0_7 : Option Addr) (c0_7 : Nat) (l0_7 : List (S26)) (r : Bool) (w : World) (hr0_7 : Kd.C k26 w A0_7 l0_7.length l0_7) (hc0_7 : l0_7.length ≤ c0_7) (h : tree_bare.f a0_0 a0_1 a0_2 a0_3 a0_4 a0_5 a0_6 l0_7 = some r) :
  Calls Try.prog 49 #[.agg #[.int .i64 a0_0, .int .i64 a0_1, .string a0_2, .string a0_3, .string a0_4, .bool a0_5, .bool a0_6, .slice A0_7 l0_7.length c0_7]] w fun e w' => e = .returned (.bool r) ∧ Below w.heap.size w w' := by
 have hu26 := Try.underlying26; have hu23 := Try.underlying23; have HR0_7 := A_ hr0_7; have HC0_7 := A_ hc0_7; clear hr0_7 hc0_7; have HB := A_ (Below.refl w.heap.size w); have H : (if (a0_1 == 0 && (a0_2.toList == ([] : List UInt8) && (a0_3.toList == ([] : List UInt8) && (a0_4.toList == ([] : List UInt8))))) = true then (if a0_5 = true then (some false) else (some (!a0_6))) else (some false)) = some r := h; clear h
 by_cases c2 : (a0_1 == 0 && (a0_2.toList == ([] : List UInt8) && (a0_3.toList == ([] : List UInt8) && (a0_4.toList == ([] : List UInt8))))) = true
 ·rw [if_pos c2] at H
  have c2b0 : (a0_1 == 0 && (a0_2.toList == ([] : List UInt8) && (a0_3.toList == ([] : List UInt8) && (a0_4.toList == ([] : List UInt8))))) = true := c2; (try (have c2b9 : (a0_1 == 0 && (a0_2.toList.isEmpty && (a0_3.toList.isEmpty && (a0_4.toList.isEmpty)))) = true := by simpa using c2b0)); (try (have c2b1 : decide (a0_1 = 0 && (a0_2.toList == ([] : List UInt8) && (a0_3.toList == ([] : List UInt8) && (a0_4.toList == ([] : List UInt8))))) = true := by simpa using c2)); (try (have c2b2 : (a0_1 == 0 && (a0_2.toList == ([] : List UInt8) && (a0_3.toList == ([] : List UInt8) && (a0_4.toList == ([] : List UInt8))))) = true := by simpa using c2)); clear c2
  by_cases c3 : a0_5 = true
  ·subst c3
   replace H := iP_ H; obtain rfl := Option.some.inj H; go_enter Try.func49, Try.ntmps49; go_wp2_with (first | (refine gx_ w 1 (n8_ a0_0 a0_1 a0_2 a0_3 a0_4 true a0_6 (.slice A0_7 l0_7.length c0_7)) 26 ?_; clear HB; intro gb151 w4 BK151 GE151 HB; have GW151 := GE151; have Z5 := bz8_ BK151)); go_ret; exact ⟨re_, hs_⟩
  ·replace c3 := Bool.eq_false_iff.mpr c3
   subst c3; replace H := iN_ H; obtain rfl := Option.some.inj H; go_enter Try.func49, Try.ntmps49; go_wp2_with (first | (refine gx_ w 1 (n8_ a0_0 a0_1 a0_2 a0_3 a0_4 false a0_6 (.slice A0_7 l0_7.length c0_7)) 26 ?_; clear HB; intro gb151 w6 BK151 GE151 HB; have GW151 := GE151; have Z7 := bz8_ BK151)); go_ret; exact ⟨re_, hs_⟩
 ·rw [if_neg c2] at H
  (have c2b0 : (a0_1 == 0 && (a0_2.toList == ([] : List UInt8) && (a0_3.toList == ([] : List UInt8) && (a0_4.toList == ([] : List UInt8))))) = false := by simpa using c2); (try (have c2b9 : (a0_1 == 0 && (a0_2.toList.isEmpty && (a0_3.toList.isEmpty && (a0_4.toList.isEmpty)))) = false := by simpa using c2b0)); (try (have c2b1 : decide (a0_1 = 0 && (a0_2.toList == ([] : List UInt8) && (a0_3.toList == ([] : List UInt8) && (a0_4.toList == ([] : List UInt8))))) = false := by simpa using c2)); (try (have c2b2 : (a0_1 == 0 && (a0_2.toList == ([] : List UInt8) && (a0_3.toList == ([] : List UInt8) && (a0_4.toList == ([] : List UInt8))))) = false := by simpa using c2)); (try (have c2b3 : ¬ (a0_1 = 0 && (a0_2.toList == ([] : List UInt8) && (a0_3.toList == ([] : List UInt8) && (a0_4.toList == ([] : List UInt8))))) := by simpa using c2)); clear c2; obtain rfl := Option.some.inj H; go_enter Try.func49, Try.ntmps49; go_wp2_with (first | (refine gx_ w 1 (n8_ a0_0 a0_1 a0_2 a0_3 a0_4 a0_5 a0_6 (.slice A0_7 l0_7.length c0_7)) 26 ?_; clear HB; intro gb151 w8 BK151 GE151 HB; have GW151 := GE151; have Z9 := bz8_ BK151)); go_ret; exact ⟨re_, hs_⟩
set_option maxHeartbeats 8000000 in
set_option maxRecDepth 100000 in
theorem tree_End.calls (k : Nat) (a0_0 a0_1 : Int) (a0_2 a0_3 a0_4 : ByteArray) (a0_5 a0_6 : Bool) (A0_7 : Option Addr) (c0_7 : Nat) (l0_7 : List (S26)) (r : Bool) (w : World) (hr0_7 : Kd.C k26 w A0_7 l0_7.length l0_7) (hc0_7 : l0_7.length ≤ c0_7) (h : tree_End.f k a0_0 a0_1 a0_2 a0_3 a0_4 a0_5 a0_6 l0_7 = some r) :
  Calls Try.prog 20 #[.agg #[.int .i64 a0_0, .int .i64 a0_1, .string a0_2, .string a0_3, .string a0_4, .bool a0_5, .bool a0_6, .slice A0_7 l0_7.length c0_7]] w fun e w' => e = .returned (.bool r) ∧ Below w.heap.size w w' := by
 have hu26 := Try.underlying26; have hu23 := Try.underlying23; have HR0_7 := A_ hr0_7; have HC0_7 := A_ hc0_7; clear hr0_7 hc0_7; have HB := A_ (Below.refl w.heap.size w); have H : (if a0_0 = 0 then (if (l0_7.length : Int) = 0 then ((point_Sane.f k a0_1 a0_2 a0_3 a0_4).bind fun t153 => (some t153)) else (some false)) else (if a0_0 = 3 then (if (l0_7.length : Int) = 0 then ((tree_bare.f a0_0 a0_1 a0_2 a0_3 a0_4 a0_5 a0_6 l0_7).bind fun t154 => (some t154)) else (some false)) else (if a0_0 = 4 then (if (l0_7.length : Int) = 0 then ((tree_bare.f a0_0 a0_1 a0_2 a0_3 a0_4 a0_5 a0_6 l0_7).bind fun t155 => (some t155)) else (some false)) else (some false)))) = some r := h; clear h
 by_cases c2 : a0_0 = 0
 ·rw [if_pos c2] at H
  have c2b0 : (a0_0 == 0) = true := beq_iff_eq.mpr c2; have c2b1 : (a0_0 != 0) = false := bne_eq_false_iff_eq.mpr c2; clear c2
  by_cases c3 : (l0_7.length : Int) = 0
  ·rw [if_pos c3] at H
   have c3b0 : ((l0_7.length : Int) == 0) = true := beq_iff_eq.mpr c3; have c3b1 : ((l0_7.length : Int) != 0) = false := bne_eq_false_iff_eq.mpr c3; clear c3; obtain ⟨t153, A4, H⟩ := bi_ H; obtain rfl := Option.some.inj H; go_enter Try.func20, Try.ntmps20; go_wp2_with (first | (refine gx_ w 1 (n8_ a0_0 a0_1 a0_2 a0_3 a0_4 a0_5 a0_6 (.slice A0_7 l0_7.length c0_7)) 26 ?_; clear HB; intro gb152 w5 BK152 GE152 HB; have GW152 := GE152; have Z6 := bz8_ BK152) | (go_at_call 29; (with_reducible refine (point_Sane.calls k a0_1 a0_2 a0_3 a0_4 t153 _ A4.out).mono ?_); rintro e w7 ⟨rfl, hb⟩; replace BK152 := bb_ BK152 hb; replace HB := bs_ hb; (try clear hb))); go_ret; exact ⟨re_, hs_⟩
  ·rw [if_neg c3] at H
   have c3b0 : ((l0_7.length : Int) == 0) = false := beq_eq_false_iff_ne.mpr c3; have c3b1 : ((l0_7.length : Int) != 0) = true := bne_iff_ne.mpr c3; (have c3b2 : ¬ (l0_7 = []) := fun h_ => c3 (by rw [h_]; rfl)); obtain rfl := Option.some.inj H; go_enter Try.func20, Try.ntmps20; go_wp2_with (first | (refine gx_ w 1 (n8_ a0_0 a0_1 a0_2 a0_3 a0_4 a0_5 a0_6 (.slice A0_7 l0_7.length c0_7)) 26 ?_; clear HB; intro gb152 w8 BK152 GE152 HB; have GW152 := GE152; have Z9 := bz8_ BK152)); go_ret; exact ⟨re_, hs_⟩
 ·rw [if_neg c2] at H
  have c2b0 : (a0_0 == 0) = false := beq_eq_false_iff_ne.mpr c2; have c2b1 : (a0_0 != 0) = true := bne_iff_ne.mpr c2
  by_cases c10 : a0_0 = 3
  ·rw [if_pos c10] at H
   have c10b0 : (a0_0 == 3) = true := beq_iff_eq.mpr c10; have c10b1 : (a0_0 != 3) = false := bne_eq_false_iff_eq.mpr c10; clear c10
   by_cases c11 : (l0_7.length : Int) = 0
   ·rw [if_pos c11] at H
    have c11b0 : ((l0_7.length : Int) == 0) = true := beq_iff_eq.mpr c11; have c11b1 : ((l0_7.length : Int) != 0) = false := bne_eq_false_iff_eq.mpr c11; clear c11; obtain ⟨t154, A12, H⟩ := bi_ H; obtain rfl := Option.some.inj H; go_enter Try.func20, Try.ntmps20; go_wp2_with (first | (refine gx_ w 1 (n8_ a0_0 a0_1 a0_2 a0_3 a0_4 a0_5 a0_6 (.slice A0_7 l0_7.length c0_7)) 26 ?_; clear HB; intro gb152 w13 BK152 GE152 HB; have GW152 := GE152; have Z14 := bz8_ BK152) | (go_at_call 49; (with_reducible refine (tree_bare.calls a0_0 a0_1 a0_2 a0_3 a0_4 a0_5 a0_6 _ _ l0_7 t154 _ ?side1 ?side2 A12.out).mono ?_); (case side1 => exact cb_ HR0_7); (case side2 => exact HC0_7.out); rintro e w15 ⟨rfl, hb⟩; replace BK152 := bb_ BK152 hb; replace HB := bs_ hb; (try clear hb))); go_ret; exact ⟨re_, hs_⟩
   ·rw [if_neg c11] at H
    have c11b0 : ((l0_7.length : Int) == 0) = false := beq_eq_false_iff_ne.mpr c11; have c11b1 : ((l0_7.length : Int) != 0) = true := bne_iff_ne.mpr c11; (have c11b2 : ¬ (l0_7 = []) := fun h_ => c11 (by rw [h_]; rfl)); obtain rfl := Option.some.inj H; go_enter Try.func20, Try.ntmps20; go_wp2_with (first | (refine gx_ w 1 (n8_ a0_0 a0_1 a0_2 a0_3 a0_4 a0_5 a0_6 (.slice A0_7 l0_7.length c0_7)) 26 ?_; clear HB; intro gb152 w16 BK152 GE152 HB; have GW152 := GE152; have Z17 := bz8_ BK152)); go_ret; exact ⟨re_, hs_⟩
  ·rw [if_neg c10] at H
   have c10b0 : (a0_0 == 3) = false := beq_eq_false_iff_ne.mpr c10; have c10b1 : (a0_0 != 3) = true := bne_iff_ne.mpr c10
   by_cases c18 : a0_0 = 4
   ·rw [if_pos c18] at H
    have c18b0 : (a0_0 == 4) = true := beq_iff_eq.mpr c18; have c18b1 : (a0_0 != 4) = false := bne_eq_false_iff_eq.mpr c18; clear c18
    by_cases c19 : (l0_7.length : Int) = 0
    ·rw [if_pos c19] at H
     have c19b0 : ((l0_7.length : Int) == 0) = true := beq_iff_eq.mpr c19; have c19b1 : ((l0_7.length : Int) != 0) = false := bne_eq_false_iff_eq.mpr c19; clear c19; obtain ⟨t155, A20, H⟩ := bi_ H; obtain rfl := Option.some.inj H; go_enter Try.func20, Try.ntmps20; go_wp2_with (first | (refine gx_ w 1 (n8_ a0_0 a0_1 a0_2 a0_3 a0_4 a0_5 a0_6 (.slice A0_7 l0_7.length c0_7)) 26 ?_; clear HB; intro gb152 w21 BK152 GE152 HB; have GW152 := GE152; have Z22 := bz8_ BK152) | (go_at_call 49; (with_reducible refine (tree_bare.calls a0_0 a0_1 a0_2 a0_3 a0_4 a0_5 a0_6 _ _ l0_7 t155 _ ?side1 ?side2 A20.out).mono ?_); (case side1 => exact cb_ HR0_7); (case side2 => exact HC0_7.out); rintro e w23 ⟨rfl, hb⟩; replace BK152 := bb_ BK152 hb; replace HB := bs_ hb; (try clear hb))); go_ret; exact ⟨re_, hs_⟩
    ·rw [if_neg c19] at H
     have c19b0 : ((l0_7.length : Int) == 0) = false := beq_eq_false_iff_ne.mpr c19; have c19b1 : ((l0_7.length : Int) != 0) = true := bne_iff_ne.mpr c19; (have c19b2 : ¬ (l0_7 = []) := fun h_ => c19 (by rw [h_]; rfl)); obtain rfl := Option.some.inj H; go_enter Try.func20, Try.ntmps20; go_wp2_with (first | (refine gx_ w 1 (n8_ a0_0 a0_1 a0_2 a0_3 a0_4 a0_5 a0_6 (.slice A0_7 l0_7.length c0_7)) 26 ?_; clear HB; intro gb152 w24 BK152 GE152 HB; have GW152 := GE152; have Z25 := bz8_ BK152)); go_ret; exact ⟨re_, hs_⟩
   ·rw [if_neg c18] at H
    have c18b0 : (a0_0 == 4) = false := beq_eq_false_iff_ne.mpr c18; have c18b1 : (a0_0 != 4) = true := bne_iff_ne.mpr c18; obtain rfl := Option.some.inj H; go_enter Try.func20, Try.ntmps20; go_wp2_with (first | (refine gx_ w 1 (n8_ a0_0 a0_1 a0_2 a0_3 a0_4 a0_5 a0_6 (.slice A0_7 l0_7.length c0_7)) 26 ?_; clear HB; intro gb152 w26 BK152 GE152 HB; have GW152 := GE152; have Z27 := bz8_ BK152)); go_ret; exact ⟨re_, hs_⟩
end Go.Proofs.Ytfehdlkklfcnpaa.A
namespace Go.Proofs.Ytfehdlkklfcnpaa.A
open Go.RowKit Go.Proofs.YtfehdlkklfcnpaaW.PrintWords Go.Proofs.YtfehdlkklfcnpaaW.PrintLast Go.Proofs.YtfehdlkklfcnpaaW.PrintMore
attribute [local go_sem] max2_int min2_int max_two min_two max_three min_three max_four min_four isSome_setCell
abbrev RightAt (k : Nat) : Prop := ∀ (a0_0 a0_1 : Int) (a0_2 a0_3 a0_4 : ByteArray) (a0_5 a0_6 : Bool) (A0_7 : Option Addr) (c0_7 : Nat) (l0_7 : List (S26)) (r : Bool) (w : World) (hr0_7 : Kd.C k26 w A0_7 l0_7.length l0_7) (hc0_7 : l0_7.length ≤ c0_7) (h : tree_right.f k a0_0 a0_1 a0_2 a0_3 a0_4 a0_5 a0_6 l0_7 = some r),
    Calls Try.prog 47 #[.agg #[.int .i64 a0_0, .int .i64 a0_1, .string a0_2, .string a0_3, .string a0_4, .bool a0_5, .bool a0_6, .slice A0_7 l0_7.length c0_7]] w fun e w' => e = .returned (.bool r) ∧ Below w.heap.size w w'
set_option maxHeartbeats 8000000 in
set_option maxRecDepth 100000 in
theorem tree_right_1.calls (k : Nat) (ihk : RightAt k) (a0_0 a0_1 : Int) (a0_2 a0_3 a0_4 : ByteArray) (a0_5 a0_6 : Bool) (A0_7 : Option Addr) (c0_7 : Nat) (l0_7 : List (S26)) (r : Bool) (w : World) (hr0_7 : Kd.C k26 w A0_7 l0_7.length l0_7) (hc0_7 : l0_7.length ≤ c0_7) (h : tree_right_1.f k a0_0 a0_1 a0_2 a0_3 a0_4 a0_5 a0_6 l0_7 = some r) :
  Calls Try.prog 69 #[.agg #[.int .i64 a0_0, .int .i64 a0_1, .string a0_2, .string a0_3, .string a0_4, .bool a0_5, .bool a0_6, .slice A0_7 l0_7.length c0_7]] w fun e w' => e = .returned (.bool r) ∧ Below w.heap.size w w' := by
 have hu26 := Try.underlying26; have HR0_7 := A_ hr0_7; have HC0_7 := A_ hc0_7; clear hr0_7 hc0_7; have HB := A_ (Below.refl w.heap.size w); have H : ((tree_right.f k a0_0 a0_1 a0_2 a0_3 a0_4 a0_5 a0_6 l0_7).bind fun t102 => (some (!t102))) = some r := h; clear h; obtain ⟨t102, A2, H⟩ := bi_ H; obtain rfl := Option.some.inj H; go_enter Try.func69, Try.ntmps69; go_wp2_with (first | (refine gx_ w 1 (n8_ a0_0 a0_1 a0_2 a0_3 a0_4 a0_5 a0_6 (.slice A0_7 l0_7.length c0_7)) 26 ?_; clear HB; intro gb101 w3 BK101 GE101 HB; have GW101 := GE101; have Z4 := bz8_ BK101) | (refine gC 47 ?_; refine gL 4 Try.func47 #[.agg (n8_ a0_0 a0_1 a0_2 a0_3 a0_4 a0_5 a0_6 (.slice A0_7 l0_7.length c0_7))] ?_; (with_reducible refine (ihk a0_0 a0_1 a0_2 a0_3 a0_4 a0_5 a0_6 _ _ l0_7 t102 _ ?side1 ?side2 A2.out).mono ?_); (case side1 => exact cb_ HR0_7); (case side2 => exact HC0_7.out); rintro e w5 ⟨rfl, hb⟩; refine ⟨_, rfl, ?_⟩; replace BK101 := bb_ BK101 hb; replace HB := bs_ hb; (try clear hb))); go_ret; exact ⟨re_, hs_⟩
set_option maxHeartbeats 8000000 in
set_option maxRecDepth 100000 in
theorem slices_IndexFunc.calls (k : Nat) (ihS : ∀ j, j < k → RightAt j) (A0 : Option Addr) (c0 : Nat) (l0 : List (S26))  (r : Int) (w : World) (hr0 : Kd.C k26 w A0 l0.length l0) (hc0 : l0.length ≤ c0) (h : slices_IndexFunc.f k l0 = some r) :
  Calls Try.prog 80 #[.slice A0 l0.length c0, .func (.func 69) #[] #[]] w fun e w' => e = .returned (.int .i64 r) ∧ Below w.heap.size w w' := by
 have hu26 := Try.underlying26; have HR0 := A_ hr0; have HC0 := A_ hc0; clear hr0 hc0; have HB := A_ (Below.refl w.heap.size w); have H : (slices_IndexFunc.l0 k l0 (l0.length : Int) 0) = some r := h; clear h; have H' := A_ H; clear H; go_enter Try.func80, Try.ntmps80; go_wp2; go_loopg [8] k (fun kq v8 w' => ∃ (x8_1 : Int), v8 = .int .i64 x8_1 ∧ Aside0 (slices_IndexFunc.l0 kq l0 (l0.length : Int) x8_1 = some r) ∧ Aside0 (kq ≤ k) ∧ Aside0 (Below w.heap.size w w'))
 case atStart => exact ⟨(0), rf_, H', ⟨Nat.le_refl _⟩, ⟨hs_⟩⟩
 case round =>
  clear H'; (try clear p2); obtain ⟨x8_1, rfl, HA, HK1, HB⟩ := hrel
  cases gk with
  | zero => exact absurd HA.out (by simp [slices_IndexFunc.l0])
  | succ k1 =>
   have H := HA.out; clear HA; rw [slices_IndexFunc.l0_succ] at H
   by_cases c3 : x8_1 < (l0.length : Int)
   ·rw [if_pos c3] at H
    have c3b0 := decide_eq_true c3; clear c3
    by_cases c4 : 0 ≤ x8_1
    ·rw [if_pos c4] at H
     have c4b0 := decide_eq_true c4; clear c4
     by_cases c5 : x8_1 < (l0.length : Int)
     ·rw [if_pos c5] at H
      have c5b0 := decide_eq_true c5; clear c5; obtain ⟨t102, A6, H⟩ := bi_ H
      by_cases c7 : t102 = true
      ·subst c7
       replace H := iP_ H; obtain rfl := Option.some.inj H; have p101 : 0 ≤ (x8_1 : Int) := od_; have q101 : x8_1 < (l0.length : Int) := od_; obtain ⟨ad101, A101_7, c101_7, e101, hx101_0, hx101_1, hx101_2, hx101_3, hx101_4, hx101_5, hx101_6, hx101_7, hl101_7, hi101_7⟩ := at_T26 HR0.out x8_1 p101 q101
       cases e101
       replace hx101_0 := cl_ HB hx101_0; replace hx101_1 := cl_ HB hx101_1; replace hx101_2 := cl_ HB hx101_2; replace hx101_3 := cl_ HB hx101_3; replace hx101_4 := cl_ HB hx101_4; replace hx101_5 := cl_ HB hx101_5; replace hx101_6 := cl_ HB hx101_6; replace hx101_7 := cl_ HB hx101_7; have HR101_7 := A_ hi101_7; have HC101_7 := A_ hl101_7; clear hi101_7 hl101_7; replace p101 := eq_true p101; replace q101 := eq_true q101; go_wp2_with (first | (go_at_call 69; (refine (tree_right_1.calls k1 (ihS k1 (by have := HK1.out; omega)) ((rd_T26 l0 x8_1).f0) ((rd_T26 l0 x8_1).f1.f0) ((rd_T26 l0 x8_1).f1.f1) ((rd_T26 l0 x8_1).f1.f2) ((rd_T26 l0 x8_1).f1.f3) ((rd_T26 l0 x8_1).f2) ((rd_T26 l0 x8_1).f3) _ _ ((rd_T26 l0 x8_1).f4) true _ ?side1 ?side2 A6.out).mono ?_); (case side1 => exact cb_ HR101_7); (case side2 => exact HC101_7.out); rintro e w8 ⟨rfl, hb⟩; replace HB := bs_ hb; (try clear hb))); go_ret; exact ⟨re_, hs_⟩
      ·replace c7 := Bool.eq_false_iff.mpr c7
       subst c7; replace H := iN_ H; have H' := A_ H; clear H; have p101 : 0 ≤ (x8_1 : Int) := od_; have q101 : x8_1 < (l0.length : Int) := od_; obtain ⟨ad101, A101_7, c101_7, e101, hx101_0, hx101_1, hx101_2, hx101_3, hx101_4, hx101_5, hx101_6, hx101_7, hl101_7, hi101_7⟩ := at_T26 HR0.out x8_1 p101 q101
       cases e101
       replace hx101_0 := cl_ HB hx101_0; replace hx101_1 := cl_ HB hx101_1; replace hx101_2 := cl_ HB hx101_2; replace hx101_3 := cl_ HB hx101_3; replace hx101_4 := cl_ HB hx101_4; replace hx101_5 := cl_ HB hx101_5; replace hx101_6 := cl_ HB hx101_6; replace hx101_7 := cl_ HB hx101_7; have HR101_7 := A_ hi101_7; have HC101_7 := A_ hl101_7; clear hi101_7 hl101_7; replace p101 := eq_true p101; replace q101 := eq_true q101; go_wp2_with (first | (go_at_call 69; (refine (tree_right_1.calls k1 (ihS k1 (by have := HK1.out; omega)) ((rd_T26 l0 x8_1).f0) ((rd_T26 l0 x8_1).f1.f0) ((rd_T26 l0 x8_1).f1.f1) ((rd_T26 l0 x8_1).f1.f2) ((rd_T26 l0 x8_1).f1.f3) ((rd_T26 l0 x8_1).f2) ((rd_T26 l0 x8_1).f3) _ _ ((rd_T26 l0 x8_1).f4) false _ ?side1 ?side2 A6.out).mono ?_); (case side1 => exact cb_ HR101_7); (case side2 => exact HC101_7.out); rintro e w9 ⟨rfl, hb⟩; replace HB := bs_ hb; (try clear hb))); go_roundg k1
       case measure => have := HK1.out; omega
       case rel => exact ⟨(wrap64 (x8_1 + 1)), rf_, H', ⟨by have := HK1.out; omega⟩, ⟨hs_⟩⟩
     ·rw [if_neg c5] at H
      exact absurd H (by simp)
    ·rw [if_neg c4] at H
     exact absurd H (by simp)
   ·rw [if_neg c3] at H
    have c3b0 := decide_eq_false c3; clear c3; obtain rfl := Option.some.inj H; go_wp2; go_ret; exact ⟨re_, hs_⟩
set_option maxHeartbeats 8000000 in
set_option maxRecDepth 100000 in
theorem slices_ContainsFunc.calls (k : Nat) (ihS : ∀ j, j < k → RightAt j) (A0 : Option Addr) (c0 : Nat) (l0 : List (S26))  (r : Bool) (w : World) (hr0 : Kd.C k26 w A0 l0.length l0) (hc0 : l0.length ≤ c0) (h : slices_ContainsFunc.f k l0 = some r) :
  Calls Try.prog 68 #[.slice A0 l0.length c0, .func (.func 69) #[] #[]] w fun e w' => e = .returned (.bool r) ∧ Below w.heap.size w w' := by
 have HR0 := A_ hr0; have HC0 := A_ hc0; clear hr0 hc0; have HB := A_ (Below.refl w.heap.size w); have H : ((slices_IndexFunc.f k l0).bind fun t103 => (some (decide (t103 ≥ 0)))) = some r := h; clear h; obtain ⟨t103, A3, H⟩ := bi_ H; obtain rfl := Option.some.inj H; go_enter Try.func68, Try.ntmps68; go_wp2_with (first | (refine gC 80 ?_; refine gL 7 Try.func80 #[.slice A0 l0.length c0, .func (.func 69) #[] #[]] ?_; (with_reducible refine (slices_IndexFunc.calls k ihS _ _ l0  t103 _ ?side1 ?side2 A3.out).mono ?_); (case side1 => exact cr_ HR0.out); (case side2 => exact HC0.out); rintro e w4 ⟨rfl, hb⟩; refine ⟨_, rfl, ?_⟩; replace HB := bs_ hb; (try clear hb))); go_ret; exact ⟨re_, hs_⟩
set_option maxHeartbeats 8000000 in
set_option maxRecDepth 100000 in
theorem tree_rightR.calls (k : Nat) (ihS : ∀ j, j < k → RightAt j) (a0_0 a0_1 : Int) (a0_2 a0_3 a0_4 : ByteArray) (a0_5 a0_6 : Bool) (A0_7 : Option Addr) (c0_7 : Nat) (l0_7 : List (S26)) (r : Bool) (w : World) (hr0_7 : Kd.C k26 w A0_7 l0_7.length l0_7) (hc0_7 : l0_7.length ≤ c0_7) (h : tree_rightR.f k a0_0 a0_1 a0_2 a0_3 a0_4 a0_5 a0_6 l0_7 = some r) :
  Calls Try.prog 47 #[.agg #[.int .i64 a0_0, .int .i64 a0_1, .string a0_2, .string a0_3, .string a0_4, .bool a0_5, .bool a0_6, .slice A0_7 l0_7.length c0_7]] w fun e w' => e = .returned (.bool r) ∧ Below w.heap.size w w' := by
 have hu26 := Try.underlying26; have HR0_7 := A_ hr0_7; have HC0_7 := A_ hc0_7; clear hr0_7 hc0_7; have HB := A_ (Below.refl w.heap.size w); have H : (if a0_0 = 0 then ((tree_End.f k a0_0 a0_1 a0_2 a0_3 a0_4 a0_5 a0_6 l0_7).bind fun t105 => (some t105)) else (if a0_0 = 1 then ((tree_bare.f a0_0 a0_1 a0_2 a0_3 a0_4 a0_5 a0_6 l0_7).bind fun t106 => (if t106 = true then (if (l0_7.length : Int) = 2 then (if 0 < (l0_7.length : Int) then ((tree_End.f k ((rd_T26 l0_7 0).f0) ((rd_T26 l0_7 0).f1.f0) ((rd_T26 l0_7 0).f1.f1) ((rd_T26 l0_7 0).f1.f2) ((rd_T26 l0_7 0).f1.f3) ((rd_T26 l0_7 0).f2) ((rd_T26 l0_7 0).f3) ((rd_T26 l0_7 0).f4)).bind fun t108 => (if t108 = true then (if 1 < (l0_7.length : Int) then ((tree_End.f k ((rd_T26 l0_7 1).f0) ((rd_T26 l0_7 1).f1.f0) ((rd_T26 l0_7 1).f1.f1) ((rd_T26 l0_7 1).f1.f2) ((rd_T26 l0_7 1).f1.f3) ((rd_T26 l0_7 1).f2) ((rd_T26 l0_7 1).f3) ((rd_T26 l0_7 1).f4)).bind fun t110 => (some t110)) else (none)) else (some false))) else (none)) else (some false)) else (some false))) else (if a0_0 = 2 then ((tree_bare.f a0_0 a0_1 a0_2 a0_3 a0_4 a0_5 a0_6 l0_7).bind fun t111 => (if t111 = true then (if (l0_7.length : Int) > 0 then ((slices_ContainsFunc.f k l0_7).bind fun t112 => (some (!t112))) else (some false)) else (some false))) else (some false)))) = some r := h; clear h
 by_cases c2 : a0_0 = 0
 ·rw [if_pos c2] at H
  have c2b0 : (a0_0 == 0) = true := beq_iff_eq.mpr c2; have c2b1 : (a0_0 != 0) = false := bne_eq_false_iff_eq.mpr c2; clear c2; obtain ⟨t105, A3, H⟩ := bi_ H; obtain rfl := Option.some.inj H; go_enter Try.func47, Try.ntmps47; go_wp2_with (first | (refine gD 1 ?_; (try (refine gate_guard (by rfl) ?_; dsimp only)); refine bxe_ 1 (n8_ a0_0 a0_1 a0_2 a0_3 a0_4 a0_5 a0_6 (.slice A0_7 l0_7.length c0_7)) 26 ?_; intro gb104 hg w4 hbox hb; have BK104 := A_ (hbox); have GW104 := gs_ w hg; have GE104 := gs_ w hg; replace HB := bs_ hb; clear hb hbox hg; have Z5 := bz8_ BK104) | (refine gC 20 ?_; refine gL 8 Try.func20 #[.agg (n8_ a0_0 a0_1 a0_2 a0_3 a0_4 a0_5 a0_6 (.slice A0_7 l0_7.length c0_7))] ?_; (with_reducible refine (tree_End.calls k a0_0 a0_1 a0_2 a0_3 a0_4 a0_5 a0_6 _ _ l0_7 t105 _ ?side1 ?side2 A3.out).mono ?_); (case side1 => exact cb_ HR0_7); (case side2 => exact HC0_7.out); rintro e w6 ⟨rfl, hb⟩; refine ⟨_, rfl, ?_⟩; replace BK104 := bb_ BK104 hb; replace HB := bs_ hb; (try clear hb))); go_ret; exact ⟨re_, hs_⟩
 ·rw [if_neg c2] at H
  have c2b0 : (a0_0 == 0) = false := beq_eq_false_iff_ne.mpr c2; have c2b1 : (a0_0 != 0) = true := bne_iff_ne.mpr c2
  by_cases c7 : a0_0 = 1
  ·rw [if_pos c7] at H
   have c7b0 : (a0_0 == 1) = true := beq_iff_eq.mpr c7; have c7b1 : (a0_0 != 1) = false := bne_eq_false_iff_eq.mpr c7; clear c7; obtain ⟨t106, A8, H⟩ := bi_ H
   by_cases c9 : t106 = true
   ·subst c9
    replace H := iP_ H
    by_cases c10 : (l0_7.length : Int) = 2
    ·rw [if_pos c10] at H
     have c10b0 : ((l0_7.length : Int) == 2) = true := beq_iff_eq.mpr c10; have c10b1 : ((l0_7.length : Int) != 2) = false := bne_eq_false_iff_eq.mpr c10; clear c10
     by_cases c11 : 0 < (l0_7.length : Int)
     ·rw [if_pos c11] at H
      have c11b0 := decide_eq_true c11; have c11b1 : decide (0 < l0_7.length) = true := decide_eq_true (by omega); clear c11; obtain ⟨t108, A12, H⟩ := bi_ H
      by_cases c13 : t108 = true
      ·subst c13
       replace H := iP_ H
       by_cases c14 : 1 < (l0_7.length : Int)
       ·rw [if_pos c14] at H
        have c14b0 := decide_eq_true c14; have c14b1 : decide (1 < l0_7.length) = true := decide_eq_true (by omega); clear c14; obtain ⟨t110, A15, H⟩ := bi_ H; obtain rfl := Option.some.inj H; go_enter Try.func47, Try.ntmps47; go_wp2_with (first | (refine gD 1 ?_; (try (refine gate_guard (by rfl) ?_; dsimp only)); refine bxe_ 1 (n8_ a0_0 a0_1 a0_2 a0_3 a0_4 a0_5 a0_6 (.slice A0_7 l0_7.length c0_7)) 26 ?_; intro gb104 hg w16 hbox hb; have BK104 := A_ (hbox); have GW104 := gs_ w hg; have GE104 := gs_ w hg; replace HB := bs_ hb; clear hb hbox hg; have Z17 := bz8_ BK104) | (refine gC 49 ?_; refine gL 12 Try.func49 #[.agg (n8_ a0_0 a0_1 a0_2 a0_3 a0_4 a0_5 a0_6 (.slice A0_7 l0_7.length c0_7))] ?_; (with_reducible refine (tree_bare.calls a0_0 a0_1 a0_2 a0_3 a0_4 a0_5 a0_6 _ _ l0_7 true _ ?side1 ?side2 A8.out).mono ?_); (case side1 => exact cb_ HR0_7); (case side2 => exact HC0_7.out); rintro e w18 ⟨rfl, hb⟩; refine ⟨_, rfl, ?_⟩; replace BK104 := bb_ BK104 hb; replace HB := bs_ hb; (try clear hb); have Z19 := bz8_ BK104; have p107 : 0 ≤ (0 : Int) := (by omega); have q107 : 0 < (l0_7.length : Int) := od_; obtain ⟨ad107, A107_7, c107_7, e107, hx107_0, hx107_1, hx107_2, hx107_3, hx107_4, hx107_5, hx107_6, hx107_7, hl107_7, hi107_7⟩ := at_T26 HR0_7.out 0 p107 q107; cases e107; have qi107 : (0 < l0_7.length) = True := eq_true (by omega); replace hx107_0 := ai_ hx107_0; replace hx107_1 := ai_ hx107_1; replace hx107_2 := ai_ hx107_2; replace hx107_3 := ai_ hx107_3; replace hx107_4 := ai_ hx107_4; replace hx107_5 := ai_ hx107_5; replace hx107_6 := ai_ hx107_6; replace hx107_7 := ai_ hx107_7; replace hx107_0 := cl_ HB hx107_0; replace hx107_1 := cl_ HB hx107_1; replace hx107_2 := cl_ HB hx107_2; replace hx107_3 := cl_ HB hx107_3; replace hx107_4 := cl_ HB hx107_4; replace hx107_5 := cl_ HB hx107_5; replace hx107_6 := cl_ HB hx107_6; replace hx107_7 := cl_ HB hx107_7; have HR107_7 := A_ hi107_7; have HC107_7 := A_ hl107_7; clear hi107_7 hl107_7; replace p107 := eq_true p107; replace q107 := eq_true q107) | (go_at_call 20; (with_reducible refine (tree_End.calls k ((rd_T26 l0_7 0).f0) ((rd_T26 l0_7 0).f1.f0) ((rd_T26 l0_7 0).f1.f1) ((rd_T26 l0_7 0).f1.f2) ((rd_T26 l0_7 0).f1.f3) ((rd_T26 l0_7 0).f2) ((rd_T26 l0_7 0).f3) _ _ ((rd_T26 l0_7 0).f4) true _ ?side1 ?side2 A12.out).mono ?_); (case side1 => exact cb_ HR107_7); (case side2 => exact HC107_7.out); rintro e w20 ⟨rfl, hb⟩; replace BK104 := bb_ BK104 hb; replace HB := bs_ hb; (try clear hb); have Z21 := bz8_ BK104; have p109 : 0 ≤ (1 : Int) := (by omega); have q109 : 1 < (l0_7.length : Int) := od_; obtain ⟨ad109, A109_7, c109_7, e109, hx109_0, hx109_1, hx109_2, hx109_3, hx109_4, hx109_5, hx109_6, hx109_7, hl109_7, hi109_7⟩ := at_T26 HR0_7.out 1 p109 q109; obtain rfl : ad107 = ad109 := (by injection e109); replace hx109_0 := aj_ hx109_0; replace hx109_1 := aj_ hx109_1; replace hx109_2 := aj_ hx109_2; replace hx109_3 := aj_ hx109_3; replace hx109_4 := aj_ hx109_4; replace hx109_5 := aj_ hx109_5; replace hx109_6 := aj_ hx109_6; replace hx109_7 := aj_ hx109_7; have qi109 : (1 < l0_7.length) = True := eq_true (by omega); (try rw [show ((1 : Int)).toNat = 1 from rfl] at hx109_0); (try rw [show 1 * 8 = 8 from rfl] at hx109_0); (try rw [show ((1 : Int)).toNat = 1 from rfl] at hx109_1); (try rw [show 1 * 8 = 8 from rfl] at hx109_1); (try rw [show ((1 : Int)).toNat = 1 from rfl] at hx109_2); (try rw [show 1 * 8 = 8 from rfl] at hx109_2); (try rw [show ((1 : Int)).toNat = 1 from rfl] at hx109_3); (try rw [show 1 * 8 = 8 from rfl] at hx109_3); (try rw [show ((1 : Int)).toNat = 1 from rfl] at hx109_4); (try rw [show 1 * 8 = 8 from rfl] at hx109_4); (try rw [show ((1 : Int)).toNat = 1 from rfl] at hx109_5); (try rw [show 1 * 8 = 8 from rfl] at hx109_5); (try rw [show ((1 : Int)).toNat = 1 from rfl] at hx109_6); (try rw [show 1 * 8 = 8 from rfl] at hx109_6); (try rw [show ((1 : Int)).toNat = 1 from rfl] at hx109_7); (try rw [show 1 * 8 = 8 from rfl] at hx109_7); replace hx109_0 := cl_ HB hx109_0; replace hx109_1 := cl_ HB hx109_1; replace hx109_2 := cl_ HB hx109_2; replace hx109_3 := cl_ HB hx109_3; replace hx109_4 := cl_ HB hx109_4; replace hx109_5 := cl_ HB hx109_5; replace hx109_6 := cl_ HB hx109_6; replace hx109_7 := cl_ HB hx109_7; have HR109_7 := A_ hi109_7; have HC109_7 := A_ hl109_7; clear hi109_7 hl109_7; replace p109 := eq_true p109; replace q109 := eq_true q109) | (go_at_call 20; (with_reducible refine (tree_End.calls k ((rd_T26 l0_7 1).f0) ((rd_T26 l0_7 1).f1.f0) ((rd_T26 l0_7 1).f1.f1) ((rd_T26 l0_7 1).f1.f2) ((rd_T26 l0_7 1).f1.f3) ((rd_T26 l0_7 1).f2) ((rd_T26 l0_7 1).f3) _ _ ((rd_T26 l0_7 1).f4) t110 _ ?side1 ?side2 A15.out).mono ?_); (case side1 => exact cb_ HR109_7); (case side2 => exact HC109_7.out); rintro e w22 ⟨rfl, hb⟩; replace BK104 := bb_ BK104 hb; replace HB := bs_ hb; (try clear hb)))
        go_ret; exact ⟨re_, hs_⟩
       ·rw [if_neg c14] at H
        exact absurd H (by simp)
      ·replace c13 := Bool.eq_false_iff.mpr c13
       subst c13; replace H := iN_ H; obtain rfl := Option.some.inj H; go_enter Try.func47, Try.ntmps47; go_wp2_with (first | (refine gD 1 ?_; (try (refine gate_guard (by rfl) ?_; dsimp only)); refine bxe_ 1 (n8_ a0_0 a0_1 a0_2 a0_3 a0_4 a0_5 a0_6 (.slice A0_7 l0_7.length c0_7)) 26 ?_; intro gb104 hg w23 hbox hb; have BK104 := A_ (hbox); have GW104 := gs_ w hg; have GE104 := gs_ w hg; replace HB := bs_ hb; clear hb hbox hg; have Z24 := bz8_ BK104) | (refine gC 49 ?_; refine gL 12 Try.func49 #[.agg (n8_ a0_0 a0_1 a0_2 a0_3 a0_4 a0_5 a0_6 (.slice A0_7 l0_7.length c0_7))] ?_; (with_reducible refine (tree_bare.calls a0_0 a0_1 a0_2 a0_3 a0_4 a0_5 a0_6 _ _ l0_7 true _ ?side1 ?side2 A8.out).mono ?_); (case side1 => exact cb_ HR0_7); (case side2 => exact HC0_7.out); rintro e w25 ⟨rfl, hb⟩; refine ⟨_, rfl, ?_⟩; replace BK104 := bb_ BK104 hb; replace HB := bs_ hb; (try clear hb); have Z26 := bz8_ BK104; have p107 : 0 ≤ (0 : Int) := (by omega); have q107 : 0 < (l0_7.length : Int) := od_; obtain ⟨ad107, A107_7, c107_7, e107, hx107_0, hx107_1, hx107_2, hx107_3, hx107_4, hx107_5, hx107_6, hx107_7, hl107_7, hi107_7⟩ := at_T26 HR0_7.out 0 p107 q107; cases e107; have qi107 : (0 < l0_7.length) = True := eq_true (by omega); replace hx107_0 := ai_ hx107_0; replace hx107_1 := ai_ hx107_1; replace hx107_2 := ai_ hx107_2; replace hx107_3 := ai_ hx107_3; replace hx107_4 := ai_ hx107_4; replace hx107_5 := ai_ hx107_5; replace hx107_6 := ai_ hx107_6; replace hx107_7 := ai_ hx107_7; replace hx107_0 := cl_ HB hx107_0; replace hx107_1 := cl_ HB hx107_1; replace hx107_2 := cl_ HB hx107_2; replace hx107_3 := cl_ HB hx107_3; replace hx107_4 := cl_ HB hx107_4; replace hx107_5 := cl_ HB hx107_5; replace hx107_6 := cl_ HB hx107_6; replace hx107_7 := cl_ HB hx107_7; have HR107_7 := A_ hi107_7; have HC107_7 := A_ hl107_7; clear hi107_7 hl107_7; replace p107 := eq_true p107; replace q107 := eq_true q107) | (go_at_call 20; (with_reducible refine (tree_End.calls k ((rd_T26 l0_7 0).f0) ((rd_T26 l0_7 0).f1.f0) ((rd_T26 l0_7 0).f1.f1) ((rd_T26 l0_7 0).f1.f2) ((rd_T26 l0_7 0).f1.f3) ((rd_T26 l0_7 0).f2) ((rd_T26 l0_7 0).f3) _ _ ((rd_T26 l0_7 0).f4) false _ ?side1 ?side2 A12.out).mono ?_); (case side1 => exact cb_ HR107_7); (case side2 => exact HC107_7.out); rintro e w27 ⟨rfl, hb⟩; replace BK104 := bb_ BK104 hb; replace HB := bs_ hb; (try clear hb)))
       go_ret; exact ⟨re_, hs_⟩
     ·rw [if_neg c11] at H
      exact absurd H (by simp)
    ·rw [if_neg c10] at H
     have c10b0 : ((l0_7.length : Int) == 2) = false := beq_eq_false_iff_ne.mpr c10; have c10b1 : ((l0_7.length : Int) != 2) = true := bne_iff_ne.mpr c10; obtain rfl := Option.some.inj H; go_enter Try.func47, Try.ntmps47; go_wp2_with (first | (refine gD 1 ?_; (try (refine gate_guard (by rfl) ?_; dsimp only)); refine bxe_ 1 (n8_ a0_0 a0_1 a0_2 a0_3 a0_4 a0_5 a0_6 (.slice A0_7 l0_7.length c0_7)) 26 ?_; intro gb104 hg w28 hbox hb; have BK104 := A_ (hbox); have GW104 := gs_ w hg; have GE104 := gs_ w hg; replace HB := bs_ hb; clear hb hbox hg; have Z29 := bz8_ BK104) | (refine gC 49 ?_; refine gL 12 Try.func49 #[.agg (n8_ a0_0 a0_1 a0_2 a0_3 a0_4 a0_5 a0_6 (.slice A0_7 l0_7.length c0_7))] ?_; (with_reducible refine (tree_bare.calls a0_0 a0_1 a0_2 a0_3 a0_4 a0_5 a0_6 _ _ l0_7 true _ ?side1 ?side2 A8.out).mono ?_); (case side1 => exact cb_ HR0_7); (case side2 => exact HC0_7.out); rintro e w30 ⟨rfl, hb⟩; refine ⟨_, rfl, ?_⟩; replace BK104 := bb_ BK104 hb; replace HB := bs_ hb; (try clear hb); have Z31 := bz8_ BK104))
     go_ret; exact ⟨re_, hs_⟩
   ·replace c9 := Bool.eq_false_iff.mpr c9
    subst c9; replace H := iN_ H; obtain rfl := Option.some.inj H; go_enter Try.func47, Try.ntmps47; go_wp2_with (first | (refine gD 1 ?_; (try (refine gate_guard (by rfl) ?_; dsimp only)); refine bxe_ 1 (n8_ a0_0 a0_1 a0_2 a0_3 a0_4 a0_5 a0_6 (.slice A0_7 l0_7.length c0_7)) 26 ?_; intro gb104 hg w32 hbox hb; have BK104 := A_ (hbox); have GW104 := gs_ w hg; have GE104 := gs_ w hg; replace HB := bs_ hb; clear hb hbox hg; have Z33 := bz8_ BK104) | (refine gC 49 ?_; refine gL 12 Try.func49 #[.agg (n8_ a0_0 a0_1 a0_2 a0_3 a0_4 a0_5 a0_6 (.slice A0_7 l0_7.length c0_7))] ?_; (with_reducible refine (tree_bare.calls a0_0 a0_1 a0_2 a0_3 a0_4 a0_5 a0_6 _ _ l0_7 false _ ?side1 ?side2 A8.out).mono ?_); (case side1 => exact cb_ HR0_7); (case side2 => exact HC0_7.out); rintro e w34 ⟨rfl, hb⟩; refine ⟨_, rfl, ?_⟩; replace BK104 := bb_ BK104 hb; replace HB := bs_ hb; (try clear hb))); go_ret; exact ⟨re_, hs_⟩
  ·rw [if_neg c7] at H
   have c7b0 : (a0_0 == 1) = false := beq_eq_false_iff_ne.mpr c7; have c7b1 : (a0_0 != 1) = true := bne_iff_ne.mpr c7
   by_cases c35 : a0_0 = 2
   ·rw [if_pos c35] at H
    have c35b0 : (a0_0 == 2) = true := beq_iff_eq.mpr c35; have c35b1 : (a0_0 != 2) = false := bne_eq_false_iff_eq.mpr c35; clear c35; obtain ⟨t111, A36, H⟩ := bi_ H
    by_cases c37 : t111 = true
    ·subst c37
     replace H := iP_ H
     by_cases c38 : (l0_7.length : Int) > 0
     ·rw [if_pos c38] at H
      have c38b0 := decide_eq_true c38; have c38b1 : decide (0 < l0_7.length) = true := decide_eq_true (by omega); clear c38; obtain ⟨t112, A39, H⟩ := bi_ H; obtain rfl := Option.some.inj H; go_enter Try.func47, Try.ntmps47; go_wp2_with (first | (refine gD 1 ?_; (try (refine gate_guard (by rfl) ?_; dsimp only)); refine bxe_ 1 (n8_ a0_0 a0_1 a0_2 a0_3 a0_4 a0_5 a0_6 (.slice A0_7 l0_7.length c0_7)) 26 ?_; intro gb104 hg w40 hbox hb; have BK104 := A_ (hbox); have GW104 := gs_ w hg; have GE104 := gs_ w hg; replace HB := bs_ hb; clear hb hbox hg; have Z41 := bz8_ BK104) | (refine gC 49 ?_; refine gL 36 Try.func49 #[.agg (n8_ a0_0 a0_1 a0_2 a0_3 a0_4 a0_5 a0_6 (.slice A0_7 l0_7.length c0_7))] ?_; (with_reducible refine (tree_bare.calls a0_0 a0_1 a0_2 a0_3 a0_4 a0_5 a0_6 _ _ l0_7 true _ ?side1 ?side2 A36.out).mono ?_); (case side1 => exact cb_ HR0_7); (case side2 => exact HC0_7.out); rintro e w42 ⟨rfl, hb⟩; refine ⟨_, rfl, ?_⟩; replace BK104 := bb_ BK104 hb; replace HB := bs_ hb; (try clear hb); have Z43 := bz8_ BK104) | (go_at_call 68; (with_reducible refine (slices_ContainsFunc.calls k ihS _ _ l0_7  t112 _ ?side1 ?side2 A39.out).mono ?_); (case side1 => exact cb_ HR0_7); (case side2 => exact HC0_7.out); rintro e w44 ⟨rfl, hb⟩; replace BK104 := bb_ BK104 hb; replace HB := bs_ hb; (try clear hb)))
      go_ret; exact ⟨re_, hs_⟩
     ·rw [if_neg c38] at H
      have c38b0 := decide_eq_false c38; have c38b1 : decide (0 < l0_7.length) = false := decide_eq_false (by omega); clear c38; obtain rfl := Option.some.inj H; go_enter Try.func47, Try.ntmps47; go_wp2_with (first | (refine gD 1 ?_; (try (refine gate_guard (by rfl) ?_; dsimp only)); refine bxe_ 1 (n8_ a0_0 a0_1 a0_2 a0_3 a0_4 a0_5 a0_6 (.slice A0_7 l0_7.length c0_7)) 26 ?_; intro gb104 hg w45 hbox hb; have BK104 := A_ (hbox); have GW104 := gs_ w hg; have GE104 := gs_ w hg; replace HB := bs_ hb; clear hb hbox hg; have Z46 := bz8_ BK104) | (refine gC 49 ?_; refine gL 36 Try.func49 #[.agg (n8_ a0_0 a0_1 a0_2 a0_3 a0_4 a0_5 a0_6 (.slice A0_7 l0_7.length c0_7))] ?_; (with_reducible refine (tree_bare.calls a0_0 a0_1 a0_2 a0_3 a0_4 a0_5 a0_6 _ _ l0_7 true _ ?side1 ?side2 A36.out).mono ?_); (case side1 => exact cb_ HR0_7); (case side2 => exact HC0_7.out); rintro e w47 ⟨rfl, hb⟩; refine ⟨_, rfl, ?_⟩; replace BK104 := bb_ BK104 hb; replace HB := bs_ hb; (try clear hb); have Z48 := bz8_ BK104))
      go_ret; exact ⟨re_, hs_⟩
    ·replace c37 := Bool.eq_false_iff.mpr c37
     subst c37; replace H := iN_ H; obtain rfl := Option.some.inj H; go_enter Try.func47, Try.ntmps47; go_wp2_with (first | (refine gD 1 ?_; (try (refine gate_guard (by rfl) ?_; dsimp only)); refine bxe_ 1 (n8_ a0_0 a0_1 a0_2 a0_3 a0_4 a0_5 a0_6 (.slice A0_7 l0_7.length c0_7)) 26 ?_; intro gb104 hg w49 hbox hb; have BK104 := A_ (hbox); have GW104 := gs_ w hg; have GE104 := gs_ w hg; replace HB := bs_ hb; clear hb hbox hg; have Z50 := bz8_ BK104) | (refine gC 49 ?_; refine gL 36 Try.func49 #[.agg (n8_ a0_0 a0_1 a0_2 a0_3 a0_4 a0_5 a0_6 (.slice A0_7 l0_7.length c0_7))] ?_; (with_reducible refine (tree_bare.calls a0_0 a0_1 a0_2 a0_3 a0_4 a0_5 a0_6 _ _ l0_7 false _ ?side1 ?side2 A36.out).mono ?_); (case side1 => exact cb_ HR0_7); (case side2 => exact HC0_7.out); rintro e w51 ⟨rfl, hb⟩; refine ⟨_, rfl, ?_⟩; replace BK104 := bb_ BK104 hb; replace HB := bs_ hb; (try clear hb))); go_ret; exact ⟨re_, hs_⟩
   ·rw [if_neg c35] at H
    have c35b0 : (a0_0 == 2) = false := beq_eq_false_iff_ne.mpr c35; have c35b1 : (a0_0 != 2) = true := bne_iff_ne.mpr c35; obtain rfl := Option.some.inj H; go_enter Try.func47, Try.ntmps47; go_wp2_with (first | (refine gD 1 ?_; (try (refine gate_guard (by rfl) ?_; dsimp only)); refine bxe_ 1 (n8_ a0_0 a0_1 a0_2 a0_3 a0_4 a0_5 a0_6 (.slice A0_7 l0_7.length c0_7)) 26 ?_; intro gb104 hg w52 hbox hb; have BK104 := A_ (hbox); have GW104 := gs_ w hg; have GE104 := gs_ w hg; replace HB := bs_ hb; clear hb hbox hg; have Z53 := bz8_ BK104)); go_ret; exact ⟨re_, hs_⟩
theorem tree_right.calls (k : Nat) : ∀ (a0_0 a0_1 : Int) (a0_2 a0_3 a0_4 : ByteArray) (a0_5 a0_6 : Bool) (A0_7 : Option Addr) (c0_7 : Nat) (l0_7 : List (S26)) (r : Bool) (w : World) (hr0_7 : Kd.C k26 w A0_7 l0_7.length l0_7) (hc0_7 : l0_7.length ≤ c0_7) (h : tree_right.f k a0_0 a0_1 a0_2 a0_3 a0_4 a0_5 a0_6 l0_7 = some r),
  Calls Try.prog 47 #[.agg #[.int .i64 a0_0, .int .i64 a0_1, .string a0_2, .string a0_3, .string a0_4, .bool a0_5, .bool a0_6, .slice A0_7 l0_7.length c0_7]] w fun e w' => e = .returned (.bool r) ∧ Below w.heap.size w w' := by
 induction k using Nat.strongRecOn with
 | _ k ih =>
 intro a0_0 a0_1 a0_2 a0_3 a0_4 a0_5 a0_6 A0_7 c0_7 l0_7 r w hr0_7 hc0_7 h
 cases k with
 | zero => exact absurd h (by simp [tree_right.f])
 | succ k =>
 rw [tree_right.f_succ] at h; exact tree_rightR.calls k (fun j hj => ih j (Nat.lt_succ_of_lt hj)) _ _ _ _ _ _ _ _ _ _ _ _ hr0_7 hc0_7 h
end Go.Proofs.Ytfehdlkklfcnpaa.A
namespace Go.Proofs.Ytfehdlkklfcnpaa.A
open Go.RowKit Go.Proofs.YtfehdlkklfcnpaaW.PrintWords Go.Proofs.YtfehdlkklfcnpaaW.PrintLast Go.Proofs.YtfehdlkklfcnpaaW.PrintMore
attribute [local go_sem] max2_int min2_int max_two min_two max_three min_three max_four min_four isSome_setCell run_store_func_
set_option maxHeartbeats 8000000 in
set_option maxRecDepth 100000 in
theorem tree_Count_1.calls (w0 : World) (gq gf : Nat) (hgk : w0.heap.size ≤ gq) (hgc : w0.heap.size ≤ gf) (hne : gq ≠ gf) (k : Nat) : ∀ (a0_0 a0_1 : Int) (a0_2 a0_3 a0_4 : ByteArray) (a0_5 a0_6 : Bool) (A0_7 : Option Addr) (c0_7 : Nat) (l0_7 : List (S26)) (a1 r : Int) (w : World) (hr0_7 : Kd.C k26 w0 A0_7 l0_7.length l0_7) (hc0_7 : l0_7.length ≤ c0_7)
    (hB : Below w0.heap.size w0 w) (hK : w.heap[gq]? = some (.cells #[.int .i64 a1] 3 (0, 0))) (hC : w.heap[gf]? = some (.cells #[.func (.func 52) #[] #[.pointer (some ⟨gq, 0, none⟩), .pointer (some ⟨gf, 0, none⟩)]] 48 (0, 0)))
    (h : tree_Count_1.f k a0_0 a0_1 a0_2 a0_3 a0_4 a0_5 a0_6 l0_7 a1 = some r),
    Calls Try.prog 52 #[.agg #[.int .i64 a0_0, .int .i64 a0_1, .string a0_2, .string a0_3, .string a0_4, .bool a0_5, .bool a0_6, .slice A0_7 l0_7.length c0_7], .pointer (some ⟨gq, 0, none⟩), .pointer (some ⟨gf, 0, none⟩)] w fun e w' => (∃ v, e = .returned v) ∧ Below w0.heap.size w0 w' ∧ w'.heap[gq]? = some (.cells #[.int .i64 r] 3 (0, 0)) ∧ w'.heap[gf]? = some (.cells #[.func (.func 52) #[] #[.pointer (some ⟨gq, 0, none⟩), .pointer (some ⟨gf, 0, none⟩)]] 48 (0, 0)) := by
  induction k using Nat.strongRecOn with
  | _ k ih =>
  intro a0_0 a0_1 a0_2 a0_3 a0_4 a0_5 a0_6 A0_7 c0_7 l0_7 a1 r w hr0_7 hc0_7 hB hK hC h
  cases k with
  | zero => exact absurd h (by simp [tree_Count_1.f])
  | succ k =>
  simp only [tree_Count_1.f] at h
  have hu26 := Try.underlying26
  have HR0_7 := A_ hr0_7
  have HC0_7 := A_ hc0_7
  clear hr0_7 hc0_7
  have HB := A_ hB
  have HK := A_ hK
  have HC := A_ hC
  have HGK := A_ hgk
  have HGC := A_ hgc
  have hne2 := Ne.symm hne
  clear hB hK hC hgk hgc
  have H : (tree_Count_1.l0 k (wrap64 (a1 + 1)) l0_7 (l0_7.length : Int) 0) = some r := h
  clear h
  have H' := A_ H
  clear H
  go_enter Try.func52, Try.ntmps52
  go_wp2_with (first | (refine gD 3 ?_; refine bxe_ 3 (n8_ a0_0 a0_1 a0_2 a0_3 a0_4 a0_5 a0_6 (.slice A0_7 l0_7.length c0_7)) 26 ?_; intro gb101 hg w3 hbox hb; have n0_ := A_ (below_step HB.out hb); have n1_ := A_ (blk_below HK.out hb); have n2_ := A_ (blk_below HC.out hb); have NB1 : gq ≠ gb101 := Nat.ne_of_lt (Nat.lt_of_lt_of_le (blk_lt HK.out) (Nat.le_of_eq hg.symm)); have NB2 : gb101 ≠ gq := Ne.symm NB1; clear HB HK HC; have HB := n0_; have HK := n1_; have HC := n2_; clear n0_ n1_ n2_; have hcz4_7 : w3.cell? ⟨gb101, 7, none⟩ = some (.slice A0_7 l0_7.length c0_7) := (blk_cell hbox 7).trans rfl; have hfz4_7 := blk_frozen hbox 7; have hkz : w3.cell? ⟨gq, 0, none⟩ = some (.int .i64 a1) := bq_ HK 0; have hkf := blk_frozen HK.out 0; clear hb hbox hg))
  go_loopg [11] k (fun kq v11 w' => ∃ (x1_1 : Int) (x11_1 : Int), v11 = .int .i64 x11_1 ∧ Aside0 (tree_Count_1.l0 kq x1_1 l0_7 (l0_7.length : Int) x11_1 = some r) ∧ Aside0 (kq ≤ k) ∧ Aside0 (w'.heap[gq]? = some (.cells #[.int .i64 x1_1] 3 (0, 0))) ∧ Aside0 (w'.heap[gf]? = some (.cells #[.func (.func 52) #[] #[.pointer (some ⟨gq, 0, none⟩), .pointer (some ⟨gf, 0, none⟩)]] 48 (0, 0))) ∧ Aside0 (Below w0.heap.size w0 w'))
  case atStart => exact ⟨(wrap64 (a1 + 1)), (0), (by first | rfl | (simp; done) | (simp [*]; done)), H', ⟨Nat.le_refl _⟩, ⟨blk_put HK.out 0 _ rfl⟩, ⟨blk_far HC.out hne2 _⟩, ⟨below_set HB.out HGK.out⟩⟩
  case round =>
    clear H' HB HK HC hkz hkf hcz4_7 hfz4_7 NB1 NB2
    obtain ⟨x1_1, x11_1, rfl, HA, HK1, HK, HC, HB⟩ := hrel
    cases gk with
    | zero => exact absurd HA.out (by simp [tree_Count_1.l0])
    | succ k1 =>
      have H := HA.out
      clear HA
      simp only [tree_Count_1.l0] at H
      by_cases c5 : x11_1 < (l0_7.length : Int)
      · rw [if_pos c5] at H
        have c5b0 := decide_eq_true c5
        clear c5
        by_cases c6 : 0 ≤ x11_1
        · rw [if_pos c6] at H
          have c6b0 := decide_eq_true c6
          clear c6
          by_cases c7 : x11_1 < (l0_7.length : Int)
          · rw [if_pos c7] at H
            have c7b0 := decide_eq_true c7
            clear c7
            replace H := Option.bind_eq_some_iff.mp H
            obtain ⟨t104, A80, H⟩ := H
            replace H : (tree_Count_1.l0 k1 t104 l0_7 (l0_7.length : Int) (wrap64 (x11_1 + 1))) = some r := H
            have A8 := A_ A80
            clear A80
            have H' := A_ H
            clear H
            have p102 : 0 ≤ (x11_1 : Int) := of_decide_eq_true (by first | (with_reducible assumption) | assumption)
            have q102 : x11_1 < (l0_7.length : Int) := of_decide_eq_true (by first | (with_reducible assumption) | assumption)
            obtain ⟨ad102, A102_7, c102_7, e102, hx102_0, hx102_1, hx102_2, hx102_3, hx102_4, hx102_5, hx102_6, hx102_7, hl102_7, hi102_7⟩ := at_T26 HR0_7.out x11_1 p102 q102
            cases e102
            replace hx102_0 := cl_ HB hx102_0
            replace hx102_1 := cl_ HB hx102_1
            replace hx102_2 := cl_ HB hx102_2
            replace hx102_3 := cl_ HB hx102_3
            replace hx102_4 := cl_ HB hx102_4
            replace hx102_5 := cl_ HB hx102_5
            replace hx102_6 := cl_ HB hx102_6
            replace hx102_7 := cl_ HB hx102_7
            have HR102_7 := A_ hi102_7
            have HC102_7 := A_ hl102_7
            clear hi102_7 hl102_7
            replace p102 := eq_true p102
            replace q102 := eq_true q102
            go_wp2_with (first | (refine gD 5 ?_; refine bxe_ 5 z8_ 26 ?_; intro gb103 hg w9 hbox hb; have n0_ := A_ (below_step HB.out hb); have n1_ := A_ (blk_below HK.out hb); have n2_ := A_ (blk_below HC.out hb); have NB1 := A_ (Nat.ne_of_lt (Nat.lt_of_lt_of_le (blk_lt HK.out) (Nat.le_of_eq hg.symm)) : gq ≠ gb103); have NB3 := A_ (Nat.ne_of_lt (Nat.lt_of_lt_of_le (blk_lt HC.out) (Nat.le_of_eq hg.symm)) : gf ≠ gb103); have GE103 := A_ (Nat.le_trans HB.out.size (Nat.le_of_eq hg.symm) : w0.heap.size ≤ gb103); clear HB HK HC; have HB := n0_; have HK := n1_; have HC := n2_; clear n0_ n1_ n2_; have nb1 := NB1.out; have nb2 := Ne.symm nb1; have nb3 := NB3.out; have nb4 := Ne.symm nb3; have hcz11_0 : w9.cell? ⟨gb103, 0, none⟩ = some (.int .i64 0) := (blk_cell hbox 0).trans rfl; have hfz11_0 := blk_frozen hbox 0; have hcz11_1 : w9.cell? ⟨gb103, 1, none⟩ = some (.int .i64 0) := (blk_cell hbox 1).trans rfl; have hfz11_1 := blk_frozen hbox 1; have hcz11_2 : w9.cell? ⟨gb103, 2, none⟩ = some (.string ⟨#[]⟩) := (blk_cell hbox 2).trans rfl; have hfz11_2 := blk_frozen hbox 2; have hcz11_3 : w9.cell? ⟨gb103, 3, none⟩ = some (.string ⟨#[]⟩) := (blk_cell hbox 3).trans rfl; have hfz11_3 := blk_frozen hbox 3; have hcz11_4 : w9.cell? ⟨gb103, 4, none⟩ = some (.string ⟨#[]⟩) := (blk_cell hbox 4).trans rfl; have hfz11_4 := blk_frozen hbox 4; have hcz11_5 : w9.cell? ⟨gb103, 5, none⟩ = some (.bool false) := (blk_cell hbox 5).trans rfl; have hfz11_5 := blk_frozen hbox 5; have hcz11_6 : w9.cell? ⟨gb103, 6, none⟩ = some (.bool false) := (blk_cell hbox 6).trans rfl; have hfz11_6 := blk_frozen hbox 6; have hcz11_7 : w9.cell? ⟨gb103, 7, none⟩ = some (.slice none 0 0) := (blk_cell hbox 7).trans rfl; have hfz11_7 := blk_frozen hbox 7; have hcf : w9.cell? ⟨gf, 0, none⟩ = some (.func (.func 52) #[] #[.pointer (some ⟨gq, 0, none⟩), .pointer (some ⟨gf, 0, none⟩)]) := bq_ HC 0; have hff := blk_frozen HC.out 0; clear hb hbox hg) | ((with_reducible refine gate_held rfl ?_); refine goesF_ (some 17) rfl rfl #[.pointer (some ⟨gq, 0, none⟩), .pointer (some ⟨gf, 0, none⟩)] Try.func52 (by kernel_rfl) rfl #[.agg #[.int .i64 ((rd_T26 l0_7 x11_1).f0), .int .i64 ((rd_T26 l0_7 x11_1).f1.f0), .string ((rd_T26 l0_7 x11_1).f1.f1), .string ((rd_T26 l0_7 x11_1).f1.f2), .string ((rd_T26 l0_7 x11_1).f1.f3), .bool ((rd_T26 l0_7 x11_1).f2), .bool ((rd_T26 l0_7 x11_1).f3), .slice A102_7 ((rd_T26 l0_7 x11_1).f4).length c102_7], .pointer (some ⟨gq, 0, none⟩), .pointer (some ⟨gf, 0, none⟩)] rfl rfl (by (simp only [List.map_toArray, List.map_cons, List.map_nil, List.append_toArray, List.cons_append, List.nil_append]); rfl) ?_; (refine (ih k1 (Nat.lt_succ_of_lt HK1.out) ((rd_T26 l0_7 x11_1).f0) ((rd_T26 l0_7 x11_1).f1.f0) ((rd_T26 l0_7 x11_1).f1.f1) ((rd_T26 l0_7 x11_1).f1.f2) ((rd_T26 l0_7 x11_1).f1.f3) ((rd_T26 l0_7 x11_1).f2) ((rd_T26 l0_7 x11_1).f3) _ _ ((rd_T26 l0_7 x11_1).f4) x1_1 t104 _ HR102_7.out HC102_7.out ?sb ?sk ?sc A8.out).mono ?_); (case sb => exact (below_set (below_set (below_set (below_set (below_set (below_set (below_set (below_set HB.out GE103.out) GE103.out) GE103.out) GE103.out) GE103.out) GE103.out) GE103.out) GE103.out)); (case sk => exact (blk_far (blk_far (blk_far (blk_far (blk_far (blk_far (blk_far (blk_far HK.out NB1.out _) NB1.out _) NB1.out _) NB1.out _) NB1.out _) NB1.out _) NB1.out _) NB1.out _)); (case sc => exact (blk_far (blk_far (blk_far (blk_far (blk_far (blk_far (blk_far (blk_far HC.out NB3.out _) NB3.out _) NB3.out _) NB3.out _) NB3.out _) NB3.out _) NB3.out _) NB3.out _)); rintro e w12 ⟨⟨v_, rfl⟩, hb, hk, hc⟩; refine ⟨_, rfl, ?_⟩; clear HB HK HC; have HB := A_ hb; have HK := A_ hk; have HC := A_ hc; clear hb hk hc))
            go_roundg k1
            case measure => have := HK1.out; omega
            case rel => exact ⟨(t104), (wrap64 (x11_1 + 1)), (by first | rfl | (simp; done) | (simp [*]; done)), H', ⟨by have := HK1.out; omega⟩, HK, HC, HB⟩
          · rw [if_neg c7] at H
            exact absurd H (by simp)
        · rw [if_neg c6] at H
          exact absurd H (by simp)
      · rw [if_neg c5] at H
        have c5b0 := decide_eq_false c5
        clear c5
        obtain rfl := Option.some.inj H
        go_wp2
        refine bodyPost_end (results_none rfl _ _ _) rfl ⟨⟨_, rfl⟩, HB.out, HK.out, HC.out⟩
set_option maxHeartbeats 8000000 in
set_option maxRecDepth 100000 in
theorem tree_Count.calls (k : Nat) (a0_0 a0_1 : Int) (a0_2 a0_3 a0_4 : ByteArray) (a0_5 a0_6 : Bool) (A0_7 : Option Addr) (c0_7 : Nat) (l0_7 : List (S26)) (r : Int) (w : World) (hr0_7 : Kd.C k26 w A0_7 l0_7.length l0_7) (hc0_7 : l0_7.length ≤ c0_7) (h : tree_Count.f k a0_0 a0_1 a0_2 a0_3 a0_4 a0_5 a0_6 l0_7 = some r) :
    Calls Try.prog 22 #[.agg #[.int .i64 a0_0, .int .i64 a0_1, .string a0_2, .string a0_3, .string a0_4, .bool a0_5, .bool a0_6, .slice A0_7 l0_7.length c0_7]] w fun e w' => e = .returned (.int .i64 r) ∧ Below w.heap.size w w' := by
  have hu26 := Try.underlying26
  have HR0_7 := A_ hr0_7
  have HC0_7 := A_ hc0_7
  have H' := A_ (show tree_Count_1.f k a0_0 a0_1 a0_2 a0_3 a0_4 a0_5 a0_6 l0_7 0 = some r from h)
  have HB := A_ (Below.refl w.heap.size w)
  clear hr0_7 hc0_7 h
  go_enter Try.func22, Try.ntmps22
  go_wp2_with (first | (refine gD 1 ?_; refine bxe_ 1 (n8_ a0_0 a0_1 a0_2 a0_3 a0_4 a0_5 a0_6 (.slice A0_7 l0_7.length c0_7)) 26 ?_; intro gn hg w1 hbox hb; replace HB := A_ (below_step HB.out hb); have HN := A_ hbox; clear hbox; clear hb hg) | (refine gD 3 ?_; refine bxe_ 3 #[.int .i64 0] 3 ?_; intro gq hg w2 hbox hb; have NE1 := A_ (Nat.ne_of_lt (Nat.lt_of_lt_of_le (blk_lt HN.out) (Nat.le_of_eq hg.symm)) : gn ≠ gq); have n0_ := A_ (below_step HB.out hb); have n1_ := A_ (blk_below HN.out hb); have GQ := A_ (Nat.le_trans HB.out.size (Nat.le_of_eq hg.symm) : w.heap.size ≤ gq); clear HB HN; have HB := n0_; have HN := n1_; clear n0_ n1_; have hq0 : w2.cell? ⟨gq, 0, none⟩ = some (.int .i64 0) := (blk_cell hbox 0).trans rfl; have hq1 := blk_frozen hbox 0; have HQ := A_ hbox; clear hbox; clear hb hg) | (refine gD 4 ?_; refine bxe_ 4 #[.nilFunc] 48 ?_; intro gf hg w3 hbox hb; have HQ2 := A_ (blk_put (cs' := #[.int .i64 0]) HQ.out 0 (.int .i64 0) rfl); have HN2 := A_ (blk_far HN.out NE1.out (p := ⟨gq, 0, none⟩) (.int .i64 0)); have HB2 := A_ (below_set (j := 0) (v := .int .i64 0) HB.out GQ.out); clear HQ HN HB hq0 hq1; have NE2 := A_ (Nat.ne_of_lt (Nat.lt_of_lt_of_le (blk_lt HN2.out) (Nat.le_of_eq hg.symm)) : gn ≠ gf); have NE3 := A_ (Nat.ne_of_lt (Nat.lt_of_lt_of_le (blk_lt HQ2.out) (Nat.le_of_eq hg.symm)) : gq ≠ gf); have HB := A_ (below_step HB2.out hb); have HN := A_ (blk_below HN2.out hb); have HQ := A_ (blk_below HQ2.out hb); have GF := A_ (Nat.le_trans HB2.out.size (Nat.le_of_eq hg.symm) : w.heap.size ≤ gf); clear HB2 HN2 HQ2; have hf0 : w3.cell? ⟨gf, 0, none⟩ = some .nilFunc := (blk_cell hbox 0).trans rfl; have hf1 := blk_frozen hbox 0; have hn0 : w3.cell? ⟨gn, 0, none⟩ = some (.int .i64 a0_0) := bq_ HN 0; have hm0 := blk_frozen HN.out 0; have hn1 : w3.cell? ⟨gn, 1, none⟩ = some (.int .i64 a0_1) := bq_ HN 1; have hm1 := blk_frozen HN.out 1; have hn2 : w3.cell? ⟨gn, 2, none⟩ = some (.string a0_2) := bq_ HN 2; have hm2 := blk_frozen HN.out 2; have hn3 : w3.cell? ⟨gn, 3, none⟩ = some (.string a0_3) := bq_ HN 3; have hm3 := blk_frozen HN.out 3; have hn4 : w3.cell? ⟨gn, 4, none⟩ = some (.string a0_4) := bq_ HN 4; have hm4 := blk_frozen HN.out 4; have hn5 : w3.cell? ⟨gn, 5, none⟩ = some (.bool a0_5) := bq_ HN 5; have hm5 := blk_frozen HN.out 5; have hn6 : w3.cell? ⟨gn, 6, none⟩ = some (.bool a0_6) := bq_ HN 6; have hm6 := blk_frozen HN.out 6; have hn7 : w3.cell? ⟨gn, 7, none⟩ = some (.slice A0_7 l0_7.length c0_7) := bq_ HN 7; have hm7 := blk_frozen HN.out 7; have e1 := NE2.out; have e2 := Ne.symm e1; have HF := A_ hbox; clear hbox; clear hb hg) | ((with_reducible refine gate_held rfl ?_); refine goesF_ (some 8) rfl rfl #[.pointer (some ⟨gq, 0, none⟩), .pointer (some ⟨gf, 0, none⟩)] Try.func52 (by kernel_rfl) rfl #[.agg #[.int .i64 a0_0, .int .i64 a0_1, .string a0_2, .string a0_3, .string a0_4, .bool a0_5, .bool a0_6, .slice A0_7 l0_7.length c0_7], .pointer (some ⟨gq, 0, none⟩), .pointer (some ⟨gf, 0, none⟩)] rfl rfl (by (simp only [List.map_toArray, List.map_cons, List.map_nil, List.append_toArray, List.cons_append, List.nil_append]); rfl) ?_; (refine (tree_Count_1.calls w gq gf GQ.out GF.out NE3.out k a0_0 a0_1 a0_2 a0_3 a0_4 a0_5 a0_6 _ _ l0_7 0 r _ HR0_7.out HC0_7.out (below_set HB.out GF.out) (blk_far HQ.out NE3.out _) (blk_put HF.out 0 _ rfl) H'.out).mono ?_); rintro e w5 ⟨⟨v_, rfl⟩, hb, hk, hc⟩; refine ⟨_, rfl, ?_⟩; have hk0 : w5.cell? ⟨gq, 0, none⟩ = some (.int .i64 r) := (blk_cell hk 0).trans rfl; have hk1 := blk_frozen hk 0; have HB5 := A_ hb; clear hb hk hc))
  go_ret
  exact ⟨rfl, HB5.out⟩
set_option maxHeartbeats 8000000 in
set_option maxRecDepth 100000 in
theorem tree_Deep_1.calls (w0 : World) (gq gf : Nat) (hgq : w0.heap.size ≤ gq) (hgf : w0.heap.size ≤ gf) (hne : gq ≠ gf) (k : Nat) : ∀ (a0_0 a0_1 : Int) (a0_2 a0_3 a0_4 : ByteArray) (a0_5 a0_6 : Bool) (A0_7 : Option Addr) (c0_7 : Nat) (l0_7 : List (S26)) (a1 a2 r : Int) (w : World) (hr0_7 : Kd.C k26 w0 A0_7 l0_7.length l0_7) (hc0_7 : l0_7.length ≤ c0_7)
    (hB : Below w0.heap.size w0 w) (hK : w.heap[gq]? = some (.cells #[.int .i64 a2] 3 (0, 0))) (hC : w.heap[gf]? = some (.cells #[.func (.func 53) #[] #[.pointer (some ⟨gq, 0, none⟩), .pointer (some ⟨gf, 0, none⟩)]] 49 (0, 0)))
    (h : tree_Deep_1.f k a0_0 a0_1 a0_2 a0_3 a0_4 a0_5 a0_6 l0_7 a1 a2 = some r),
    Calls Try.prog 53 #[.agg #[.int .i64 a0_0, .int .i64 a0_1, .string a0_2, .string a0_3, .string a0_4, .bool a0_5, .bool a0_6, .slice A0_7 l0_7.length c0_7], .int .i64 a1, .pointer (some ⟨gq, 0, none⟩), .pointer (some ⟨gf, 0, none⟩)] w fun e w' => (∃ v, e = .returned v) ∧ Below w0.heap.size w0 w' ∧ w'.heap[gq]? = some (.cells #[.int .i64 r] 3 (0, 0)) ∧ w'.heap[gf]? = some (.cells #[.func (.func 53) #[] #[.pointer (some ⟨gq, 0, none⟩), .pointer (some ⟨gf, 0, none⟩)]] 49 (0, 0)) := by
  induction k using Nat.strongRecOn with
  | _ k ih =>
  intro a0_0 a0_1 a0_2 a0_3 a0_4 a0_5 a0_6 A0_7 c0_7 l0_7 a1 a2 r w hr0_7 hc0_7 hB hK hC h
  cases k with
  | zero => exact absurd h (by simp [tree_Deep_1.f])
  | succ k =>
  simp only [tree_Deep_1.f] at h
  have hu26 := Try.underlying26
  have HR0_7 := A_ hr0_7
  have HC0_7 := A_ hc0_7
  clear hr0_7 hc0_7
  have HB := A_ hB
  have HK := A_ hK
  have HC := A_ hC
  have HGK := A_ hgq
  have HGC := A_ hgf
  have hne2 := Ne.symm hne
  clear hB hK hC hgq hgf
  have HC4 := A_ h
  clear h
  go_enter Try.func53, Try.ntmps53
  go_upto_if 10 with (first | (refine gD 4 ?_; refine bxe_ 4 (n8_ a0_0 a0_1 a0_2 a0_3 a0_4 a0_5 a0_6 (.slice A0_7 l0_7.length c0_7)) 26 ?_; intro gb105 hg w3 hbox hb; have n0_ := A_ (below_step HB.out hb); have n1_ := A_ (blk_below HK.out hb); have n2_ := A_ (blk_below HC.out hb); have NB1 := A_ (Nat.ne_of_lt (Nat.lt_of_lt_of_le (blk_lt HK.out) (Nat.le_of_eq hg.symm)) : gq ≠ gb105); clear HB HK HC; have HB := n0_; have HK := n1_; have HC := n2_; clear n0_ n1_ n2_; have BK105 := A_ hbox; have hcz4_0 : w3.cell? ⟨gb105, 0, none⟩ = some (.int .i64 a0_0) := (blk_cell hbox 0).trans rfl; have hfz4_0 := blk_frozen hbox 0; clear hb hbox hg))
  (try simp only [Act.put, List.setIfInBounds_toArray, List.set_cons_zero, List.set_cons_succ])
  go_cut [1] (fun v1 wc => ∃ (kq : Nat) (x1_3 : Int), v1 = .int .i64 x1_3 ∧ Aside0 (tree_Deep_1.j0 kq x1_3 a2 a0_0 a0_1 a0_2 a0_3 a0_4 a0_5 a0_6 l0_7 = some r) ∧ Aside0 (kq ≤ k) ∧ Aside0 (wc.heap[gb105]? = some (.cells (n8_ a0_0 a0_1 a0_2 a0_3 a0_4 a0_5 a0_6 (.slice A0_7 l0_7.length c0_7)) 26 (0, 0))) ∧ Aside0 (wc.heap[gq]? = some (.cells #[.int .i64 a2] 3 (0, 0))) ∧ Aside0 (wc.heap[gf]? = some (.cells #[.func (.func 53) #[] #[.pointer (some ⟨gq, 0, none⟩), .pointer (some ⟨gf, 0, none⟩)]] 49 (0, 0))) ∧ Aside0 (Below w0.heap.size w0 wc))
  case first =>
    have H := HC4.out
    clear HC4
    by_cases c7 : a0_0 = 2
    · rw [if_pos c7] at H
      have c7b0 : (a0_0 == 2) = true := beq_iff_eq.mpr c7
      have c7b1 : (a0_0 != 2) = false := bne_eq_false_iff_eq.mpr c7
      clear c7
      (first | rw [c7b0] | (simp only [i64_w, i32_w]; rw [c7b0]) | skip)
      have H' := A_ H
      clear H
      go_wp2
      go_meet
      case rel => exact ⟨_, (wrap64 (a1 + 1)), (by first | rfl | (simp; done) | (simp [*]; done)), H', ⟨by first | omega | exact Nat.le_refl _⟩, BK105, HK, HC, HB⟩
    · rw [if_neg c7] at H
      have c7b0 : (a0_0 == 2) = false := beq_eq_false_iff_ne.mpr c7
      have c7b1 : (a0_0 != 2) = true := bne_iff_ne.mpr c7
      (first | rw [c7b0] | (simp only [i64_w, i32_w]; rw [c7b0]) | skip)
      have H' := A_ H
      clear H
      go_wp2
      go_meet
      case rel => exact ⟨_, (a1), (by first | rfl | (simp; done) | (simp [*]; done)), H', ⟨by first | omega | exact Nat.le_refl _⟩, BK105, HK, HC, HB⟩
  case rest =>
    clear HC4 HB HK HC BK105
    obtain ⟨kq, x1_3, rfl, HA, HJ3, BK105, HK, HC, HB⟩ := hcut
    cases kq with
    | zero => exact absurd HA.out (by simp [tree_Deep_1.j0])
    | succ kj3 =>
      have H' := A_ (show (tree_Deep_1.l0 kj3 x1_3 (mx a2 x1_3) l0_7 (l0_7.length : Int) 0) = some r by have H := HA.out; simp only [tree_Deep_1.j0] at H; exact H)
      clear HA
      obtain ⟨ji8, hji8⟩ : ∃ j_ : Int, (mx a2 x1_3) = j_ := ⟨_, rfl⟩
      rw [hji8] at H'
      have hji8_ : (if a2 < x1_3 then x1_3 else a2) = ji8 := hji8
      have nb1 := NB1.out
      have nb2 := Ne.symm nb1
      have hkz : wc.cell? ⟨gq, 0, none⟩ = some (.int .i64 a2) := bq_ HK 0
      have hkf := blk_frozen HK.out 0
      have hbz : wc.cell? ⟨gb105, 7, none⟩ = some (.slice A0_7 l0_7.length c0_7) := bq_ BK105 7
      have hbf := blk_frozen BK105.out 7
      go_wp2
      go_loopg [19] kj3 (fun kq v19 w' => ∃ (x1_1 : Int) (x11_1 : Int), v19 = .int .i64 x11_1 ∧ Aside0 (tree_Deep_1.l0 kq x1_3 x1_1 l0_7 (l0_7.length : Int) x11_1 = some r) ∧ Aside0 (kq ≤ kj3) ∧ Aside0 (w'.heap[gq]? = some (.cells #[.int .i64 x1_1] 3 (0, 0))) ∧ Aside0 (w'.heap[gf]? = some (.cells #[.func (.func 53) #[] #[.pointer (some ⟨gq, 0, none⟩), .pointer (some ⟨gf, 0, none⟩)]] 49 (0, 0))) ∧ Aside0 (Below w0.heap.size w0 w'))
      case atStart => exact ⟨ji8, 0, (by first | rfl | (simp; done) | (simp [*]; done)), H', ⟨Nat.le_refl _⟩, ⟨blk_put HK.out 0 _ rfl⟩, ⟨blk_far HC.out hne2 _⟩, ⟨below_set HB.out HGK.out⟩⟩
      case round =>
        clear H' HB HK HC hkz hkf hbz hbf nb1 nb2 NB1 BK105
        obtain ⟨x1_1, x11_1, rfl, HA, HK1, HK, HC, HB⟩ := hrel
        cases gk with
        | zero => exact absurd HA.out (by simp [tree_Deep_1.l0])
        | succ k1 =>
          have H := HA.out
          clear HA
          simp only [tree_Deep_1.l0] at H
          by_cases c5 : x11_1 < (l0_7.length : Int)
          · rw [if_pos c5] at H
            have c5b0 := decide_eq_true c5
            clear c5
            by_cases c6 : 0 ≤ x11_1
            · rw [if_pos c6] at H
              have c6b0 := decide_eq_true c6
              clear c6
              by_cases c7 : x11_1 < (l0_7.length : Int)
              · rw [if_pos c7] at H
                have c7b0 := decide_eq_true c7
                clear c7
                replace H := Option.bind_eq_some_iff.mp H
                obtain ⟨t104, A80, H⟩ := H
                have A8 := A_ A80
                clear A80
                have H' := A_ (show (tree_Deep_1.l0 k1 x1_3 t104 l0_7 (l0_7.length : Int) (wrap64 (x11_1 + 1))) = some r from H)
                clear H
                have p102 : 0 ≤ (x11_1 : Int) := of_decide_eq_true (by first | (with_reducible assumption) | assumption)
                have q102 : x11_1 < (l0_7.length : Int) := of_decide_eq_true (by first | (with_reducible assumption) | assumption)
                obtain ⟨ad102, A102_7, c102_7, e102, hx102_0, hx102_1, hx102_2, hx102_3, hx102_4, hx102_5, hx102_6, hx102_7, hl102_7, hi102_7⟩ := at_T26 HR0_7.out x11_1 p102 q102
                cases e102
                replace hx102_0 := cl_ HB hx102_0
                replace hx102_1 := cl_ HB hx102_1
                replace hx102_2 := cl_ HB hx102_2
                replace hx102_3 := cl_ HB hx102_3
                replace hx102_4 := cl_ HB hx102_4
                replace hx102_5 := cl_ HB hx102_5
                replace hx102_6 := cl_ HB hx102_6
                replace hx102_7 := cl_ HB hx102_7
                have HR102_7 := A_ hi102_7
                have HC102_7 := A_ hl102_7
                clear hi102_7 hl102_7
                replace p102 := eq_true p102
                replace q102 := eq_true q102
                have HLT := A_ (show k1 < k + 1 from Nat.lt_succ_of_lt (Nat.lt_of_lt_of_le (Nat.lt_of_lt_of_le (Nat.lt_succ_self k1) HK1.out) (Nat.le_trans (Nat.le_succ _) HJ3.out)))
                go_wp2_with (first | (refine gD 7 ?_; refine bxe_ 7 z8_ 26 ?_; intro gb103 hg w9 hbox hb; have n0_ := A_ (below_step HB.out hb); have n1_ := A_ (blk_below HK.out hb); have n2_ := A_ (blk_below HC.out hb); have NB1 := A_ (Nat.ne_of_lt (Nat.lt_of_lt_of_le (blk_lt HK.out) (Nat.le_of_eq hg.symm)) : gq ≠ gb103); have NB3 := A_ (Nat.ne_of_lt (Nat.lt_of_lt_of_le (blk_lt HC.out) (Nat.le_of_eq hg.symm)) : gf ≠ gb103); have GE103 := A_ (Nat.le_trans HB.out.size (Nat.le_of_eq hg.symm) : w0.heap.size ≤ gb103); clear HB HK HC; have HB := n0_; have HK := n1_; have HC := n2_; clear n0_ n1_ n2_; have nb1 := NB1.out; have nb2 := Ne.symm nb1; have nb3 := NB3.out; have nb4 := Ne.symm nb3; have hcz11_0 : w9.cell? ⟨gb103, 0, none⟩ = some (.int .i64 0) := (blk_cell hbox 0).trans rfl; have hfz11_0 := blk_frozen hbox 0; have hcz11_1 : w9.cell? ⟨gb103, 1, none⟩ = some (.int .i64 0) := (blk_cell hbox 1).trans rfl; have hfz11_1 := blk_frozen hbox 1; have hcz11_2 : w9.cell? ⟨gb103, 2, none⟩ = some (.string ⟨#[]⟩) := (blk_cell hbox 2).trans rfl; have hfz11_2 := blk_frozen hbox 2; have hcz11_3 : w9.cell? ⟨gb103, 3, none⟩ = some (.string ⟨#[]⟩) := (blk_cell hbox 3).trans rfl; have hfz11_3 := blk_frozen hbox 3; have hcz11_4 : w9.cell? ⟨gb103, 4, none⟩ = some (.string ⟨#[]⟩) := (blk_cell hbox 4).trans rfl; have hfz11_4 := blk_frozen hbox 4; have hcz11_5 : w9.cell? ⟨gb103, 5, none⟩ = some (.bool false) := (blk_cell hbox 5).trans rfl; have hfz11_5 := blk_frozen hbox 5; have hcz11_6 : w9.cell? ⟨gb103, 6, none⟩ = some (.bool false) := (blk_cell hbox 6).trans rfl; have hfz11_6 := blk_frozen hbox 6; have hcz11_7 : w9.cell? ⟨gb103, 7, none⟩ = some (.slice none 0 0) := (blk_cell hbox 7).trans rfl; have hfz11_7 := blk_frozen hbox 7; have hcf : w9.cell? ⟨gf, 0, none⟩ = some (.func (.func 53) #[] #[.pointer (some ⟨gq, 0, none⟩), .pointer (some ⟨gf, 0, none⟩)]) := bq_ HC 0; have hff := blk_frozen HC.out 0; clear hb hbox hg) | ((with_reducible refine gate_held rfl ?_); refine goesF_ (some 26) rfl rfl #[.pointer (some ⟨gq, 0, none⟩), .pointer (some ⟨gf, 0, none⟩)] Try.func53 (by kernel_rfl) rfl #[.agg #[.int .i64 ((rd_T26 l0_7 x11_1).f0), .int .i64 ((rd_T26 l0_7 x11_1).f1.f0), .string ((rd_T26 l0_7 x11_1).f1.f1), .string ((rd_T26 l0_7 x11_1).f1.f2), .string ((rd_T26 l0_7 x11_1).f1.f3), .bool ((rd_T26 l0_7 x11_1).f2), .bool ((rd_T26 l0_7 x11_1).f3), .slice A102_7 ((rd_T26 l0_7 x11_1).f4).length c102_7], .int .i64 x1_3, .pointer (some ⟨gq, 0, none⟩), .pointer (some ⟨gf, 0, none⟩)] rfl rfl (by (simp only [List.map_toArray, List.map_cons, List.map_nil, List.append_toArray, List.cons_append, List.nil_append]); rfl) ?_; (refine (ih k1 HLT.out ((rd_T26 l0_7 x11_1).f0) ((rd_T26 l0_7 x11_1).f1.f0) ((rd_T26 l0_7 x11_1).f1.f1) ((rd_T26 l0_7 x11_1).f1.f2) ((rd_T26 l0_7 x11_1).f1.f3) ((rd_T26 l0_7 x11_1).f2) ((rd_T26 l0_7 x11_1).f3) _ _ ((rd_T26 l0_7 x11_1).f4) x1_3 x1_1 t104 _ HR102_7.out HC102_7.out (below_set (below_set (below_set (below_set (below_set (below_set (below_set (below_set HB.out GE103.out) GE103.out) GE103.out) GE103.out) GE103.out) GE103.out) GE103.out) GE103.out) (blk_far (blk_far (blk_far (blk_far (blk_far (blk_far (blk_far (blk_far HK.out NB1.out _) NB1.out _) NB1.out _) NB1.out _) NB1.out _) NB1.out _) NB1.out _) NB1.out _) (blk_far (blk_far (blk_far (blk_far (blk_far (blk_far (blk_far (blk_far HC.out NB3.out _) NB3.out _) NB3.out _) NB3.out _) NB3.out _) NB3.out _) NB3.out _) NB3.out _) A8.out).mono ?_); rintro e w12 ⟨⟨v_, rfl⟩, hb, hk, hc⟩; refine ⟨_, rfl, ?_⟩; clear HB HK HC; have HB := A_ hb; have HK := A_ hk; have HC := A_ hc; clear hb hk hc))
                go_roundg k1
                case measure => have := HK1.out; omega
                case rel => exact ⟨(t104), (wrap64 (x11_1 + 1)), (by first | rfl | (simp; done) | (simp [*]; done)), H', ⟨by have := HK1.out; omega⟩, HK, HC, HB⟩
              · rw [if_neg c7] at H
                exact absurd H (by simp)
            · rw [if_neg c6] at H
              exact absurd H (by simp)
          · rw [if_neg c5] at H
            have c5b0 := decide_eq_false c5
            clear c5
            obtain rfl := Option.some.inj H
            go_wp2
            refine bodyPost_end (results_none rfl _ _ _) rfl ⟨⟨_, rfl⟩, HB.out, HK.out, HC.out⟩
set_option maxHeartbeats 8000000 in
set_option maxRecDepth 100000 in
theorem tree_Deep.calls (k : Nat) (a0_0 a0_1 : Int) (a0_2 a0_3 a0_4 : ByteArray) (a0_5 a0_6 : Bool) (A0_7 : Option Addr) (c0_7 : Nat) (l0_7 : List (S26)) (r : Int) (w : World) (hr0_7 : Kd.C k26 w A0_7 l0_7.length l0_7) (hc0_7 : l0_7.length ≤ c0_7) (h : tree_Deep.f k a0_0 a0_1 a0_2 a0_3 a0_4 a0_5 a0_6 l0_7 = some r) :
    Calls Try.prog 24 #[.agg #[.int .i64 a0_0, .int .i64 a0_1, .string a0_2, .string a0_3, .string a0_4, .bool a0_5, .bool a0_6, .slice A0_7 l0_7.length c0_7]] w fun e w' => e = .returned (.int .i64 r) ∧ Below w.heap.size w w' := by
  have hu26 := Try.underlying26
  have HR0_7 := A_ hr0_7
  have HC0_7 := A_ hc0_7
  have H' := A_ (show tree_Deep_1.f k a0_0 a0_1 a0_2 a0_3 a0_4 a0_5 a0_6 l0_7 0 0 = some r from h)
  have HB := A_ (Below.refl w.heap.size w)
  clear hr0_7 hc0_7 h
  go_enter Try.func24, Try.ntmps24
  go_wp2_with (first | (refine gD 1 ?_; refine bxe_ 1 (n8_ a0_0 a0_1 a0_2 a0_3 a0_4 a0_5 a0_6 (.slice A0_7 l0_7.length c0_7)) 26 ?_; intro gn hg w1 hbox hb; replace HB := A_ (below_step HB.out hb); have HN := A_ hbox; clear hbox; clear hb hg) | (refine gD 3 ?_; refine bxe_ 3 #[.int .i64 0] 3 ?_; intro gq hg w2 hbox hb; have NE1 := A_ (Nat.ne_of_lt (Nat.lt_of_lt_of_le (blk_lt HN.out) (Nat.le_of_eq hg.symm)) : gn ≠ gq); have n0_ := A_ (below_step HB.out hb); have n1_ := A_ (blk_below HN.out hb); have GQ := A_ (Nat.le_trans HB.out.size (Nat.le_of_eq hg.symm) : w.heap.size ≤ gq); clear HB HN; have HB := n0_; have HN := n1_; clear n0_ n1_; have hq0 : w2.cell? ⟨gq, 0, none⟩ = some (.int .i64 0) := (blk_cell hbox 0).trans rfl; have hq1 := blk_frozen hbox 0; have HQ := A_ hbox; clear hbox; clear hb hg) | (refine gD 4 ?_; refine bxe_ 4 #[.nilFunc] 49 ?_; intro gf hg w3 hbox hb; have HQ2 := A_ (blk_put (cs' := #[.int .i64 0]) HQ.out 0 (.int .i64 0) rfl); have HN2 := A_ (blk_far HN.out NE1.out (p := ⟨gq, 0, none⟩) (.int .i64 0)); have HB2 := A_ (below_set (j := 0) (v := .int .i64 0) HB.out GQ.out); clear HQ HN HB hq0 hq1; have NE2 := A_ (Nat.ne_of_lt (Nat.lt_of_lt_of_le (blk_lt HN2.out) (Nat.le_of_eq hg.symm)) : gn ≠ gf); have NE3 := A_ (Nat.ne_of_lt (Nat.lt_of_lt_of_le (blk_lt HQ2.out) (Nat.le_of_eq hg.symm)) : gq ≠ gf); have HB := A_ (below_step HB2.out hb); have HN := A_ (blk_below HN2.out hb); have HQ := A_ (blk_below HQ2.out hb); have GF := A_ (Nat.le_trans HB2.out.size (Nat.le_of_eq hg.symm) : w.heap.size ≤ gf); clear HB2 HN2 HQ2; have hf0 : w3.cell? ⟨gf, 0, none⟩ = some .nilFunc := (blk_cell hbox 0).trans rfl; have hf1 := blk_frozen hbox 0; have hn0 : w3.cell? ⟨gn, 0, none⟩ = some (.int .i64 a0_0) := bq_ HN 0; have hm0 := blk_frozen HN.out 0; have hn1 : w3.cell? ⟨gn, 1, none⟩ = some (.int .i64 a0_1) := bq_ HN 1; have hm1 := blk_frozen HN.out 1; have hn2 : w3.cell? ⟨gn, 2, none⟩ = some (.string a0_2) := bq_ HN 2; have hm2 := blk_frozen HN.out 2; have hn3 : w3.cell? ⟨gn, 3, none⟩ = some (.string a0_3) := bq_ HN 3; have hm3 := blk_frozen HN.out 3; have hn4 : w3.cell? ⟨gn, 4, none⟩ = some (.string a0_4) := bq_ HN 4; have hm4 := blk_frozen HN.out 4; have hn5 : w3.cell? ⟨gn, 5, none⟩ = some (.bool a0_5) := bq_ HN 5; have hm5 := blk_frozen HN.out 5; have hn6 : w3.cell? ⟨gn, 6, none⟩ = some (.bool a0_6) := bq_ HN 6; have hm6 := blk_frozen HN.out 6; have hn7 : w3.cell? ⟨gn, 7, none⟩ = some (.slice A0_7 l0_7.length c0_7) := bq_ HN 7; have hm7 := blk_frozen HN.out 7; have e1 := NE2.out; have e2 := Ne.symm e1; have HF := A_ hbox; clear hbox; clear hb hg) | ((with_reducible refine gate_held rfl ?_); refine goesF_ (some 8) rfl rfl #[.pointer (some ⟨gq, 0, none⟩), .pointer (some ⟨gf, 0, none⟩)] Try.func53 (by kernel_rfl) rfl #[.agg #[.int .i64 a0_0, .int .i64 a0_1, .string a0_2, .string a0_3, .string a0_4, .bool a0_5, .bool a0_6, .slice A0_7 l0_7.length c0_7], .int .i64 0, .pointer (some ⟨gq, 0, none⟩), .pointer (some ⟨gf, 0, none⟩)] rfl rfl (by (simp only [List.map_toArray, List.map_cons, List.map_nil, List.append_toArray, List.cons_append, List.nil_append]); rfl) ?_; (refine (tree_Deep_1.calls w gq gf GQ.out GF.out NE3.out k a0_0 a0_1 a0_2 a0_3 a0_4 a0_5 a0_6 _ _ l0_7 0 0 r _ HR0_7.out HC0_7.out (below_set HB.out GF.out) (blk_far HQ.out NE3.out _) (blk_put HF.out 0 _ rfl) H'.out).mono ?_); rintro e w5 ⟨⟨v_, rfl⟩, hb, hk, hc⟩; refine ⟨_, rfl, ?_⟩; have hk0 : w5.cell? ⟨gq, 0, none⟩ = some (.int .i64 r) := (blk_cell hk 0).trans rfl; have hk1 := blk_frozen hk 0; have HB5 := A_ hb; clear hb hk hc))
  go_ret
  exact ⟨rfl, HB5.out⟩
end Go.Proofs.Ytfehdlkklfcnpaa.A
namespace Go.Proofs.Ytfehdlkklfcnpaa.A
open Go.RowKit Go.Proofs.YtfehdlkklfcnpaaW.PrintWords Go.Proofs.YtfehdlkklfcnpaaW.PrintLast Go.Proofs.YtfehdlkklfcnpaaW.PrintMore
attribute [local go_sem] max2_int min2_int max_two min_two max_three min_three max_four min_four
attribute [local go_sem] isSome_setCell
set_option maxHeartbeats 8000000 in
set_option maxRecDepth 100000 in
theorem tree_Sane.calls (k : Nat) (a0_0 a0_1 : Int) (a0_2 a0_3 a0_4 : ByteArray) (a0_5 a0_6 : Bool) (A0_7 : Option Addr) (c0_7 : Nat) (l0_7 : List (S26)) (r : Bool) (w : World) (hr0_7 : Kd.C k26 w A0_7 l0_7.length l0_7) (hc0_7 : l0_7.length ≤ c0_7) (h : tree_Sane.f k a0_0 a0_1 a0_2 a0_3 a0_4 a0_5 a0_6 l0_7 = some r) :
  Calls Try.prog 18 #[.agg #[.int .i64 a0_0, .int .i64 a0_1, .string a0_2, .string a0_3, .string a0_4, .bool a0_5, .bool a0_6, .slice A0_7 l0_7.length c0_7]] w fun e w' => e = .returned (.bool r) ∧ Below w.heap.size w w' := by
 have hu26 := Try.underlying26; have HR0_7 := A_ hr0_7; have HC0_7 := A_ hc0_7; clear hr0_7 hc0_7; have HB := A_ (Below.refl w.heap.size w); have H : ((tree_Count.f k a0_0 a0_1 a0_2 a0_3 a0_4 a0_5 a0_6 l0_7).bind fun t157 => (if t157 ≤ 64 then ((tree_Deep.f k a0_0 a0_1 a0_2 a0_3 a0_4 a0_5 a0_6 l0_7).bind fun t158 => (if t158 ≤ 8 then ((tree_right.f k a0_0 a0_1 a0_2 a0_3 a0_4 a0_5 a0_6 l0_7).bind fun t159 => (some t159)) else (some false))) else (some false))) = some r := h; clear h; obtain ⟨t157, A2, H⟩ := bi_ H
 by_cases c3 : t157 ≤ 64
 ·rw [if_pos c3] at H
  have c3b0 := decide_eq_true c3; clear c3; obtain ⟨t158, A4, H⟩ := bi_ H
  by_cases c5 : t158 ≤ 8
  ·rw [if_pos c5] at H
   have c5b0 := decide_eq_true c5; clear c5; obtain ⟨t159, A6, H⟩ := bi_ H; obtain rfl := Option.some.inj H; go_enter Try.func18, Try.ntmps18; go_wp2_with (first | (refine gx_ w 1 (n8_ a0_0 a0_1 a0_2 a0_3 a0_4 a0_5 a0_6 (.slice A0_7 l0_7.length c0_7)) 26 ?_; clear HB; intro gb156 w7 BK156 GE156 HB; have GW156 := GE156; have Z8 := bz8_ BK156) | (refine gC 22 ?_; refine gL 4 Try.func22 #[.agg (n8_ a0_0 a0_1 a0_2 a0_3 a0_4 a0_5 a0_6 (.slice A0_7 l0_7.length c0_7))] ?_; (with_reducible refine (tree_Count.calls k a0_0 a0_1 a0_2 a0_3 a0_4 a0_5 a0_6 _ _ l0_7 t157 _ ?side1 ?side2 A2.out).mono ?_); (case side1 => exact cb_ HR0_7); (case side2 => exact HC0_7.out); rintro e w9 ⟨rfl, hb⟩; refine ⟨_, rfl, ?_⟩; replace BK156 := bb_ BK156 hb; replace HB := bs_ hb; (try clear hb); have Z10 := bz8_ BK156) | (go_at_call 24; (with_reducible refine (tree_Deep.calls k a0_0 a0_1 a0_2 a0_3 a0_4 a0_5 a0_6 _ _ l0_7 t158 _ ?side1 ?side2 A4.out).mono ?_); (case side1 => exact cb_ HR0_7); (case side2 => exact HC0_7.out); rintro e w11 ⟨rfl, hb⟩; replace BK156 := bb_ BK156 hb; replace HB := bs_ hb; (try clear hb); have Z12 := bz8_ BK156) | (go_at_call 47; (with_reducible refine (tree_right.calls k a0_0 a0_1 a0_2 a0_3 a0_4 a0_5 a0_6 _ _ l0_7 t159 _ ?side1 ?side2 A6.out).mono ?_); (case side1 => exact cb_ HR0_7); (case side2 => exact HC0_7.out); rintro e w13 ⟨rfl, hb⟩; replace BK156 := bb_ BK156 hb; replace HB := bs_ hb; (try clear hb)))
   go_ret; exact ⟨re_, hs_⟩
  ·rw [if_neg c5] at H
   have c5b0 := decide_eq_false c5; clear c5; obtain rfl := Option.some.inj H; go_enter Try.func18, Try.ntmps18; go_wp2_with (first | (refine gx_ w 1 (n8_ a0_0 a0_1 a0_2 a0_3 a0_4 a0_5 a0_6 (.slice A0_7 l0_7.length c0_7)) 26 ?_; clear HB; intro gb156 w14 BK156 GE156 HB; have GW156 := GE156; have Z15 := bz8_ BK156) | (refine gC 22 ?_; refine gL 4 Try.func22 #[.agg (n8_ a0_0 a0_1 a0_2 a0_3 a0_4 a0_5 a0_6 (.slice A0_7 l0_7.length c0_7))] ?_; (with_reducible refine (tree_Count.calls k a0_0 a0_1 a0_2 a0_3 a0_4 a0_5 a0_6 _ _ l0_7 t157 _ ?side1 ?side2 A2.out).mono ?_); (case side1 => exact cb_ HR0_7); (case side2 => exact HC0_7.out); rintro e w16 ⟨rfl, hb⟩; refine ⟨_, rfl, ?_⟩; replace BK156 := bb_ BK156 hb; replace HB := bs_ hb; (try clear hb); have Z17 := bz8_ BK156) | (go_at_call 24; (with_reducible refine (tree_Deep.calls k a0_0 a0_1 a0_2 a0_3 a0_4 a0_5 a0_6 _ _ l0_7 t158 _ ?side1 ?side2 A4.out).mono ?_); (case side1 => exact cb_ HR0_7); (case side2 => exact HC0_7.out); rintro e w18 ⟨rfl, hb⟩; replace BK156 := bb_ BK156 hb; replace HB := bs_ hb; (try clear hb)))
   go_ret; exact ⟨re_, hs_⟩
 ·rw [if_neg c3] at H
  have c3b0 := decide_eq_false c3; clear c3; obtain rfl := Option.some.inj H; go_enter Try.func18, Try.ntmps18; go_wp2_with (first | (refine gx_ w 1 (n8_ a0_0 a0_1 a0_2 a0_3 a0_4 a0_5 a0_6 (.slice A0_7 l0_7.length c0_7)) 26 ?_; clear HB; intro gb156 w19 BK156 GE156 HB; have GW156 := GE156; have Z20 := bz8_ BK156) | (refine gC 22 ?_; refine gL 4 Try.func22 #[.agg (n8_ a0_0 a0_1 a0_2 a0_3 a0_4 a0_5 a0_6 (.slice A0_7 l0_7.length c0_7))] ?_; (with_reducible refine (tree_Count.calls k a0_0 a0_1 a0_2 a0_3 a0_4 a0_5 a0_6 _ _ l0_7 t157 _ ?side1 ?side2 A2.out).mono ?_); (case side1 => exact cb_ HR0_7); (case side2 => exact HC0_7.out); rintro e w21 ⟨rfl, hb⟩; refine ⟨_, rfl, ?_⟩; replace BK156 := bb_ BK156 hb; replace HB := bs_ hb; (try clear hb))); go_ret; exact ⟨re_, hs_⟩
set_option maxHeartbeats 8000000 in
set_option maxRecDepth 100000 in
theorem point_Text.calls (k : Nat) (a0_0 : Int) (a0_1 a0_2 a0_3 r : ByteArray) (w : World) (h : point_Text.f k a0_0 a0_1 a0_2 a0_3 = some r) :
  Calls Try.prog 60 #[.agg #[.int .i64 a0_0, .string a0_1, .string a0_2, .string a0_3]] w fun e w' => e = .returned (.string r) ∧ Below w.heap.size w w' := by
 have hu23 := Try.underlying23; have HB := A_ (Below.refl w.heap.size w); have H : ((point_Sane.f k a0_0 a0_1 a0_2 a0_3).bind fun t188 => (if t188 = true then (if a0_0 = 0 then (if 1 + a0_3.size ≤ 9223372036854775807 then (if 1 + a0_2.size ≤ 9223372036854775807 then (if ((⟨#[45]⟩ : ByteArray) ++ a0_2).size + ((⟨#[45]⟩ : ByteArray) ++ a0_3).size ≤ 9223372036854775807 then (if a0_1.size + (((⟨#[45]⟩ : ByteArray) ++ a0_2) ++ ((⟨#[45]⟩ : ByteArray) ++ a0_3)).size ≤ 9223372036854775807 then (some (a0_1 ++ (((⟨#[45]⟩ : ByteArray) ++ a0_2) ++ ((⟨#[45]⟩ : ByteArray) ++ a0_3)))) else (none)) else (none)) else (none)) else (none)) else (if a0_0 = 1 then (if 1 + a0_2.size ≤ 9223372036854775807 then (if ((⟨#[45]⟩ : ByteArray) ++ a0_2).size + 0 ≤ 9223372036854775807 then (if a0_1.size + (((⟨#[45]⟩ : ByteArray) ++ a0_2) ++ (⟨#[]⟩ : ByteArray)).size ≤ 9223372036854775807 then (some (a0_1 ++ (((⟨#[45]⟩ : ByteArray) ++ a0_2) ++ (⟨#[]⟩ : ByteArray)))) else (none)) else (none)) else (none)) else (if a0_0 = 2 then (if 1 + a0_2.size ≤ 9223372036854775807 then (if a0_1.size + ((⟨#[115]⟩ : ByteArray) ++ a0_2).size ≤ 9223372036854775807 then (some (a0_1 ++ ((⟨#[115]⟩ : ByteArray) ++ a0_2))) else (none)) else (none)) else (if a0_0 = 4 then (if a0_1.size + 1 ≤ 9223372036854775807 then (some (a0_1 ++ (⟨#[100]⟩ : ByteArray))) else (none)) else (if a0_0 = 5 then (if a0_1.size + 1 ≤ 9223372036854775807 then (some (a0_1 ++ (⟨#[99]⟩ : ByteArray))) else (none)) else (if a0_1.size + 0 ≤ 9223372036854775807 then (some (a0_1 ++ (⟨#[]⟩ : ByteArray))) else (none))))))) else (some (⟨#[]⟩ : ByteArray)))) = some r := h; clear h; obtain ⟨t188, A2, H⟩ := bi_ H
 by_cases c3 : t188 = true
 ·subst c3
  replace H := iP_ H
  by_cases c4 : a0_0 = 0
  ·rw [if_pos c4] at H
   have c4b0 : (a0_0 == 0) = true := beq_iff_eq.mpr c4; have c4b1 : (a0_0 != 0) = false := bne_eq_false_iff_eq.mpr c4; clear c4
   by_cases c5 : 1 + a0_3.size ≤ 9223372036854775807
   ·rw [if_pos c5] at H
    have c5b0 := eq_true c5; have c5b1 := decide_eq_true c5; (try have c5b2 : (9223372036854775807 < 1 + a0_3.size) = False := eq_false (Nat.not_lt.2 c5))
    by_cases c6 : 1 + a0_2.size ≤ 9223372036854775807
    ·rw [if_pos c6] at H
     have c6b0 := eq_true c6; have c6b1 := decide_eq_true c6; (try have c6b2 : (9223372036854775807 < 1 + a0_2.size) = False := eq_false (Nat.not_lt.2 c6))
     by_cases c7 : ((⟨#[45]⟩ : ByteArray) ++ a0_2).size + ((⟨#[45]⟩ : ByteArray) ++ a0_3).size ≤ 9223372036854775807
     ·rw [if_pos c7] at H
      have c7b0 := eq_true c7; have c7b1 := decide_eq_true c7; (try have c7b2 : (9223372036854775807 < ((⟨#[45]⟩ : ByteArray) ++ a0_2).size + ((⟨#[45]⟩ : ByteArray) ++ a0_3).size) = False := eq_false (Nat.not_lt.2 c7)); (try have c7b3 : (9223372036854775807 < 1 + a0_2.size + (1 + a0_3.size)) = False := eq_false (Nat.not_lt.2 (by have h_ := c7; simp only [ByteArray.size_append] at h_; exact h_)))
      by_cases c8 : a0_1.size + (((⟨#[45]⟩ : ByteArray) ++ a0_2) ++ ((⟨#[45]⟩ : ByteArray) ++ a0_3)).size ≤ 9223372036854775807
      ·rw [if_pos c8] at H
       have c8b0 := eq_true c8; have c8b1 := decide_eq_true c8; (try have c8b2 : (9223372036854775807 < a0_1.size + (((⟨#[45]⟩ : ByteArray) ++ a0_2) ++ ((⟨#[45]⟩ : ByteArray) ++ a0_3)).size) = False := eq_false (Nat.not_lt.2 c8)); (try have c8b3 : (9223372036854775807 < a0_1.size + (1 + a0_2.size + (1 + a0_3.size))) = False := eq_false (Nat.not_lt.2 (by have h_ := c8; simp only [ByteArray.size_append] at h_; exact h_))); obtain rfl := Option.some.inj H; go_enter Try.func60, Try.ntmps60; go_wp2_with (first | (refine gx_ w 1 (n4_ a0_0 a0_1 a0_2 a0_3) 23 ?_; clear HB; intro gb187 w9 BK187 GE187 HB; have GW187 := GE187; have Z10 := bz4_ BK187) | (refine gC 29 ?_; refine gL 5 Try.func29 #[.agg (n4_ a0_0 a0_1 a0_2 a0_3)] ?_; (with_reducible refine (point_Sane.calls k a0_0 a0_1 a0_2 a0_3 true _ A2.out).mono ?_); rintro e w11 ⟨rfl, hb⟩; refine ⟨_, rfl, ?_⟩; replace BK187 := bb_ BK187 hb; replace HB := bs_ hb; (try clear hb); have Z12 := bz4_ BK187)); go_ret; exact ⟨re_, hs_⟩
      ·rw [if_neg c8] at H
       exact absurd H (by simp)
     ·rw [if_neg c7] at H
      exact absurd H (by simp)
    ·rw [if_neg c6] at H
     exact absurd H (by simp)
   ·rw [if_neg c5] at H
    exact absurd H (by simp)
  ·rw [if_neg c4] at H
   have c4b0 : (a0_0 == 0) = false := beq_eq_false_iff_ne.mpr c4; have c4b1 : (a0_0 != 0) = true := bne_iff_ne.mpr c4
   by_cases c13 : a0_0 = 1
   ·rw [if_pos c13] at H
    have c13b0 : (a0_0 == 1) = true := beq_iff_eq.mpr c13; have c13b1 : (a0_0 != 1) = false := bne_eq_false_iff_eq.mpr c13; clear c13
    by_cases c14 : 1 + a0_2.size ≤ 9223372036854775807
    ·rw [if_pos c14] at H
     have c14b0 := eq_true c14; have c14b1 := decide_eq_true c14; (try have c14b2 : (9223372036854775807 < 1 + a0_2.size) = False := eq_false (Nat.not_lt.2 c14))
     by_cases c15 : ((⟨#[45]⟩ : ByteArray) ++ a0_2).size + 0 ≤ 9223372036854775807
     ·rw [if_pos c15] at H
      have c15b0 := eq_true c15; have c15b1 := decide_eq_true c15; (try have c15b2 : (9223372036854775807 < ((⟨#[45]⟩ : ByteArray) ++ a0_2).size + 0) = False := eq_false (Nat.not_lt.2 c15)); (try have c15b3 : (9223372036854775807 < 1 + a0_2.size + 0) = False := eq_false (Nat.not_lt.2 (by have h_ := c15; simp only [ByteArray.size_append] at h_; exact h_)))
      by_cases c16 : a0_1.size + (((⟨#[45]⟩ : ByteArray) ++ a0_2) ++ (⟨#[]⟩ : ByteArray)).size ≤ 9223372036854775807
      ·rw [if_pos c16] at H
       have c16b0 := eq_true c16; have c16b1 := decide_eq_true c16; (try have c16b2 : (9223372036854775807 < a0_1.size + (((⟨#[45]⟩ : ByteArray) ++ a0_2) ++ (⟨#[]⟩ : ByteArray)).size) = False := eq_false (Nat.not_lt.2 c16)); (try have c16b3 : (9223372036854775807 < a0_1.size + (1 + a0_2.size + 0)) = False := eq_false (Nat.not_lt.2 (by have h_ := c16; simp only [ByteArray.size_append] at h_; exact h_))); obtain rfl := Option.some.inj H; go_enter Try.func60, Try.ntmps60; go_wp2_with (first | (refine gx_ w 1 (n4_ a0_0 a0_1 a0_2 a0_3) 23 ?_; clear HB; intro gb187 w17 BK187 GE187 HB; have GW187 := GE187; have Z18 := bz4_ BK187) | (refine gC 29 ?_; refine gL 5 Try.func29 #[.agg (n4_ a0_0 a0_1 a0_2 a0_3)] ?_; (with_reducible refine (point_Sane.calls k a0_0 a0_1 a0_2 a0_3 true _ A2.out).mono ?_); rintro e w19 ⟨rfl, hb⟩; refine ⟨_, rfl, ?_⟩; replace BK187 := bb_ BK187 hb; replace HB := bs_ hb; (try clear hb); have Z20 := bz4_ BK187)); go_ret; exact ⟨re_, hs_⟩
      ·rw [if_neg c16] at H
       exact absurd H (by simp)
     ·rw [if_neg c15] at H
      exact absurd H (by simp)
    ·rw [if_neg c14] at H
     exact absurd H (by simp)
   ·rw [if_neg c13] at H
    have c13b0 : (a0_0 == 1) = false := beq_eq_false_iff_ne.mpr c13; have c13b1 : (a0_0 != 1) = true := bne_iff_ne.mpr c13
    by_cases c21 : a0_0 = 2
    ·rw [if_pos c21] at H
     have c21b0 : (a0_0 == 2) = true := beq_iff_eq.mpr c21; have c21b1 : (a0_0 != 2) = false := bne_eq_false_iff_eq.mpr c21; clear c21
     by_cases c22 : 1 + a0_2.size ≤ 9223372036854775807
     ·rw [if_pos c22] at H
      have c22b0 := eq_true c22; have c22b1 := decide_eq_true c22; (try have c22b2 : (9223372036854775807 < 1 + a0_2.size) = False := eq_false (Nat.not_lt.2 c22))
      by_cases c23 : a0_1.size + ((⟨#[115]⟩ : ByteArray) ++ a0_2).size ≤ 9223372036854775807
      ·rw [if_pos c23] at H
       have c23b0 := eq_true c23; have c23b1 := decide_eq_true c23; (try have c23b2 : (9223372036854775807 < a0_1.size + ((⟨#[115]⟩ : ByteArray) ++ a0_2).size) = False := eq_false (Nat.not_lt.2 c23)); (try have c23b3 : (9223372036854775807 < a0_1.size + (1 + a0_2.size)) = False := eq_false (Nat.not_lt.2 (by have h_ := c23; simp only [ByteArray.size_append] at h_; exact h_))); obtain rfl := Option.some.inj H; go_enter Try.func60, Try.ntmps60; go_wp2_with (first | (refine gx_ w 1 (n4_ a0_0 a0_1 a0_2 a0_3) 23 ?_; clear HB; intro gb187 w24 BK187 GE187 HB; have GW187 := GE187; have Z25 := bz4_ BK187) | (refine gC 29 ?_; refine gL 5 Try.func29 #[.agg (n4_ a0_0 a0_1 a0_2 a0_3)] ?_; (with_reducible refine (point_Sane.calls k a0_0 a0_1 a0_2 a0_3 true _ A2.out).mono ?_); rintro e w26 ⟨rfl, hb⟩; refine ⟨_, rfl, ?_⟩; replace BK187 := bb_ BK187 hb; replace HB := bs_ hb; (try clear hb); have Z27 := bz4_ BK187)); go_ret; exact ⟨re_, hs_⟩
      ·rw [if_neg c23] at H
       exact absurd H (by simp)
     ·rw [if_neg c22] at H
      exact absurd H (by simp)
    ·rw [if_neg c21] at H
     have c21b0 : (a0_0 == 2) = false := beq_eq_false_iff_ne.mpr c21; have c21b1 : (a0_0 != 2) = true := bne_iff_ne.mpr c21
     by_cases c28 : a0_0 = 4
     ·rw [if_pos c28] at H
      have c28b0 : (a0_0 == 4) = true := beq_iff_eq.mpr c28; have c28b1 : (a0_0 != 4) = false := bne_eq_false_iff_eq.mpr c28; clear c28
      by_cases c29 : a0_1.size + 1 ≤ 9223372036854775807
      ·rw [if_pos c29] at H
       have c29b0 := eq_true c29; have c29b1 := decide_eq_true c29; (try have c29b2 : (9223372036854775807 < a0_1.size + 1) = False := eq_false (Nat.not_lt.2 c29)); obtain rfl := Option.some.inj H; go_enter Try.func60, Try.ntmps60; go_wp2_with (first | (refine gx_ w 1 (n4_ a0_0 a0_1 a0_2 a0_3) 23 ?_; clear HB; intro gb187 w30 BK187 GE187 HB; have GW187 := GE187; have Z31 := bz4_ BK187) | (refine gC 29 ?_; refine gL 5 Try.func29 #[.agg (n4_ a0_0 a0_1 a0_2 a0_3)] ?_; (with_reducible refine (point_Sane.calls k a0_0 a0_1 a0_2 a0_3 true _ A2.out).mono ?_); rintro e w32 ⟨rfl, hb⟩; refine ⟨_, rfl, ?_⟩; replace BK187 := bb_ BK187 hb; replace HB := bs_ hb; (try clear hb); have Z33 := bz4_ BK187)); go_ret; exact ⟨re_, hs_⟩
      ·rw [if_neg c29] at H
       exact absurd H (by simp)
     ·rw [if_neg c28] at H
      have c28b0 : (a0_0 == 4) = false := beq_eq_false_iff_ne.mpr c28; have c28b1 : (a0_0 != 4) = true := bne_iff_ne.mpr c28
      by_cases c34 : a0_0 = 5
      ·rw [if_pos c34] at H
       have c34b0 : (a0_0 == 5) = true := beq_iff_eq.mpr c34; have c34b1 : (a0_0 != 5) = false := bne_eq_false_iff_eq.mpr c34; clear c34
       by_cases c35 : a0_1.size + 1 ≤ 9223372036854775807
       ·rw [if_pos c35] at H
        have c35b0 := eq_true c35; have c35b1 := decide_eq_true c35; (try have c35b2 : (9223372036854775807 < a0_1.size + 1) = False := eq_false (Nat.not_lt.2 c35)); obtain rfl := Option.some.inj H; go_enter Try.func60, Try.ntmps60; go_wp2_with (first | (refine gx_ w 1 (n4_ a0_0 a0_1 a0_2 a0_3) 23 ?_; clear HB; intro gb187 w36 BK187 GE187 HB; have GW187 := GE187; have Z37 := bz4_ BK187) | (refine gC 29 ?_; refine gL 5 Try.func29 #[.agg (n4_ a0_0 a0_1 a0_2 a0_3)] ?_; (with_reducible refine (point_Sane.calls k a0_0 a0_1 a0_2 a0_3 true _ A2.out).mono ?_); rintro e w38 ⟨rfl, hb⟩; refine ⟨_, rfl, ?_⟩; replace BK187 := bb_ BK187 hb; replace HB := bs_ hb; (try clear hb); have Z39 := bz4_ BK187)); go_ret; exact ⟨re_, hs_⟩
       ·rw [if_neg c35] at H
        exact absurd H (by simp)
      ·rw [if_neg c34] at H
       have c34b0 : (a0_0 == 5) = false := beq_eq_false_iff_ne.mpr c34; have c34b1 : (a0_0 != 5) = true := bne_iff_ne.mpr c34
       by_cases c40 : a0_1.size + 0 ≤ 9223372036854775807
       ·rw [if_pos c40] at H
        have c40b0 := eq_true c40; have c40b1 := decide_eq_true c40; (try have c40b2 : (9223372036854775807 < a0_1.size + 0) = False := eq_false (Nat.not_lt.2 c40)); obtain rfl := Option.some.inj H; go_enter Try.func60, Try.ntmps60; go_wp2_with (first | (refine gx_ w 1 (n4_ a0_0 a0_1 a0_2 a0_3) 23 ?_; clear HB; intro gb187 w41 BK187 GE187 HB; have GW187 := GE187; have Z42 := bz4_ BK187) | (refine gC 29 ?_; refine gL 5 Try.func29 #[.agg (n4_ a0_0 a0_1 a0_2 a0_3)] ?_; (with_reducible refine (point_Sane.calls k a0_0 a0_1 a0_2 a0_3 true _ A2.out).mono ?_); rintro e w43 ⟨rfl, hb⟩; refine ⟨_, rfl, ?_⟩; replace BK187 := bb_ BK187 hb; replace HB := bs_ hb; (try clear hb); have Z44 := bz4_ BK187)); go_ret; exact ⟨re_, hs_⟩
       ·rw [if_neg c40] at H
        exact absurd H (by simp)
 ·replace c3 := Bool.eq_false_iff.mpr c3
  subst c3; replace H := iN_ H; obtain rfl := Option.some.inj H; go_enter Try.func60, Try.ntmps60; go_wp2_with (first | (refine gx_ w 1 (n4_ a0_0 a0_1 a0_2 a0_3) 23 ?_; clear HB; intro gb187 w45 BK187 GE187 HB; have GW187 := GE187; have Z46 := bz4_ BK187) | (refine gC 29 ?_; refine gL 5 Try.func29 #[.agg (n4_ a0_0 a0_1 a0_2 a0_3)] ?_; (with_reducible refine (point_Sane.calls k a0_0 a0_1 a0_2 a0_3 false _ A2.out).mono ?_); rintro e w47 ⟨rfl, hb⟩; refine ⟨_, rfl, ?_⟩; replace BK187 := bb_ BK187 hb; replace HB := bs_ hb; (try clear hb))); go_ret; exact ⟨re_, hs_⟩
end Go.Proofs.Ytfehdlkklfcnpaa.A
namespace Go.Proofs
open Go.Shelf
def Try.lays156_ren : Go.Shelf.Ren := ⟨fun | 156 => 74 | 165 => 84 | 166 => 85 | 169 => 86 | 240 => 90 | 241 => 91 | 276 => 94 | 277 => 95 | n => n, fun | 31 => 69 | 9 => 9 | 3 => 3 | 4 => 4 | 0 => 0 | 20 => 20 | 72 => 89 | 76 => 93 | 70 => 87 | 37 => 60 | 75 => 92 | 127 => 97 | 164 => 99 | 5 => 5 | 80 => 76 | n => n, fun | n => n⟩
theorem Try.lays156 : Go.Proofs.Lays.n156 Try.prog Try.lays156_ren := {
  mixed := by kernel_rfl
  f156 := Try.func74.trans (congrArg some (by kernel_rfl))
  f165 := Try.func84.trans (congrArg some (by kernel_rfl))
  f166 := Try.func85.trans (congrArg some (by kernel_rfl))
  f169 := Try.func86.trans (congrArg some (by kernel_rfl))
  f240 := Try.func90.trans (congrArg some (by kernel_rfl))
  f241 := Try.func91.trans (congrArg some (by kernel_rfl))
  f276 := Try.func94.trans (congrArg some (by kernel_rfl))
  f277 := Try.func95.trans (congrArg some (by kernel_rfl))
  t0 := Try.underlying0
  a0 := Try.isAgg0
  z0 := Try.sizeOf0
  v0 := Try.zeroValue0
  t3 := Try.underlying3
  a3 := Try.isAgg3
  z3 := Try.sizeOf3
  v3 := Try.zeroValue3
  t4 := Try.underlying4
  a4 := Try.isAgg4
  z4 := Try.sizeOf4
  v4 := Try.zeroValue4
  t9 := Try.underlying9
  a9 := Try.isAgg9
  z9 := Try.sizeOf9
  v9 := Try.zeroValue9
  t20 := Try.underlying20
  a20 := Try.isAgg20
  z20 := Try.sizeOf20
  v20 := Try.zeroValue20
  t31 := Try.underlying69
  a31 := Try.isAgg69
  z31 := Try.sizeOf69
  v31 := Try.zeroValue69
  t37 := Try.underlying60
  a37 := Try.isAgg60
  z37 := Try.sizeOf60
  v37 := Try.zeroValue60
  t70 := Try.underlying87
  a70 := Try.isAgg87
  z70 := Try.sizeOf87
  v70 := Try.zeroValue87
  t72 := Try.underlying89
  a72 := Try.isAgg89
  z72 := Try.sizeOf89
  v72 := Try.zeroValue89
  t75 := Try.underlying92
  a75 := Try.isAgg92
  z75 := Try.sizeOf92
  v75 := Try.zeroValue92
  t76 := Try.underlying93
  a76 := Try.isAgg93
  z76 := Try.sizeOf93
  v76 := Try.zeroValue93
  t127 := Try.underlying97
  a127 := Try.isAgg97
  z127 := Try.sizeOf97
  v127 := Try.zeroValue97
  t164 := Try.underlying99
  a164 := Try.isAgg99
  z164 := Try.sizeOf99
  v164 := Try.zeroValue99 }
theorem Try.Builder_Extra_156 : Builder.Extra Try.prog Try.lays156_ren := {
  sizeBuilder := by kernel_rfl
  liesBuilder := by kernel_rfl
  t5 := Try.underlying5
  a5 := Try.isAgg5
  z5 := Try.sizeOf5
  v5 := Try.zeroValue5
  infoByte := by kernel_rfl
  cellsByte := by kernel_rfl
  sizeByte := by kernel_rfl
  neB5 := by decide }
open Go.RowKit in
theorem Try.strings_Join_none (a : Option Addr) (c : Nat) (sep : ByteArray) (w : World) :
    Calls Try.prog 74 #[.slice a 0 c, .string sep] w fun e w' => e = .returned (.string ⟨#[]⟩) ∧ w' = w := Any.strings_Join_none Try.lays156 Try.Builder_Extra_156 a c sep w
open Go.RowKit in
theorem Try.strings_Join (bk o c : Nat) (xs : List ByteArray) (sep : ByteArray) (w : World) (hcells : ∀ (j : Nat) x, xs[j]? = some x → w.cell? ⟨bk, o + j, none⟩ = some (.string x)) (hbk : bk < w.heap.size) (hN : xs.length ≤ 140737488355328) (hcap : xs.length ≤ c) (hlen : (Lib.join (xs.map (·.data.toList)) sep.data.toList).length ≤ 140737488355328) :
    Calls Try.prog 74 #[.slice (some ⟨bk, o, none⟩) xs.length c, .string sep] w fun e w' => e = .returned (.string ⟨(Lib.join (xs.map (·.data.toList)) sep.data.toList).toArray⟩) ∧ Below w.heap.size w w' := Any.strings_Join Try.lays156 Try.Builder_Extra_156 bk o c xs sep w hcells hbk hN hcap hlen
end Go.Proofs
namespace Go.Proofs.Ytfehdlkklfcnpaa.A
open Go.RowKit Go.Proofs.YtfehdlkklfcnpaaW.PrintWords Go.Proofs.YtfehdlkklfcnpaaW.PrintLast Go.Proofs.YtfehdlkklfcnpaaW.PrintMore
theorem spot_none {w : World} {a : Addr} {v : Value} (h : w.cell? a = some v) : a = ⟨a.block, a.off, none⟩ := by
  obtain ⟨b, o, s⟩ := a
  cases s with
  | none => rfl
  | some s =>
    exfalso
    unfold World.cell? at h
    simp only at h
    split at h
    · simp at h
    · simp at h
theorem strings_Join.calls (A0 : Option Addr) (c0 : Nat) (l0 : List ByteArray) (a1 r : ByteArray) (w : World) (hr0 : Kd.C Kd.string w A0 l0.length l0) (hc0 : l0.length ≤ c0) (h : strings_Join.f l0 a1 = some r) :
    Calls Try.prog 74 #[.slice A0 l0.length c0, .string a1] w fun e w' => e = .returned (.string r) ∧ Below w.heap.size w w' := by
  unfold strings_Join.f at h
  by_cases c1 : l0.length ≤ 140737488355328
  · rw [if_pos c1] at h
    by_cases c2 : (Lib.join (l0.map (·.data.toList)) a1.data.toList).length ≤ 140737488355328
    · rw [if_pos c2] at h
      obtain rfl := Option.some.inj h
      by_cases c3 : l0 = []
      · subst c3
        refine (Try.strings_Join_none A0 c0 a1 w).mono fun e w' ⟨he, hw⟩ => ⟨?_, hw ▸ Below.refl _ _⟩
        rw [he]; rfl
      · have hp : 0 < l0.length := List.length_pos_iff.2 c3
        obtain ⟨ad, rfl, h0⟩ := Kd.at_string hr0 0 (by omega) (by omega)
        have hs : ad = ⟨ad.block, ad.off, none⟩ := spot_none h0
        have hcells : ∀ (j : Nat) x, l0[j]? = some x → w.cell? ⟨ad.block, ad.off + j, none⟩ = some (.string x) := fun j x hj => by
          have hlt := (List.getElem?_eq_some_iff.1 hj).1
          obtain ⟨ad', e', h1⟩ := Kd.at_string hr0 (j : Int) (by omega) (by omega)
          obtain rfl := Option.some.inj e'
          have hg : rdOf ByteArray.empty l0 (j : Int) = x := by
            unfold rdOf
            rw [List.getD_eq_getElem?_getD, Int.toNat_natCast, hj]; rfl
          rw [hg, Int.toNat_natCast] at h1
          rw [hs] at h1
          unfold Addr.add at h1
          by_cases hj0 : j = 0
          · subst hj0
            simpa using h1
          · simpa [hj0] using h1
        have hb : ad.block < w.heap.size := World.block_lt_of_cell? w _ h0
        have := Try.strings_Join ad.block ad.off c0 l0 a1 w hcells hb c1 hc0 c2
        rw [← hs] at this
        exact this
    · rw [if_neg c2] at h; cases h
  · rw [if_neg c1] at h; cases h
end Go.Proofs.Ytfehdlkklfcnpaa.A
namespace Go.Proofs.Ytfehdlkklfcnpaa.A
open Go.RowKit Go.Proofs.YtfehdlkklfcnpaaW.PrintWords Go.Proofs.YtfehdlkklfcnpaaW.PrintLast Go.Proofs.YtfehdlkklfcnpaaW.PrintMore
attribute [local go_sem] max2_int min2_int max_two min_two max_three min_three max_four min_four
set_option maxHeartbeats 8000000 in
set_option maxRecDepth 100000 in
theorem print_join.calls (A0 : Option Addr) (c0 : Nat) (l0 : List ByteArray) (r : ByteArray) (w : World) (hr0 : Kd.C Kd.string w A0 l0.length l0) (hc0 : l0.length ≤ c0) (h : print_join.f l0 = some r) :
  Calls Try.prog 73 #[.slice A0 l0.length c0] w fun e w' => e = .returned (.string r) ∧ Below w.heap.size w w' := by
 have HR0 := A_ hr0; have HC0 := A_ hc0; clear hr0 hc0; have HB := A_ (Below.refl w.heap.size w); have H : ((strings_Join.f l0 (⟨#[]⟩ : ByteArray)).bind fun t189 => (some t189)) = some r := h; clear h; obtain ⟨t189, A2, H⟩ := bi_ H; obtain rfl := Option.some.inj H; go_enter Try.func73, Try.ntmps73; go_wp2_with (first | (refine gC 74 ?_; refine gL 4 Try.func74 #[.slice A0 l0.length c0, .string ⟨#[]⟩] ?_; (with_reducible refine (strings_Join.calls _ _ l0 (⟨#[]⟩ : ByteArray) t189 _ ?side1 ?side2 A2.out).mono ?_); (case side1 => exact cr_ HR0.out); (case side2 => exact HC0.out); rintro e w3 ⟨rfl, hb⟩; refine ⟨_, rfl, ?_⟩; replace HB := bs_ hb; (try clear hb))); go_ret; exact ⟨re_, hs_⟩
set_option maxHeartbeats 8000000 in
set_option maxRecDepth 100000 in
theorem print_mark.calls (a0 : Bool) (a1 r : ByteArray) (w : World) (h : print_mark.f a0 a1 = some r) :
  Calls Try.prog 75 #[.bool a0, .string a1] w fun e w' => e = .returned (.string r) ∧ Drawn0 w w' := by
 have H : (if a0 = true then (some a1) else (some (⟨#[]⟩ : ByteArray))) = some r := h; clear h
 by_cases c3 : a0 = true
 ·subst c3
  replace H := iP_ H; obtain rfl := Option.some.inj H; go_enter Try.func75, Try.ntmps75; go_wp2; go_ret; exact ⟨by first | rfl | (simp; done) | (simp [*]; done), by repeat (first | exact Drawn0.refl _ | apply Drawn0.step)⟩
 ·replace c3 := Bool.eq_false_iff.mpr c3
  subst c3; replace H := iN_ H; obtain rfl := Option.some.inj H; go_enter Try.func75, Try.ntmps75; go_wp2; go_ret; exact ⟨by first | rfl | (simp; done) | (simp [*]; done), by repeat (first | exact Drawn0.refl _ | apply Drawn0.step)⟩
end Go.Proofs.Ytfehdlkklfcnpaa.A
namespace Go.Proofs.Ytfehdlkklfcnpaa.A
open Go.RowKit Go.Proofs.YtfehdlkklfcnpaaW.PrintWords Go.Proofs.YtfehdlkklfcnpaaW.PrintLast Go.Proofs.YtfehdlkklfcnpaaW.PrintMore
attribute [local go_sem] max2_int min2_int max_two min_two max_three min_three max_four min_four
attribute [local go_sem] isSome_setCell
theorem info9_printtext : (Try.prog.info? 9).map (fun i => (i.zero, i.size, i.bytes)) = some (some (.string ⟨#[]⟩), 1, 16) := by kernel_rfl
def print_text.T3 : Bool × List (List Nat × List Nat) := (true, [([], []), ([0], [0]), ([1], [1]), ([2], [2]), ([3], [3]), ([], []), ([5], [5]), ([6], [6]), ([7], [7]), ([8, 4], [8]), ([4, 9], [4, 9]), ([10, 9], [10]), ([11, 11, 0, 1, 2, 3, 4, 5, 6, 7, 8, 9, 10, 11], [11])])
def print_text.B3 : List Nat := [0, 1, 3, 7, 15, 0, 32, 96, 224, 511, 1023, 2047, 4095]
theorem print_text.tab3 : rtab .any (opsOf Try.f58 3) = print_text.T3 := by kernel_rfl
theorem print_text.bits3 : waitsOk print_text.T3.2 print_text.B3 = true := by kernel_rfl
def print_text.T16 : Bool × List (List Nat × List Nat) := (true, [([], []), ([0], [0]), ([1], [1]), ([], []), ([3], [3]), ([4, 2], [4]), ([], []), ([6], [6]), ([7, 5], [7]), ([2, 5, 8], [2, 5, 8]), ([9, 8], [9]), ([10, 10, 0, 1, 2, 3, 4, 5, 6, 7, 8, 9, 10], [10])])
def print_text.B16 : List Nat := [0, 1, 3, 0, 8, 31, 0, 64, 255, 511, 1023, 2047]
theorem print_text.tab16 : rtab .any (opsOf Try.f58 16) = print_text.T16 := by kernel_rfl
theorem print_text.bits16 : waitsOk print_text.T16.2 print_text.B16 = true := by kernel_rfl
set_option maxHeartbeats 8000000 in
set_option maxRecDepth 100000 in
theorem print_text.calls (k : Nat) : ∀ (a0_0 a0_1 : Int) (a0_2 a0_3 a0_4 : ByteArray) (a0_5 a0_6 : Bool) (A0_7 : Option Addr) (c0_7 : Nat) (l0_7 : List (S26)) (r : ByteArray) (w : World) (hr0_7 : Kd.C k26 w A0_7 l0_7.length l0_7) (hc0_7 : l0_7.length ≤ c0_7) (h : print_text.f k a0_0 a0_1 a0_2 a0_3 a0_4 a0_5 a0_6 l0_7 = some r),
  Calls Try.prog 58 #[.agg #[.int .i64 a0_0, .int .i64 a0_1, .string a0_2, .string a0_3, .string a0_4, .bool a0_5, .bool a0_6, .slice A0_7 l0_7.length c0_7]] w fun e w' => e = .returned (.string r) ∧ Below w.heap.size w w' := by
 induction k using Nat.strongRecOn with
 | _ k ih =>
 intro a0_0 a0_1 a0_2 a0_3 a0_4 a0_5 a0_6 A0_7 c0_7 l0_7 r w hr0_7 hc0_7 h
 cases k with
 | zero => exact absurd h (by simp [print_text.f])
 | succ k =>
 simp only [print_text.f] at h; have hu26 := Try.underlying26; have hu23 := Try.underlying23; have HR0_7 := A_ hr0_7; have HC0_7 := A_ hc0_7; clear hr0_7 hc0_7; have HB := A_ (Below.refl w.heap.size w); have H : (if a0_0 = 1 then (if 0 < (l0_7.length : Int) then ((print_text.f k ((rd_T26 l0_7 0).f0) ((rd_T26 l0_7 0).f1.f0) ((rd_T26 l0_7 0).f1.f1) ((rd_T26 l0_7 0).f1.f2) ((rd_T26 l0_7 0).f1.f3) ((rd_T26 l0_7 0).f2) ((rd_T26 l0_7 0).f3) ((rd_T26 l0_7 0).f4)).bind fun t192 => (if 1 < (l0_7.length : Int) then ((print_text.f k ((rd_T26 l0_7 1).f0) ((rd_T26 l0_7 1).f1.f0) ((rd_T26 l0_7 1).f1.f1) ((rd_T26 l0_7 1).f1.f2) ((rd_T26 l0_7 1).f1.f3) ((rd_T26 l0_7 1).f2) ((rd_T26 l0_7 1).f3) ((rd_T26 l0_7 1).f4)).bind fun t194 => ((print_join.f (([t192, (⟨#[47]⟩ : ByteArray), t194] : List ByteArray))).bind fun t198 => (some t198))) else (none))) else (none)) else (if a0_0 = 2 then (print_text.l0 k ([] : List ByteArray) l0_7 (l0_7.length : Int) 0) else (if a0_0 = 3 then (some (⟨#[46, 46]⟩ : ByteArray)) else (if a0_0 = 4 then (some (⟨#[42]⟩ : ByteArray)) else ((point_Text.f k a0_1 a0_2 a0_3 a0_4).bind fun t210 => ((print_mark.f a0_5 (⟨#[63]⟩ : ByteArray)).bind fun t211 => ((print_mark.f a0_6 (⟨#[126]⟩ : ByteArray)).bind fun t212 => ((print_join.f (([t210, t211, t212] : List ByteArray))).bind fun t216 => (some t216))))))))) = some r := h; clear h
 by_cases c2 : a0_0 = 1
 ·rw [if_pos c2] at H
  have c2b0 : (a0_0 == 1) = true := beq_iff_eq.mpr c2; have c2b1 : (a0_0 != 1) = false := bne_eq_false_iff_eq.mpr c2; clear c2
  by_cases c3 : 0 < (l0_7.length : Int)
  ·rw [if_pos c3] at H
   have c3b0 := decide_eq_true c3; have c3b1 : decide (0 < l0_7.length) = true := decide_eq_true (by omega); clear c3; obtain ⟨t192, A4, H⟩ := bi_ H
   by_cases c5 : 1 < (l0_7.length : Int)
   ·rw [if_pos c5] at H
    have c5b0 := decide_eq_true c5; have c5b1 : decide (1 < l0_7.length) = true := decide_eq_true (by omega); clear c5; obtain ⟨t194, A6, H⟩ := bi_ H; obtain ⟨y195, hy195⟩ : ∃ y_ : List ByteArray, y_ = (([t192, (⟨#[47]⟩ : ByteArray), t194] : List ByteArray)) := ⟨_, rfl⟩; (replace H : ((print_join.f y195).bind fun t198 => (some t198)) = some r := hy_ hy195 H); have Ny195 := A_ hy195; clear hy195; obtain ⟨t198, A7, H⟩ := bi_ H; obtain rfl := Option.some.inj H; go_enter Try.func58, Try.ntmps58; (try go_wp2_with (first | (refine gx_ w 1 (n8_ a0_0 a0_1 a0_2 a0_3 a0_4 a0_5 a0_6 (.slice A0_7 l0_7.length c0_7)) 26 ?_; clear HB; intro gb190 w8 BK190 GE190 HB; have GW190 := GE190; have Z9 := bz8_ BK190))); replace BK190 := A_ (blk_drew BK190.out); replace HB := A_ (below_drew1 HB.out); have p191 : 0 ≤ (0 : Int) := (by omega); have q191 : 0 < (l0_7.length : Int) := od_; obtain ⟨ad191, A191_7, c191_7, e191, hx191_0, hx191_1, hx191_2, hx191_3, hx191_4, hx191_5, hx191_6, hx191_7, hl191_7, hi191_7⟩ := at_T26 HR0_7.out 0 p191 q191; have hw191_7 := ai_ hx191_7; have hw191_6 := ai_ hx191_6; have hw191_5 := ai_ hx191_5; have hw191_4 := ai_ hx191_4
    have hw191_3 := ai_ hx191_3; have hw191_2 := ai_ hx191_2; have hw191_1 := ai_ hx191_1; have hw191_0 := ai_ hx191_0
    cases e191
    have qi191 : (0 < l0_7.length) = True := eq_true (by omega); replace hx191_0 := ai_ hx191_0; replace hx191_1 := ai_ hx191_1; replace hx191_2 := ai_ hx191_2; replace hx191_3 := ai_ hx191_3; replace hx191_4 := ai_ hx191_4; replace hx191_5 := ai_ hx191_5; replace hx191_6 := ai_ hx191_6; replace hx191_7 := ai_ hx191_7; replace hx191_0 := cl_ HB hx191_0; replace hx191_1 := cl_ HB hx191_1; replace hx191_2 := cl_ HB hx191_2; replace hx191_3 := cl_ HB hx191_3; replace hx191_4 := cl_ HB hx191_4; replace hx191_5 := cl_ HB hx191_5; replace hx191_6 := cl_ HB hx191_6; replace hx191_7 := cl_ HB hx191_7; have HR191_7 := A_ hi191_7; have HC191_7 := A_ hl191_7; clear hi191_7 hl191_7; replace p191 := eq_true p191; replace q191 := eq_true q191; have p193 : 0 ≤ (1 : Int) := (by omega); have q193 : 1 < (l0_7.length : Int) := od_; obtain ⟨ad193, A193_7, c193_7, e193, hx193_0, hx193_1, hx193_2, hx193_3, hx193_4, hx193_5, hx193_6, hx193_7, hl193_7, hi193_7⟩ := at_T26 HR0_7.out 1 p193 q193; have hw193_7 := aj_ hx193_7; have hw193_6 := aj_ hx193_6; have hw193_5 := aj_ hx193_5; have hw193_4 := aj_ hx193_4; have hw193_3 := aj_ hx193_3; have hw193_2 := aj_ hx193_2; have hw193_1 := aj_ hx193_1; have hw193_0 := aj_ hx193_0
    obtain rfl : ad191 = ad193 := (by injection e193); replace hx193_0 := aj_ hx193_0; replace hx193_1 := aj_ hx193_1; replace hx193_2 := aj_ hx193_2; replace hx193_3 := aj_ hx193_3; replace hx193_4 := aj_ hx193_4; replace hx193_5 := aj_ hx193_5; replace hx193_6 := aj_ hx193_6; replace hx193_7 := aj_ hx193_7; have qi193 : (1 < l0_7.length) = True := eq_true (by omega); (try rw [show ((1 : Int)).toNat = 1 from rfl] at hx193_0); (try rw [show 1 * 8 = 8 from rfl] at hx193_0); (try rw [show ((1 : Int)).toNat = 1 from rfl] at hx193_1); (try rw [show 1 * 8 = 8 from rfl] at hx193_1); (try rw [show ((1 : Int)).toNat = 1 from rfl] at hx193_2); (try rw [show 1 * 8 = 8 from rfl] at hx193_2); (try rw [show ((1 : Int)).toNat = 1 from rfl] at hx193_3); (try rw [show 1 * 8 = 8 from rfl] at hx193_3); (try rw [show ((1 : Int)).toNat = 1 from rfl] at hx193_4); (try rw [show 1 * 8 = 8 from rfl] at hx193_4); (try rw [show ((1 : Int)).toNat = 1 from rfl] at hx193_5); (try rw [show 1 * 8 = 8 from rfl] at hx193_5); (try rw [show ((1 : Int)).toNat = 1 from rfl] at hx193_6); (try rw [show 1 * 8 = 8 from rfl] at hx193_6); (try rw [show ((1 : Int)).toNat = 1 from rfl] at hx193_7); (try rw [show 1 * 8 = 8 from rfl] at hx193_7); replace hx193_0 := cl_ HB hx193_0; replace hx193_1 := cl_ HB hx193_1; replace hx193_2 := cl_ HB hx193_2; replace hx193_3 := cl_ HB hx193_3; replace hx193_4 := cl_ HB hx193_4; replace hx193_5 := cl_ HB hx193_5; replace hx193_6 := cl_ HB hx193_6; replace hx193_7 := cl_ HB hx193_7; have HR193_7 := A_ hi193_7; have HC193_7 := A_ hl193_7; clear hi193_7 hl193_7; replace p193 := eq_true p193; replace q193 := eq_true q193; refine start_ (n := 13) (S := fun w' => K8 w' gb190 (.int .i64 a0_0) (.int .i64 a0_1) (.string a0_2) (.string a0_3) (.string a0_4) (.bool a0_5) (.bool a0_6) (.slice (some ad191) l0_7.length c0_7) (w'.cell? ad191 = some (.int .i64 ((rd_T26 l0_7 0).f0)) ∧ w'.cell? ⟨ad191.block, ad191.off + 1, none⟩ = some (.int .i64 ((rd_T26 l0_7 0).f1.f0)) ∧ w'.cell? ⟨ad191.block, ad191.off + 2, none⟩ = some (.string ((rd_T26 l0_7 0).f1.f1)) ∧ w'.cell? ⟨ad191.block, ad191.off + 3, none⟩ = some (.string ((rd_T26 l0_7 0).f1.f2)) ∧ w'.cell? ⟨ad191.block, ad191.off + 4, none⟩ = some (.string ((rd_T26 l0_7 0).f1.f3)) ∧ w'.cell? ⟨ad191.block, ad191.off + 5, none⟩ = some (.bool ((rd_T26 l0_7 0).f2)) ∧ w'.cell? ⟨ad191.block, ad191.off + 6, none⟩ = some (.bool ((rd_T26 l0_7 0).f3)) ∧ w'.cell? ⟨ad191.block, ad191.off + 7, none⟩ = some (.slice A191_7 ((rd_T26 l0_7 0).f4).length c191_7) ∧ w'.cell? ⟨ad191.block, ad191.off + 8, none⟩ = some (.int .i64 ((rd_T26 l0_7 1).f0)) ∧ w'.cell? ⟨ad191.block, ad191.off + 8 + 1, none⟩ = some (.int .i64 ((rd_T26 l0_7 1).f1.f0)) ∧ w'.cell? ⟨ad191.block, ad191.off + 8 + 2, none⟩ = some (.string ((rd_T26 l0_7 1).f1.f1)) ∧ w'.cell? ⟨ad191.block, ad191.off + 8 + 3, none⟩ = some (.string ((rd_T26 l0_7 1).f1.f2)) ∧ w'.cell? ⟨ad191.block, ad191.off + 8 + 4, none⟩ = some (.string ((rd_T26 l0_7 1).f1.f3)) ∧ w'.cell? ⟨ad191.block, ad191.off + 8 + 5, none⟩ = some (.bool ((rd_T26 l0_7 1).f2)) ∧ w'.cell? ⟨ad191.block, ad191.off + 8 + 6, none⟩ = some (.bool ((rd_T26 l0_7 1).f3)) ∧ w'.cell? ⟨ad191.block, ad191.off + 8 + 7, none⟩ = some (.slice A193_7 ((rd_T26 l0_7 1).f4).length c193_7))) (ds := []) (ab 13 0) (by kernel_rfl) rfl rfl (kq8_ BK190 (⟨(cl_ HB hw191_0), (cl_ HB hw191_1), (cl_ HB hw191_2), (cl_ HB hw191_3), (cl_ HB hw191_4), (cl_ HB hw191_5), (cl_ HB hw191_6), (cl_ HB hw191_7), (cl_ HB hw193_0), (cl_ HB hw193_1), (cl_ HB hw193_2), (cl_ HB hw193_3), (cl_ HB hw193_4), (cl_ HB hw193_5), (cl_ HB hw193_6), (cl_ HB hw193_7)⟩)) (fun hHeld => ?_); refine with_tabW print_text.tab3 print_text.bits3 (fun HT_ HW_ => ?_)
    generalize w8.drew = w10 at BK190 HB HR191_7 HR193_7 hx191_0 hx191_1 hx191_2 hx191_3 hx191_4 hx191_5 hx191_6 hx191_7 hx193_0 hx193_1 hx193_2 hx193_3 hx193_4 hx193_5 hx193_6 hx193_7 hHeld ⊢; refine pA 0 10 13 1 ?_; refine pA 5 15 13 33 ?_; refine tB 1 11 13 35 ?_; refine pA 2 12 13 39 ?_; refine tB 3 13 13 47 ?_; refine tB 6 16 13 111 ?_; refine pA 7 17 13 239 ?_; refine tB 8 18 13 495 ?_; refine oA 4 (some 14) 13 511 fun K hK => ?_; refine gS Try.func58 #[.agg #[.int .i64 ((rd_T26 l0_7 0).f0), .int .i64 ((rd_T26 l0_7 0).f1.f0), .string ((rd_T26 l0_7 0).f1.f1), .string ((rd_T26 l0_7 0).f1.f2), .string ((rd_T26 l0_7 0).f1.f3), .bool ((rd_T26 l0_7 0).f2), .bool ((rd_T26 l0_7 0).f3), .slice A191_7 ((rd_T26 l0_7 0).f4).length c191_7]] ?_; (with_reducible refine (ih k (by omega) ((rd_T26 l0_7 0).f0) ((rd_T26 l0_7 0).f1.f0) ((rd_T26 l0_7 0).f1.f1) ((rd_T26 l0_7 0).f1.f2) ((rd_T26 l0_7 0).f1.f3) ((rd_T26 l0_7 0).f2) ((rd_T26 l0_7 0).f3) _ _ ((rd_T26 l0_7 0).f4) t192 _ ?side1 ?side2 A4.out).mono ?_)
    (case side1 => exact cb_ HR191_7)
    (case side2 => exact HC191_7.out)
    rintro e w11 ⟨rfl, hb⟩; refine ⟨_, rfl, ?_⟩; replace BK190 := bb_ BK190 hb; replace HB := bs_ hb; (try clear hb); refine hK.out _ _ (kq8_ BK190 (⟨(cl_ HB hw191_0), (cl_ HB hw191_1), (cl_ HB hw191_2), (cl_ HB hw191_3), (cl_ HB hw191_4), (cl_ HB hw191_5), (cl_ HB hw191_6), (cl_ HB hw191_7), (cl_ HB hw193_0), (cl_ HB hw193_1), (cl_ HB hw193_2), (cl_ HB hw193_3), (cl_ HB hw193_4), (cl_ HB hw193_5), (cl_ HB hw193_6), (cl_ HB hw193_7)⟩)) (fun hHeld => ?_); clear hK K; refine nA ?_; refine oA 9 (some 19) 13 1023 fun K hK => ?_; refine gS Try.func58 #[.agg #[.int .i64 ((rd_T26 l0_7 1).f0), .int .i64 ((rd_T26 l0_7 1).f1.f0), .string ((rd_T26 l0_7 1).f1.f1), .string ((rd_T26 l0_7 1).f1.f2), .string ((rd_T26 l0_7 1).f1.f3), .bool ((rd_T26 l0_7 1).f2), .bool ((rd_T26 l0_7 1).f3), .slice A193_7 ((rd_T26 l0_7 1).f4).length c193_7]] ?_; (with_reducible refine (ih k (by omega) ((rd_T26 l0_7 1).f0) ((rd_T26 l0_7 1).f1.f0) ((rd_T26 l0_7 1).f1.f1) ((rd_T26 l0_7 1).f1.f2) ((rd_T26 l0_7 1).f1.f3) ((rd_T26 l0_7 1).f2) ((rd_T26 l0_7 1).f3) _ _ ((rd_T26 l0_7 1).f4) t194 _ ?side1 ?side2 A6.out).mono ?_)
    (case side1 => exact cb_ HR193_7)
    (case side2 => exact HC193_7.out)
    rintro e w12 ⟨rfl, hb⟩; refine ⟨_, rfl, ?_⟩; replace BK190 := bb_ BK190 hb; replace HB := bs_ hb; (try clear hb); refine hK.out _ _ (kq8_ BK190 (⟨(cl_ HB hw191_0), (cl_ HB hw191_1), (cl_ HB hw191_2), (cl_ HB hw191_3), (cl_ HB hw191_4), (cl_ HB hw191_5), (cl_ HB hw191_6), (cl_ HB hw191_7), (cl_ HB hw193_0), (cl_ HB hw193_1), (cl_ HB hw193_2), (cl_ HB hw193_3), (cl_ HB hw193_4), (cl_ HB hw193_5), (cl_ HB hw193_6), (cl_ HB hw193_7)⟩)) (fun hHeld => ?_); clear hK K; refine nA ?_; refine oA 10 (some 20) 13 2047 fun K hK => ?_; refine Kd.R_lit_step Kd.string _ 9 ?hg (N := 20) ?hd (xs := ([t192, (⟨#[47]⟩ : ByteArray), t194] : List ByteArray)) (inner := [.string t192, .string ⟨#[47]⟩, .string t194]) (ok := fun _ => True) (okp := fun _ => True) ?hr ?hp (fun _ hk => hk) trivial (Below.refl _ _) (Nat.le_refl _) (by simp) ?_; (case hd => rfl); (case hg => rfl); (case hr => first | (go_simp; done) | (go_simp; rfl)); (case hp => exact (Reps.one (show Kd.M Kd.string _ _ _ t192 [.string t192] from rfl) (Reps.one (show Kd.M Kd.string _ _ _ (⟨#[47]⟩ : ByteArray) [.string ⟨#[47]⟩] from rfl) (Reps.one (show Kd.M Kd.string _ _ _ t194 [.string t194] from rfl) (Reps.none _ _))))); intro v196 w13 ho14 hb hg_ hnew_; clear hg_ hnew_; (first | rw [← Ny195.out] at ho14 | (simp only [Int.reduceToNat] at ho14; rw [← Ny195.out] at ho14)); have HO197 := A_ (Kd.R_lower ho14 (below_size hs_)); replace BK190 := bb_ BK190 hb; replace HB := bs_ hb; clear hb ho14; obtain ⟨Ao15, co15, eo15⟩ := Kd.R_slice HO197.out; (first | subst eo15 | (injection eo15 with f1_ f2_ f3_; have f4_ := f1_.symm; have f5_ := f3_.symm; clear f1_ f2_ f3_; subst f4_; subst f5_))
    refine hK.out _ _ (kq8_ BK190 (⟨(cl_ HB hw191_0), (cl_ HB hw191_1), (cl_ HB hw191_2), (cl_ HB hw191_3), (cl_ HB hw191_4), (cl_ HB hw191_5), (cl_ HB hw191_6), (cl_ HB hw191_7), (cl_ HB hw193_0), (cl_ HB hw193_1), (cl_ HB hw193_2), (cl_ HB hw193_3), (cl_ HB hw193_4), (cl_ HB hw193_5), (cl_ HB hw193_6), (cl_ HB hw193_7)⟩)) (fun hHeld => ?_); clear hK K; refine nA ?_; refine oA 11 (some 21) 13 4095 fun K hK => ?_; refine gS Try.func73 #[.slice Ao15 y195.length co15] ?_; (with_reducible refine (print_join.calls _ _ y195 t198 _ ?side1 ?side2 A7.out).mono ?_)
    (case side1 => exact cr_ (Kd.R_reads' HO197.out).2.2)
    (case side2 => exact (Kd.R_reads' HO197.out).2.1)
    rintro e w16 ⟨rfl, hb⟩; refine ⟨_, rfl, ?_⟩; replace HO197 := A_ (Kd.R_below (hrR_ HO197.out) hb); replace BK190 := bb_ BK190 hb; replace HB := bs_ hb; (try clear hb); refine hK.out _ _ (kq8_ BK190 (⟨(cl_ HB hw191_0), (cl_ HB hw191_1), (cl_ HB hw191_2), (cl_ HB hw191_3), (cl_ HB hw191_4), (cl_ HB hw191_5), (cl_ HB hw191_6), (cl_ HB hw191_7), (cl_ HB hw193_0), (cl_ HB hw193_1), (cl_ HB hw193_2), (cl_ HB hw193_3), (cl_ HB hw193_4), (cl_ HB hw193_5), (cl_ HB hw193_6), (cl_ HB hw193_7)⟩)) (fun hHeld => ?_); clear hK K; refine nA ?_; refine pA 12 2 13 8191 ?_; refine done_ (done_of HT_.out (by kernel_rfl)) ?_; (try go_wp2); go_ret; exact ⟨re_, hs_⟩
   ·rw [if_neg c5] at H
    exact absurd H (by simp)
  ·rw [if_neg c3] at H
   exact absurd H (by simp)
 ·rw [if_neg c2] at H
  have c2b0 : (a0_0 == 1) = false := beq_eq_false_iff_ne.mpr c2; have c2b1 : (a0_0 != 1) = true := bne_iff_ne.mpr c2
  by_cases c17 : a0_0 = 2
  ·rw [if_pos c17] at H
   have c17b0 : (a0_0 == 2) = true := beq_iff_eq.mpr c17; have c17b1 : (a0_0 != 2) = false := bne_eq_false_iff_eq.mpr c17; clear c17; have H' := A_ H; clear H; go_enter Try.func58, Try.ntmps58; go_wp2_with (first | (refine gx_ w 1 (n8_ a0_0 a0_1 a0_2 a0_3 a0_4 a0_5 a0_6 (.slice A0_7 l0_7.length c0_7)) 26 ?_; clear HB; intro gb190 w18 BK190 GE190 HB; have GW190 := GE190; have Z19 := bz8_ BK190)); go_loopg [3, 27] k (fun kq v3 v27 w' => ∃ (x3_1 : List ByteArray) (x27_1 : Int), v27 = .int .i64 x27_1 ∧ Aside0 (print_text.l0 kq x3_1 l0_7 (l0_7.length : Int) x27_1 = some r) ∧ Aside0 (kq ≤ k) ∧ Aside0 (Kd.R Kd.string 9 w' w.heap.size (fun _ => True) v3 x3_1) ∧ Aside0 (w'.heap[gb190]? = some (.cells #[.int .i64 a0_0, .int .i64 a0_1, .string a0_2, .string a0_3, .string a0_4, .bool a0_5, .bool a0_6, (.slice A0_7 l0_7.length c0_7)] 26 (0, 0))) ∧ Aside0 (Below w.heap.size w w'))
   case atStart => exact ⟨(([] : List ByteArray)), (0), rf_, H', ⟨Nat.le_refl _⟩, ⟨by first | exact Kd.R_nil _ _ _ _ _ | exact Kd.N_nil _ _ _ _ _ | exact Kd.V_nil _ _ _ _ _ | exact Kd.Q_nil _ _ _ _ _ | exact Kd.S_nil _ _ _ _ _⟩, ⟨bl_ BK190.out⟩, ⟨hs_⟩⟩
   case round =>
    clear H'; (try clear c1); (try clear p1); (try clear q1); (try clear hx1); (try clear qi1); (try clear c2); (try clear c2b0); (try clear c2b1); (try clear p2); (try clear c3); (try clear c3b0); (try clear c3b1); (try clear c5); (try clear c5b0); (try clear c5b1); (try clear c7); (try clear c17); (try clear c17b0); (try clear c17b1); (try clear c19); (try clear p19); (try clear q19); (try clear hx19); (try clear qi19); (try clear Z19); (try clear Z9); (try clear hx191_0); (try clear hx191_1); (try clear hx191_2); (try clear hx191_3); (try clear hx191_4); (try clear hx191_5); (try clear hx191_6); (try clear hx191_7); (try clear hx193_0); (try clear hx193_1); (try clear hx193_2); (try clear hx193_3); (try clear hx193_4); (try clear hx193_5); (try clear hx193_6); (try clear hx193_7); (try clear p191); (try clear p193); (try clear q191); (try clear q193); obtain ⟨x3_1, x27_1, rfl, HA, HK1, HO_3, BK190, HB⟩ := hrel
    cases gk with
    | zero => exact absurd HA.out (by simp [print_text.l0])
    | succ k1 =>
     have H := HA.out; clear HA; simp only [print_text.l0] at H
     by_cases c20 : x27_1 < (l0_7.length : Int)
     ·rw [if_pos c20] at H
      have c20b0 := decide_eq_true c20; clear c20
      by_cases c21 : 0 ≤ x27_1
      ·rw [if_pos c21] at H
       have c21b0 := decide_eq_true c21; clear c21
       by_cases c22 : x27_1 < (l0_7.length : Int)
       ·rw [if_pos c22] at H
        have c22b0 := decide_eq_true c22; clear c22; obtain ⟨t201, A23, H⟩ := bi_ H
        by_cases c24 : x3_1.length < 8796093022208
        ·rw [if_pos c24] at H
         have LMc24 := A_ c24; clear c24; obtain ⟨y202, hy202⟩ : ∃ y_ : List ByteArray, y_ = (x3_1 ++ [t201]) := ⟨_, rfl⟩; (replace H : (print_text.l0 k1 y202 l0_7 (l0_7.length : Int) (wrap64 (x27_1 + 1))) = some r := hy_ hy202 H); have Ny202 := A_ hy202; clear hy202; have H' := A_ H; clear H; have p199 : 0 ≤ (x27_1 : Int) := od_; have q199 : x27_1 < (l0_7.length : Int) := od_; obtain ⟨ad199, A199_7, c199_7, e199, hx199_0, hx199_1, hx199_2, hx199_3, hx199_4, hx199_5, hx199_6, hx199_7, hl199_7, hi199_7⟩ := at_T26 HR0_7.out x27_1 p199 q199
         cases e199
         replace hx199_0 := cl_ HB hx199_0; replace hx199_1 := cl_ HB hx199_1; replace hx199_2 := cl_ HB hx199_2; replace hx199_3 := cl_ HB hx199_3; replace hx199_4 := cl_ HB hx199_4; replace hx199_5 := cl_ HB hx199_5; replace hx199_6 := cl_ HB hx199_6; replace hx199_7 := cl_ HB hx199_7; have HR199_7 := A_ hi199_7; have HC199_7 := A_ hl199_7; clear hi199_7 hl199_7; replace p199 := eq_true p199; replace q199 := eq_true q199; go_wp2_with (first | (refine gD 5 ?_; refine bxe_ 5 z8_ 26 ?_; intro gb200 hg w25 hbox hb; replace HO_3 := A_ (Kd.R_below (hrR_ HO_3.out) hb); have BK200 := A_ (hbox); have GW200 := gs_ w hg; have GE200 := gs_ w hg; replace HB := bs_ hb; have NB190_200 := nl_ BK190 hg; have NB200_190 := ng_ BK190 hg; replace BK190 := bb_ BK190 hb; clear hb hbox hg; have hnb26 := NB200_190.out; have hnc26 := NB190_200.out; have Z27 := bz8_ BK200) | (refine gC 58 ?_; refine gL 33 Try.func58 #[.agg #[.int .i64 ((rd_T26 l0_7 x27_1).f0), .int .i64 ((rd_T26 l0_7 x27_1).f1.f0), .string ((rd_T26 l0_7 x27_1).f1.f1), .string ((rd_T26 l0_7 x27_1).f1.f2), .string ((rd_T26 l0_7 x27_1).f1.f3), .bool ((rd_T26 l0_7 x27_1).f2), .bool ((rd_T26 l0_7 x27_1).f3), .slice A199_7 ((rd_T26 l0_7 x27_1).f4).length c199_7]] ?_; (with_reducible refine (ih k1 (by have := HK1.out; omega) ((rd_T26 l0_7 x27_1).f0) ((rd_T26 l0_7 x27_1).f1.f0) ((rd_T26 l0_7 x27_1).f1.f1) ((rd_T26 l0_7 x27_1).f1.f2) ((rd_T26 l0_7 x27_1).f1.f3) ((rd_T26 l0_7 x27_1).f2) ((rd_T26 l0_7 x27_1).f3) _ _ ((rd_T26 l0_7 x27_1).f4) t201 _ ?side1 ?side2 A23.out).mono ?_); (case side1 => exact Kd.C_below HR199_7.out hs_); (case side2 => exact HC199_7.out); rintro e w28 ⟨rfl, hb⟩; refine ⟨_, rfl, ?_⟩; replace HO_3 := A_ (Kd.R_below (by (with_reducible repeat (first | apply Kd.R_alloc | apply Kd.R_drewN | apply Kd.R_drew)); exact (Kd.R_mono (Kd.R_far (p := ⟨gb200, 7, none⟩) (Kd.R_far (p := ⟨gb200, 6, none⟩) (Kd.R_far (p := ⟨gb200, 5, none⟩) (Kd.R_far (p := ⟨gb200, 4, none⟩) (Kd.R_far (p := ⟨gb200, 3, none⟩) (Kd.R_far (p := ⟨gb200, 2, none⟩) (Kd.R_far (p := ⟨gb200, 1, none⟩) (Kd.R_far (p := ⟨gb200, 0, none⟩) (Kd.R_types HO_3.out BK200.out (by decide)) (fun _ hk => hk.2) (.int .i64 ((rd_T26 l0_7 x27_1).f0))) (fun _ hk => hk.2) (.int .i64 ((rd_T26 l0_7 x27_1).f1.f0))) (fun _ hk => hk.2) (.string ((rd_T26 l0_7 x27_1).f1.f1))) (fun _ hk => hk.2) (.string ((rd_T26 l0_7 x27_1).f1.f2))) (fun _ hk => hk.2) (.string ((rd_T26 l0_7 x27_1).f1.f3))) (fun _ hk => hk.2) (.bool ((rd_T26 l0_7 x27_1).f2))) (fun _ hk => hk.2) (.bool ((rd_T26 l0_7 x27_1).f3))) (fun _ hk => hk.2) (.slice A199_7 ((rd_T26 l0_7 x27_1).f4).length c199_7)) (fun _ h_ => h_.1))) hb); replace BK190 := A_ (blk_below (g := gb190) (o := .cells (n8_ a0_0 a0_1 a0_2 a0_3 a0_4 a0_5 a0_6 (.slice (some ad199) l0_7.length c0_7)) 26 (0, 0)) (pf_ NB190_200 BK190) hb); replace BK200 := bp_ BK200 (.cells #[.int .i64 ((rd_T26 l0_7 x27_1).f0), .int .i64 ((rd_T26 l0_7 x27_1).f1.f0), .string ((rd_T26 l0_7 x27_1).f1.f1), .string ((rd_T26 l0_7 x27_1).f1.f2), .string ((rd_T26 l0_7 x27_1).f1.f3), .bool ((rd_T26 l0_7 x27_1).f2), .bool ((rd_T26 l0_7 x27_1).f3), .slice A199_7 ((rd_T26 l0_7 x27_1).f4).length c199_7] 26 (0, 0)) hb; replace HB := bs_ hb; (try clear hb); (try clear hk)) | ((with_reducible refine gate_builtin (b := .append) (xs := #[.tmp 31, .tmp 34]) rfl ?_); at_builtin; refine Kd.R_append Kd.string (w0 := w) w.heap.size rfl (.tmp 31) (.tmp 34) 69 9 (.string ⟨#[]⟩) 16 rfl Try.underlying69 info9_printtext rfl (by decide) (by omega) u3 x3_1 t201 [.string t201] (fun _ => True) (fun _ => False) rfl rfl ?aP (fun _ hk => hk.elim) ?aF ?aO ?aB ?aS ?aL ?_; (case aP => exact rfl); (case aB => exact hs_); (case aF => exact (fun _ _ => trivial)); (case aO => exact (hrR_ HO_3.out)); (case aS => exact (below_size hs_)); (case aL => have := LMc24.out; omega); intro v203 w29 ho hb hg hat; rw [← Ny202.out] at ho; replace BK190 := A_ (blk_grown (g := gb190) (o := .cells (n8_ a0_0 a0_1 a0_2 a0_3 a0_4 a0_5 a0_6 (.slice (some ad199) l0_7.length c0_7)) 26 (0, 0)) (bl_ BK190.out) hg (Kd.R_ne HO_3.out BK190.out (by decide))); replace BK200 := A_ (blk_grown (g := gb200) (o := .cells #[.int .i64 ((rd_T26 l0_7 x27_1).f0), .int .i64 ((rd_T26 l0_7 x27_1).f1.f0), .string ((rd_T26 l0_7 x27_1).f1.f1), .string ((rd_T26 l0_7 x27_1).f1.f2), .string ((rd_T26 l0_7 x27_1).f1.f3), .bool ((rd_T26 l0_7 x27_1).f2), .bool ((rd_T26 l0_7 x27_1).f3), .slice A199_7 ((rd_T26 l0_7 x27_1).f4).length c199_7] 26 (0, 0)) (bl_ BK200.out) hg (Kd.R_ne HO_3.out BK200.out (by decide))); replace HB := A_ (hb); have HO204 := A_ (ho); clear HO_3; clear ho hb hg hat))
         go_roundg k1
         case measure => have := HK1.out; omega
         case rel => exact ⟨(y202), (wrap64 (x27_1 + 1)), rf_, H', ⟨by have := HK1.out; omega⟩, ⟨fxR_ HO204.out⟩, ⟨bl_ BK190.out⟩, ⟨hs_⟩⟩
        ·rw [if_neg c24] at H
         exact absurd H (by simp)
       ·rw [if_neg c22] at H
        exact absurd H (by simp)
      ·rw [if_neg c21] at H
       exact absurd H (by simp)
     ·rw [if_neg c20] at H
      have c20b0 := decide_eq_false c20; have c20b9 := c20b0; (try simp only [hl191_7] at c20b9); (try simp only [hl193_7] at c20b9); (try simp only [hl199_7] at c20b9); clear c20; obtain ⟨t205, A30, H⟩ := bi_ H; obtain ⟨y206, hy206⟩ : ∃ y_ : List ByteArray, y_ = (([(⟨#[91]⟩ : ByteArray), t205, (⟨#[93]⟩ : ByteArray)] : List ByteArray)) := ⟨_, rfl⟩; (replace H : ((print_join.f y206).bind fun t209 => (some t209)) = some r := hy_ hy206 H); have Ny206 := A_ hy206; clear hy206; obtain ⟨t209, A31, H⟩ := bi_ H; obtain rfl := Option.some.inj H; obtain ⟨Ao32, co32, eo32⟩ := Kd.R_slice HO_3.out; subst eo32; go_wp2_with (first | (refine gC 74 ?_; refine gL 38 Try.func74 #[.slice Ao32 x3_1.length co32, .string ⟨#[44, 32]⟩] ?_; (with_reducible refine (strings_Join.calls _ _ x3_1 (⟨#[44, 32]⟩ : ByteArray) t205 _ ?side1 ?side2 A30.out).mono ?_); (case side1 => exact cr_ (Kd.R_reads' HO_3.out).2.2); (case side2 => exact (Kd.R_reads' HO_3.out).2.1); rintro e w33 ⟨rfl, hb⟩; refine ⟨_, rfl, ?_⟩; replace HO_3 := A_ (Kd.R_below (hrR_ HO_3.out) hb); replace BK190 := bb_ BK190 hb; replace HB := bs_ hb; (try clear hb)) | (refine gD 39 ?_; refine Kd.R_lit Kd.string _ 9 ?hg (N := 39) ?hd (xs := ([(⟨#[91]⟩ : ByteArray), t205, (⟨#[93]⟩ : ByteArray)] : List ByteArray)) (inner := [.string ⟨#[91]⟩, .string t205, .string ⟨#[93]⟩]) (ok := fun _ => True) (okp := fun _ => True) ?hr ?hp (fun _ hk => hk) trivial (Below.refl _ _) (Nat.le_refl _) (by simp) ?_; (case hd => rfl); (case hg => rfl); (case hr => first | (go_simp; done) | (go_simp; rfl)); (case hp => exact (Reps.one (show Kd.M Kd.string _ _ _ (⟨#[91]⟩ : ByteArray) [.string ⟨#[91]⟩] from rfl) (Reps.one (show Kd.M Kd.string _ _ _ t205 [.string t205] from rfl) (Reps.one (show Kd.M Kd.string _ _ _ (⟨#[93]⟩ : ByteArray) [.string ⟨#[93]⟩] from rfl) (Reps.none _ _))))); intro v207 w34 ho35 hb hg_ hnew_; clear hg_ hnew_; (first | rw [← Ny206.out] at ho35 | (simp only [Int.reduceToNat] at ho35; rw [← Ny206.out] at ho35)); have HO208 := A_ (Kd.R_lower (Kd.R_new' ho35 (Kd.R_lt (hrR_ HO_3.out))) (below_size hs_)); replace HO_3 := A_ (Kd.R_elder' (hrR_ HO_3.out) (Kd.R_base ho35) hb); replace BK190 := bb_ BK190 hb; replace HB := bs_ hb; clear hb ho35; obtain ⟨Ao36, co36, eo36⟩ := Kd.R_slice HO208.out; subst eo36) | (refine gC 73 ?_; refine gL 40 Try.func73 #[.slice Ao36 y206.length co36] ?_; (with_reducible refine (print_join.calls _ _ y206 t209 _ ?side1 ?side2 A31.out).mono ?_); (case side1 => exact cr_ (Kd.R_reads' HO208.out).2.2); (case side2 => exact (Kd.R_reads' HO208.out).2.1); rintro e w37 ⟨rfl, hb⟩; refine ⟨_, rfl, ?_⟩; replace HO_3 := A_ (Kd.R_below (hrR_ HO_3.out) hb); replace HO208 := A_ (Kd.R_below (hrR_ HO208.out) hb); replace BK190 := bb_ BK190 hb; replace HB := bs_ hb; (try clear hb)))
      go_ret; exact ⟨re_, hs_⟩
  ·rw [if_neg c17] at H
   have c17b0 : (a0_0 == 2) = false := beq_eq_false_iff_ne.mpr c17; have c17b1 : (a0_0 != 2) = true := bne_iff_ne.mpr c17
   by_cases c38 : a0_0 = 3
   ·rw [if_pos c38] at H
    have c38b0 : (a0_0 == 3) = true := beq_iff_eq.mpr c38; have c38b1 : (a0_0 != 3) = false := bne_eq_false_iff_eq.mpr c38; clear c38; obtain rfl := Option.some.inj H; go_enter Try.func58, Try.ntmps58; go_wp2_with (first | (refine gx_ w 1 (n8_ a0_0 a0_1 a0_2 a0_3 a0_4 a0_5 a0_6 (.slice A0_7 l0_7.length c0_7)) 26 ?_; clear HB; intro gb190 w39 BK190 GE190 HB; have GW190 := GE190; have Z40 := bz8_ BK190)); go_ret; exact ⟨re_, hs_⟩
   ·rw [if_neg c38] at H
    have c38b0 : (a0_0 == 3) = false := beq_eq_false_iff_ne.mpr c38; have c38b1 : (a0_0 != 3) = true := bne_iff_ne.mpr c38
    by_cases c41 : a0_0 = 4
    ·rw [if_pos c41] at H
     have c41b0 : (a0_0 == 4) = true := beq_iff_eq.mpr c41; have c41b1 : (a0_0 != 4) = false := bne_eq_false_iff_eq.mpr c41; clear c41; obtain rfl := Option.some.inj H; go_enter Try.func58, Try.ntmps58; go_wp2_with (first | (refine gx_ w 1 (n8_ a0_0 a0_1 a0_2 a0_3 a0_4 a0_5 a0_6 (.slice A0_7 l0_7.length c0_7)) 26 ?_; clear HB; intro gb190 w42 BK190 GE190 HB; have GW190 := GE190; have Z43 := bz8_ BK190)); go_ret; exact ⟨re_, hs_⟩
    ·rw [if_neg c41] at H
     have c41b0 : (a0_0 == 4) = false := beq_eq_false_iff_ne.mpr c41; have c41b1 : (a0_0 != 4) = true := bne_iff_ne.mpr c41; obtain ⟨t210, A44, H⟩ := bi_ H; obtain ⟨t211, A45, H⟩ := bi_ H; obtain ⟨t212, A46, H⟩ := bi_ H; obtain ⟨y213, hy213⟩ : ∃ y_ : List ByteArray, y_ = (([t210, t211, t212] : List ByteArray)) := ⟨_, rfl⟩; (replace H : ((print_join.f y213).bind fun t216 => (some t216)) = some r := hy_ hy213 H); have Ny213 := A_ hy213; clear hy213; obtain ⟨t216, A47, H⟩ := bi_ H; obtain rfl := Option.some.inj H; go_enter Try.func58, Try.ntmps58; (try go_wp2_with (first | (refine gx_ w 1 (n8_ a0_0 a0_1 a0_2 a0_3 a0_4 a0_5 a0_6 (.slice A0_7 l0_7.length c0_7)) 26 ?_; clear HB; intro gb190 w48 BK190 GE190 HB; have GW190 := GE190; have Z49 := bz8_ BK190))); replace BK190 := A_ (blk_drew BK190.out); replace HB := A_ (below_drew1 HB.out); refine start_ (n := 12) (S := fun w' => C8 w' gb190 (.int .i64 a0_0) (.int .i64 a0_1) (.string a0_2) (.string a0_3) (.string a0_4) (.bool a0_5) (.bool a0_6) (.slice A0_7 l0_7.length c0_7)) (ds := []) (ab 12 0) (by kernel_rfl) rfl rfl (cq8_ BK190) (fun hHeld => ?_); refine with_tabW print_text.tab16 print_text.bits16 (fun HT_ HW_ => ?_)
     generalize w48.drew = w50 at BK190 HB hHeld ⊢; refine pA 0 45 12 1 ?_; refine pA 3 48 12 9 ?_; refine pA 6 51 12 73 ?_; refine tB 1 46 12 75 ?_; refine tB 4 49 12 91 ?_; refine tB 7 52 12 219 ?_; refine oA 2 (some 47) 12 223 fun K hK => ?_; refine gS Try.func60 #[.agg (n4_ a0_1 a0_2 a0_3 a0_4)] ?_; (with_reducible refine (point_Text.calls k a0_1 a0_2 a0_3 a0_4 t210 _ A44.out).mono ?_); rintro e w51 ⟨rfl, hb⟩; refine ⟨_, rfl, ?_⟩; replace BK190 := bb_ BK190 hb; replace HB := bs_ hb; (try clear hb); refine hK.out _ _ (cq8_ BK190) (fun hHeld => ?_); clear hK K; refine nA ?_; refine oA 5 (some 50) 12 255 fun K hK => ?_; refine gS Try.func75 #[.bool a0_5, .string ⟨#[63]⟩] ?_; (with_reducible refine (print_mark.calls a0_5 (⟨#[63]⟩ : ByteArray) t211 _ A45.out).mono ?_); rintro e w' ⟨rfl, ⟨nd, rfl⟩⟩; refine ⟨_, rfl, ?_⟩; refine hK.out _ _ (cq8_ BK190) (fun hHeld => ?_); clear hK K; refine nA ?_; refine oA 8 (some 53) 12 511 fun K hK => ?_; refine gS Try.func75 #[.bool a0_6, .string ⟨#[126]⟩] ?_; (with_reducible refine (print_mark.calls a0_6 (⟨#[126]⟩ : ByteArray) t212 _ A46.out).mono ?_); rintro e w' ⟨rfl, ⟨nd, rfl⟩⟩; refine ⟨_, rfl, ?_⟩; refine hK.out _ _ (cq8_ BK190) (fun hHeld => ?_); clear hK K; refine nA ?_; refine oA 9 (some 54) 12 1023 fun K hK => ?_; refine Kd.R_lit_step Kd.string _ 9 ?hg (N := 54) ?hd (xs := ([t210, t211, t212] : List ByteArray)) (inner := [.string t210, .string t211, .string t212]) (ok := fun _ => True) (okp := fun _ => True) ?hr ?hp (fun _ hk => hk) trivial (Below.refl _ _) (Nat.le_refl _) (by simp) ?_; (case hd => rfl); (case hg => rfl); (case hr => first | (go_simp; done) | (go_simp; rfl)); (case hp => exact (Reps.one (show Kd.M Kd.string _ _ _ t210 [.string t210] from rfl) (Reps.one (show Kd.M Kd.string _ _ _ t211 [.string t211] from rfl) (Reps.one (show Kd.M Kd.string _ _ _ t212 [.string t212] from rfl) (Reps.none _ _)))))
     intro v214 w52 ho53 hb hg_ hnew_; clear hg_ hnew_; (first | rw [← Ny213.out] at ho53 | (simp only [Int.reduceToNat] at ho53; rw [← Ny213.out] at ho53)); have HO215 := A_ (Kd.R_lower ho53 (below_size hs_)); replace BK190 := bb_ BK190 hb; replace HB := bs_ hb; clear hb ho53; obtain ⟨Ao54, co54, eo54⟩ := Kd.R_slice HO215.out; (first | subst eo54 | (injection eo54 with f1_ f2_ f3_; have f4_ := f1_.symm; have f5_ := f3_.symm; clear f1_ f2_ f3_; subst f4_; subst f5_)); refine hK.out _ _ (cq8_ BK190) (fun hHeld => ?_); clear hK K; refine nA ?_; refine oA 10 (some 55) 12 2047 fun K hK => ?_; refine gS Try.func73 #[.slice Ao54 y213.length co54] ?_; (with_reducible refine (print_join.calls _ _ y213 t216 _ ?side1 ?side2 A47.out).mono ?_)
     (case side1 => exact cr_ (Kd.R_reads' HO215.out).2.2)
     (case side2 => exact (Kd.R_reads' HO215.out).2.1)
     rintro e w55 ⟨rfl, hb⟩; refine ⟨_, rfl, ?_⟩; replace HO215 := A_ (Kd.R_below (hrR_ HO215.out) hb); replace BK190 := bb_ BK190 hb; replace HB := bs_ hb; (try clear hb); refine hK.out _ _ (cq8_ BK190) (fun hHeld => ?_); clear hK K; refine nA ?_; refine pA 11 2 12 4095 ?_; refine done_ (done_of HT_.out (by kernel_rfl)) ?_; (try go_wp2); go_ret; exact ⟨re_, hs_⟩
set_option maxHeartbeats 8000000 in
set_option maxRecDepth 100000 in
theorem print_Text.calls (k : Nat) (a0_0 a0_1 : Int) (a0_2 a0_3 a0_4 : ByteArray) (a0_5 a0_6 : Bool) (A0_7 : Option Addr) (c0_7 : Nat) (l0_7 : List (S26)) (r : ByteArray) (w : World) (hr0_7 : Kd.C k26 w A0_7 l0_7.length l0_7) (hc0_7 : l0_7.length ≤ c0_7) (h : print_Text.f k a0_0 a0_1 a0_2 a0_3 a0_4 a0_5 a0_6 l0_7 = some r) :
  Calls Try.prog 33 #[.agg #[.int .i64 a0_0, .int .i64 a0_1, .string a0_2, .string a0_3, .string a0_4, .bool a0_5, .bool a0_6, .slice A0_7 l0_7.length c0_7]] w fun e w' => e = .returned (.string r) ∧ Below w.heap.size w w' := by
 have hu26 := Try.underlying26; have HR0_7 := A_ hr0_7; have HC0_7 := A_ hc0_7; clear hr0_7 hc0_7; have HB := A_ (Below.refl w.heap.size w); have H : ((tree_Sane.f k a0_0 a0_1 a0_2 a0_3 a0_4 a0_5 a0_6 l0_7).bind fun t218 => (if t218 = true then ((print_text.f k a0_0 a0_1 a0_2 a0_3 a0_4 a0_5 a0_6 l0_7).bind fun t219 => (some t219)) else (some (⟨#[]⟩ : ByteArray)))) = some r := h; clear h; obtain ⟨t218, A2, H⟩ := bi_ H
 by_cases c3 : t218 = true
 ·subst c3
  replace H := iP_ H; obtain ⟨t219, A4, H⟩ := bi_ H; obtain rfl := Option.some.inj H; go_enter Try.func33, Try.ntmps33; go_wp2_with (first | (refine gx_ w 1 (n8_ a0_0 a0_1 a0_2 a0_3 a0_4 a0_5 a0_6 (.slice A0_7 l0_7.length c0_7)) 26 ?_; clear HB; intro gb217 w5 BK217 GE217 HB; have GW217 := GE217; have Z6 := bz8_ BK217) | (refine gC 18 ?_; refine gL 4 Try.func18 #[.agg (n8_ a0_0 a0_1 a0_2 a0_3 a0_4 a0_5 a0_6 (.slice A0_7 l0_7.length c0_7))] ?_; (with_reducible refine (tree_Sane.calls k a0_0 a0_1 a0_2 a0_3 a0_4 a0_5 a0_6 _ _ l0_7 true _ ?side1 ?side2 A2.out).mono ?_); (case side1 => exact cb_ HR0_7); (case side2 => exact HC0_7.out); rintro e w7 ⟨rfl, hb⟩; refine ⟨_, rfl, ?_⟩; replace BK217 := bb_ BK217 hb; replace HB := bs_ hb; (try clear hb); have Z8 := bz8_ BK217) | (refine gC 58 ?_; refine gL 7 Try.func58 #[.agg (n8_ a0_0 a0_1 a0_2 a0_3 a0_4 a0_5 a0_6 (.slice A0_7 l0_7.length c0_7))] ?_; (with_reducible refine (print_text.calls k a0_0 a0_1 a0_2 a0_3 a0_4 a0_5 a0_6 _ _ l0_7 t219 _ ?side1 ?side2 A4.out).mono ?_); (case side1 => exact cb_ HR0_7); (case side2 => exact HC0_7.out); rintro e w9 ⟨rfl, hb⟩; refine ⟨_, rfl, ?_⟩; replace BK217 := bb_ BK217 hb; replace HB := bs_ hb; (try clear hb)))
  go_ret; exact ⟨re_, hs_⟩
 ·replace c3 := Bool.eq_false_iff.mpr c3
  subst c3; replace H := iN_ H; obtain rfl := Option.some.inj H; go_enter Try.func33, Try.ntmps33; go_wp2_with (first | (refine gx_ w 1 (n8_ a0_0 a0_1 a0_2 a0_3 a0_4 a0_5 a0_6 (.slice A0_7 l0_7.length c0_7)) 26 ?_; clear HB; intro gb217 w10 BK217 GE217 HB; have GW217 := GE217; have Z11 := bz8_ BK217) | (refine gC 18 ?_; refine gL 4 Try.func18 #[.agg (n8_ a0_0 a0_1 a0_2 a0_3 a0_4 a0_5 a0_6 (.slice A0_7 l0_7.length c0_7))] ?_; (with_reducible refine (tree_Sane.calls k a0_0 a0_1 a0_2 a0_3 a0_4 a0_5 a0_6 _ _ l0_7 false _ ?side1 ?side2 A2.out).mono ?_); (case side1 => exact cb_ HR0_7); (case side2 => exact HC0_7.out); rintro e w12 ⟨rfl, hb⟩; refine ⟨_, rfl, ?_⟩; replace BK217 := bb_ BK217 hb; replace HB := bs_ hb; (try clear hb))); go_ret; exact ⟨re_, hs_⟩
theorem at_KE {w : World} {A : Option Addr} {n : Nat} {xs : List KE} (h : kKE.C w A n xs) (i : Int) (h0 : 0 ≤ i) (h1 : i < n) : ∃ ad, A = some ad ∧ w.cell? (ad.add i.toNat) = some (encK (rdOf zKE xs i)) :=
  ReadsOf.at_ (Kd.reads_of_C (enc := encK) (d := zKE) (h1 := fun _ => rfl) h) i h0 h1
set_option maxRecDepth 100000 in
theorem method_key (x : KE) (w : World) : (method (Try.prog.types.size + Made.depth) 79 (cellsK x) "lustrum/canon.key").run Try.prog w = .ok (136, cellsK x) w := by
  unfold cellsK
  kernel_rfl
set_option maxRecDepth 100000 in
theorem method_node (x : KE) (w : World) : (method (Try.prog.types.size + Made.depth) 79 (cellsK x) "lustrum/canon.node").run Try.prog w = .ok (137, cellsK x) w := by
  unfold cellsK
  kernel_rfl
theorem canon_element_key.calls (x : KE) (t : ByteArray) (w : World) (h : canon_element_key.f x = some t) : Calls Try.prog 136 #[cellsK x] w fun e w' => e = .returned (.string t) ∧ Below w.heap.size w w' := by
  obtain rfl := Option.some.inj h
  unfold cellsK
  have HB := A_ (Below.refl w.heap.size w)
  go_enter Try.func136, Try.ntmps136
  go_wp2
  go_ret
  exact ⟨rfl, hs_⟩
theorem info75 : (Try.prog.info? 75).map (fun i => (i.zero, i.size, i.bytes)) = some (some .nilIface, 1, 16) := by kernel_rfl
abbrev cellsN (x : KE) : List Value := [.int .i64 x.nd.f0, .int .i64 x.nd.f1.f0, .string x.nd.f1.f1, .string x.nd.f1.f2, .string x.nd.f1.f3, .bool x.nd.f2, .bool x.nd.f3, .slice x.A x.nd.f4.length x.c]
def kND : Kd KE where
  sz := 8
  E := []
  K := fun _ x cs => cs = cellsN x
  M := fun _ _ _ x cs => cs = cellsN x
  K_len := fun h => by rw [h]; rfl
  K_one := fun h u hu => by
    rw [h] at hu
    simp only [cellsN, List.mem_cons, List.not_mem_nil, or_false] at hu
    rcases hu with rfl | rfl | rfl | rfl | rfl | rfl | rfl | rfl <;> rfl
  K_below := fun _ h => h
  K_of_M := fun h => h
  M_mono := fun _ h => h
  M_bound := fun h => h
  M_move := fun _ h => h
  M_lower := fun _ h => h
theorem canon_element_node.calls (x : KE) (w : World) : Calls Try.prog 137 #[cellsK x] w fun e w' => e = .returned (.agg (cellsN x).toArray) ∧ Below w.heap.size w w' := by
  unfold cellsK cellsN
  have HB := A_ (Below.refl w.heap.size w)
  go_enter Try.func137, Try.ntmps137
  go_wp2
  refine bodyPost_ret (results_cell_row rfl _ _ (w.heap.size + 1) 26 #[.int .i64 x.nd.f0, .int .i64 x.nd.f1.f0, .string x.nd.f1.f1, .string x.nd.f1.f2, .string x.nd.f1.f3, .bool x.nd.f2, .bool x.nd.f3, .slice x.A x.nd.f4.length x.c] (0, 0) _ rfl ?_ Try.underlying26 rfl (by kernel_rfl)) rfl ?_
  · have := heap_alloc_new (w.alloc (.cells #[.int .i64 x.nd.f0, .int .i64 x.nd.f1.f0, .string x.nd.f1.f1, .string x.nd.f1.f2, .string x.nd.f1.f3, .bool x.nd.f2, .bool x.nd.f3, .slice x.A x.nd.f4.length x.c, .string (tyT x.nd)] 79)) (.cells #[.int .i64 x.nd.f0, .int .i64 x.nd.f1.f0, .string x.nd.f1.f1, .string x.nd.f1.f2, .string x.nd.f1.f3, .bool x.nd.f2, .bool x.nd.f3, .slice x.A x.nd.f4.length x.c] 26)
    rw [World.size_alloc] at this
    exact this
  · exact ⟨rfl, hs_⟩
end Go.Proofs.Ytfehdlkklfcnpaa.A