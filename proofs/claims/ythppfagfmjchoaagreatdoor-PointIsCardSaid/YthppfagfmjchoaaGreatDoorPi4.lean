/- Walks of functions, and plain facts about what they compute. No conditions. -/
import Derived.Test.YthppfagfmjchoaaGreatDoorPi3
set_option linter.unusedVariables false
set_option linter.unusedSimpArgs false
namespace Go.Proofs.YthppfagfmjchoaaGreatDoor.A
open Go.RowKit Go.Proofs.YthppfagfmjchoaaGreatDoorW.PrintWords Go.Proofs.YthppfagfmjchoaaGreatDoorW.PrintLast Go.Proofs.YthppfagfmjchoaaGreatDoorW.PrintMore
theorem at_rdi (p : List Int) (r : Int) (t : List Int) : rd (p ++ r :: t) (p.length : Int) = r := by simp [rd]
theorem Make_f {l : List S71} (hr : risingLo l = true) (hn : l.length < 4398046511104) : Ev (fun _ => runs_Make.f l) (norm l) := ⟨0, fun _ _ => by unfold runs_Make.f; rw [if_pos ⟨hr, hn⟩]⟩
theorem known_f {l : List S71} (hs : sane l) (hn : l.length < 4398046511104) : Ev (fun k => runs_known.f k l) (norm l) := by
  obtain ⟨b, hb, hs2⟩ := Sane_f l (by omega)
  rw [hs2.2 hs] at hb
  rw [norm_of_sane hs]
  exact Ev.bind hb (Ev.ift rfl (Ev.now _))
theorem sknown_f {l : List S71} (hs : sane l) (hn : l.length < 4398046511104) : Ev (fun k => sets_known.f k l) (norm l) := by
  rw [norm_of_sane hs]; exact sknown_s hs hn
theorem sane_pair : ∀ {l : List S71} {a : Int}, saneF a l → l.Pairwise (fun a b => a.f0 ≤ b.f0)
  | [], _, _ => List.Pairwise.nil
  | r :: t, a, h => List.pairwise_cons.2 ⟨fun x hx => by
      have h2 := h.2.1
      have h4 : ∀ {b : Int} {l : List S71}, saneF b l → ∀ q, q ∈ l → b + 2 ≤ q.f0 := by
        intro b l
        induction l generalizing b with
        | nil => intro _ q hq; cases hq
        | cons y u ih =>
          intro hy q hq
          rcases List.mem_cons.1 hq with rfl | hq
          · exact hy.1
          · have := ih hy.2.2.2 q hq; have := hy.1; have := hy.2.1; omega
      have := h4 h.2.2.2 x hx
      omega, sane_pair h.2.2.2⟩
theorem ins_len : ∀ (s : List S71) (x : S71), (ins x s).length ≤ s.length + 1
  | [], x => by unfold ins; simp
  | q :: t, x => by
    unfold ins
    split
    · have := ins_len t x; simp; omega
    · split
      · simp
      · have := ins_len t ⟨min x.f0 q.f0, max x.f1 q.f1⟩; simp; omega
theorem fold_len : ∀ (l s : List S71), (l.foldl step s).length ≤ s.length + l.length
  | [], s => by simp
  | r :: l, s => by
    have h1 := fold_len l (step s r)
    have h2 : (step s r).length ≤ s.length + 1 := by unfold step; split; exact ins_len _ _; omega
    simp; omega
theorem norm_len (l : List S71) : (norm l).length ≤ l.length := by have := fold_len l []; simpa [norm] using this
theorem Count_l0 : ∀ (t p : List S71) (a b : Int), (p ++ t).length ≤ 4611686018427387904 → saneF b t → -lim - 2 ≤ b → b ≤ lim → 0 ≤ a → a ≤ b + lim + 2 →
    Ev (fun k => runs_Count.l0 k a (p ++ t) ((p ++ t).length : Int) (p.length : Int)) (a + cnt t)
  | [], p, a, b, _, _, _, _, _, _ => Ev.step (f := fun _ => some (a + cnt [])) (fun k => by simp only [runs_Count.l0]; rw [if_neg (at_end p)]; simp [cnt]) (Ev.now _)
  | r :: t, p, a, b, hn, ⟨s1, s2, s3, s4⟩, h1, h2, h3, h4 => by
    have ih := Count_l0 t (p ++ [r]) (a + (r.f1 - r.f0 + 1)) r.f1 (by rw [← at_app]; exact hn) s4 (by omega) s3 (by omega) (by omega)
    rw [← at_app] at ih
    refine Ev.step (fun k => ?_) (show Ev _ (a + cnt (r :: t)) by rw [show a + cnt (r :: t) = a + (r.f1 - r.f0 + 1) + cnt t by show a + (_ + _) = _; omega]; exact ih)
    unfold lim at h1 h2 s3 h4
    simp only [runs_Count.l0]
    rw [if_pos (at_lt p r t), if_pos (at_0 p), if_pos (at_lt p r t), at_rd, at_next hn, w64 (x := r.f1 - r.f0) (by omega) (by omega), w64 (x := r.f1 - r.f0 + 1) (by omega) (by omega), w64 (by omega) (by omega)]
theorem Count_f {l : List S71} (hsl : sane l) (hn : l.length < 4398046511104) : Ev (fun k => runs_Count.f k l) (cnt (norm l)) := by
  have h := Count_l0 (norm l) [] 0 (-lim - 2) (by have := norm_len l; simp; omega) (norm_sane l) (Int.le_refl _) (by unfold lim; omega) (Int.le_refl _) (by unfold lim; omega)
  rw [Int.zero_add] at h
  exact Ev.bind (known_f hsl hn) h
def single (n : Int) : S71 := ⟨n, n⟩
theorem Of_l0 : ∀ (t p : List Int) (acc : List S71), (p ++ t).length ≤ 4398046511103 → acc.length + t.length < 4398046511104 → risingLo (acc ++ t.map single) = true →
    Ev (fun k => runs_Of.l0 k acc (p ++ t) ((p ++ t).length : Int) (p.length : Int)) (norm (acc ++ t.map single))
  | [], p, acc, hn, ha, hr => by
    refine Ev.step (f := fun _ => (runs_Make.f acc).bind fun t => some t) (fun k => by simp only [runs_Of.l0]; rw [if_neg (at_end p)]) (Ev.bind (Make_f (by simpa using hr) (by simpa using ha)) ?_)
    simp
    exact Ev.now _
  | r :: t, p, acc, hn, ha, hr => by
    have ih := Of_l0 t (p ++ [r]) (acc ++ [single r]) (by rw [← at_app]; exact hn) (by simp at ha ⊢; omega) (by rw [show (acc ++ [single r]) ++ t.map single = acc ++ (r :: t).map single by simp]; exact hr)
    rw [← at_app] at ih
    refine Ev.step (fun k => ?_) (show Ev _ (norm (acc ++ (r :: t).map single)) by rw [show acc ++ (r :: t).map single = (acc ++ [single r]) ++ t.map single by simp]; exact ih)
    simp only [runs_Of.l0]
    rw [if_pos (at_lt p r t), if_pos (at_0 p), if_pos (at_lt p r t), if_pos (by omega), at_rdi, at_next (show (p ++ r :: t).length ≤ _ by omega)]
    rfl
theorem Of_f (l : List Int) (hr : l.Pairwise (· ≤ ·)) (hn : l.length < 4398046511104) : Ev (fun k => runs_Of.f k l) (norm (l.map single)) := by
  exact Of_l0 l [] [] (by simp; omega) (by simpa using hn) (pair_rising (List.Pairwise.map single (fun a b h => h) hr))
theorem saneF_all : ∀ {a : Int} {l : List S71}, saneF a l → ∀ q, q ∈ l → a + 2 ≤ q.f0 ∧ q.f0 ≤ q.f1 ∧ q.f1 ≤ lim
  | _, [], _, q, h => by simp at h
  | a, r :: t, ⟨h1, h2, h3, h4⟩, q, hq => by
    rcases List.mem_cons.1 hq with rfl | hq
    · exact ⟨h1, h2, h3⟩
    · have := saneF_all h4 q hq; omega
def IsSet (m : List S71) (p : Int → Prop) : Prop := sane m ∧ ∀ n, mem m n ↔ -lim ≤ n ∧ n ≤ lim ∧ p n
theorem IsSet.eq {m m' : List S71} {p q : Int → Prop} (h : IsSet m p) (h' : IsSet m' q) (e : ∀ n, -lim ≤ n → n ≤ lim → (p n ↔ q n)) : m = m' :=
  same h.1 h'.1 fun n => by
    rw [h.2, h'.2]
    exact ⟨fun ⟨a, b, c⟩ => ⟨a, b, (e n a b).1 c⟩, fun ⟨a, b, c⟩ => ⟨a, b, (e n a b).2 c⟩⟩
theorem IsSet.congr {m : List S71} {p q : Int → Prop} (h : IsSet m p) (e : ∀ n, -lim ≤ n → n ≤ lim → (p n ↔ q n)) : IsSet m q :=
  ⟨h.1, fun n => by rw [h.2]; exact ⟨fun ⟨a, b, c⟩ => ⟨a, b, (e n a b).1 c⟩, fun ⟨a, b, c⟩ => ⟨a, b, (e n a b).2 c⟩⟩⟩
theorem isSet_norm (l : List S71) : IsSet (norm l) (mem l) := ⟨norm_sane l, norm_mem l⟩
theorem isSet_self {m : List S71} (h : sane m) : IsSet m (mem m) := ⟨h, fun n => ⟨fun hn => ⟨(sane_mem h hn).1, (sane_mem h hn).2, hn⟩, fun hn => hn.2.2⟩⟩
theorem Meet_f {a b : List S71} (hsa : sane a) (hsb : sane b) (h : a.length + b.length < 4398046511104) : ∃ m, Ev (fun k => sets_Meet.f k a b) m ∧ IsSet m (fun n => mem a n ∧ mem b n) ∧ m.length ≤ a.length + b.length := by
  have h1 := norm_len a
  have h2 := norm_len b
  refine ⟨meet2 (norm a) (norm b), Ev.bind (sknown_f hsa (by omega)) (Ev.bind (sknown_f hsb (by omega)) ?_), ⟨?_, fun n => ?_⟩, ?_⟩
  · have := Meet_l0 _ (norm a) (norm b) [] [] [] rfl (by simp; omega) (by simp; omega) (by simp; omega)
    simpa using this
  · have := meet2_sane _ (norm a) (norm b) _ _ rfl (norm_sane a) (norm_sane b)
    rw [Int.max_self] at this
    exact this
  · rw [meet2_mem _ (norm a) (norm b) _ _ rfl (norm_sane a) (norm_sane b), norm_mem, norm_mem]
    exact ⟨fun ⟨⟨u, v, x⟩, _, _, y⟩ => ⟨u, v, x, y⟩, fun ⟨u, v, x, y⟩ => ⟨⟨u, v, x⟩, u, v, y⟩⟩
  · have := meet2_len _ (norm a) (norm b) rfl
    omega
def shifted (lo hi : Int) (r : S71) : S71 := ⟨r.f0 + lo, r.f1 + hi⟩
theorem saneF_bounds {a : Int} {l : List S71} (h : saneF a l) (ha : -lim - 2 ≤ a) : ∀ r, r ∈ l → -lim ≤ r.f0 ∧ r.f0 ≤ lim ∧ -lim ≤ r.f1 ∧ r.f1 ≤ lim := fun r hr => by
  obtain ⟨h1, h2, h3⟩ := saneF_all h r hr
  omega
theorem moved_l0 (lo hi : Int) (h1 : -2199023255552 ≤ lo) (h2 : lo ≤ 2199023255552) (h3 : -2199023255552 ≤ hi) (h4 : hi ≤ 2199023255552) : ∀ (t p acc : List S71), (∀ r, r ∈ t → -lim ≤ r.f0 ∧ r.f0 ≤ lim ∧ -lim ≤ r.f1 ∧ r.f1 ≤ lim) → (p ++ t).length < 4398046511104 → acc.length + t.length < 4398046511104 → risingLo (acc ++ t.map (shifted lo hi)) = true →
    Ev (fun k => sets_moved.l0 k lo hi acc (p ++ t) ((p ++ t).length : Int) (p.length : Int)) (norm (acc ++ t.map (shifted lo hi)))
  | [], p, acc, _, _, hl, hris => by
    simp only [List.length_nil] at hl
    refine Ev.step (f := fun k => (runs_Make.f acc).bind fun t => some t) (fun k => by rw [sets_moved.l0, if_neg (at_end p)]) ?_
    simp only [List.map_nil, List.append_nil] at hris ⊢
    exact Ev.bind (Make_f hris (by omega)) (Ev.now _)
  | r :: t, p, acc, hb, hn, hl, hris => by
    simp only [List.length_cons] at hl
    obtain ⟨b1, b2, b3, b4⟩ := hb r List.mem_cons_self
    have h := moved_l0 lo hi h1 h2 h3 h4 t (p ++ [r]) (acc ++ [shifted lo hi r]) (fun q hq => hb q (List.mem_cons_of_mem _ hq)) (by rw [← at_app]; exact hn) (by rw [List.length_append, List.length_singleton]; omega) (by rw [show (acc ++ [shifted lo hi r]) ++ t.map (shifted lo hi) = acc ++ (r :: t).map (shifted lo hi) by simp]; exact hris)
    rw [← at_app] at h
    refine Ev.eq (Ev.step (fun k => ?_) h) (by simp)
    rw [sets_moved.l0, if_pos (at_lt p r t), if_pos (at_0 p), if_pos (at_lt p r t), if_pos (by omega), at_rd, at_next (p := p) (r := r) (t := t) (by omega), w64 (by unfold lim at *; omega) (by unfold lim at *; omega), w64 (by unfold lim at *; omega) (by unfold lim at *; omega)]
    rfl
theorem moved_f {l : List S71} (hsl : sane l) (lo hi : Int) (h1 : -2199023255552 ≤ lo) (h2 : lo ≤ 2199023255552) (h3 : -2199023255552 ≤ hi) (h4 : hi ≤ 2199023255552) (hn : l.length < 4398046511104) :
    Ev (fun k => sets_moved.f k l lo hi) (norm ((norm l).map (shifted lo hi))) := by
  have hl := norm_len l
  refine Ev.bind (sknown_f hsl hn) ?_
  have := moved_l0 lo hi h1 h2 h3 h4 (norm l) [] [] (saneF_bounds (norm_sane l) (Int.le_refl _)) (by simp; omega) (by simp; omega) (pair_rising (List.Pairwise.map (shifted lo hi) (fun a b h => by unfold shifted; simp only; omega) (sane_pair (norm_sane l))))
  simpa using this
theorem mem_grow {l : List S71} (hs : ∀ r, r ∈ l → r.f0 ≤ r.f1) (k n : Int) (hk : 0 ≤ k) : mem (l.map (shifted (-k) k)) n ↔ ∃ x, mem l x ∧ x - k ≤ n ∧ n ≤ x + k := by
  constructor
  · rintro ⟨r, hr, h1, h2⟩
    obtain ⟨q, hq, rfl⟩ := List.mem_map.1 hr
    simp only [shifted] at h1 h2
    have := hs q hq
    exact ⟨max q.f0 (min q.f1 n), ⟨q, hq, by omega, by omega⟩, by omega, by omega⟩
  · rintro ⟨x, ⟨q, hq, h1, h2⟩, h3, h4⟩
    exact ⟨_, List.mem_map.2 ⟨q, hq, rfl⟩, by simp only [shifted]; omega, by simp only [shifted]; omega⟩
theorem norm_runs (l : List S71) : ∀ r, r ∈ norm l → r.f0 ≤ r.f1 := fun r hr => (saneF_all (norm_sane l) r hr).2.1
theorem map_len (l : List S71) (f : S71 → S71) : (norm ((norm l).map f)).length ≤ l.length := by
  have h1 := norm_len ((norm l).map f)
  have h2 := norm_len l
  rw [List.length_map] at h1
  omega
def near (k : Int) : Int := max 0 (min k 2199023255552)
theorem grown (l : List S71) (k : Int) : IsSet (norm ((norm l).map (shifted (-(near k)) (near k)))) (fun n => ∃ x, mem (norm l) x ∧ x - near k ≤ n ∧ n ≤ x + near k) :=
  (isSet_norm _).congr fun n _ _ => mem_grow (norm_runs l) _ _ (by unfold near; omega)
theorem Grow_f {l : List S71} (hsl : sane l) (k : Int) (hn : l.length < 4398046511104) : ∃ m, Ev (fun i => sets_Grow.f i l k) m ∧ IsSet m (fun n => ∃ x, mem (norm l) x ∧ x - near k ≤ n ∧ n ≤ x + near k) ∧ m.length ≤ l.length := by
  refine ⟨_, ?_, grown l k, map_len _ _⟩
  have h : mx 0 (mn k 2199023255552) = near k := by rw [mx_max, mn_min]; rfl
  refine Ev.congr (f := fun i => (sets_moved.f i l (-(near k)) (near k)).bind fun t => some t) (fun i => by rw [sets_Grow.f, h]) ?_
  exact Ev.bind (moved_f hsl _ _ (by unfold near; omega) (by unfold near; omega) (by unfold near; omega) (by unfold near; omega) hn) (Ev.now _)
theorem Clip_f {l : List S71} (hsl : sane l) (lo hi : Int) (b1 : -lim ≤ lo) (b2 : lo ≤ hi) (b3 : hi ≤ lim) (hn : l.length < 4398046511100) : ∃ m, Ev (fun i => sets_Clip.f i l lo hi) m ∧ IsSet m (fun n => mem l n ∧ lo ≤ n ∧ n ≤ hi) ∧ m.length ≤ l.length + 1 := by
  obtain ⟨m, h1, h2, h3⟩ := Meet_f hsl (b := [⟨lo, hi⟩]) ⟨by show -lim - 2 + 2 ≤ lo; omega, b2, b3, trivial⟩ (by simp; omega)
  refine ⟨m, Ev.bind h1 (Ev.now _), h2.congr fun n _ _ => ?_, by simpa using h3⟩
  rw [mem_one]
theorem Wide_f {l : List S71} (hsl : sane l) (hn : l.length < 4398046511104) : Ev (fun i => sets_Wide.f i l) (decide (((norm l).length : Int) > 400)) := Ev.bind (sknown_f hsl hn) (Ev.now _)
def asc (l : List Int) : Prop := l.Pairwise (· < ·)
theorem asc_ext : ∀ {l m : List Int}, asc l → asc m → (∀ x, x ∈ l ↔ x ∈ m) → l = m
  | [], [], _, _, _ => rfl
  | [], y :: m, _, _, h => absurd ((h y).2 List.mem_cons_self) (List.not_mem_nil)
  | x :: l, [], _, _, h => absurd ((h x).1 List.mem_cons_self) (List.not_mem_nil)
  | x :: l, y :: m, hl, hm, h => by
    have hl' := List.pairwise_cons.1 hl
    have hm' := List.pairwise_cons.1 hm
    have hxy : x = y := by
      rcases List.mem_cons.1 ((h x).1 List.mem_cons_self) with e | h1
      · exact e
      · rcases List.mem_cons.1 ((h y).2 List.mem_cons_self) with e | h2
        · exact e.symm
        · have := hm'.1 x h1; have := hl'.1 y h2; omega
    subst hxy
    rw [asc_ext (l := l) (m := m) hl'.2 hm'.2 fun z => ?_]
    constructor
    · intro hz
      rcases List.mem_cons.1 ((h z).1 (List.mem_cons_of_mem _ hz)) with e | h1
      · have := hl'.1 z hz; omega
      · exact h1
    · intro hz
      rcases List.mem_cons.1 ((h z).2 (List.mem_cons_of_mem _ hz)) with e | h1
      · have := hm'.1 z hz; omega
      · exact h1
theorem asc_upto : ∀ (n : Nat) (lo : Int), asc (upto lo n)
  | 0, _ => List.Pairwise.nil
  | n + 1, lo => List.pairwise_cons.2 ⟨fun x hx => by have := (upto_mem _ _ _).1 hx; omega, asc_upto n (lo + 1)⟩
theorem nums_mem (s : List S71) (n : Int) : n ∈ s.flatMap numsR ↔ mem s n := by
  rw [List.mem_flatMap]
  constructor
  · rintro ⟨r, hr, hn⟩
    have := (upto_mem _ _ _).1 hn
    exact ⟨r, hr, by omega, by omega⟩
  · rintro ⟨r, hr, h1, h2⟩
    exact ⟨r, hr, (upto_mem _ _ _).2 ⟨h1, by omega⟩⟩
theorem asc_nums : ∀ {s : List S71} {a : Int}, saneF a s → asc (s.flatMap numsR)
  | [], _, _ => List.Pairwise.nil
  | r :: t, a, h => by
    rw [List.flatMap_cons]
    refine List.pairwise_append.2 ⟨asc_upto _ _, asc_nums h.2.2.2, fun x hx y hy => ?_⟩
    have h1 := (upto_mem _ _ _).1 hx
    have h2 := saneF_mem h.2.2.2 ((nums_mem t y).1 hy)
    omega
def numV (l : List UInt8) (m : Nat) : List Int := (upto 1 m).filter fun n => refV l n
theorem numV_mem (l : List UInt8) (m : Nat) (n : Int) : n ∈ numV l m ↔ 1 ≤ n ∧ n ≤ m ∧ refV l n = true := by
  unfold numV
  rw [List.mem_filter, upto_mem]
  constructor
  · rintro ⟨h, h2⟩; exact ⟨h.1, by omega, h2⟩
  · rintro ⟨h, h1, h2⟩; exact ⟨⟨h, by omega⟩, h2⟩
theorem numV_asc (l : List UInt8) (m : Nat) : asc (numV l m) := List.Pairwise.filter _ (asc_upto m 1)
theorem numV_len (l : List UInt8) (m : Nat) : (numV l m).length ≤ m := by
  have := List.length_filter_le (fun n => refV l n) (upto 1 m)
  rw [upto_len] at this; exact this
theorem numV_full (l : List UInt8) (m : Nat) : (numV l m).length = m ↔ ∀ n : Int, 1 ≤ n → n ≤ m → refV l n = true := by
  have h := List.length_filter_eq_length_iff (p := fun n => refV l n) (l := upto 1 m)
  rw [upto_len] at h
  unfold numV
  rw [h]
  constructor
  · intro h n h1 h2; exact h n ((upto_mem _ _ _).2 ⟨h1, by omega⟩)
  · intro h n hn
    have := (upto_mem _ _ _).1 hn
    exact h n this.1 (by omega)
theorem numbers_is (s : ByteArray) (m : Nat) (hm : 1 ≤ m ∧ m ≤ 31) : Ev (fun k => point_numbers.f k s (m : Int)) (numV s.data.toList m) := by
  obtain ⟨h1, h2, h3⟩ := setV_is s
  have hb : sane [(⟨1, (m : Int)⟩ : S71)] := ⟨by show -lim - 2 + 2 ≤ (1 : Int); unfold lim; omega, by show (1 : Int) ≤ (m : Int); omega, by show (m : Int) ≤ lim; unfold lim; omega, trivial⟩
  obtain ⟨e1, e2, e3, e4⟩ := Meet_s h1 hb (by simp; omega)
  have hin : ∀ r, r ∈ meet2 (setV s) [(⟨1, (m : Int)⟩ : S71)] → 1 ≤ r.f0 ∧ r.f1 ≤ (m : Int) := fun r hr => by
    obtain ⟨_, hle, _⟩ := saneF_all e3 r hr
    have ha := (e2 r.f0).1 ⟨r, hr, Int.le_refl _, hle⟩
    have hc := (e2 r.f1).1 ⟨r, hr, hle, Int.le_refl _⟩
    have ha := (mem_one _ _).1 ha.2
    have hc := (mem_one _ _).1 hc.2
    simp only at ha hc
    exact ⟨ha.1, hc.2⟩
  have e : (meet2 (setV s) [(⟨1, (m : Int)⟩ : S71)]).flatMap numsR = numV s.data.toList m := asc_ext (asc_nums e3) (numV_asc _ _) fun n => by
    rw [nums_mem, e2, numV_mem, h3, mem_one]
    simp only
    constructor
    · rintro ⟨a, b, c⟩; exact ⟨b, c, a⟩
    · rintro ⟨a, b, c⟩; exact ⟨c, a, b⟩
  rw [← e]
  refine Ev.bnow (x := setV s) rfl ?_
  refine Ev.bind (Ev.bind e1 (Ev.now _)) ?_
  have := nums_l0 (meet2 (setV s) [(⟨1, (m : Int)⟩ : S71)]) [] [] (fun r hr => ⟨(hin r hr).1, by have := (hin r hr).2; omega⟩) (by simp at e4 ⊢; omega) (by simp at e4 ⊢; omega)
  simpa using this
def unitOf (per y n : Int) : S71 := ⟨y * per + n - 1, y * per + n - 1⟩
def yearsU (per : Int) (ins : List Int) (r : S71) : List S71 := (numsR r).flatMap fun y => ins.map (unitOf per y)
def partsL (per : Int) (ins : List Int) (t : List S71) : List S71 := t.flatMap fun r => if (ins.length : Int) = per then [⟨r.f0 * per, r.f1 * per + per - 1⟩] else yearsU per ins r
theorem parts_l2 (per : Int) (ins : List Int) (s : List S71) (len i lo hi y : Int) (hper : 1 ≤ per ∧ per ≤ 12) (hy : 0 ≤ y ∧ y ≤ 9999) {R : List S71} : ∀ (u q : List Int) (acc : List S71), (∀ n, n ∈ u → 1 ≤ n ∧ n ≤ 31) → (q ++ u).length ≤ 4611686018427387904 → acc.length + u.length < 8796093022208 →
    Ev (fun k => point_parts.l1 k per (acc ++ u.map (unitOf per y)) ins (wrap64 (y + 1)) s len i lo hi) R → Ev (fun k => point_parts.l2 k per acc ins y s len i (q ++ u) ((q ++ u).length : Int) (q.length : Int) lo hi) R
  | [], q, acc, _, _, _, h => by
    refine Ev.step (f := fun k => point_parts.l1 k per acc ins (wrap64 (y + 1)) s len i lo hi) (fun k => by rw [point_parts.l2, if_neg (at_end q)]) ?_
    simpa using h
  | n :: u, q, acc, hu, hq, hl, h => by
    have hn := hu n List.mem_cons_self
    rw [List.length_cons] at hl
    have b1 : 0 ≤ y * per := Int.mul_nonneg hy.1 (by omega)
    have b2 : y * per ≤ 9999 * 12 := Int.mul_le_mul hy.2 hper.2 (by omega) (by omega)
    have e : wrap64 (wrap64 (wrap64 (y * per) + n) - 1) = y * per + n - 1 := by simp (disch := omega) only [w64]
    refine Ev.step (f := fun k => point_parts.l2 k per (acc ++ [unitOf per y n]) ins y s len i (q ++ n :: u) ((q ++ n :: u).length : Int) ((q ++ [n]).length : Int) lo hi) (fun k => by
      rw [point_parts.l2, if_pos (at_lt q n u), if_pos (at_0 q), if_pos (at_lt q n u), if_pos (by omega), at_rdi, e, at_next hq]; rfl) ?_
    have := parts_l2 per ins s len i lo hi y hper hy u (q ++ [n]) (acc ++ [unitOf per y n]) (fun m hm => hu m (List.mem_cons_of_mem _ hm)) (by rw [← at_app]; exact hq) (by rw [List.length_append, List.length_singleton]; omega) (R := R) (by
      rw [List.append_assoc, List.singleton_append]; exact h)
    rw [← at_app] at this
    exact this
theorem parts_l1 (per : Int) (ins : List Int) (s : List S71) (i lo hi : Int) (hper : 1 ≤ per ∧ per ≤ 12) (hi9 : hi ≤ 9999) (hin : ∀ n, n ∈ ins → 1 ≤ n ∧ n ≤ 31) (hil : ins.length ≤ 31) {R : List S71} : ∀ (m : Nat) (y : Int) (acc : List S71), 0 ≤ y → y + m = hi + 1 ∨ (m = 0 ∧ hi < y) → acc.length + m * 31 < 8796093022208 →
    Ev (fun k => point_parts.l0 k per (acc ++ (upto y m).flatMap fun y => ins.map (unitOf per y)) ins s (s.length : Int) (wrap64 (i + 1))) R → Ev (fun k => point_parts.l1 k per acc ins y s (s.length : Int) i lo hi) R
  | 0, y, acc, h0, hy, hl, h => by
    refine Ev.step (f := fun k => point_parts.l0 k per acc ins s (s.length : Int) (wrap64 (i + 1))) (fun k => by rw [point_parts.l1, if_neg (by omega)]) ?_
    simpa [upto] using h
  | m + 1, y, acc, h0, hy, hl, h => by
    refine Ev.step (f := fun k => point_parts.l2 k per acc ins y s (s.length : Int) i ins (ins.length : Int) 0 lo hi) (fun k => by rw [point_parts.l1, if_pos (by omega)]) ?_
    have hl2 : (acc ++ ins.map (unitOf per y)).length + m * 31 < 8796093022208 := by rw [List.length_append, List.length_map]; omega
    refine parts_l2 per ins s (s.length : Int) i lo hi y hper (by omega) ins [] acc hin (by simp; omega) (by omega) ?_
    rw [w64 (x := y + 1) (by omega) (by omega)]
    refine parts_l1 per ins s i lo hi hper hi9 hin hil m (y + 1) (acc ++ ins.map (unitOf per y)) (by omega) (by omega) hl2 ?_
    rw [List.append_assoc]
    simpa [upto] using h
theorem parts_l0 (per : Int) (ins : List Int) (hper : 1 ≤ per ∧ per ≤ 12) (hin : ∀ n, n ∈ ins → 1 ≤ n ∧ n ≤ 31) (hil : ins.length ≤ 31) : ∀ (t p acc : List S71), (∀ r, r ∈ t → 0 ≤ r.f0 ∧ r.f0 ≤ r.f1 ∧ r.f1 ≤ 9999) → acc.length + 310001 * t.length < 4398046511104 → (p ++ t).length ≤ 4611686018427387904 → risingLo (acc ++ partsL per ins t) = true →
    Ev (fun k => point_parts.l0 k per acc ins (p ++ t) ((p ++ t).length : Int) (p.length : Int)) (norm (acc ++ partsL per ins t))
  | [], p, acc, _, hl, _, hris => by
    refine Ev.step (f := fun k => (runs_Make.f acc).bind fun t => some t) (fun k => by rw [point_parts.l0, if_neg (at_end p)]) ?_
    refine Ev.bind (Make_f (by simpa [partsL] using hris) (by simpa using hl)) (Ev.eq (Ev.now _) ?_)
    simp [partsL]
  | r :: t, p, acc, hr, hl, hp, hris => by
    have h1 := hr r List.mem_cons_self
    rw [List.length_cons] at hl
    have b1 : 0 ≤ r.f0 * per := Int.mul_nonneg h1.1 (by omega)
    have b2 : r.f0 * per ≤ 9999 * 12 := Int.mul_le_mul (by omega) hper.2 (by omega) (by omega)
    have b3 : 0 ≤ r.f1 * per := Int.mul_nonneg (by omega) (by omega)
    have b4 : r.f1 * per ≤ 9999 * 12 := Int.mul_le_mul (by omega) hper.2 (by omega) (by omega)
    by_cases hc : (ins.length : Int) = per
    · have e1 : wrap64 (r.f0 * per) = r.f0 * per := w64 (by omega) (by omega)
      have e2 : wrap64 (wrap64 (wrap64 (r.f1 * per) + per) - 1) = r.f1 * per + per - 1 := by simp (disch := omega) only [w64]
      refine Ev.step (f := fun k => point_parts.l0 k per (acc ++ [⟨r.f0 * per, r.f1 * per + per - 1⟩]) ins (p ++ r :: t) ((p ++ r :: t).length : Int) ((p ++ [r]).length : Int)) (fun k => by
        rw [point_parts.l0, if_pos (at_lt p r t), if_pos (at_0 p), if_pos (at_lt p r t), if_pos hc, if_pos (by omega), at_rd, e1, e2, at_next hp]) ?_
      have := parts_l0 per ins hper hin hil t (p ++ [r]) (acc ++ [⟨r.f0 * per, r.f1 * per + per - 1⟩]) (fun q hq => hr q (List.mem_cons_of_mem _ hq)) (by rw [List.length_append, List.length_singleton]; omega) (by rw [← at_app]; exact hp) (by
        unfold partsL at hris ⊢
        rw [List.flatMap_cons, if_pos hc] at hris
        rw [List.append_assoc]; exact hris)
      rw [← at_app, List.append_assoc] at this
      unfold partsL at this ⊢
      rw [List.flatMap_cons, if_pos hc]
      exact this
    · refine Ev.step (f := fun k => point_parts.l1 k per acc ins r.f0 (p ++ r :: t) ((p ++ r :: t).length : Int) (p.length : Int) r.f0 r.f1) (fun k => by
        rw [point_parts.l0, if_pos (at_lt p r t), if_pos (at_0 p), if_pos (at_lt p r t), if_neg hc, at_rd]) ?_
      have hm : (r.f1 + 1 - r.f0).toNat ≤ 10000 := by omega
      refine parts_l1 per ins (p ++ r :: t) (p.length : Int) r.f0 r.f1 hper h1.2.2 hin hil (r.f1 + 1 - r.f0).toNat r.f0 acc h1.1 (by omega) (by omega) ?_
      rw [at_next hp]
      have hlen : (yearsU per ins r).length ≤ 310000 := by
        have := flat_len (fun y => ins.map (unitOf per y)) 31 (numsR r) (fun y _ => by rw [List.length_map]; exact hil)
        unfold yearsU
        have e : (numsR r).length = (r.f1 + 1 - r.f0).toNat := by unfold numsR; rw [upto_len]
        omega
      have := parts_l0 per ins hper hin hil t (p ++ [r]) (acc ++ yearsU per ins r) (fun q hq => hr q (List.mem_cons_of_mem _ hq)) (by rw [List.length_append]; omega) (by rw [← at_app]; exact hp) (by
        unfold partsL at hris ⊢
        rw [List.flatMap_cons, if_neg hc] at hris
        rw [List.append_assoc]; exact hris)
      rw [← at_app, List.append_assoc] at this
      unfold partsL at this ⊢
      rw [List.flatMap_cons, if_neg hc]
      exact this
theorem setV_bounds (s : ByteArray) : ∀ r, r ∈ setV s → 0 ≤ r.f0 ∧ r.f0 ≤ r.f1 ∧ r.f1 ≤ 9999 := fun r hr => by
  unfold setV at hr
  by_cases h : saneL s.data.toList = true
  · rw [if_pos h] at hr
    have := setL_fine s h r hr
    omega
  · rw [if_neg h] at hr; cases hr
theorem asc_le {l : List Int} (h : asc l) : l.Pairwise (· ≤ ·) := List.Pairwise.imp (fun h => Int.le_of_lt h) h
theorem parts_rising {per : Int} (hper : 1 ≤ per) {ins : List Int} (ha : asc ins) (hin : ∀ n, n ∈ ins → 1 ≤ n ∧ n ≤ per) {t : List S71} {a : Int} (hs : saneF a t) : (partsL per ins t).Pairwise (fun x y => x.f0 ≤ y.f0) := by
  unfold partsL
  have hrun : ∀ r x, x ∈ (if (ins.length : Int) = per then [(⟨r.f0 * per, r.f1 * per + per - 1⟩ : S71)] else yearsU per ins r) → r.f0 ≤ r.f1 → r.f0 * per ≤ x.f0 ∧ x.f0 < (r.f1 + 1) * per := fun r x hx hle => by
    by_cases hc : (ins.length : Int) = per
    · rw [if_pos hc] at hx
      obtain rfl := List.mem_singleton.1 hx
      have := Int.mul_le_mul_of_nonneg_right (show r.f0 + 1 ≤ r.f1 + 1 by omega) (show 0 ≤ per by omega)
      rw [Int.add_mul, Int.one_mul] at this
      simp only
      omega
    · rw [if_neg hc] at hx
      unfold yearsU at hx
      obtain ⟨y, hy, hx⟩ := List.mem_flatMap.1 hx
      obtain ⟨n, hn, rfl⟩ := List.mem_map.1 hx
      have hy := (upto_mem _ _ _).1 hy
      have hn := hin n hn
      have b1 := Int.mul_le_mul_of_nonneg_right (show r.f0 ≤ y by omega) (show 0 ≤ per by omega)
      have b2 := Int.mul_le_mul_of_nonneg_right (show y + 1 ≤ r.f1 + 1 by omega) (show 0 ≤ per by omega)
      rw [Int.add_mul, Int.one_mul] at b2
      unfold unitOf
      simp only
      omega
  refine List.pairwise_flatMap.2 ⟨fun r hr => ?_, ?_⟩
  · by_cases hc : (ins.length : Int) = per
    · rw [if_pos hc]; exact List.pairwise_singleton _ _
    · rw [if_neg hc]
      unfold yearsU
      refine List.pairwise_flatMap.2 ⟨fun y _ => List.Pairwise.map _ (fun a b hab => by unfold unitOf; simp only; omega) (asc_le ha), List.Pairwise.imp (fun {y z} hyz x hx w hw => ?_) (asc_upto _ _)⟩
      obtain ⟨n, hn, rfl⟩ := List.mem_map.1 hx
      obtain ⟨m, hm, rfl⟩ := List.mem_map.1 hw
      have hn := hin n hn
      have hm := hin m hm
      have b2 := Int.mul_le_mul_of_nonneg_right (show y + 1 ≤ z by omega) (show 0 ≤ per by omega)
      rw [Int.add_mul, Int.one_mul] at b2
      unfold unitOf
      simp only
      omega
  · have key : ∀ {t : List S71} {a : Int}, saneF a t → t.Pairwise (fun x y => x.f0 ≤ x.f1 ∧ x.f1 + 1 ≤ y.f0 ∧ y.f0 ≤ y.f1) := by
      intro t
      induction t with
      | nil => intro a _; exact List.Pairwise.nil
      | cons r t ih =>
        intro a h
        exact List.pairwise_cons.2 ⟨fun x hx => by have h1 := h.2.1; have h2 := saneF_all h.2.2.2 x hx; omega, ih h.2.2.2⟩
    refine List.Pairwise.imp (fun {r q} hrq x hx y hy => ?_) (key hs)
    have h1 := (hrun r x hx hrq.1).2
    have h2 := (hrun q y hy hrq.2.2).1
    have b2 := Int.mul_le_mul_of_nonneg_right (show r.f1 + 1 ≤ q.f0 by omega) (show 0 ≤ per by omega)
    omega
def partsV (per : Nat) (p : S23) : List S71 := norm (partsL per (numV p.f2.data.toList per) (setV p.f1))
theorem parts_f (p : S23) (per : Nat) (hper : 1 ≤ per ∧ per ≤ 12) : Ev (fun k => point_parts.f k p.f0 p.f1 p.f2 p.f3 (per : Int)) (partsV per p) := by
  unfold point_parts.f
  refine Ev.bind (numbers_is p.f2 per (by omega)) (Ev.bnow (x := setV p.f1) rfl ?_)
  have hs := setV_is p.f1
  have h := parts_l0 (per : Int) (numV p.f2.data.toList per) (by omega) (fun n hn => by have := (numV_mem _ _ _).1 hn; omega) (by have := numV_len p.f2.data.toList per; omega) (setV p.f1) [] [] (setV_bounds p.f1) (by simp; omega) (by simp; omega) (pair_rising (parts_rising (by omega) (numV_asc _ _) (fun n hn => by have := (numV_mem _ _ _).1 hn; omega) hs.1))
  unfold partsV
  simpa using h
theorem parts_mem (per : Nat) (hper : 1 ≤ per ∧ per ≤ 12) (p : S23) (n : Int) : mem (partsV per p) n ↔ 0 ≤ n ∧ n < 10000 * per ∧ refV p.f1.data.toList (n / per) = true ∧ refV p.f2.data.toList (n % per + 1) = true := by
  have hp : (0 : Int) < per := by omega
  have hs := setV_is p.f1
  have hm0 := Int.emod_nonneg n (show (per : Int) ≠ 0 by omega)
  have hm1 := Int.emod_lt_of_pos n hp
  have hdm := Int.mul_ediv_add_emod n per
  have huniq : ∀ y k : Int, 1 ≤ k → k ≤ per → (n = y * per + k - 1 ↔ y = n / per ∧ k = n % per + 1) := fun y k h1 h2 => by
    constructor
    · intro h
      have e1 : n / per = y := by
        rw [h, show y * (per : Int) + k - 1 = (k - 1) + y * per by omega, Int.add_mul_ediv_right _ _ (by omega), Int.ediv_eq_zero_of_lt (by omega) (by omega)]; omega
      have e2 : n % per = k - 1 := by
        rw [h, show y * (per : Int) + k - 1 = (k - 1) + y * per by omega, Int.add_mul_emod_self_right, Int.emod_eq_of_lt (by omega) (by omega)]
      exact ⟨e1.symm, by omega⟩
    · rintro ⟨rfl, rfl⟩
      rw [Int.mul_comm (n / per) per]; omega
  have hkey : mem (partsL per (numV p.f2.data.toList per) (setV p.f1)) n ↔ mem (setV p.f1) (n / per) ∧ refV p.f2.data.toList (n % per + 1) = true := by
    unfold partsL
    constructor
    · rintro ⟨q, hq, h1, h2⟩
      obtain ⟨r, hr, hq⟩ := List.mem_flatMap.1 hq
      by_cases hc : ((numV p.f2.data.toList per).length : Int) = per
      · rw [if_pos hc] at hq
        obtain rfl := List.mem_singleton.1 hq
        simp only at h1 h2
        refine ⟨⟨r, hr, ?_, ?_⟩, (numV_full p.f2.data.toList per).1 (by omega) _ (by omega) (by omega)⟩
        · exact (Int.le_ediv_iff_mul_le hp).2 h1
        · have : n < (r.f1 + 1) * per := by
            have e := Int.add_mul r.f1 1 (per : Int)
            rw [Int.one_mul] at e
            omega
          have := (Int.ediv_lt_iff_lt_mul hp).2 this
          omega
      · rw [if_neg hc] at hq
        unfold yearsU at hq
        obtain ⟨y, hy, hq⟩ := List.mem_flatMap.1 hq
        obtain ⟨k, hk, rfl⟩ := List.mem_map.1 hq
        unfold unitOf at h1 h2
        simp only at h1 h2
        have hk' := (numV_mem _ _ _).1 hk
        obtain ⟨e1, e2⟩ := (huniq y k hk'.1 hk'.2.1).1 (by omega)
        have hy' := (upto_mem _ _ _).1 hy
        rw [← e1, ← e2]
        exact ⟨⟨r, hr, by omega, by omega⟩, hk'.2.2⟩
    · rintro ⟨⟨r, hr, h1, h2⟩, h3⟩
      by_cases hc : ((numV p.f2.data.toList per).length : Int) = per
      · refine ⟨⟨r.f0 * per, r.f1 * per + per - 1⟩, List.mem_flatMap.2 ⟨r, hr, by rw [if_pos hc]; exact List.mem_singleton.2 rfl⟩, ?_, ?_⟩
        · exact (Int.le_ediv_iff_mul_le hp).1 h1
        · have : n < (r.f1 + 1) * per := (Int.ediv_lt_iff_lt_mul hp).1 (by omega)
          rw [Int.add_mul] at this
          simp only
          omega
      · refine ⟨unitOf per (n / per) (n % per + 1), List.mem_flatMap.2 ⟨r, hr, ?_⟩, ?_, ?_⟩
        · rw [if_neg hc]
          exact List.mem_flatMap.2 ⟨n / per, (upto_mem _ _ _).2 ⟨h1, by omega⟩, List.mem_map.2 ⟨n % per + 1, (numV_mem _ _ _).2 ⟨by omega, by omega, h3⟩, rfl⟩⟩
        · have := (huniq (n / per) (n % per + 1) (by omega) (by omega)).2 ⟨rfl, rfl⟩
          unfold unitOf; simp only; omega
        · have := (huniq (n / per) (n % per + 1) (by omega) (by omega)).2 ⟨rfl, rfl⟩
          unfold unitOf; simp only; omega
  unfold partsV
  rw [norm_mem, hkey, hs.2.2]
  have hr : ∀ y, refV p.f1.data.toList y = true → 0 ≤ y ∧ y < 10000 := fun y hy => by
    obtain ⟨r, hr, a, b⟩ := (hs.2.2 y).2 hy
    have := setV_bounds p.f1 r hr
    omega
  constructor
  · rintro ⟨_, _, a, b⟩
    have := hr _ a
    have l1 := (Int.le_ediv_iff_mul_le hp).1 this.1
    have l2 := (Int.ediv_lt_iff_lt_mul hp).1 this.2
    exact ⟨by omega, l2, a, b⟩
  · rintro ⟨a, b, c, d⟩
    unfold lim
    exact ⟨by omega, by omega, c, d⟩
def dayOf (y m d : Int) : S71 := ⟨numD y m 1 + d - 1, numD y m 1 + d - 1⟩
def monthL (y : Int) (ds : List Int) (m : Int) : List S71 := (ds.filter fun d => decide (d ≤ dim y m)).map (dayOf y m)
def daysL (y : Int) (ms ds : List Int) : List S71 := ms.flatMap (monthL y ds)
theorem num1_range {y m : Int} (hy : 0 ≤ y ∧ y ≤ 9999) (hm : 1 ≤ m ∧ m ≤ 12) : 0 ≤ numD y m 1 ∧ numD y m 1 ≤ 3652424 :=
  num_range hy.1 hy.2 hm.1 hm.2 (by omega) (by have := (dim_pos (y := y) hm.1 hm.2).1; omega)
theorem days_l1 (y m : Int) (ds0 ms : List Int) (len i : Int) (hy : 0 ≤ y ∧ y ≤ 9999) (hm : 1 ≤ m ∧ m ≤ 12) {R : List S71} : ∀ (u q : List Int) (acc : List S71), (∀ d, d ∈ u → 1 ≤ d ∧ d ≤ 31) → (q ++ u).length ≤ 4611686018427387904 → acc.length + u.length < 8796093022208 →
    Ev (fun k => point_days.l0 k y ds0 (acc ++ monthL y u m) ms len (wrap64 (i + 1))) R → Ev (fun k => point_days.l1 k y ds0 acc m (numD y m 1) ms len i (q ++ u) ((q ++ u).length : Int) (q.length : Int)) R
  | [], q, acc, _, _, _, h => by
    refine Ev.step (f := fun k => point_days.l0 k y ds0 acc ms len (wrap64 (i + 1))) (fun k => by rw [point_days.l1, if_neg (at_end q)]) ?_
    simpa [monthL] using h
  | d :: u, q, acc, hu, hq, hl, h => by
    have hd := hu d List.mem_cons_self
    rw [List.length_cons] at hl
    have hr := num1_range hy hm
    have e : wrap64 (wrap64 (numD y m 1 + d) - 1) = numD y m 1 + d - 1 := by simp (disch := omega) only [w64]
    by_cases hc : d ≤ dim y m
    · refine Ev.step (f := fun k => point_days.l1 k y ds0 (acc ++ [dayOf y m d]) m (numD y m 1) ms len i (q ++ d :: u) ((q ++ d :: u).length : Int) ((q ++ [d]).length : Int)) (fun k => by
        rw [point_days.l1, if_pos (at_lt q d u), if_pos (at_0 q), if_pos (at_lt q d u), Days_f hy.1, Option.bind_some, at_rdi, if_pos hc, if_pos (by omega), e, at_next hq]; rfl) ?_
      have := days_l1 y m ds0 ms len i hy hm u (q ++ [d]) (acc ++ [dayOf y m d]) (fun x hx => hu x (List.mem_cons_of_mem _ hx)) (by rw [← at_app]; exact hq) (by rw [List.length_append, List.length_singleton]; omega) (R := R) (by
        rw [List.append_assoc, List.singleton_append]
        unfold monthL at h ⊢
        rw [List.filter_cons_of_pos (by simpa using hc), List.map_cons] at h
        exact h)
      rw [← at_app] at this
      exact this
    · refine Ev.step (f := fun k => point_days.l1 k y ds0 acc m (numD y m 1) ms len i (q ++ d :: u) ((q ++ d :: u).length : Int) ((q ++ [d]).length : Int)) (fun k => by
        rw [point_days.l1, if_pos (at_lt q d u), if_pos (at_0 q), if_pos (at_lt q d u), Days_f hy.1, Option.bind_some, at_rdi, if_neg hc, at_next hq]) ?_
      have := days_l1 y m ds0 ms len i hy hm u (q ++ [d]) acc (fun x hx => hu x (List.mem_cons_of_mem _ hx)) (by rw [← at_app]; exact hq) (by omega) (R := R) (by
        unfold monthL at h ⊢
        rw [List.filter_cons_of_neg (by simpa using hc)] at h
        exact h)
      rw [← at_app] at this
      exact this
theorem monthL_len (y m : Int) (ds : List Int) : (monthL y ds m).length ≤ ds.length := by
  unfold monthL; rw [List.length_map]; exact List.length_filter_le _ _
theorem daysL_len (y : Int) (ms ds : List Int) : (daysL y ms ds).length ≤ ms.length * ds.length := flat_len _ _ _ fun m _ => monthL_len y m ds
theorem month_step {y m : Int} (h1 : 1 ≤ m) (h2 : m ≤ 11) : numD y (m + 1) 1 = numD y m 1 + dim y m := by
  have s := pY_step (y - 1)
  unfold yl at s
  rw [show y - 1 + 1 = y by omega] at s
  rcases m_cases h1 (by omega) with rfl | rfl | rfl | rfl | rfl | rfl | rfl | rfl | rfl | rfl | rfl | rfl <;> first | omega | (unfold numD mD dim mlen; simp; done) | (unfold numD mD dim mlen; simp; omega) | (unfold numD mD dim mlen; cases hL : leapY y <;> simp [hL] at s ⊢ <;> omega)
theorem month_mono {y : Int} : ∀ (n : Nat) (m : Int), 1 ≤ m → m + n ≤ 12 → numD y m 1 ≤ numD y (m + n) 1
  | 0, m, _, _ => by simp
  | n + 1, m, h1, h2 => by
    have a := month_mono (y := y) n m h1 (by omega)
    have b := month_step (y := y) (m := m + n) (by omega) (by omega)
    have c := (dim_pos (y := y) (m := m + n) (by omega) (by omega)).1
    have e : m + ((n + 1 : Nat) : Int) = m + n + 1 := by omega
    rw [e]; omega
theorem month_le {y m m' : Int} (h1 : 1 ≤ m) (h : m ≤ m') (h2 : m' ≤ 12) : numD y m 1 ≤ numD y m' 1 := by
  have := month_mono (y := y) (m' - m).toNat m h1 (by omega)
  rwa [show m + ((m' - m).toNat : Int) = m' by omega] at this
theorem days_rising {y : Int} {ms ds : List Int} (hm : ∀ m, m ∈ ms → 1 ≤ m ∧ m ≤ 12) (hma : asc ms) (hda : asc ds) (hde : ∀ d, d ∈ ds → 1 ≤ d) : (daysL y ms ds).Pairwise (fun a b => a.f0 ≤ b.f0) := by
  unfold daysL
  refine List.pairwise_flatMap.2 ⟨fun m _ => List.Pairwise.map _ (fun a b hab => by unfold dayOf; simp only; omega) ((asc_le hda).filter _), ?_⟩
  have key : ∀ {l : List Int}, asc l → (∀ m, m ∈ l → 1 ≤ m ∧ m ≤ 12) → l.Pairwise (fun a b => 1 ≤ a ∧ a < b ∧ b ≤ 12) := by
    intro l
    induction l with
    | nil => intro _ _; exact List.Pairwise.nil
    | cons x t ih =>
      intro h hb
      have h' := List.pairwise_cons.1 h
      exact List.pairwise_cons.2 ⟨fun z hz => ⟨(hb x List.mem_cons_self).1, h'.1 z hz, (hb z (List.mem_cons_of_mem _ hz)).2⟩, ih h'.2 fun m hm => hb m (List.mem_cons_of_mem _ hm)⟩
  refine List.Pairwise.imp (fun {m m'} hmm x hx z hz => ?_) (key hma hm)
  unfold monthL at hx hz
  obtain ⟨d, hd, rfl⟩ := List.mem_map.1 hx
  obtain ⟨e, he, rfl⟩ := List.mem_map.1 hz
  have hd := of_decide_eq_true (List.mem_filter.1 hd).2
  have s := month_step (y := y) (m := m) hmm.1 (by omega)
  have l := month_le (y := y) (m := m + 1) (m' := m') (by omega) (by omega) hmm.2.2
  unfold dayOf
  simp only
  have he1 : 1 ≤ e := hde e (List.mem_filter.1 he).1
  omega
theorem days_l0 (y : Int) (ds : List Int) (hy : 0 ≤ y ∧ y ≤ 9999) (hd : ∀ d, d ∈ ds → 1 ≤ d ∧ d ≤ 31) (hdl : ds.length ≤ 31) : ∀ (t p : List Int) (acc : List S71), (∀ m, m ∈ t → 1 ≤ m ∧ m ≤ 12) → (p ++ t).length ≤ 4611686018427387904 → acc.length + 31 * t.length < 4398046511104 → risingLo (acc ++ daysL y t ds) = true →
    Ev (fun k => point_days.l0 k y ds acc (p ++ t) ((p ++ t).length : Int) (p.length : Int)) (norm (acc ++ daysL y t ds))
  | [], p, acc, _, _, hl, hris => by
    refine Ev.step (f := fun k => (runs_Make.f acc).bind fun t => some t) (fun k => by rw [point_days.l0, if_neg (at_end p)]) ?_
    refine Ev.bind (Make_f (by simpa [daysL] using hris) (by simpa using hl)) (Ev.eq (Ev.now _) ?_)
    simp [daysL]
  | m :: t, p, acc, ht, hp, hl, hris => by
    have hm := ht m List.mem_cons_self
    rw [List.length_cons] at hl
    refine Ev.step (f := fun k => point_days.l1 k y ds acc m (numD y m 1) (p ++ m :: t) ((p ++ m :: t).length : Int) (p.length : Int) ds (ds.length : Int) 0) (fun k => by
      rw [point_days.l0, if_pos (at_lt p m t), if_pos (at_0 p), if_pos (at_lt p m t), at_rdi, Number_f hy.1 hy.2 hm.1 hm.2]; rfl) ?_
    refine days_l1 y m ds (p ++ m :: t) ((p ++ m :: t).length : Int) (p.length : Int) hy hm ds [] acc hd (by simp; omega) (by omega) ?_
    rw [at_next hp]
    have hml := monthL_len y m ds
    have := days_l0 y ds hy hd hdl t (p ++ [m]) (acc ++ monthL y ds m) (fun x hx => ht x (List.mem_cons_of_mem _ hx)) (by rw [← at_app]; exact hp) (by rw [List.length_append]; omega) (by
      unfold daysL at hris ⊢
      rw [List.flatMap_cons] at hris
      rw [List.append_assoc]; exact hris)
    rw [← at_app, List.append_assoc] at this
    unfold daysL at this ⊢
    rw [List.flatMap_cons]
    exact this
theorem days_f (y : Int) (ms ds : List Int) (hy : 0 ≤ y ∧ y ≤ 9999) (hm : ∀ m, m ∈ ms → 1 ≤ m ∧ m ≤ 12) (hml : ms.length ≤ 12) (hd : ∀ d, d ∈ ds → 1 ≤ d ∧ d ≤ 31) (hdl : ds.length ≤ 31) (hma : asc ms) (hda : asc ds) : Ev (fun k => point_days.f k y ms ds) (norm (daysL y ms ds)) := by
  have := days_l0 y ds hy hd hdl ms [] [] hm (by simp; omega) (by simp; omega) (pair_rising (days_rising hm hma hda fun d h => (hd d h).1))
  unfold point_days.f
  simpa using this
theorem mem_days {y : Int} {ms ds : List Int} (hm : ∀ m, m ∈ ms → 1 ≤ m ∧ m ≤ 12) (hd : ∀ d, d ∈ ds → 1 ≤ d ∧ d ≤ 31) (n : Int) : mem (daysL y ms ds) n ↔ (dateD n).1 = y ∧ (dateD n).2.1 ∈ ms ∧ (dateD n).2.2 ∈ ds := by
  unfold daysL
  constructor
  · rintro ⟨q, hq, h1, h2⟩
    obtain ⟨m, hmm, hq⟩ := List.mem_flatMap.1 hq
    unfold monthL at hq
    obtain ⟨d, hdd, rfl⟩ := List.mem_map.1 hq
    obtain ⟨hdd, hc⟩ := List.mem_filter.1 hdd
    have hc := of_decide_eq_true hc
    unfold dayOf at h1 h2
    simp only at h1 h2
    have e : n = numD y m d := by rw [← num_add]; omega
    rw [e, num_date (hm m hmm).1 (hm m hmm).2 (hd d hdd).1 hc]
    exact ⟨rfl, hmm, hdd⟩
  · rintro ⟨rfl, h1, h2⟩
    obtain ⟨e, a, b, c, d⟩ := date_num n
    refine ⟨dayOf (dateD n).1 (dateD n).2.1 (dateD n).2.2, List.mem_flatMap.2 ⟨_, h1, List.mem_map.2 ⟨_, List.mem_filter.2 ⟨h2, decide_eq_true d⟩, rfl⟩⟩, ?_, ?_⟩ <;> unfold dayOf <;> simp only <;> rw [num_add, e] <;> exact Int.le_refl _
theorem day_in {y : Int} {ms ds : List Int} (hy : 0 ≤ y ∧ y ≤ 9999) {n : Int} (h : (dateD n).1 = y) : 0 ≤ n ∧ n ≤ 3652424 ∧ numD y 1 1 ≤ n ∧ n < numD (y + 1) 1 1 := by
  obtain ⟨e, a, b, c, d⟩ := date_num n
  have hy1 := num_year a b c d
  have hr := num_range (by rw [h]; exact hy.1) (by rw [h]; exact hy.2) a b c d
  rw [e] at hy1 hr
  rw [h] at hy1
  exact ⟨hr.1, hr.2, hy1.1, hy1.2⟩
def Res (ms ds : List Int) (acc : List S71) (ys : List Int) (s : List S71) : Prop :=
  sane s ∧ (∀ n, mem s n → mem acc n ∨ ∃ y, y ∈ ys ∧ mem (daysL y ms ds) n) ∧
    ((∀ n, (mem acc n ∨ ∃ y, y ∈ ys ∧ mem (daysL y ms ds) n) → mem s n) ∨ (400 < s.length ∧ ∀ n, (mem acc n ∨ ∃ y, y ∈ ys ∧ mem (daysL y ms ds) n) → ¬ mem s n → ∀ x, mem s x → x < n))
theorem Res.of {ms ds : List Int} {acc acc' : List S71} {y : Int} {ys : List Int} {s : List S71} (h : Res ms ds acc' ys s) (e : ∀ n, mem acc' n ↔ mem acc n ∨ mem (daysL y ms ds) n) : Res ms ds acc (y :: ys) s := by
  have e2 : ∀ n, (mem acc' n ∨ ∃ y, y ∈ ys ∧ mem (daysL y ms ds) n) ↔ (mem acc n ∨ ∃ z, z ∈ y :: ys ∧ mem (daysL z ms ds) n) := fun n => by
    rw [e]
    constructor
    · rintro ((h | h) | ⟨z, hz, h⟩)
      · exact .inl h
      · exact .inr ⟨y, List.mem_cons_self, h⟩
      · exact .inr ⟨z, List.mem_cons_of_mem _ hz, h⟩
    · rintro (h | ⟨z, hz, h⟩)
      · exact .inl (.inl h)
      · rcases List.mem_cons.1 hz with rfl | hz
        · exact .inl (.inr h)
        · exact .inr ⟨z, hz, h⟩
  obtain ⟨h1, h2, h3⟩ := h
  refine ⟨h1, fun n hn => (e2 n).1 (h2 n hn), ?_⟩
  rcases h3 with h3 | ⟨h3, h4⟩
  · exact .inl fun n hn => h3 n ((e2 n).2 hn)
  · exact .inr ⟨h3, fun n hn => h4 n ((e2 n).2 hn)⟩
def rise (acc : List S71) : Prop := acc.Pairwise (fun a b => a.f0 ≤ b.f0) ∧ ∀ r, r ∈ acc → r.f0 ≤ r.f1
theorem rise_sane {s : List S71} (hs : sane s) : rise s := ⟨sane_pair hs, fun r hr => (saneF_all hs r hr).2.1⟩
def okAcc (acc : List S71) (ys : List Int) : Prop := (acc.length ≤ 1200 ∧ rise acc) ∧ ∀ n, mem acc n → 0 ≤ n ∧ n ≤ 3652424 ∧ ∀ y, y ∈ ys → n < numD y 1 1
theorem dated_l1 (ms ds : List Int) (hm : ∀ m, m ∈ ms → 1 ≤ m ∧ m ≤ 12) (hml : ms.length ≤ 12) (hd : ∀ d, d ∈ ds → 1 ≤ d ∧ d ≤ 31) (hdl : ds.length ≤ 31) (hma : asc ms) (hda : asc ds) (s : List S71) (i lo hi : Int) (hi9 : hi ≤ 9999) (rest : List Int) : ∀ (m : Nat) (y : Int) (acc : List S71), 0 ≤ y → y + m = hi + 1 ∨ (m = 0 ∧ hi < y) → asc (upto y m ++ rest) → okAcc acc (upto y m ++ rest) →
    (∀ acc', okAcc acc' rest → ∃ r, Ev (fun k => point_dated.l0 k ms ds acc' s (s.length : Int) (wrap64 (i + 1))) r ∧ Res ms ds acc' rest r) →
    ∃ r, Ev (fun k => point_dated.l1 k ms ds acc y s (s.length : Int) i lo hi) r ∧ Res ms ds acc (upto y m ++ rest) r
  | 0, y, acc, h0, hy, ha, hk, h => by
    obtain ⟨r, h1, h2⟩ := h acc hk
    exact ⟨r, Ev.step (f := fun k => point_dated.l0 k ms ds acc s (s.length : Int) (wrap64 (i + 1))) (fun k => by rw [point_dated.l1, if_neg (by omega)]) h1, h2⟩
  | m + 1, y, acc, h0, hy, ha, ⟨⟨hk1, hkr⟩, hk2⟩, h => by
    have hy9 : 0 ≤ y ∧ y ≤ 9999 := by omega
    have hasc := List.pairwise_cons.1 (show (y :: (upto (y + 1) m ++ rest)).Pairwise (· < ·) from ha)
    have hday := days_f y ms ds hy9 hm hml hd hdl hma hda
    have hlen : (norm (daysL y ms ds)).length ≤ 372 := by
      have a := norm_len (daysL y ms ds)
      have b := daysL_len y ms ds
      have c : ms.length * ds.length ≤ 12 * 31 := Nat.mul_le_mul hml hdl
      omega
    have hmd : ∀ n, mem (norm (daysL y ms ds)) n ↔ mem (daysL y ms ds) n := fun n => by
      rw [norm_mem]
      constructor
      · exact fun h => h.2.2
      · intro h
        have := day_in (ms := ms) (ds := ds) hy9 ((mem_days hm hd n).1 h).1
        unfold lim
        exact ⟨by omega, by omega, h⟩
    have he : ∀ n, mem (acc ++ norm (daysL y ms ds)) n ↔ mem acc n ∨ mem (daysL y ms ds) n := fun n => by rw [mem_append, hmd]
    have hin : ∀ n, mem acc n ∨ mem (daysL y ms ds) n → 0 ≤ n ∧ n ≤ 3652424 ∧ ∀ z, z ∈ upto (y + 1) m ++ rest → n < numD z 1 1 := fun n hn => by
      rcases hn with hn | hn
      · have := hk2 n hn
        exact ⟨this.1, this.2.1, fun z hz => this.2.2 z (List.mem_cons_of_mem y hz)⟩
      · have hb := day_in (ms := ms) (ds := ds) hy9 ((mem_days hm hd n).1 hn).1
        exact ⟨hb.1, hb.2.1, fun z hz => by have := numY_mono (x := y + 1) (y := z) (by have := hasc.1 z hz; omega); omega⟩
    have hnorm : ∀ n, mem (norm (acc ++ norm (daysL y ms ds))) n ↔ mem acc n ∨ mem (daysL y ms ds) n := fun n => by
      rw [norm_mem, he]
      constructor
      · exact fun h => h.2.2
      · intro h
        have := hin n h
        unfold lim
        exact ⟨by omega, by omega, h⟩
    have hrise : rise (acc ++ norm (daysL y ms ds)) := ⟨List.pairwise_append.2 ⟨hkr.1, (rise_sane (norm_sane _)).1, fun x hx z hz => by
        have h1 := (hk2 x.f0 ⟨x, hx, Int.le_refl _, hkr.2 x hx⟩).2.2 y List.mem_cons_self
        have h2 := (hmd z.f0).1 ⟨z, hz, Int.le_refl _, (rise_sane (norm_sane _)).2 z hz⟩
        have h3 := day_in (ms := ms) (ds := ds) hy9 ((mem_days hm hd _).1 h2).1
        omega⟩, fun r hr => by
        rcases List.mem_append.1 hr with hr | hr
        · exact hkr.2 r hr
        · exact (rise_sane (norm_sane _)).2 r hr⟩
    have hnext : ∀ acc', (∀ n, mem acc' n ↔ mem acc n ∨ mem (daysL y ms ds) n) → acc'.length ≤ 1200 → rise acc' → ∃ r, Ev (fun k => point_dated.l1 k ms ds acc' (wrap64 (y + 1)) s (s.length : Int) i lo hi) r ∧ Res ms ds acc (upto y (m + 1) ++ rest) r := fun acc' e hl hra => by
      rw [w64 (x := y + 1) (by omega) (by omega)]
      obtain ⟨r, h1, h2⟩ := dated_l1 ms ds hm hml hd hdl hma hda s i lo hi hi9 rest m (y + 1) acc' (by omega) (by omega) hasc.2 ⟨⟨hl, hra⟩, fun n hn => hin n ((e n).1 hn)⟩ h
      exact ⟨r, h1, h2.of e⟩
    have hstep : ∀ k, point_dated.l1 (k + 1) ms ds acc y s (s.length : Int) i lo hi = (point_days.f k y ms ds).bind fun t119 => (if acc.length + t119.length < 8796093022208 then ((some (acc ++ t119 : List S71)).bind fun y122 => (if (y122.length : Int) > 1200 then ((runs_Make.f y122).bind fun t125 => ((sets_Wide.f k t125).bind fun t128 => (if t128 = true then (some t125) else (point_dated.l1 k ms ds t125 (wrap64 (y + 1)) s (s.length : Int) i lo hi)))) else (point_dated.l1 k ms ds y122 (wrap64 (y + 1)) s (s.length : Int) i lo hi))) else (none)) := fun k => by
      rw [point_dated.l1, if_pos (by omega)]
    have hlen2 : (acc ++ norm (daysL y ms ds)).length ≤ 1572 := by rw [List.length_append]; omega
    by_cases hw : ((acc ++ norm (daysL y ms ds)).length : Int) > 1200
    · have hmk := Make_f (l := acc ++ norm (daysL y ms ds)) (pair_rising hrise.1) (by omega)
      have hln := norm_len (acc ++ norm (daysL y ms ds))
      have hwd := Wide_f (norm_sane (acc ++ norm (daysL y ms ds))) (by omega)
      rw [norm_idem] at hwd
      by_cases hz : ((norm (acc ++ norm (daysL y ms ds))).length : Int) > 400
      · rw [decide_eq_true hz] at hwd
        refine ⟨norm (acc ++ norm (daysL y ms ds)), Ev.step (fun k => hstep k) (Ev.bind hday (Ev.ift (by omega) (Ev.bnow (x := acc ++ norm (daysL y ms ds)) rfl (Ev.ift hw (Ev.bind hmk (Ev.bind hwd (Ev.ift rfl (Ev.now _)))))))), norm_sane _, fun n hn => ?_, .inr ⟨by omega, fun n hn hno x hx => ?_⟩⟩
        · rcases (hnorm n).1 hn with h | h
          · exact .inl h
          · exact .inr ⟨y, List.mem_cons_self, h⟩
        · have hx' := hin x ((hnorm x).1 hx)
          rcases hn with hn | ⟨z, hz, hn⟩
          · exact absurd ((hnorm n).2 (.inl hn)) hno
          · rcases List.mem_cons.1 (show z ∈ y :: (upto (y + 1) m ++ rest) from hz) with rfl | hz
            · exact absurd ((hnorm n).2 (.inr hn)) hno
            · have h1 := hx'.2.2 z hz
              obtain ⟨e, a, b, c, d⟩ := date_num n
              have h2 := num_year a b c d
              rw [e, ((mem_days hm hd n).1 hn).1] at h2
              omega
      · rw [decide_eq_false hz] at hwd
        obtain ⟨r, h1, h2⟩ := hnext (norm (acc ++ norm (daysL y ms ds))) hnorm (by omega) (rise_sane (norm_sane _))
        exact ⟨r, Ev.step (fun k => hstep k) (Ev.bind hday (Ev.ift (by omega) (Ev.bnow (x := acc ++ norm (daysL y ms ds)) rfl (Ev.ift hw (Ev.bind hmk (Ev.bind hwd (Ev.iff_ (by simp) h1))))))), h2⟩
    · obtain ⟨r, h1, h2⟩ := hnext (acc ++ norm (daysL y ms ds)) he (by omega) hrise
      exact ⟨r, Ev.step (fun k => hstep k) (Ev.bind hday (Ev.ift (by omega) (Ev.bnow (x := acc ++ norm (daysL y ms ds)) rfl (Ev.iff_ hw h1)))), h2⟩
theorem dated_l0 (ms ds : List Int) (hm : ∀ m, m ∈ ms → 1 ≤ m ∧ m ≤ 12) (hml : ms.length ≤ 12) (hd : ∀ d, d ∈ ds → 1 ≤ d ∧ d ≤ 31) (hdl : ds.length ≤ 31) (hma : asc ms) (hda : asc ds) : ∀ (t p acc : List S71) (a : Int), (∀ r, r ∈ t → 0 ≤ r.f0 ∧ r.f0 ≤ r.f1 ∧ r.f1 ≤ 9999) → saneF a t → (p ++ t).length ≤ 4611686018427387904 → okAcc acc (t.flatMap numsR) →
    ∃ r, Ev (fun k => point_dated.l0 k ms ds acc (p ++ t) ((p ++ t).length : Int) (p.length : Int)) r ∧ Res ms ds acc (t.flatMap numsR) r
  | [], p, acc, a, _, _, _, ⟨⟨hk1, hkr⟩, hk2⟩ => by
    refine ⟨norm acc, Ev.step (f := fun k => (runs_Make.f acc).bind fun t => some t) (fun k => by rw [point_dated.l0, if_neg (at_end p)]) (Ev.bind (Make_f (pair_rising hkr.1) (by omega)) (Ev.now _)), norm_sane _, fun n hn => .inl ((norm_mem _ _).1 hn).2.2, .inl fun n hn => ?_⟩
    rcases hn with hn | ⟨y, hy, _⟩
    · have := hk2 n hn
      rw [norm_mem]; unfold lim
      exact ⟨by omega, by omega, hn⟩
    · simp at hy
  | r :: t, p, acc, a, hr, hs, hp, hk => by
    have h1 := hr r List.mem_cons_self
    have hasc : asc (upto r.f0 (r.f1 + 1 - r.f0).toNat ++ t.flatMap numsR) := asc_nums hs
    obtain ⟨q, h2, h3⟩ := dated_l1 ms ds hm hml hd hdl hma hda (p ++ r :: t) (p.length : Int) r.f0 r.f1 h1.2.2 (t.flatMap numsR) (r.f1 + 1 - r.f0).toNat r.f0 acc h1.1 (by omega) hasc hk (fun acc' hk' => by
      rw [at_next hp]
      have := dated_l0 ms ds hm hml hd hdl hma hda t (p ++ [r]) acc' _ (fun q hq => hr q (List.mem_cons_of_mem _ hq)) hs.2.2.2 (by rw [← at_app]; exact hp) hk'
      rw [← at_app] at this
      exact this)
    exact ⟨q, Ev.step (f := fun k => point_dated.l1 k ms ds acc r.f0 (p ++ r :: t) ((p ++ r :: t).length : Int) (p.length : Int) r.f0 r.f1) (fun k => by
      rw [point_dated.l0, if_pos (at_lt p r t), if_pos (at_0 p), if_pos (at_lt p r t), at_rd]) h2, h3⟩
theorem kcount_pos (k : Nat) : 100 ≤ kcount k ∧ kcount k ≤ 3652425 := by unfold kcount; split <;> omega
theorem kind_cases {kind : Int} (h : kindOk kind) : 0 ≤ kind ∧ kind ≤ 5 := by unfold kindOk at h; omega
theorem units_f {kind : Int} (hk : kindOk kind) {s : List S71} (hs : sane s) (hb : ∀ n, mem s n → 0 ≤ n ∧ n < kcount kind.toNat) (hl : s.length < 4398046511100) : Ev (fun k => image_units.f k kind s) s := by
  have hc : unit_Count.f kind = some (kcount kind.toNat) := by unfold unit_Count.f unit_Count.fv; rw [if_pos hk]
  have hp := kcount_pos kind.toNat
  obtain ⟨m, h1, h2, _⟩ := Clip_f hs 0 (kcount kind.toNat - 1) (by unfold lim; omega) (by omega) (by unfold lim; omega) hl
  have e : m = s := h2.eq (isSet_self hs) fun n _ _ => ⟨fun h => h.1, fun h => ⟨h, by have := hb n h; omega⟩⟩
  rw [e] at h1
  unfold image_units.f
  refine Ev.bnow hc ?_
  rw [w64 (by omega) (by omega)]
  exact Ev.bind h1 (Ev.now _)
def yrun (r : S71) : S71 := ⟨numD r.f0 1 1, numD (r.f1 + 1) 1 1 - 1⟩
theorem Cover_l0 : ∀ (t p acc : List S71), (∀ r, r ∈ t → 0 ≤ r.f0 ∧ r.f0 ≤ r.f1 ∧ r.f1 ≤ 9999) → (p ++ t).length ≤ 4611686018427387904 → acc.length + t.length < 4398046511104 → risingLo (acc ++ t.map yrun) = true →
    Ev (fun k => image_Cover.l0 k 3 acc (p ++ t) ((p ++ t).length : Int) (p.length : Int)) (norm (acc ++ t.map yrun))
  | [], p, acc, _, _, hl, hris => by
    refine Ev.step (f := fun k => (runs_Make.f acc).bind fun t => some t) (fun k => by rw [image_Cover.l0, if_neg (at_end p)]) ?_
    refine Ev.bind (Make_f (by simpa using hris) (by simpa using hl)) (Ev.eq (Ev.now _) ?_)
    simp
  | r :: t, p, acc, hr, hp, hl, hris => by
    have h1 := hr r List.mem_cons_self
    rw [List.length_cons] at hl
    refine Ev.step (f := fun k => image_Cover.l0 k 3 (acc ++ [yrun r]) (p ++ r :: t) ((p ++ r :: t).length : Int) ((p ++ [r]).length : Int)) (fun k => by
      rw [image_Cover.l0, if_pos (at_lt p r t), if_pos (at_0 p), if_pos (at_lt p r t), at_rd, First3 h1.1 (by omega), Option.bind_some, Last3 (by omega) h1.2.2, Option.bind_some, if_pos (by omega), at_next hp]; rfl) ?_
    have := Cover_l0 t (p ++ [r]) (acc ++ [yrun r]) (fun q hq => hr q (List.mem_cons_of_mem _ hq)) (by rw [← at_app]; exact hp) (by rw [List.length_append, List.length_singleton]; omega) (by rw [show (acc ++ [yrun r]) ++ t.map yrun = acc ++ (r :: t).map yrun by simp]; exact hris)
    rw [← at_app, List.append_assoc] at this
    exact this
theorem mem_cover {s : List S71} (hb : ∀ r, r ∈ s → 0 ≤ r.f0 ∧ r.f0 ≤ r.f1 ∧ r.f1 ≤ 9999) (n : Int) : mem (norm (s.map yrun)) n ↔ 0 ≤ n ∧ n ≤ 3652424 ∧ mem s (dateD n).1 := by
  obtain ⟨e, a, b, c, d⟩ := date_num n
  have hy := num_year a b c d
  rw [e] at hy
  rw [norm_mem]
  constructor
  · rintro ⟨_, _, q, hq, h1, h2⟩
    obtain ⟨r, hr, rfl⟩ := List.mem_map.1 hq
    have hbr := hb r hr
    unfold yrun at h1 h2
    simp only at h1 h2
    have m1 := numY_mono (x := 0) (y := r.f0) hbr.1
    have m2 := numY_mono (x := r.f1 + 1) (y := 10000) (by omega)
    rw [numD_0] at m1; rw [numD_end] at m2
    refine ⟨by omega, by omega, r, hr, ?_, ?_⟩
    · apply Classical.byContradiction; intro hc
      have := numY_mono (x := (dateD n).1 + 1) (y := r.f0) (by omega)
      omega
    · apply Classical.byContradiction; intro hc
      have := numY_mono (x := r.f1 + 1) (y := (dateD n).1) (by omega)
      omega
  · rintro ⟨h0, h1, r, hr, h2, h3⟩
    have m1 := numY_mono (x := r.f0) (y := (dateD n).1) h2
    have m2 := numY_mono (x := (dateD n).1 + 1) (y := r.f1 + 1) (by omega)
    refine ⟨by unfold lim; omega, by unfold lim; omega, yrun r, List.mem_map.2 ⟨r, hr, rfl⟩, ?_, ?_⟩ <;> unfold yrun <;> simp only <;> omega
theorem setV_dig (s : ByteArray) (n : Int) (h : refV s.data.toList n = true) : 0 ≤ n ∧ n < ((10 ^ s.data.toList.length : Nat) : Int) := by
  unfold refV at h
  simp only [Bool.and_eq_true, decide_eq_true_eq] at h
  exact ⟨h.1.1.2, h.1.2⟩
theorem setV_year (s : ByteArray) (n : Int) (h : mem (setV s) n) : 0 ≤ n ∧ n ≤ 9999 := by
  obtain ⟨r, hr, a, b⟩ := h
  have := setV_bounds s r hr
  omega
def dayP (p : S23) (n : Int) : Prop := 0 ≤ n ∧ n ≤ 3652424 ∧ refV p.f1.data.toList (dateD n).1 = true ∧ refV p.f2.data.toList (dateD n).2.1 = true ∧ refV p.f3.data.toList (dateD n).2.2 = true
theorem dim_any {y m : Int} : dim y m ≤ 31 := by
  by_cases h : 1 ≤ m ∧ m ≤ 12
  · exact (dim_pos h.1 h.2).2
  · rw [dim_out (by omega)]; omega
theorem dated_f (p : S23) : ∃ s, Ev (fun k => point_dated.f k p.f0 p.f1 p.f2 p.f3) s ∧ sane s ∧ s.length ≤ 4000000 ∧ (∀ n, mem s n → dayP p n) ∧
    ((∀ n, dayP p n → mem s n) ∨ (400 < s.length ∧ ∀ n, dayP p n → ¬ mem s n → ∀ x, mem s x → x < n)) := by
  obtain ⟨hs1, hs2, hs3⟩ := setV_is p.f1
  obtain ⟨ms, hms⟩ : ∃ ms, ms = numV p.f2.data.toList 12 := ⟨_, rfl⟩
  obtain ⟨ds, hds⟩ : ∃ ds, ds = numV p.f3.data.toList 31 := ⟨_, rfl⟩
  have hm : ∀ m, m ∈ ms → 1 ≤ m ∧ m ≤ 12 := fun m h => by rw [hms] at h; have := (numV_mem _ _ _).1 h; omega
  have hd : ∀ d, d ∈ ds → 1 ≤ d ∧ d ≤ 31 := fun m h => by rw [hds] at h; have := (numV_mem _ _ _).1 h; omega
  have hml : ms.length ≤ 12 := by rw [hms]; exact numV_len _ _
  have hdl : ds.length ≤ 31 := by rw [hds]; exact numV_len _ _
  have hsz : ∀ s : List S71, sane s → (∀ n, mem s n → 0 ≤ n ∧ n ≤ 3652424) → s.length ≤ 4000000 := fun s h1 h2 => by
    have key : ∀ (t : List S71) (a : Int), saneF a t → (∀ n, mem t n → n ≤ 3652424) → -2 ≤ a → a ≤ 3652424 → (t.length : Int) ≤ 3652424 - a := fun t => by
      induction t with
      | nil => intro a _ _ _ h; simp; omega
      | cons r t ih =>
        intro a hs hn ha ha2
        have h1 := hn r.f1 ⟨r, List.mem_cons_self, hs.2.1, Int.le_refl _⟩
        have := ih r.f1 hs.2.2.2 (fun n h => hn n ((mem_cons _ _ _).2 (.inr h))) (by have := hs.1; have := hs.2.1; omega) h1
        have h2 := hs.1; have h3 := hs.2.1
        rw [List.length_cons]; omega
    cases s with
    | nil => simp
    | cons r t =>
      have h3 := h2 r.f0 ⟨r, List.mem_cons_self, Int.le_refl _, h1.2.1⟩
      have := key (r :: t) (-2) ⟨by omega, h1.2.1, h1.2.2.1, h1.2.2.2⟩ (fun n h => (h2 n h).2) (by omega) (by omega)
      omega
  have hroad : ∃ s, Ev (fun k => point_dated.l0 k ms ds [] (setV p.f1) ((setV p.f1).length : Int) 0) s ∧ sane s ∧ s.length ≤ 4000000 ∧ (∀ n, mem s n → dayP p n) ∧
      ((∀ n, dayP p n → mem s n) ∨ (400 < s.length ∧ ∀ n, dayP p n → ¬ mem s n → ∀ x, mem s x → x < n)) := by
    obtain ⟨r, h1, h2, h3, h4⟩ := dated_l0 ms ds hm hml hd hdl (by rw [hms]; exact numV_asc _ _) (by rw [hds]; exact numV_asc _ _) (setV p.f1) [] [] _ (setV_bounds p.f1) hs1 (by simp; omega) ⟨⟨by simp, List.Pairwise.nil, fun r hr => absurd hr (by simp)⟩, fun n hn => absurd hn (mem_nil n)⟩
    have e : ∀ n, (mem ([] : List S71) n ∨ ∃ y, y ∈ (setV p.f1).flatMap numsR ∧ mem (daysL y ms ds) n) ↔ dayP p n := fun n => by
      constructor
      · rintro (h | ⟨y, hy, h⟩)
        · exact absurd h (mem_nil n)
        · have hy := (nums_mem _ _).1 hy
          have h := (mem_days hm hd n).1 h
          have hb := day_in (ms := ms) (ds := ds) (setV_year _ _ hy) h.1
          have h2 := h.2.1; have h3 := h.2.2
          rw [hms] at h2; rw [hds] at h3
          exact ⟨hb.1, hb.2.1, by rw [h.1]; exact (hs3 _).1 hy, ((numV_mem _ _ _).1 h2).2.2, ((numV_mem _ _ _).1 h3).2.2⟩
      · rintro ⟨h0, h1, h2, h3, h4⟩
        obtain ⟨e, a, b, c, d⟩ := date_num n
        refine .inr ⟨(dateD n).1, (nums_mem _ _).2 ((hs3 _).2 h2), (mem_days hm hd n).2 ⟨rfl, ?_, ?_⟩⟩
        · rw [hms]; exact (numV_mem _ _ _).2 ⟨a, b, h3⟩
        · rw [hds]; exact (numV_mem _ _ _).2 ⟨c, by have := dim_any (y := (dateD n).1) (m := (dateD n).2.1); omega, h4⟩
    refine ⟨r, by simpa using h1, h2, hsz r h2 fun n hn => ?_, fun n hn => (e n).1 (h3 n hn), ?_⟩
    · have := (e n).1 (h3 n hn); exact ⟨this.1, this.2.1⟩
    · rcases h4 with h4 | ⟨h4, h5⟩
      · exact .inl fun n hn => h4 n ((e n).2 hn)
      · exact .inr ⟨h4, fun n hn => h5 n ((e n).2 hn)⟩
  have hn12 := numbers_is p.f2 12 (by omega)
  have hn31 := numbers_is p.f3 31 (by omega)
  rw [← hms] at hn12
  rw [← hds] at hn31
  obtain ⟨s, h1, h2⟩ := hroad
  have hj : ∀ b : Bool, b = false → Ev (fun k => point_dated.j0 k (setV p.f1) ms ds b) s := fun b hb => by
    rw [hb]
    exact Ev.step (f := fun k => point_dated.l0 k ms ds [] (setV p.f1) ((setV p.f1).length : Int) 0) (fun k => by rw [point_dated.j0, if_neg (by simp)]) h1
  by_cases c12 : (ms.length : Int) = 12
  · by_cases c31 : (ds.length : Int) = 31
    ·
      have hu := units_f (kind := 3) (.inr (.inr (.inr (.inl rfl)))) hs1 (fun n hn => by have := setV_year _ _ hn; exact ⟨this.1, by show n < 10000; omega⟩) (by omega)
      have hcov := Cover_l0 (setV p.f1) [] [] (setV_bounds p.f1) (by simp; omega) (by simp; omega) (pair_rising (List.Pairwise.map yrun (fun a b h => numY_mono h) (sane_pair hs1)))
      simp only [List.nil_append, List.length_nil, Int.natCast_zero] at hcov
      refine ⟨norm ((setV p.f1).map yrun), ?_, norm_sane _, hsz _ (norm_sane _) fun n hn => ?_, fun n hn => ?_, .inl fun n hn => ?_⟩
      · unfold point_dated.f
        refine Ev.bnow (x := setV p.f1) rfl (Ev.bind hn12 (Ev.bind hn31 (Ev.ift c12 ?_)))
        refine Ev.step (f := fun k => (image_Cover.f k 3 (setV p.f1)).bind fun t => some t) (fun k => by rw [point_dated.j0, if_pos (by simpa using c31)]) ?_
        exact Ev.bind (Ev.bind hu hcov) (Ev.now _)
      · have := (mem_cover (setV_bounds p.f1) n).1 hn; exact ⟨this.1, this.2.1⟩
      · have h := (mem_cover (setV_bounds p.f1) n).1 hn
        obtain ⟨e, a, b, c, d⟩ := date_num n
        rw [hms] at c12; rw [hds] at c31
        exact ⟨h.1, h.2.1, (hs3 _).1 h.2.2, (numV_full p.f2.data.toList 12).1 (by omega) _ a b, (numV_full p.f3.data.toList 31).1 (by omega) _ c (by have := dim_any (y := (dateD n).1) (m := (dateD n).2.1); omega)⟩
      · exact (mem_cover (setV_bounds p.f1) n).2 ⟨hn.1, hn.2.1, (hs3 _).2 hn.2.2.1⟩
    · refine ⟨s, ?_, h2⟩
      unfold point_dated.f
      exact Ev.bnow (x := setV p.f1) rfl (Ev.bind hn12 (Ev.bind hn31 (Ev.ift c12 (hj _ (by simpa using c31)))))
  · refine ⟨s, ?_, h2⟩
    unfold point_dated.f
    exact Ev.bnow (x := setV p.f1) rfl (Ev.bind hn12 (Ev.bind hn31 (Ev.iff_ c12 (hj _ rfl))))
theorem upRs_len : ∀ {s : List S71} {a : Int}, saneF a s → ((upRs s).length : Int) = cnt s ∧ (s.length : Int) ≤ cnt s
  | [], _, _ => ⟨rfl, Int.le_refl _⟩
  | r :: t, a, h => by
    obtain ⟨h1, h2⟩ := upRs_len h.2.2.2
    have h3 := h.2.1
    unfold upRs at h1 ⊢
    rw [List.flatMap_cons, List.length_append, List.length_cons]
    have e : (upR r.f0 r.f1).length = (r.f1 + 1 - r.f0).toNat := by unfold upR; simp
    rw [e]
    show _ = (r.f1 - r.f0 + 1) + cnt t ∧ _ ≤ (r.f1 - r.f0 + 1) + cnt t
    omega
theorem upto_range : ∀ (n : Nat) (a : Int), upto a n = (List.range n).map fun (j : Nat) => a + (j : Int)
  | 0, a => rfl
  | n + 1, a => by
    rw [upto, upto_range n (a + 1), List.range_succ_eq_map, List.map_cons, List.map_map]
    congr 1
    · simp
    · apply List.map_congr_left
      intro j _
      simp only [Function.comp_apply]
      omega
theorem upRs_nums (s : List S71) : upRs s = s.flatMap numsR := by
  have e : (fun r : S71 => upR r.f0 r.f1) = numsR := by
    funext r
    unfold upR numsR
    rw [upto_range]
  unfold upRs
  rw [e]
def fm (v : Int) : Int := numD (v / 12) (v % 12 + 1) 1
theorem fm_step {v : Int} (h : 0 ≤ v) : fm v ≤ fm (v + 1) := by
  unfold fm
  by_cases h11 : v % 12 = 11
  · rw [show (v + 1) / 12 = v / 12 + 1 by omega, show (v + 1) % 12 + 1 = 1 by omega]
    have d := (dim_pos (y := v / 12) (m := v % 12 + 1) (by omega) (by omega)).1
    have := (num_year (y := v / 12) (m := v % 12 + 1) (d := 1) (by omega) (by omega) (by omega) (by omega)).2
    omega
  · rw [show (v + 1) / 12 = v / 12 by omega, show (v + 1) % 12 + 1 = v % 12 + 1 + 1 by omega]
    exact month_le (by omega) (by omega) (by omega)
theorem fm_mono : ∀ (n : Nat) (v : Int), 0 ≤ v → fm v ≤ fm (v + n)
  | 0, v, _ => by simp
  | n + 1, v, h => by
    have a := fm_mono n v h
    have b := fm_step (v := v + n) (by omega)
    have e : v + ((n + 1 : Nat) : Int) = v + n + 1 := by omega
    rw [e]; omega
theorem fm_le {v w : Int} (h0 : 0 ≤ v) (h : v ≤ w) : fm v ≤ fm w := by
  have := fm_mono (w - v).toNat v h0
  rwa [show v + ((w - v).toNat : Int) = w by omega] at this
theorem First_v {kind : Int} (hk : kindOk kind) (h0 : kind ≠ 0) {i : Int} (hi : 0 ≤ i ∧ i < kcount kind.toNat) : (unit_First.val kind i).1 = fm (kf kind.toNat + km kind.toNat * i) ∧ 0 ≤ kf kind.toNat + km kind.toNat * i := by
  have hkk : kind = 1 ∨ kind = 2 ∨ kind = 3 ∨ kind = 4 ∨ kind = 5 := by unfold kindOk at hk; omega
  have hv : 0 ≤ kf kind.toNat + km kind.toNat * i ∧ kf kind.toNat + km kind.toNat * i ≤ 119999 ∧ km kind.toNat * i ≤ 119999 ∧ 0 ≤ km kind.toNat * i := by
    rcases hkk with rfl | rfl | rfl | rfl | rfl
    · have : i < 120000 := hi.2; show 0 ≤ 0 + 1 * i ∧ 0 + 1 * i ≤ 119999 ∧ 1 * i ≤ 119999 ∧ 0 ≤ 1 * i; omega
    · have : i < 40000 := hi.2; show 0 ≤ 2 + 3 * i ∧ 2 + 3 * i ≤ 119999 ∧ 3 * i ≤ 119999 ∧ 0 ≤ 3 * i; omega
    · have : i < 10000 := hi.2; show 0 ≤ 0 + 12 * i ∧ 0 + 12 * i ≤ 119999 ∧ 12 * i ≤ 119999 ∧ 0 ≤ 12 * i; omega
    · have : i < 1000 := hi.2; show 0 ≤ 0 + 120 * i ∧ 0 + 120 * i ≤ 119999 ∧ 120 * i ≤ 119999 ∧ 0 ≤ 120 * i; omega
    · have : i < 100 := hi.2; show 0 ≤ 0 + 1200 * i ∧ 0 + 1200 * i ≤ 119999 ∧ 1200 * i ≤ 119999 ∧ 0 ≤ 1200 * i; omega
  refine ⟨?_, hv.1⟩
  obtain ⟨v, hvv⟩ : ∃ v, v = kf kind.toNat + km kind.toNat * i := ⟨_, rfl⟩
  have hb : unit_begins.f kind.toNat i = some (fm v) := by
    unfold unit_begins.f
    rw [if_neg (by omega)]
    unfold unit_span_begins.f
    rw [w64 (x := km kind.toNat * i) (by omega) (by omega), ← hvv, w64 (x := v) (by omega) (by omega), td_ (by omega) (by omega), tm_ (by omega), w64 (x := v / 12) (by omega) (by omega), w64 (x := v % 12 + 1) (by omega) (by omega), Number_f (by omega) (by omega) (by omega) (by omega)]
    rfl
  unfold unit_First.val unit_First.f
  rw [if_pos hk, if_neg (by omega), if_neg (by omega), hb, ← hvv]
  rfl
theorem firsts_rise {kind : Int} (hk : kindOk kind) (h0 : kind ≠ 0) {s : List S71} (hs : sane s) (hb : ∀ n, mem s n → 0 ≤ n ∧ n < kcount kind.toNat) : ((upRs s).map fun n => (unit_First.val kind n).1).Pairwise (· ≤ ·) := by
  have hm : ∀ n, n ∈ upRs s → 0 ≤ n ∧ n < kcount kind.toNat := fun n hn => by rw [upRs_nums] at hn; exact hb n ((nums_mem s n).1 hn)
  have ha : asc (upRs s) := by rw [upRs_nums]; exact asc_nums hs
  have key : ∀ {l : List Int}, asc l → (∀ n, n ∈ l → 0 ≤ n ∧ n < kcount kind.toNat) → (l.map fun n => (unit_First.val kind n).1).Pairwise (· ≤ ·) := by
    intro l
    induction l with
    | nil => intro _ _; exact List.Pairwise.nil
    | cons x t ih =>
      intro h hb
      have h' := List.pairwise_cons.1 h
      rw [List.map_cons]
      refine List.pairwise_cons.2 ⟨fun z hz => ?_, ih h'.2 fun n hn => hb n (List.mem_cons_of_mem _ hn)⟩
      obtain ⟨w, hw, rfl⟩ := List.mem_map.1 hz
      obtain ⟨e1, e2⟩ := First_v hk h0 (hb x List.mem_cons_self)
      obtain ⟨e3, _⟩ := First_v hk h0 (hb w (List.mem_cons_of_mem _ hw))
      rw [e1, e3]
      have hkm : 0 ≤ km kind.toNat := by unfold km; split <;> omega
      have := Int.mul_le_mul_of_nonneg_left (show x ≤ w by have := h'.1 w hw; omega) hkm
      exact fm_le e2 (by omega)
  exact key ha hm
def wideV (kind : Int) (s : List S71) : Bool := if kind = 0 then decide ((s.length : Int) > 400) else decide (cnt s > 400)
theorem starts_f {kind : Int} (hk : kindOk kind) {s : List S71} (hs : sane s) (hb : ∀ n, mem s n → 0 ≤ n ∧ n < kcount kind.toNat) (hl : s.length ≤ 4000000) : ∃ q, Ev (fun k => image_Starts.f k kind s) (q, !wideV kind s) := by
  have hu := units_f hk hs hb (by omega)
  unfold image_Starts.f
  by_cases h0 : kind = 0
  · have hw := Wide_f hs (by omega)
    rw [norm_of_sane hs] at hw
    have hwv : wideV kind s = decide ((s.length : Int) > 400) := by unfold wideV; rw [if_pos h0]
    rw [hwv]
    have hm : Ev (fun k => image_marksv.f unit_First.val k kind s) (s, !decide ((s.length : Int) > 400)) := Ev.bind hu (Ev.ift h0 (Ev.bind hw (Ev.now _)))
    by_cases hc : (s.length : Int) > 400
    · rw [decide_eq_true hc] at hm ⊢
      exact ⟨[], Ev.bind hm (Ev.iff_ (by simp) (Ev.now _))⟩
    · rw [decide_eq_false hc] at hm ⊢
      exact ⟨s, Ev.bind hm (Ev.ift rfl (Ev.now _))⟩
  · have hct := Count_f hs (by omega)
    rw [norm_of_sane hs] at hct
    have hwv : wideV kind s = decide (cnt s > 400) := by unfold wideV; rw [if_neg h0]
    rw [hwv]
    by_cases hc : cnt s > 400
    · rw [decide_eq_true hc]
      have hm : Ev (fun k => image_marksv.f unit_First.val k kind s) ([], false) := Ev.bind hu (Ev.iff_ h0 (Ev.bind hct (Ev.ift hc (Ev.now _))))
      exact ⟨[], Ev.bind hm (Ev.iff_ (by simp) (Ev.now _))⟩
    · rw [decide_eq_false hc]
      obtain ⟨l1, l2⟩ := upRs_len hs
      have hp := kcount_pos kind.toNat
      have hok : okU s := ⟨by omega, by omega, fun r hr => by
        obtain ⟨_, hle, _⟩ := saneF_all hs r hr
        have a := hb r.f0 ⟨r, hr, Int.le_refl _, hle⟩
        have b := hb r.f1 ⟨r, hr, hle, Int.le_refl _⟩
        exact ⟨by omega, by omega, by omega⟩⟩
      have hof := Of_f ((upRs s).map fun n => (unit_First.val kind n).1) (firsts_rise hk h0 hs hb) (by rw [List.length_map]; omega)
      have hm : Ev (fun k => image_marksv.f unit_First.val k kind s) (_, true) := Ev.bind hu (Ev.iff_ h0 (Ev.bind hct (Ev.iff_ hc (Ev.ift hok (Ev.bind hof (Ev.now _))))))
      exact ⟨_, Ev.bind hm (Ev.ift rfl (Ev.now _))⟩
theorem known8_f {kind : Int} (hk : kindOk kind) {s : List S71} (hs : sane s) (hb : ∀ n, mem s n → 0 ≤ n ∧ n < kcount kind.toNat) (hl : s.length ≤ 4000000) : Ev (fun k => point_known.f k kind s) (if wideV kind s = true then ([], 8) else (s, 0)) := by
  obtain ⟨q, hq⟩ := starts_f hk hs hb hl
  unfold point_known.f
  refine Ev.bind hq ?_
  cases wideV kind s with
  | true => exact Ev.iff_ (by simp) (Ev.now _)
  | false => exact Ev.ift rfl (Ev.now _)
def unitP (p : S23) (n : Int) : Prop :=
  if p.f0 = 0 then dayP p n
  else if p.f0 = 1 then 0 ≤ n ∧ refV p.f1.data.toList (n / 12) = true ∧ refV p.f2.data.toList (n % 12 + 1) = true
  else if p.f0 = 2 then 0 ≤ n ∧ refV p.f1.data.toList (n / 4) = true ∧ refV p.f2.data.toList (n % 4 + 1) = true
  else refV p.f1.data.toList n = true
theorem unitP_range {p : S23} (hp : ptV p = true) {n : Int} (h : unitP p n) : 0 ≤ n ∧ n < kcount p.f0.toNat := by
  obtain ⟨_, hk⟩ := pt_kinds hp
  unfold unitP at h
  rcases hk with ⟨e, hl, _⟩ | ⟨e, hl, _⟩ | ⟨e, hl, _⟩ | ⟨e, hl, _⟩ | ⟨e, hl, _⟩ | ⟨e, hl, _⟩ <;> rw [e] at h ⊢ <;> simp at h
  · exact ⟨h.1, by show n < 3652425; have := h.2.1; omega⟩
  · have := setV_dig _ _ h.2.1; rw [hl] at this
    exact ⟨h.1, by show n < 120000; omega⟩
  · have := setV_dig _ _ h.2.1; rw [hl] at this
    exact ⟨h.1, by show n < 40000; omega⟩
  · have := setV_dig _ _ h; rw [hl] at this
    exact ⟨this.1, by show n < 10000; omega⟩
  · have := setV_dig _ _ h; rw [hl] at this
    exact ⟨this.1, by show n < 1000; omega⟩
  · have := setV_dig _ _ h; rw [hl] at this
    exact ⟨this.1, by show n < 100; omega⟩
theorem sane_len {s : List S71} (hs : sane s) (hb : ∀ n, mem s n → 0 ≤ n ∧ n < 3652425) : s.length ≤ 4000000 := by
  have key : ∀ (t : List S71) (a : Int), saneF a t → (∀ n, mem t n → n ≤ 3652424) → -2 ≤ a → a ≤ 3652424 → (t.length : Int) ≤ 3652424 - a := fun t => by
    induction t with
    | nil => intro a _ _ _ h; simp; omega
    | cons r t ih =>
      intro a hs hn ha ha2
      have h1 := hn r.f1 ⟨r, List.mem_cons_self, hs.2.1, Int.le_refl _⟩
      have := ih r.f1 hs.2.2.2 (fun n h => hn n ((mem_cons _ _ _).2 (.inr h))) (by have := hs.1; have := hs.2.1; omega) h1
      have h2 := hs.1; have h3 := hs.2.1
      rw [List.length_cons]; omega
  cases s with
  | nil => simp
  | cons r t =>
    have h3 := hb r.f0 ⟨r, List.mem_cons_self, Int.le_refl _, hs.2.1⟩
    have := key (r :: t) (-2) ⟨by omega, hs.2.1, hs.2.2.1, hs.2.2.2⟩ (fun n h => by have := (hb n h).2; omega) (by omega) (by omega)
    omega
theorem Set_f (p : S23) (hp : ptV p = true) : ∃ s, Ev (fun k => point_Set.f k p.f0 p.f1 p.f2 p.f3) (if wideV p.f0 s = true then ([], 8) else (s, 0)) ∧ sane s ∧ s.length ≤ 4000000 ∧ (∀ n, mem s n → unitP p n) ∧
    ((∀ n, unitP p n → mem s n) ∨ (p.f0 = 0 ∧ 400 < s.length ∧ ∀ n, unitP p n → ¬ mem s n → ∀ x, mem s x → x < n)) := by
  have hsane := ptSane_f p
  rw [hp] at hsane
  have hr := fun n => unitP_range (n := n) hp
  have hk : kindOk p.f0 := by
    obtain ⟨_, hk⟩ := pt_kinds hp
    rcases hk with h | h | h | h | h | h <;> rw [h.1] <;> unfold kindOk <;> omega
  have hset : mask_Set.f p.f1 = some (setV p.f1) := rfl
  obtain ⟨hs1, hs2, hs3⟩ := setV_is p.f1
  have hkn : ∀ s, sane s → (∀ n, mem s n → unitP p n) → Ev (fun k => (point_known.f k p.f0 s).bind fun b => some (b.1, b.2)) (if wideV p.f0 s = true then ([], 8) else (s, 0)) := fun s h1 h2 =>
    Ev.bind (known8_f hk h1 (fun n hn => hr n (h2 n hn)) (sane_len h1 fun n hn => by have := hr n (h2 n hn); have := kcount_pos p.f0.toNat; omega)) (Ev.eq (Ev.now _) (by split <;> rfl))
  have hlen : ∀ s, sane s → (∀ n, mem s n → unitP p n) → s.length ≤ 4000000 := fun s h1 h2 => sane_len h1 fun n hn => by have := hr n (h2 n hn); have := kcount_pos p.f0.toNat; omega
  unfold point_Set.f
  by_cases c0 : p.f0 = 0
  · obtain ⟨s, e, h1, h2, h3, h4⟩ := dated_f p
    have eu : ∀ n, unitP p n ↔ dayP p n := fun n => by unfold unitP; rw [if_pos c0]
    have h3' : ∀ n, mem s n → unitP p n := fun n hn => (eu n).2 (h3 n hn)
    refine ⟨s, Ev.bind hsane (Ev.ift rfl (Ev.bnow hset (Ev.ift c0 (Ev.bind e (hkn s h1 h3'))))), h1, h2, h3', ?_⟩
    rcases h4 with h4 | ⟨h4, h5⟩
    · exact .inl fun n hn => h4 n ((eu n).1 hn)
    · exact .inr ⟨c0, h4, fun n hn => h5 n ((eu n).1 hn)⟩
  · by_cases c1 : p.f0 = 1
    · have e := parts_f p 12 (by omega)
      have eu : ∀ n, unitP p n ↔ mem (partsV 12 p) n := fun n => by
        rw [parts_mem 12 (by omega)]
        have hh : unitP p n ↔ (0 ≤ n ∧ refV p.f1.data.toList (n / 12) = true ∧ refV p.f2.data.toList (n % 12 + 1) = true) := by unfold unitP; rw [if_neg c0, if_pos c1]
        constructor
        · intro h
          have h' := hh.1 h
          have := hr n h
          rw [c1] at this
          exact ⟨h'.1, by have : n < 120000 := this.2; show n < 10000 * 12; omega, h'.2.1, h'.2.2⟩
        · rintro ⟨a, b, c, d⟩; exact hh.2 ⟨a, c, d⟩
      have hs : sane (partsV 12 p) := norm_sane _
      exact ⟨partsV 12 p, Ev.bind hsane (Ev.ift rfl (Ev.bnow hset (Ev.iff_ c0 (Ev.ift c1 (Ev.bind e (hkn _ hs fun n hn => (eu n).2 hn)))))), hs, hlen _ hs (fun n hn => (eu n).2 hn), fun n hn => (eu n).2 hn, .inl fun n hn => (eu n).1 hn⟩
    · by_cases c2 : p.f0 = 2
      · have e := parts_f p 4 (by omega)
        have eu : ∀ n, unitP p n ↔ mem (partsV 4 p) n := fun n => by
          rw [parts_mem 4 (by omega)]
          have hh : unitP p n ↔ (0 ≤ n ∧ refV p.f1.data.toList (n / 4) = true ∧ refV p.f2.data.toList (n % 4 + 1) = true) := by unfold unitP; rw [if_neg c0, if_neg c1, if_pos c2]
          constructor
          · intro h
            have h' := hh.1 h
            have := hr n h
            rw [c2] at this
            exact ⟨h'.1, by have : n < 40000 := this.2; show n < 10000 * 4; omega, h'.2.1, h'.2.2⟩
          · rintro ⟨a, b, c, d⟩; exact hh.2 ⟨a, c, d⟩
        have hs : sane (partsV 4 p) := norm_sane _
        exact ⟨partsV 4 p, Ev.bind hsane (Ev.ift rfl (Ev.bnow hset (Ev.iff_ c0 (Ev.iff_ c1 (Ev.ift c2 (Ev.bind e (hkn _ hs fun n hn => (eu n).2 hn))))))), hs, hlen _ hs (fun n hn => (eu n).2 hn), fun n hn => (eu n).2 hn, .inl fun n hn => (eu n).1 hn⟩
      · have eu : ∀ n, unitP p n ↔ mem (setV p.f1) n := fun n => by unfold unitP; rw [if_neg c0, if_neg c1, if_neg c2, hs3]
        exact ⟨setV p.f1, Ev.bind hsane (Ev.ift rfl (Ev.bnow hset (Ev.iff_ c0 (Ev.iff_ c1 (Ev.iff_ c2 (hkn _ hs1 fun n hn => (eu n).2 hn)))))), hs1, hlen _ hs1 (fun n hn => (eu n).2 hn), fun n hn => (eu n).2 hn, .inl fun n hn => (eu n).1 hn⟩
theorem Set_no (p : S23) (hp : ptV p = false) : Ev (fun k => point_Set.f k p.f0 p.f1 p.f2 p.f3) ([], 2) := by
  have hsane := ptSane_f p
  rw [hp] at hsane
  unfold point_Set.f
  exact Ev.bind hsane (Ev.iff_ (by simp) (Ev.now _))
theorem awake8 : Ev (fun k => lustrumlaw08_awake.f k) true := Ev.of lustrumlaw08_awake.mono (k := 400) (by decide +kernel)
def short8 (p : S23) : Bool := decide (p.f1.size ≤ 10 ∧ p.f2.size ≤ 10 ∧ p.f3.size ≤ 10)
theorem short_f (p : S23) : lustrumlaw08_short.f p.f0 p.f1 p.f2 p.f3 = some (short8 p) := by
  unfold lustrumlaw08_short.f short8
  by_cases h1 : p.f1.size ≤ 10
  · rw [if_pos (by omega)]
    by_cases h2 : p.f2.size ≤ 10
    · rw [if_pos (by omega)]
      by_cases h3 : p.f3.size ≤ 10
      · rw [decide_eq_true (by omega), decide_eq_true ⟨h1, h2, h3⟩]
      · rw [decide_eq_false (by omega), decide_eq_false (fun h => h3 h.2.2)]
    · rw [if_neg (by omega), decide_eq_false (fun h => h2 h.2.1)]
  · rw [if_neg (by omega), decide_eq_false (fun h => h1 h.1)]
def radV (kind : Int) : Int := if kind = 0 then 3 else if kind = 3 then 2 else if kind < 0 then 0 else if kind > 5 then 0 else 1
theorem Radius_f (kind : Int) : point_Radius.f kind = some (radV kind) := by
  unfold point_Radius.f radV
  repeat' split
  all_goals rfl
theorem radV_ok {kind : Int} (hk : kindOk kind) : 1 ≤ radV kind ∧ radV kind ≤ 3 := by
  have := kind_cases hk
  unfold radV
  repeat' split
  all_goals omega
theorem pt_kind {p : S23} (hp : ptV p = true) : kindOk p.f0 := by
  obtain ⟨_, hk⟩ := pt_kinds hp
  rcases hk with h | h | h | h | h | h <;> rw [h.1] <;> unfold kindOk <;> omega
theorem Count8 {kind : Int} (hk : kindOk kind) : unit_Count.f kind = some (kcount kind.toNat) := by unfold unit_Count.f unit_Count.fv; rw [if_pos hk]
theorem nearS {kind : Int} (hk : kindOk kind) {s : List S71} (hs : sane s) (hl : s.length ≤ 4000000) : ∃ m, Ev (fun k => (sets_Grow.f k s (radV kind)).bind fun t => (unit_Count.f kind).bind fun u => (sets_Clip.f k t 0 (wrap64 (u - 1))).bind fun v => (point_known.f k kind v).bind fun b => some (b.1, b.2)) (if wideV kind m = true then ([], 8) else (m, 0)) ∧ sane m ∧ m.length ≤ 4000000 ∧
    ∀ n, mem m n ↔ 0 ≤ n ∧ n < kcount kind.toNat ∧ ∃ x, mem s x ∧ x - radV kind ≤ n ∧ n ≤ x + radV kind := by
  have hr := radV_ok hk
  have hp := kcount_pos kind.toNat
  obtain ⟨g, g1, g2, g3⟩ := Grow_f hs (radV kind) (by omega)
  obtain ⟨m, m1, m2, m3⟩ := Clip_f g2.1 0 (kcount kind.toNat - 1) (by unfold lim; omega) (by omega) (by unfold lim; omega) (by omega)
  have hn : near (radV kind) = radV kind := by unfold near; omega
  rw [hn, norm_of_sane hs] at g2
  have hm : ∀ n, mem m n ↔ 0 ≤ n ∧ n < kcount kind.toNat ∧ ∃ x, mem s x ∧ x - radV kind ≤ n ∧ n ≤ x + radV kind := fun n => by
    have ha := m2.2 n
    have hb := g2.2 n
    simp only at ha hb
    rw [ha, hb]
    unfold lim
    constructor
    · rintro ⟨_, _, ⟨_, _, h⟩, h1, h2⟩; exact ⟨h1, by omega, h⟩
    · rintro ⟨h1, h2, h⟩; exact ⟨by omega, by omega, ⟨by omega, by omega, h⟩, h1, by omega⟩
  have hml : m.length ≤ 4000000 := sane_len m2.1 fun n hn => by have := (hm n).1 hn; omega
  refine ⟨m, ?_, m2.1, hml, hm⟩
  refine Ev.bind g1 (Ev.bnow (Count8 hk) ?_)
  rw [w64 (by omega) (by omega)]
  exact Ev.bind m1 (Ev.bind (known8_f hk m2.1 (fun n hn => by have := (hm n).1 hn; exact ⟨this.1, this.2.1⟩) hml) (Ev.eq (Ev.now _) (by split <;> rfl)))
theorem saneF_tail : ∀ {p : List S71} {a : Int} {t : List S71}, saneF a (p ++ t) → ∃ b, saneF b t ∧ a ≤ b ∧ ∀ q, q ∈ p → q.f1 ≤ b
  | [], a, t, h => ⟨a, h, Int.le_refl _, fun q hq => by simp at hq⟩
  | r :: p, a, t, ⟨h1, h2, h3, h4⟩ => by
    obtain ⟨b, e1, e2, e3⟩ := saneF_tail (p := p) h4
    exact ⟨b, e1, by omega, fun q hq => by
      rcases List.mem_cons.1 hq with rfl | hq
      · exact e2
      · exact e3 q hq⟩
theorem Same_l0 : ∀ (t u p q : List S71), (p ++ t).length ≤ 4611686018427387904 → p.length = q.length → t.length = u.length →
    ∃ b, Ev (fun k => lustrumref04_Same.l0 k (p ++ t) (q ++ u) (p.length : Int)) b ∧ (b = true ↔ t = u)
  | [], [], p, q, _, _, _ => ⟨true, Ev.step (f := fun _ => some true) (fun k => by simp only [lustrumref04_Same.l0]; rw [if_neg (at_end p)]) (Ev.now _), by simp⟩
  | [], y :: u, _, _, _, _, h => by simp at h
  | x :: t, [], _, _, _, _, h => by simp at h
  | x :: t, y :: u, p, q, hn, hl, h => by
    by_cases c : x.f0 = y.f0 ∧ x.f1 = y.f1
    · obtain ⟨b, hb, hs⟩ := Same_l0 t u (p ++ [x]) (q ++ [y]) (by rw [← at_app]; exact hn) (by simp [hl]) (by simpa using h)
      rw [← at_app, ← at_app] at hb
      refine ⟨b, Ev.step (fun k => ?_) hb, ?_⟩
      · simp only [lustrumref04_Same.l0]
        rw [if_pos (at_lt p x t), if_pos (at_0 p), if_pos (by rw [hl]; exact at_lt q y u), at_rd, show rd_T71 (q ++ y :: u) (p.length : Int) = y by rw [hl]; exact at_rd q y u, if_neg (by simp [c.1, c.2]), at_next hn]
      · rw [hs, show x = y from S71.ext2 c.1 c.2]; simp
    · refine ⟨false, Ev.step (f := fun _ => some false) (fun k => ?_) (Ev.now _), ?_⟩
      · simp only [lustrumref04_Same.l0]
        rw [if_pos (at_lt p x t), if_pos (at_0 p), if_pos (by rw [hl]; exact at_lt q y u), at_rd, show rd_T71 (q ++ y :: u) (p.length : Int) = y by rw [hl]; exact at_rd q y u, if_pos]
        by_cases h0 : x.f0 = y.f0
        · simp [h0]; exact fun h1 => c ⟨h0, h1⟩
        · simp [h0]
      · constructor
        · intro h; simp at h
        · intro h
          obtain ⟨rfl, _⟩ := List.cons.inj h
          exact absurd ⟨rfl, rfl⟩ c
theorem Same_f (s t : List S71) (hn : s.length ≤ 4611686018427387904) : ∃ b, Ev (fun k => lustrumref04_Same.f k s t) b ∧ (b = true ↔ s = t) := by
  by_cases c : s.length = t.length
  · obtain ⟨b, hb, hs⟩ := Same_l0 s t [] [] (by simpa using hn) rfl c
    exact ⟨b, Ev.congr (fun k => by unfold lustrumref04_Same.f; rw [if_pos (by rw [c])]; rfl) hb, hs⟩
  · exact ⟨false, Ev.congr (fun k => by unfold lustrumref04_Same.f; rw [if_neg (by omega)]) (Ev.now _), by simp; intro h; exact c (by rw [h])⟩
theorem Same_t {s t : List S71} (hn : s.length ≤ 4611686018427387904) (h : s = t) : Ev (fun k => lustrumref04_Same.f k s t) true := by
  obtain ⟨b, hb, hs⟩ := Same_f s t hn
  rwa [hs.2 h] at hb
def endsAt (p : List S71) (b : Int) : Prop := (p = [] ∧ b = -lim - 2) ∨ ∃ q s, p = q ++ [s] ∧ b = s.f1 ∧ -lim ≤ b
theorem r4Sane_l0 : ∀ (t p : List S71) (b : Int), (p ++ t).length ≤ 4611686018427387904 → endsAt p b → b ≤ lim →
    ∃ r, Ev (fun k => lustrumref04_Sane.l0 k (p ++ t) (p.length : Int)) r ∧ (r = true ↔ saneF b t)
  | [], p, b, _, _, _ => ⟨true, Ev.step (f := fun _ => some true) (fun k => by simp only [lustrumref04_Sane.l0]; rw [if_neg (at_end p)]) (Ev.now true), by simp [saneF]⟩
  | x :: t, p, b, hn, he, hb => by
    have hlen : p.length + 1 ≤ 4611686018427387904 := by simp at hn; omega
    have e : ∀ k, lustrumref04_Sane.l0 (k + 1) (p ++ x :: t) (p.length : Int) = (if x.f0 > x.f1 then some false else if x.f0 < -1099511627776 then some false else if x.f1 > 1099511627776 then some false else if p ≠ [] ∧ x.f0 - 1 ≤ b then some false else lustrumref04_Sane.l0 k (p ++ x :: t) ((p ++ [x]).length : Int)) := fun k => by
      simp only [lustrumref04_Sane.l0]
      rw [if_pos (at_lt p x t), if_pos (at_0 p), at_rd, at_next hn]
      by_cases c1 : x.f0 > x.f1
      · rw [if_pos c1, if_pos c1]
      rw [if_neg c1, if_neg c1]
      by_cases c2 : x.f0 < -1099511627776
      · rw [if_pos c2, if_pos c2]
      rw [if_neg c2, if_neg c2]
      by_cases c3 : x.f1 > 1099511627776
      · rw [if_pos c3, if_pos c3]
      rw [if_neg c3, if_neg c3]
      rcases he with ⟨rfl, rfl⟩ | ⟨q, s, rfl, rfl, hs⟩
      · rw [if_neg (by simp), if_neg (by simp)]
      · have hql : (q ++ [s]).length = q.length + 1 := by simp
        rw [if_pos (by omega), w64 (by omega) (by omega), show (((q ++ [s]).length : Nat) : Int) - 1 = (q.length : Int) by omega, if_pos (by omega), if_pos (by simp; omega), w64 (by omega) (by omega),
          show rd_T71 (q ++ [s] ++ x :: t) (q.length : Int) = s by rw [List.append_assoc]; exact at_rd q s _]
        by_cases c4 : x.f0 - 1 ≤ s.f1
        · rw [if_pos c4, if_pos ⟨by simp, c4⟩]
        · rw [if_neg c4, if_neg (fun h => c4 h.2)]
    have hb2 : p = [] ∨ -lim ≤ b := by rcases he with ⟨h, _⟩ | ⟨_, _, _, _, h⟩; exact .inl h; exact .inr h
    have hb3 : p = [] → b = -lim - 2 := fun h => by rcases he with ⟨_, h⟩ | ⟨q, s, h', _⟩; exact h; rw [h] at h'; simp at h'
    by_cases c1 : x.f0 > x.f1
    · exact ⟨false, Ev.step (f := fun _ => some false) (fun k => by rw [e, if_pos c1]) (Ev.now _), by simp [saneF]; omega⟩
    by_cases c2 : x.f0 < -1099511627776
    · exact ⟨false, Ev.step (f := fun _ => some false) (fun k => by rw [e, if_neg c1, if_pos c2]) (Ev.now _), by simp [saneF]; unfold lim at *; intro h; rcases hb2 with h2 | h2; have := hb3 h2; omega; omega⟩
    by_cases c3 : x.f1 > 1099511627776
    · exact ⟨false, Ev.step (f := fun _ => some false) (fun k => by rw [e, if_neg c1, if_neg c2, if_pos c3]) (Ev.now _), by simp [saneF, lim]; omega⟩
    by_cases c4 : p ≠ [] ∧ x.f0 - 1 ≤ b
    · exact ⟨false, Ev.step (f := fun _ => some false) (fun k => by rw [e, if_neg c1, if_neg c2, if_neg c3, if_pos c4]) (Ev.now _), by simp [saneF]; omega⟩
    obtain ⟨r, hr, hs⟩ := r4Sane_l0 t (p ++ [x]) x.f1 (by rw [← at_app]; exact hn) (.inr ⟨p, x, rfl, rfl, by unfold lim; omega⟩) (by unfold lim; omega)
    rw [← at_app] at hr
    refine ⟨r, Ev.step (fun k => by rw [e, if_neg c1, if_neg c2, if_neg c3, if_neg c4]) hr, ?_⟩
    rw [hs, saneF]
    unfold lim at *
    refine ⟨fun h => ⟨?_, by omega, by omega, h⟩, fun h => h.2.2.2⟩
    by_cases hp : p = []
    · have := hb3 hp; omega
    · have : ¬ x.f0 - 1 ≤ b := fun h' => c4 ⟨hp, h'⟩
      omega
theorem r4Sane_f (l : List S71) (hn : l.length ≤ 4611686018427387904) : ∃ b, Ev (fun k => lustrumref04_Sane.f k l) b ∧ (b = true ↔ sane l) :=
  r4Sane_l0 l [] (-lim - 2) (by simpa using hn) (.inl ⟨rfl, rfl⟩) (by unfold lim; omega)
theorem put_after (x : S71) (hx1 : -lim ≤ x.f0) (hx2 : x.f0 ≤ x.f1) (hx3 : x.f1 ≤ lim) : ∀ (t p B A : List S71), (p ++ t).length < 4398046511104 → B.length + A.length + t.length < 4398046511104 → (∀ q, q ∈ t → x.f1 + 1 < q.f0 ∧ q.f0 ≤ q.f1) →
    Ev (fun k => lustrumref04_put.l0 k (p ++ t) B A (p.length : Int) x.f0 x.f1) (B ++ [x] ++ A ++ t)
  | [], p, B, A, hn, hl, _ => by
    refine Ev.step (f := fun _ => some (B ++ [x] ++ A ++ [])) (fun k => ?_) (Ev.now _)
    simp only [lustrumref04_put.l0]
    simp at hl
    rw [if_neg (at_end p), if_pos (by omega), Option.bind_some, if_pos (by simp; omega)]
    simp
  | q :: t, p, B, A, hn, hl, h => by
    obtain ⟨h1, h2⟩ := h q List.mem_cons_self
    have ih := put_after x hx1 hx2 hx3 t (p ++ [q]) B (A ++ [q]) (by rw [← at_app]; exact hn) (by simp at hl ⊢; omega) (fun r hr => h r (List.mem_cons_of_mem _ hr))
    rw [← at_app] at ih
    refine Ev.step (fun k => ?_) (show Ev _ (B ++ [x] ++ A ++ q :: t) by rw [show B ++ [x] ++ A ++ q :: t = B ++ [x] ++ (A ++ [q]) ++ t by simp]; exact ih)
    unfold lim at hx1 hx3
    simp only [lustrumref04_put.l0]
    rw [if_pos (at_lt p q t), if_pos (at_0 p), at_rd, at_next (show (p ++ q :: t).length ≤ _ by omega), w64 (x := x.f0 - 1) (by omega) (by omega), w64 (x := x.f1 + 1) (by omega) (by omega), if_neg (by omega), if_pos (by omega), if_pos (by simp at hl; omega)]
theorem put_l0 : ∀ (t p B : List S71) (x : S71) (a : Int), -lim ≤ x.f0 → x.f0 ≤ x.f1 → x.f1 ≤ lim → (p ++ t).length < 4398046511104 → B.length + t.length < 4398046511104 → saneF a t → -lim - 2 ≤ a →
    Ev (fun k => lustrumref04_put.l0 k (p ++ t) B [] (p.length : Int) x.f0 x.f1) (B ++ ins x t)
  | [], p, B, x, a, hx1, hx2, hx3, hn, hl, _, _ => by
    have h := put_after x hx1 hx2 hx3 [] p B [] hn (by simpa using hl) (fun q h => by simp at h)
    simpa [ins] using h
  | q :: t, p, B, x, a, hx1, hx2, hx3, hn, hl, ⟨s1, s2, s3, s4⟩, ha => by
    unfold ins
    by_cases c1 : q.f1 < x.f0 - 1
    · rw [if_pos c1]
      have ih := put_l0 t (p ++ [q]) (B ++ [q]) x q.f1 hx1 hx2 hx3 (by rw [← at_app]; exact hn) (by simp at hl ⊢; omega) s4 (by omega)
      rw [← at_app] at ih
      refine Ev.step (fun k => ?_) (show Ev _ (B ++ q :: ins x t) by rw [show B ++ q :: ins x t = (B ++ [q]) ++ ins x t by simp]; exact ih)
      unfold lim at hx1 hx3
      simp only [lustrumref04_put.l0]
      rw [if_pos (at_lt p q t), if_pos (at_0 p), at_rd, at_next (show (p ++ q :: t).length ≤ _ by omega), w64 (x := x.f0 - 1) (by omega) (by omega), if_pos (by omega), if_pos (by simp at hl; omega)]
    · rw [if_neg c1]
      by_cases c2 : x.f1 + 1 < q.f0
      · rw [if_pos c2]
        have h := put_after x hx1 hx2 hx3 (q :: t) p B [] hn (by simpa using hl) (fun r hr => by
          rcases List.mem_cons.1 hr with rfl | hr
          · exact ⟨c2, s2⟩
          · have := saneF_all s4 r hr; omega)
        simpa using h
      · rw [if_neg c2]
        have ih := put_l0 t (p ++ [q]) B ⟨min x.f0 q.f0, max x.f1 q.f1⟩ q.f1 (by simp only; omega) (by simp only; omega) (by simp only; omega) (by rw [← at_app]; exact hn) (by simp at hl ⊢; omega) s4 (by omega)
        rw [← at_app] at ih
        refine Ev.step (fun k => ?_) ih
        unfold lim at hx1 hx3
        simp only [lustrumref04_put.l0]
        rw [if_pos (at_lt p q t), if_pos (at_0 p), at_rd, at_next (show (p ++ q :: t).length ≤ _ by omega), w64 (x := x.f0 - 1) (by omega) (by omega), w64 (x := x.f1 + 1) (by omega) (by omega), if_neg (by omega), if_neg (by omega), mn_min, mx_max]
theorem put_f {s : List S71} (hs : sane s) (hn : s.length < 4398046511104) (lo hi : Int) : Ev (fun k => lustrumref04_put.f k s lo hi) (step s ⟨lo, hi⟩) := by
  unfold step clamp lustrumref04_put.f
  simp only [mx_max, mn_min]
  by_cases c : max lo (-lim) ≤ min hi lim
  · have h := put_l0 s [] [] ⟨max lo (-lim), min hi lim⟩ (-lim - 2) (by simp only; omega) c (by simp only; omega) (by simpa using hn) (by simpa using hn) hs (Int.le_refl _)
    rw [if_pos c]
    unfold lim at c
    refine Ev.congr (fun k => ?_) h
    rw [if_neg (by omega)]
    rfl
  · rw [if_neg c]
    unfold lim at c
    exact Ev.congr (fun k => by rw [if_pos (by omega)]) (Ev.now _)
theorem step_len (s : List S71) (r : S71) : (step s r).length ≤ s.length + 1 := by unfold step; split; exact ins_len _ _; omega
theorem rMake_l0 : ∀ (t p s : List S71), (p ++ t).length < 4398046511104 → s.length + t.length < 4398046511104 → sane s →
    Ev (fun k => lustrumref04_Make.l0 k (p ++ t) s (p.length : Int)) (t.foldl step s)
  | [], p, s, _, _, _ => Ev.step (f := fun _ => some s) (fun k => by simp only [lustrumref04_Make.l0]; rw [if_neg (at_end p)]) (Ev.now _)
  | r :: t, p, s, hn, hl, hs => by
    have ih := rMake_l0 t (p ++ [r]) (step s r) (by rw [← at_app]; exact hn) (by have := step_len s r; simp at hl; omega) (step_sane hs r)
    rw [← at_app] at ih
    refine Ev.step (fun k => ?_) (Ev.bind (f := fun k t284 => lustrumref04_Make.l0 k (p ++ r :: t) t284 ((p ++ [r]).length : Int)) (put_f hs (by simp at hl; omega) r.f0 r.f1) ih)
    simp only [lustrumref04_Make.l0]
    rw [if_pos (at_lt p r t), if_pos (at_0 p), at_rd, at_next (show (p ++ r :: t).length ≤ _ by omega)]
theorem rMake_f (l : List S71) (hn : l.length < 4398046511104) : Ev (fun k => lustrumref04_Make.f k l) (norm l) :=
  rMake_l0 l [] [] (by simpa using hn) (by simpa using hn) trivial
theorem As_f (l : List S71) (hn : l.length < 4398046511104) : Ev (fun k => lustrumref04_As.f k l) (norm l) := by
  obtain ⟨b, hb, hs⟩ := r4Sane_f l (by omega)
  refine Ev.bind hb ?_
  cases b with
  | true => exact Ev.congr (fun k => by rw [if_pos rfl, norm_of_sane (hs.1 rfl)]) (Ev.now (norm l))
  | false => exact Ev.congr (f := fun k => (lustrumref04_Make.f k l).bind fun t => some t) (fun k => by rw [if_neg (by simp)]) (Ev.bind (rMake_f l hn) (Ev.now _))
def row (r : S71) (t : List S71) : List S71 := t.flatMap fun q => if (both r q).f0 ≤ (both r q).f1 then [both r q] else []
def pairs (s t : List S71) : List S71 := s.flatMap fun r => row r t
theorem row_sane (r : S71) (hr : r.f1 ≤ lim) : ∀ (t : List S71) (a b : Int), a + 2 ≤ r.f0 → saneF b t → saneF (max a b) (row r t) ∧ ∀ x, x ∈ row r t → x.f1 ≤ r.f1
  | [], _, _, _, _ => ⟨trivial, fun x hx => by simp [row] at hx⟩
  | q :: t, a, b, ha, ⟨q1, q2, q3, q4⟩ => by
    obtain ⟨h1, h2⟩ := row_sane r hr t a q.f1 ha q4
    have e : row r (q :: t) = (if (both r q).f0 ≤ (both r q).f1 then [both r q] else []) ++ row r t := by simp [row]
    rw [e]
    by_cases c : (both r q).f0 ≤ (both r q).f1
    · rw [if_pos c]
      simp only [both] at c
      by_cases c2 : q.f1 ≤ r.f1
      · refine ⟨⟨by simp only [both]; omega, by simp only [both]; exact c, by simp only [both]; omega, saneF_le h1 (by simp only [both]; omega)⟩, fun x hx => ?_⟩
        rcases List.mem_cons.1 hx with rfl | hx
        · simp only [both]; omega
        · exact h2 x hx
      · have hno : row r t = [] := by
          unfold row
          rw [List.flatMap_eq_nil_iff]
          intro x hx
          have := (saneF_all q4 x hx).1
          rw [if_neg (by simp only [both]; omega)]
        rw [hno]
        refine ⟨⟨by simp only [both]; omega, by simp only [both]; exact c, by simp only [both]; omega, trivial⟩, fun x hx => ?_⟩
        obtain rfl : x = both r q := by simpa using hx
        simp only [both]; omega
    · rw [if_neg c, List.nil_append]
      exact ⟨saneF_le h1 (by omega), h2⟩
theorem pairs_sane : ∀ (s t : List S71) (a b : Int), saneF a s → saneF b t → saneF (max a b) (pairs s t)
  | [], _, _, _, _, _ => by simp [pairs, saneF]
  | r :: s, t, a, b, ⟨r1, r2, r3, r4⟩, ht => by
    obtain ⟨h1, h2⟩ := row_sane r r3 t a b r1 ht
    have h3 := pairs_sane s t r.f1 b r4 ht
    have e : pairs (r :: s) t = row r t ++ pairs s t := by simp [pairs]
    rw [e]
    exact saneF_app h1 (c := max r.f1 b) (fun x hx => by have := h2 x hx; omega) (by omega) h3
theorem pairs_mem (s t : List S71) (n : Int) : mem (pairs s t) n ↔ mem s n ∧ mem t n := by
  constructor
  · rintro ⟨x, hx, h1, h2⟩
    obtain ⟨r, hr, hx⟩ := List.mem_flatMap.1 hx
    obtain ⟨q, hq, hx⟩ := List.mem_flatMap.1 hx
    by_cases c : (both r q).f0 ≤ (both r q).f1
    · rw [if_pos c] at hx
      obtain rfl : x = both r q := by simpa using hx
      simp only [both] at h1 h2
      exact ⟨⟨r, hr, by omega, by omega⟩, ⟨q, hq, by omega, by omega⟩⟩
    · rw [if_neg c] at hx; simp at hx
  · rintro ⟨⟨r, hr, h1, h2⟩, q, hq, h3, h4⟩
    refine ⟨both r q, List.mem_flatMap.2 ⟨r, hr, List.mem_flatMap.2 ⟨q, hq, ?_⟩⟩, by simp only [both]; omega, by simp only [both]; omega⟩
    rw [if_pos (by simp only [both]; omega)]
    simp
theorem rMeet_l1 (s : List S71) (r : S71) (p : List S71) (u : List S71) (z : List S71) (hp : (p ++ r :: s).length < 4398046511104) : ∀ (t q acc : List S71), (q ++ t).length < 4398046511104 → acc.length + t.length < 8796093022208 →
    Ev (fun k => lustrumref05_Meet.l0 k (p ++ r :: s) (q ++ t) (acc ++ row r t) ((p ++ [r]).length : Int)) z → Ev (fun k => lustrumref05_Meet.l1 k (p ++ r :: s) (q ++ t) acc (p.length : Int) (q.length : Int)) z
  | [], q, acc, _, _, h => by
    simp only [row, List.flatMap_nil, List.append_nil] at h
    refine Ev.step (fun k => ?_) (by simpa using h)
    rw [lustrumref05_Meet.l1, if_neg (at_end q), at_next (p := p) (r := r) (t := s) (by omega)]
    simp
  | x :: t, q, acc, hq, hl, h => by
    simp only [List.length_cons] at hl
    have e : row r (x :: t) = (if (both r x).f0 ≤ (both r x).f1 then [both r x] else []) ++ row r t := by simp [row]
    rw [e, ← List.append_assoc] at h
    by_cases c : (both r x).f0 ≤ (both r x).f1
    · rw [if_pos c] at h
      have := rMeet_l1 s r p u z hp t (q ++ [x]) (acc ++ [both r x]) (by rw [← at_app]; exact hq) (by rw [List.length_append, List.length_singleton]; omega) (by rw [← at_app]; exact h)
      rw [← at_app] at this
      refine Ev.step (fun k => ?_) this
      rw [lustrumref05_Meet.l1, if_pos (at_lt q x t), if_pos (at_0 p), if_pos (at_lt p r s), if_pos (at_0 q), at_rd, at_rd, mx_max, mn_min, if_pos (show max r.f0 x.f0 ≤ min r.f1 x.f1 from c), if_pos (by omega), at_next (p := q) (r := x) (t := t) (by omega)]
      rfl
    · rw [if_neg c, List.append_nil] at h
      have := rMeet_l1 s r p u z hp t (q ++ [x]) acc (by rw [← at_app]; exact hq) (by omega) (by rw [← at_app]; exact h)
      rw [← at_app] at this
      refine Ev.step (fun k => ?_) this
      rw [lustrumref05_Meet.l1, if_pos (at_lt q x t), if_pos (at_0 p), if_pos (at_lt p r s), if_pos (at_0 q), at_rd, at_rd, mx_max, mn_min, if_neg (show ¬ max r.f0 x.f0 ≤ min r.f1 x.f1 from c), at_next (p := q) (r := x) (t := t) (by omega)]
theorem row_len (r : S71) : ∀ t : List S71, (row r t).length ≤ t.length
  | [] => by simp [row]
  | q :: t => by
    have := row_len r t
    have e : row r (q :: t) = (if (both r q).f0 ≤ (both r q).f1 then [both r q] else []) ++ row r t := by simp [row]
    rw [e, List.length_append, List.length_cons]
    by_cases c : (both r q).f0 ≤ (both r q).f1
    · rw [if_pos c, List.length_singleton]; omega
    · rw [if_neg c, List.length_nil]; omega
theorem rMeet_l0 (t : List S71) (ht : t.length < 4398046511104) : ∀ (s p acc : List S71), (p ++ s).length < 4398046511104 → acc.length + s.length * t.length < 4398046511104 →
    Ev (fun k => lustrumref05_Meet.l0 k (p ++ s) t acc (p.length : Int)) (acc ++ pairs s t)
  | [], p, acc, _, _ => by
    refine Ev.step (f := fun _ => some (acc ++ pairs [] t)) (fun k => ?_) (Ev.now _)
    rw [lustrumref05_Meet.l0, if_neg (at_end p)]
    simp [pairs]
  | r :: s, p, acc, hp, hl => by
    have hr := row_len r t
    simp only [List.length_cons, Nat.succ_mul] at hl
    have h := rMeet_l0 t ht s (p ++ [r]) (acc ++ row r t) (by rw [← at_app]; exact hp) (by rw [List.length_append]; omega)
    rw [← at_app] at h
    have e : pairs (r :: s) t = row r t ++ pairs s t := by simp [pairs]
    rw [e, ← List.append_assoc]
    have h2 := rMeet_l1 s r p t _ hp t [] acc (by simpa using ht) (by omega) (by simpa using h)
    refine Ev.step (fun k => ?_) (by simpa using h2)
    rw [lustrumref05_Meet.l0, if_pos (at_lt p r s)]
theorem rMeet_f (a b : List S71) (h1 : a.length * b.length < 4398046511104) (h2 : a.length < 4398046511104) (h3 : b.length < 4398046511104) : ∃ m, Ev (fun k => lustrumref05_Meet.f k a b) m ∧ IsSet m (fun n => mem a n ∧ mem b n) := by
  have n1 := norm_len a
  have n2 := norm_len b
  have n3 : (norm a).length * (norm b).length ≤ a.length * b.length := Nat.mul_le_mul n1 n2
  refine ⟨pairs (norm a) (norm b), Ev.bind (As_f a h2) (Ev.bind (As_f b h3) ?_), ?_, fun n => ?_⟩
  · have := rMeet_l0 (norm b) (by omega) (norm a) [] [] (by simp; omega) (by simp; omega)
    simpa using this
  · have := pairs_sane (norm a) (norm b) _ _ (norm_sane a) (norm_sane b)
    rw [Int.max_self] at this
    exact this
  · rw [pairs_mem, norm_mem, norm_mem]
    exact ⟨fun ⟨⟨u, v, x⟩, _, _, y⟩ => ⟨u, v, x, y⟩, fun ⟨u, v, x, y⟩ => ⟨⟨u, v, x⟩, u, v, y⟩⟩
theorem rGrow_l0 (k : Int) (h1 : 0 ≤ k) (h2 : k ≤ 2199023255552) : ∀ (t p acc : List S71), (∀ r, r ∈ t → -lim ≤ r.f0 ∧ r.f0 ≤ lim ∧ -lim ≤ r.f1 ∧ r.f1 ≤ lim) → (p ++ t).length < 4398046511104 → acc.length + t.length < 4398046511104 →
    Ev (fun i => lustrumref05_Grow.l0 i (p ++ t) k acc (p.length : Int)) (norm (acc ++ t.map (shifted (-k) k)))
  | [], p, acc, _, _, hl => by
    simp only [List.length_nil] at hl
    refine Ev.step (f := fun i => (lustrumref04_Make.f i acc).bind fun t => some t) (fun i => by rw [lustrumref05_Grow.l0, if_neg (at_end p)]) ?_
    simp only [List.map_nil, List.append_nil]
    exact Ev.bind (rMake_f _ (by omega)) (Ev.now _)
  | r :: t, p, acc, hb, hn, hl => by
    simp only [List.length_cons] at hl
    obtain ⟨b1, b2, b3, b4⟩ := hb r List.mem_cons_self
    have h := rGrow_l0 k h1 h2 t (p ++ [r]) (acc ++ [shifted (-k) k r]) (fun q hq => hb q (List.mem_cons_of_mem _ hq)) (by rw [← at_app]; exact hn) (by rw [List.length_append, List.length_singleton]; omega)
    rw [← at_app] at h
    refine Ev.eq (Ev.step (fun i => ?_) h) (by simp)
    rw [lustrumref05_Grow.l0, if_pos (at_lt p r t), if_pos (at_0 p), if_pos (by omega), at_rd, at_next (p := p) (r := r) (t := t) (by omega), w64 (by unfold lim at *; omega) (by unfold lim at *; omega), w64 (by unfold lim at *; omega) (by unfold lim at *; omega)]
    rfl
theorem rGrow_f (l : List S71) (k : Int) (hn : l.length < 4398046511104) : ∃ m, Ev (fun i => lustrumref05_Grow.f i l k) m ∧ IsSet m (fun n => ∃ x, mem (norm l) x ∧ x - near k ≤ n ∧ n ≤ x + near k) := by
  have hl := norm_len l
  refine ⟨_, ?_, grown l k⟩
  have h : mn (mx k 0) 2199023255552 = near k := by rw [mx_max, mn_min]; unfold near; omega
  refine Ev.bind (As_f l hn) ?_
  rw [h]
  have := rGrow_l0 (near k) (by unfold near; omega) (by unfold near; omega) (norm l) [] [] (saneF_bounds (norm_sane l) (Int.le_refl _)) (by simp; omega) (by simp; omega)
  simpa using this
theorem rClip_f (l : List S71) (lo hi : Int) (hn : l.length < 4398046511100) : ∃ m, Ev (fun i => lustrumref05_Clip.f i l lo hi) m ∧ IsSet m (fun n => mem l n ∧ lo ≤ n ∧ n ≤ hi) := by
  obtain ⟨m, h1, h2⟩ := rMeet_f l [⟨lo, hi⟩] (by simp; omega) (by omega) (by simp)
  refine ⟨m, Ev.bind h1 (Ev.now _), h2.congr fun n _ _ => ?_⟩
  rw [mem_one]
theorem rLeap_f {y : Int} (h : 0 ≤ y) : lustrumref02_Leap.f y = some (leapY y) := by
  unfold lustrumref02_Leap.f leapY
  rw [tm_ h, tm_ h, tm_ h]
  by_cases h4 : y % 4 = 0
  · rw [if_pos h4, decide_eq_true h4]
    by_cases h1 : y % 100 = 0
    · rw [if_pos h1, decide_eq_true h1]
      by_cases h5 : y % 400 = 0
      · rw [decide_eq_true h5, h5]; rfl
      · rw [decide_eq_false h5]; simp [h5]
    · rw [if_neg h1, decide_eq_false h1]; simp
  · have h5 : ¬ y % 400 = 0 := by omega
    rw [if_neg h4, decide_eq_false h4, decide_eq_false h5]; simp [h5]
theorem rDays_f {y m : Int} (h : 0 ≤ y) (h1 : 1 ≤ m) (h2 : m ≤ 12) : Ev (fun k => lustrumref02_Days.f k y m) (dim y m) := by
  rcases m_cases h1 h2 with rfl | rfl | rfl | rfl | rfl | rfl | rfl | rfl | rfl | rfl | rfl | rfl
  all_goals first
    | exact ⟨2, fun k hk => by obtain ⟨j, rfl⟩ : ∃ j, k = j + 2 := ⟨k - 2, by omega⟩; rfl⟩
    | exact ⟨2, fun k hk => by
        obtain ⟨j, rfl⟩ : ∃ j, k = j + 2 := ⟨k - 2, by omega⟩
        show ((lustrumref02_Leap.f y).bind fun t => if t = true then some 29 else some 28) = some (dim y 2)
        rw [rLeap_f h]; unfold dim; cases leapY y <;> rfl⟩
theorem rstart_f {y : Int} (h0 : 0 ≤ y) (h9 : y ≤ 9999) : lustrumref02_start.f y = some (numD y 1 1) := by
  unfold lustrumref02_start.f
  simp (disch := omega) only [td_, w64]
  congr 1
  unfold numD mD pY
  rw [if_pos (by omega)]
  omega
theorem rNumber_l0 {y : Int} (h0 : 0 ≤ y) (h9 : y ≤ 9999) (m : Int) (hm : m ≤ 12) : ∀ (n : Nat) (j : Int), 1 ≤ j → j + n = m → Ev (fun k => lustrumref02_Number.l0 k y m (numD y j 1) j) (numD y m 1, true)
  | 0, j, h1, hj => by
    have e : j = m := by omega
    subst e
    exact Ev.step (f := fun _ => some (numD y j 1, true)) (fun k => by rw [lustrumref02_Number.l0, if_neg (by omega)]) (Ev.now _)
  | n + 1, j, h1, hj => by
    have s := month_step (y := y) (m := j) h1 (by omega)
    have r := num1_range (y := y) (m := j) ⟨h0, h9⟩ ⟨h1, by omega⟩
    have d := dim_any (y := y) (m := j)
    have dp := (dim_pos (y := y) (m := j) h1 (by omega)).1
    refine Ev.step (fun k => by rw [lustrumref02_Number.l0, if_pos (by omega)]) (Ev.bind (rDays_f h0 h1 (by omega)) ?_)
    rw [w64 (x := numD y j 1 + dim y j) (by omega) (by omega), w64 (x := j + 1) (by omega) (by omega), ← s]
    exact rNumber_l0 h0 h9 m hm n (j + 1) (by omega) (by omega)
theorem rNumber_f {y m : Int} (h0 : 0 ≤ y) (h9 : y ≤ 9999) (h1 : 1 ≤ m) (h2 : m ≤ 12) : Ev (fun k => lustrumref02_Number.f k y m 1) (numD y m 1, true) := by
  have dp := (dim_pos (y := y) (m := m) h1 h2).1
  have hv : Ev (fun k => lustrumref02_Valid.f k y m 1) true := by
    unfold lustrumref02_Valid.f
    exact Ev.ift (by omega) (Ev.ift (by omega) (Ev.ift (by omega) (Ev.bind (rDays_f h0 h1 h2) (Ev.eq (Ev.now _) (decide_eq_true (by omega))))))
  have r := num1_range (y := y) (m := 1) ⟨h0, h9⟩ (by omega)
  unfold lustrumref02_Number.f
  refine Ev.bind hv (Ev.ift rfl (Ev.bnow (rstart_f h0 h9) ?_))
  rw [w64 (x := numD y 1 1 + 1) (by omega) (by omega), show numD y 1 1 + 1 - 1 = numD y 1 1 by omega, w64 (by omega) (by omega)]
  exact rNumber_l0 h0 h9 m h2 (m - 1).toNat 1 (by omega) (by omega)
theorem rCount_f3 (kind : Int) (hk : kindOk kind) : lustrumref03_Count.f kind = some (kcount kind.toNat) := by
  rcases hk with rfl | rfl | rfl | rfl | rfl | rfl <;> rfl
theorem rFirst_f {kind : Int} (hk : kindOk kind) {i : Int} (hi : 0 ≤ i ∧ i < kcount kind.toNat) : ∃ q, Ev (fun k => lustrumref03_First.f k kind i) q := by
  have hj : ∃ q, Ev (fun k => lustrumref03_First.j0 k kind i false) q := by
    have hst : ∀ {q}, Ev (fun k => (if kind = 0 then (some (i, true)) else (if kind = 1 then ((lustrumref02_Number.f k (wrap64 (Int.tdiv i 12)) (wrap64 ((Int.tmod i 12) + 1)) 1).bind fun bt285 => (some (bt285.1, bt285.2))) else (if kind = 2 then ((lustrumref02_Number.f k (wrap64 (Int.tdiv i 4)) (wrap64 ((wrap64 ((Int.tmod i 4) * 3)) + 3)) 1).bind fun bt287 => (some (bt287.1, bt287.2))) else (if kind = 3 then ((lustrumref02_Number.f k i 1 1).bind fun bt289 => (some (bt289.1, bt289.2))) else (if kind = 4 then ((lustrumref02_Number.f k (wrap64 (i * 10)) 1 1).bind fun bt291 => (some (bt291.1, bt291.2))) else ((lustrumref02_Number.f k (wrap64 (i * 100)) 1 1).bind fun bt293 => (some (bt293.1, bt293.2)))))))) ) q → Ev (fun k => lustrumref03_First.j0 k kind i false) q := fun {q} h => Ev.step (fun k => by rw [lustrumref03_First.j0, if_neg (by simp)]) h
    rcases hk with rfl | rfl | rfl | rfl | rfl | rfl
    · exact ⟨(i, true), hst (Ev.ift rfl (Ev.now _))⟩
    · have hi2 : i < 120000 := hi.2
      have key := rNumber_f (y := i / 12) (m := i % 12 + 1) (by omega) (by omega) (by omega) (by omega)
      refine ⟨(numD (i / 12) (i % 12 + 1) 1, true), hst (Ev.iff_ (by decide) (Ev.ift rfl ?_))⟩
      rw [td_ hi.1 (by omega), tm_ hi.1, w64 (x := i / 12) (by omega) (by omega), w64 (x := i % 12 + 1) (by omega) (by omega)]
      exact Ev.bind key (Ev.now _)
    · have hi2 : i < 40000 := hi.2
      have key := rNumber_f (y := i / 4) (m := i % 4 * 3 + 3) (by omega) (by omega) (by omega) (by omega)
      refine ⟨(numD (i / 4) (i % 4 * 3 + 3) 1, true), hst (Ev.iff_ (by decide) (Ev.iff_ (by decide) (Ev.ift rfl ?_)))⟩
      rw [td_ hi.1 (by omega), tm_ hi.1, w64 (x := i / 4) (by omega) (by omega), w64 (x := i % 4 * 3) (by omega) (by omega), w64 (x := i % 4 * 3 + 3) (by omega) (by omega)]
      exact Ev.bind key (Ev.now _)
    · have hi2 : i < 10000 := hi.2
      have key := rNumber_f (y := i) (m := 1) (by omega) (by omega) (by omega) (by omega)
      exact ⟨(numD i 1 1, true), hst (Ev.iff_ (by decide) (Ev.iff_ (by decide) (Ev.iff_ (by decide) (Ev.ift rfl (Ev.bind key (Ev.now _))))))⟩
    · have hi2 : i < 1000 := hi.2
      have key := rNumber_f (y := i * 10) (m := 1) (by omega) (by omega) (by omega) (by omega)
      refine ⟨(numD (i * 10) 1 1, true), hst (Ev.iff_ (by decide) (Ev.iff_ (by decide) (Ev.iff_ (by decide) (Ev.iff_ (by decide) (Ev.ift rfl ?_)))))⟩
      rw [w64 (x := i * 10) (by omega) (by omega)]
      exact Ev.bind key (Ev.now _)
    · have hi2 : i < 100 := hi.2
      have key := rNumber_f (y := i * 100) (m := 1) (by omega) (by omega) (by omega) (by omega)
      refine ⟨(numD (i * 100) 1 1, true), hst (Ev.iff_ (by decide) (Ev.iff_ (by decide) (Ev.iff_ (by decide) (Ev.iff_ (by decide) (Ev.iff_ (by decide) ?_)))))⟩
      rw [w64 (x := i * 100) (by omega) (by omega)]
      exact Ev.bind key (Ev.now _)
  obtain ⟨q, hq⟩ := hj
  refine ⟨q, ?_⟩
  unfold lustrumref03_First.f
  refine Ev.iff_ (by omega) (Ev.bnow (rCount_f3 kind hk) ?_)
  rw [decide_eq_false (by omega)]
  exact hq
theorem rUnits_any {kind : Int} (hk : kindOk kind) {s : List S71} (hl : s.length ≤ 5000000) : ∃ m, Ev (fun k => lustrumref07_Units.f k kind s) m ∧ IsSet m (fun n => mem s n ∧ 0 ≤ n ∧ n ≤ kcount kind.toNat - 1) := by
  have hp := kcount_pos kind.toNat
  obtain ⟨m, h1, h2⟩ := rClip_f s 0 (kcount kind.toNat - 1) (by omega)
  unfold lustrumref07_Units.f
  refine ⟨m, Ev.bnow (rCount_f3 kind hk) ?_, h2⟩
  rw [w64 (by omega) (by omega)]
  exact Ev.bind h1 (Ev.now _)
theorem rUnits_f {kind : Int} (hk : kindOk kind) {s : List S71} (hs : sane s) (hb : ∀ n, mem s n → 0 ≤ n ∧ n < kcount kind.toNat) (hl : s.length ≤ 4000000) : Ev (fun k => lustrumref07_Units.f k kind s) s := by
  obtain ⟨m, h1, h2⟩ := rUnits_any hk (s := s) (by omega)
  have e : m = s := h2.eq (isSet_self hs) fun n _ _ => ⟨fun h => h.1, fun h => ⟨h, by have := hb n h; omega⟩⟩
  rw [e] at h1; exact h1
theorem cnt_nn : ∀ {s : List S71} {a : Int}, saneF a s → 0 ≤ cnt s
  | [], _, _ => Int.le_refl _
  | r :: t, a, h => by have := cnt_nn h.2.2.2; have := h.2.1; show 0 ≤ (r.f1 - r.f0 + 1) + cnt t; omega
theorem rends_l1 {kind : Int} (hk : kindOk kind) (s : List S71) (p : List S71) (r : S71) (t : List S71) (e : s = p ++ r :: t) (hl : s.length ≤ 4000000) (hb : 0 ≤ r.f0 ∧ r.f1 < kcount kind.toNat) (c : Int) (hc : 0 ≤ c) : ∀ (n : Nat) (x : Int) (acc : List S71), r.f0 ≤ x → x + n = r.f1 + 1 → acc.length ≤ 400 →
    (∀ acc' : List S71, (acc'.length : Int) = acc.length + n → acc'.length ≤ 400 → ∃ q, Ev (fun k => lustrumref07_ends.l0 k kind false s acc' (wrap64 ((p.length : Int) + 1))) (q, decide ((acc'.length : Int) + c ≤ 400))) →
    ∃ q, Ev (fun k => lustrumref07_ends.l1 k kind false s acc (p.length : Int) x) (q, decide ((acc.length : Int) + n + c ≤ 400))
  | 0, x, acc, h0, hx, ha, h => by
    obtain ⟨q, hq⟩ := h acc (by omega) ha
    refine ⟨q, Ev.step (f := fun k => lustrumref07_ends.l0 k kind false s acc (wrap64 ((p.length : Int) + 1))) (fun k => by rw [lustrumref07_ends.l1, if_pos (at_0 p), if_pos (by rw [e]; exact at_lt p r t), if_neg (by rw [e, at_rd]; omega)]) (Ev.eq hq ?_)⟩
    congr 2
  | n + 1, x, acc, h0, hx, ha, h => by
    obtain ⟨v, hv⟩ := rFirst_f hk (i := x) (by omega)
    have hK := kcount_pos kind.toNat
    have hst : ∀ {q}, Ev (fun k => (lustrumref03_First.f k kind x).bind fun bt303 => (if acc.length < 8796093022208 then ((some (acc ++ [(⟨bt303.1, bt303.1⟩ : S71)] : List (S71))).bind fun y310 => (if (y310.length : Int) > 400 then (some (([] : List (S71)), false)) else (lustrumref07_ends.l1 k kind false s y310 (p.length : Int) (wrap64 (x + 1))))) else (none))) q → Ev (fun k => lustrumref07_ends.l1 k kind false s acc (p.length : Int) x) q := fun {q} hq =>
      Ev.step (fun k => by rw [lustrumref07_ends.l1, if_pos (at_0 p), if_pos (by rw [e]; exact at_lt p r t), if_pos (by rw [e, at_rd]; omega)]; rfl) hq
    by_cases hw : ((acc ++ [(⟨v.1, v.1⟩ : S71)]).length : Int) > 400
    · refine ⟨[], hst (Ev.bind hv (Ev.ift (by omega) (Ev.bnow (x := acc ++ [(⟨v.1, v.1⟩ : S71)]) rfl (Ev.ift hw (Ev.eq (Ev.now _) ?_)))))⟩
      rw [List.length_append, List.length_singleton] at hw
      rw [decide_eq_false (by omega)]
    · have hlen : (acc ++ [(⟨v.1, v.1⟩ : S71)]).length = acc.length + 1 := by rw [List.length_append, List.length_singleton]
      obtain ⟨q, hq⟩ := rends_l1 hk s p r t e hl hb c hc n (x + 1) (acc ++ [⟨v.1, v.1⟩]) (by omega) (by omega) (by omega) (fun acc' h1 h2 => h acc' (by omega) h2)
      refine ⟨q, hst (Ev.bind hv (Ev.ift (by omega) (Ev.bnow (x := acc ++ [(⟨v.1, v.1⟩ : S71)]) rfl (Ev.iff_ hw ?_))))⟩
      rw [w64 (x := x + 1) (by omega) (by omega)]
      refine Ev.eq hq ?_
      rw [hlen]
      congr 2
      simp; omega
theorem rends_l0 {kind : Int} (hk : kindOk kind) (s : List S71) (hl : s.length ≤ 4000000) : ∀ (t p : List S71) (a : Int) (acc : List S71), s = p ++ t → saneF a t → (∀ r, r ∈ t → 0 ≤ r.f0 ∧ r.f1 < kcount kind.toNat) → acc.length ≤ 400 →
    ∃ q, Ev (fun k => lustrumref07_ends.l0 k kind false s acc (p.length : Int)) (q, decide ((acc.length : Int) + cnt t ≤ 400))
  | [], p, a, acc, e, _, _, ha => by
    refine ⟨acc, Ev.step (f := fun _ => some (acc, true)) (fun k => by rw [lustrumref07_ends.l0, if_neg (by rw [e]; exact at_end p)]) (Ev.eq (Ev.now _) ?_)⟩
    rw [decide_eq_true (by show (acc.length : Int) + 0 ≤ 400; omega)]
  | r :: t, p, a, acc, e, hs, hb, ha => by
    have hc := cnt_nn hs.2.2.2
    obtain ⟨q, hq⟩ := rends_l1 hk s p r t e hl (hb r List.mem_cons_self) (cnt t) hc (r.f1 + 1 - r.f0).toNat r.f0 acc (Int.le_refl _) (by have := hs.2.1; omega) ha (fun acc' h1 h2 => by
      have hp : (p ++ r :: t).length ≤ 4611686018427387904 := by rw [← e]; omega
      rw [at_next hp]
      exact rends_l0 hk s hl t (p ++ [r]) _ acc' (by rw [← at_app]; exact e) hs.2.2.2 (fun x hx => hb x (List.mem_cons_of_mem _ hx)) h2)
    refine ⟨q, Ev.step (f := fun k => lustrumref07_ends.l1 k kind false s acc (p.length : Int) r.f0) (fun k => by rw [lustrumref07_ends.l0, if_pos (by rw [e]; exact at_lt p r t), if_pos (at_0 p), e, at_rd]) (Ev.eq hq ?_)⟩
    congr 2
    have := hs.2.1
    show ((acc.length : Int) + ((r.f1 + 1 - r.f0).toNat : Int) + cnt t ≤ 400) = ((acc.length : Int) + ((r.f1 - r.f0 + 1) + cnt t) ≤ 400)
    rw [eq_iff_iff]
    constructor <;> intro <;> omega
theorem rStarts_f {kind : Int} (hk : kindOk kind) {s : List S71} (hs : sane s) (hb : ∀ n, mem s n → 0 ≤ n ∧ n < kcount kind.toNat) (hl : s.length ≤ 4000000) : ∃ q, Ev (fun k => lustrumref07_Starts.f k kind s) (q, !wideV kind s) := by
  have hu := rUnits_f hk hs hb hl
  have he : ∃ q, Ev (fun k => lustrumref07_ends.f k kind s false) (q, !wideV kind s) := by
    unfold lustrumref07_ends.f
    by_cases h0 : kind = 0
    · refine ⟨s, Ev.bind hu (Ev.ift h0 (Ev.eq (Ev.now _) ?_))⟩
      unfold wideV
      rw [if_pos h0]
      congr 1
      by_cases hc : (s.length : Int) > 400
      · rw [decide_eq_true hc, decide_eq_false (by omega)]; rfl
      · rw [decide_eq_false hc, decide_eq_true (by omega)]; rfl
    · obtain ⟨q, hq⟩ := rends_l0 hk s hl s [] _ [] rfl hs (fun r hr => by
        obtain ⟨_, hle, _⟩ := saneF_all hs r hr
        exact ⟨(hb r.f0 ⟨r, hr, Int.le_refl _, hle⟩).1, (hb r.f1 ⟨r, hr, hle, Int.le_refl _⟩).2⟩) (by simp)
      refine ⟨q, Ev.bind hu (Ev.iff_ h0 (Ev.eq hq ?_))⟩
      unfold wideV
      rw [if_neg h0]
      congr 1
      by_cases hc : cnt s > 400
      · rw [decide_eq_true hc, decide_eq_false (by show ¬ ((0 : Nat) : Int) + cnt s ≤ 400; omega)]; rfl
      · rw [decide_eq_false hc, decide_eq_true (by show ((0 : Nat) : Int) + cnt s ≤ 400; omega)]; rfl
  obtain ⟨q, hq⟩ := he
  unfold lustrumref07_Starts.f
  cases hw : wideV kind s with
  | true => rw [hw] at hq; exact ⟨[], Ev.bind hq (Ev.iff_ (by simp) (Ev.now _))⟩
  | false => rw [hw] at hq; exact ⟨q, Ev.bind hq (Ev.ift rfl (Ev.now _))⟩
def numF (l : List UInt8) (lo : Int) (n : Nat) : List Int := (upto lo n).filter fun x => refV l x
theorem numF_mem (l : List UInt8) (lo : Int) (n : Nat) (x : Int) : x ∈ numF l lo n ↔ lo ≤ x ∧ x < lo + n ∧ refV l x = true := by
  unfold numF
  rw [List.mem_filter, upto_mem]
  constructor
  · rintro ⟨h, h2⟩; exact ⟨h.1, h.2, h2⟩
  · rintro ⟨h, h1, h2⟩; exact ⟨⟨h, h1⟩, h2⟩
theorem numF_asc (l : List UInt8) (lo : Int) (n : Nat) : asc (numF l lo n) := List.Pairwise.filter _ (asc_upto n lo)
theorem numF_len (l : List UInt8) (lo : Int) (n : Nat) : (numF l lo n).length ≤ n := by
  have := List.length_filter_le (fun x => refV l x) (upto lo n)
  rw [upto_len] at this; exact this
theorem rnumbers_l0 (s : ByteArray) (hz : s.size ≤ 9223372036854775807) (hi_ : Int) (ht : hi_ ≤ 9999) : ∀ (n : Nat) (x : Int) (acc : List Int), 0 ≤ x → x + n = hi_ + 1 → acc.length + n < 100000 →
    Ev (fun k => lustrumref08_numbers.l0 k s hi_ acc x) (acc ++ numF s.data.toList x n)
  | 0, x, acc, h0, hx, hl => Ev.step (f := fun _ => some acc) (fun k => by rw [lustrumref08_numbers.l0, if_neg (by omega)]) (Ev.eq (Ev.now _) (by simp [numF, upto]))
  | n + 1, x, acc, h0, hx, hl => by
    have hm := rMatch_f s hz x (by omega)
    refine Ev.step (fun k => by rw [lustrumref08_numbers.l0, if_pos (by omega)]) (Ev.bind hm ?_)
    rw [w64 (x := x + 1) (by omega) (by omega)]
    have hcons : numF s.data.toList x (n + 1) = if refV s.data.toList x = true then x :: numF s.data.toList (x + 1) n else numF s.data.toList (x + 1) n := by
      unfold numF
      rw [upto, List.filter_cons]
    rw [hcons]
    by_cases hv : refV s.data.toList x = true
    · rw [if_pos hv]
      refine Ev.ift hv (Ev.ift (by omega) ?_)
      have := rnumbers_l0 s hz hi_ ht n (x + 1) (acc ++ [x]) (by omega) (by omega) (by rw [List.length_append, List.length_singleton]; omega)
      rw [List.append_assoc, List.singleton_append] at this
      exact this
    · rw [if_neg hv]
      exact Ev.iff_ hv (rnumbers_l0 s hz hi_ ht n (x + 1) acc (by omega) (by omega) (by omega))
theorem rnumbers_f (s : ByteArray) (hz : s.size ≤ 9223372036854775807) (lo : Int) (n : Nat) (h0 : 0 ≤ lo) (hi_ : Int) (hto : hi_ = lo + n - 1) (hn : hi_ ≤ 9999) : Ev (fun k => lustrumref08_numbers.f k s lo hi_) (numF s.data.toList lo n) := by
  have := rnumbers_l0 s hz hi_ hn n lo [] h0 (by omega) (by simp; omega)
  rw [List.nil_append] at this
  exact this
theorem saneF_head : ∀ {p : List S71} {a : Int} {t : List S71}, saneF a (p ++ t) → saneF a p
  | [], _, _, _ => trivial
  | r :: p, a, t, h => ⟨h.1, h.2.1, h.2.2.1, saneF_head h.2.2.2⟩
theorem set_last (p : List S71) (r x : S71) : (p ++ [r]).set p.length x = p ++ [x] := by simp
theorem rput_f {acc : List S71} (hs : sane acc) {n : Int} (hn : -lim ≤ n ∧ n ≤ lim) (hl : ∀ m, mem acc m → m < n) (hlen : acc.length < 4000001) :
    ∃ acc', lustrumref08_put.f acc n = some acc' ∧ sane acc' ∧ (∀ m, mem acc' m ↔ mem acc m ∨ m = n) ∧ acc'.length ≤ acc.length + 1 := by
  have hlim : lim = 1099511627776 := rfl
  have hmm : ∀ m, mem [(⟨n, n⟩ : S71)] m ↔ m = n := fun m => by rw [mem_one]; simp only; omega
  rcases List.eq_nil_or_concat acc with rfl | ⟨p, r, hpr⟩
  · refine ⟨[⟨n, n⟩], ?_, ⟨by show -lim - 2 + 2 ≤ n; omega, Int.le_refl _, hn.2, trivial⟩, fun m => ?_, by simp⟩
    · unfold lustrumref08_put.f
      rw [w64 (by simp) (by simp)]
      rw [if_neg (by simp), if_pos (by simp)]; rfl
    · rw [hmm]; simp [mem_nil]
  · rw [List.concat_eq_append] at hpr
    subst hpr
    obtain ⟨b, hb1, hb2, hb3⟩ := saneF_tail (show saneF (-lim - 2) (p ++ [r]) from hs)
    have hp := saneF_head (show saneF (-lim - 2) (p ++ [r]) from hs)
    have hlr : r.f1 < n := hl r.f1 ⟨r, by simp, hb1.2.1, Int.le_refl _⟩
    rw [List.length_append, List.length_singleton] at hlen
    have e1 : wrap64 (((p ++ [r]).length : Int) - 1) = (p.length : Int) := by rw [List.length_append, List.length_singleton, w64 (by omega) (by omega)]; omega
    have e2 : rd_T71 (p ++ [r]) (p.length : Int) = r := at_rd p r []
    have e3 : wrap64 (n - 1) = n - 1 := w64 (by omega) (by omega)
    by_cases hc : r.f1 = n - 1
    · refine ⟨p ++ [⟨r.f0, n⟩], ?_, ?_, fun m => ?_, by simp⟩
      · unfold lustrumref08_put.f
        rw [e1, e2, e3, if_pos (by omega), if_pos (by omega), if_pos (by rw [List.length_append, List.length_singleton]; omega), if_pos hc, Int.toNat_natCast, set_last]
      · exact saneF_app hp hb3 hb2 ⟨hb1.1, by show r.f0 ≤ n; have := hb1.2.1; omega, hn.2, trivial⟩
      · rw [mem_append, mem_append, mem_one, mem_one]
        simp only
        have := hb1.2.1
        constructor
        · rintro (h | h)
          · exact .inl (.inl h)
          · by_cases he : m = n
            · exact .inr he
            · exact .inl (.inr (by omega))
        · rintro ((h | h) | h)
          · exact .inl h
          · exact .inr (by omega)
          · exact .inr (by omega)
    · refine ⟨(p ++ [r]) ++ [⟨n, n⟩], ?_, ?_, fun m => ?_, by simp⟩
      · unfold lustrumref08_put.f
        rw [e1, e2, e3, if_pos (by omega), if_pos (by omega), if_pos (by rw [List.length_append, List.length_singleton]; omega), if_neg hc, if_pos (by rw [List.length_append, List.length_singleton]; omega)]
      · refine saneF_app (c := n - 2) (show saneF (-lim - 2) (p ++ [r]) from hs) (fun x hx => ?_) (by have := hb1.1; have := hb1.2.1; omega) ⟨by show n - 2 + 2 ≤ n; omega, Int.le_refl _, hn.2, trivial⟩
        rcases List.mem_append.1 hx with hx | hx
        · have := hb3 x hx; have := hb1.1; have := hb1.2.1; omega
        · obtain rfl := List.mem_singleton.1 hx; omega
      · rw [mem_append, hmm]
def PutOK (acc : List S71) (L : List Int) : Prop := sane acc ∧ acc.length + L.length ≤ 4000000 ∧ (∀ m, mem acc m → ∀ x, x ∈ L → m < x) ∧ asc L ∧ ∀ x, x ∈ L → -lim ≤ x ∧ x ≤ lim
theorem PutOK.step {acc : List S71} {n : Int} {L : List Int} (h : PutOK acc (n :: L)) : ∃ acc', lustrumref08_put.f acc n = some acc' ∧ PutOK acc' L ∧ ∀ m, mem acc' m ↔ mem acc m ∨ m = n := by
  obtain ⟨h1, h2, h3, h4, h5⟩ := h
  rw [List.length_cons] at h2
  obtain ⟨acc', a1, a2, a3, a4⟩ := rput_f h1 (h5 n List.mem_cons_self) (fun m hm => h3 m hm n List.mem_cons_self) (by omega)
  have hp := List.pairwise_cons.1 h4
  refine ⟨acc', a1, ⟨a2, by omega, fun m hm x hx => ?_, hp.2, fun x hx => h5 x (List.mem_cons_of_mem _ hx)⟩, a3⟩
  rcases (a3 m).1 hm with hm | rfl
  · exact h3 m hm x (List.mem_cons_of_mem _ hx)
  · exact hp.1 x hx
theorem runits_l2 : ∀ (t p : List Int) (acc : List S71), PutOK acc t → (p ++ t).length ≤ 1000000 → (∀ x, x ∈ t → 0 ≤ x ∧ x ≤ 9999) →
    ∃ s, Ev (fun k => lustrumref08_units.l2 k (p ++ t) acc (p.length : Int)) s ∧ sane s ∧ ∀ m, mem s m ↔ mem acc m ∨ m ∈ t
  | [], p, acc, h, hl, _ => ⟨acc, Ev.step (f := fun _ => some acc) (fun k => by rw [lustrumref08_units.l2, if_neg (at_end p)]) (Ev.now _), h.1, fun m => by simp⟩
  | n :: t, p, acc, h, hl, hb => by
    obtain ⟨acc', a1, a2, a3⟩ := h.step
    obtain ⟨s, s1, s2, s3⟩ := runits_l2 t (p ++ [n]) acc' a2 (by rw [← at_app]; exact hl) (fun x hx => hb x (List.mem_cons_of_mem _ hx))
    rw [← at_app] at s1
    refine ⟨s, Ev.step (f := fun k => lustrumref08_units.l2 k (p ++ n :: t) acc' ((p ++ [n]).length : Int)) (fun k => by rw [lustrumref08_units.l2, if_pos (at_lt p n t), if_pos (at_0 p), at_rdi, a1, Option.bind_some, at_next (p := p) (r := n) (t := t) (by omega)]) s1, s2, fun m => ?_⟩
    rw [s3, a3, List.mem_cons, or_assoc]
def uN (per y n : Int) : Int := y * per + n - 1
theorem runits_l1 (per : Int) (hper : 1 ≤ per ∧ per ≤ 12) (ys : List Int) (p : List Int) (y : Int) (t : List Int) (e : ys = p ++ y :: t) (hy : 0 ≤ y ∧ y ≤ 9999) (ins : List Int) (rest : List Int) : ∀ (u q : List Int) (acc : List S71), ins = q ++ u → ins.length ≤ 31 → (∀ n, n ∈ u → 1 ≤ n ∧ n ≤ 31) → PutOK acc (u.map (uN per y) ++ rest) →
    (∀ acc', PutOK acc' rest → (∀ m, mem acc' m ↔ mem acc m ∨ m ∈ u.map (uN per y)) → ∃ s, Ev (fun k => lustrumref08_units.l0 k ys acc' per ins (wrap64 ((p.length : Int) + 1))) s ∧ sane s ∧ ∀ m, mem s m ↔ mem acc' m ∨ m ∈ rest) →
    ∃ s, Ev (fun k => lustrumref08_units.l1 k ys acc per ins (p.length : Int) (q.length : Int)) s ∧ sane s ∧ ∀ m, mem s m ↔ mem acc m ∨ m ∈ u.map (uN per y) ++ rest
  | [], q, acc, ei, hil, hu, hk, h => by
    obtain ⟨s, s1, s2, s3⟩ := h acc hk (fun m => by simp)
    exact ⟨s, Ev.step (f := fun k => lustrumref08_units.l0 k ys acc per ins (wrap64 ((p.length : Int) + 1))) (fun k => by rw [lustrumref08_units.l1, if_neg (by rw [ei]; exact at_end q)]) s1, s2, fun m => by simpa using s3 m⟩
  | n :: u, q, acc, ei, hil, hu, hk, h => by
    have hn := hu n List.mem_cons_self
    have b1 : 0 ≤ y * per := Int.mul_nonneg hy.1 (by omega)
    have b2 : y * per ≤ 9999 * 12 := Int.mul_le_mul hy.2 hper.2 (by omega) (by omega)
    rw [List.map_cons, List.cons_append] at hk
    obtain ⟨acc', a1, a2, a3⟩ := hk.step
    obtain ⟨s, s1, s2, s3⟩ := runits_l1 per hper ys p y t e hy ins rest u (q ++ [n]) acc' (by rw [← at_app]; exact ei) hil (fun x hx => hu x (List.mem_cons_of_mem _ hx)) a2 (fun acc2 h1 h2 => h acc2 h1 fun m => by rw [h2, a3, List.map_cons, List.mem_cons, or_assoc])
    have ex : wrap64 (wrap64 (wrap64 (y * per) + n) - 1) = uN per y n := by unfold uN; simp (disch := omega) only [w64]
    refine ⟨s, Ev.step (f := fun k => lustrumref08_units.l1 k ys acc' per ins (p.length : Int) ((q ++ [n]).length : Int)) (fun k => by
      rw [lustrumref08_units.l1, if_pos (by rw [ei]; exact at_lt q n u), if_pos (at_0 p), if_pos (by rw [e]; exact at_lt p y t), if_pos (at_0 q), e, at_rdi]
      rw [show rd ins (q.length : Int) = n by rw [ei]; exact at_rdi q n u, ex, a1, Option.bind_some, at_next (p := q) (r := n) (t := u) (by rw [← ei]; omega)]) s1, s2, fun m => ?_⟩
    rw [s3, a3, List.map_cons, List.cons_append, List.mem_cons, or_assoc]
theorem runits_l0 (per : Int) (hper : 1 ≤ per ∧ per ≤ 12) (ins : List Int) (hil : ins.length ≤ 31) (hin : ∀ n, n ∈ ins → 1 ≤ n ∧ n ≤ 31) (ys : List Int) (hyl : ys.length ≤ 1000000) : ∀ (t p : List Int) (acc : List S71), ys = p ++ t → (∀ y, y ∈ t → 0 ≤ y ∧ y ≤ 9999) → PutOK acc (t.flatMap fun y => ins.map (uN per y)) →
    ∃ s, Ev (fun k => lustrumref08_units.l0 k ys acc per ins (p.length : Int)) s ∧ sane s ∧ ∀ m, mem s m ↔ mem acc m ∨ m ∈ t.flatMap fun y => ins.map (uN per y)
  | [], p, acc, e, _, hk => ⟨acc, Ev.step (f := fun _ => some acc) (fun k => by rw [lustrumref08_units.l0, if_neg (by rw [e]; exact at_end p)]) (Ev.now _), hk.1, fun m => by simp⟩
  | y :: t, p, acc, e, hy, hk => by
    rw [List.flatMap_cons] at hk ⊢
    obtain ⟨s, s1, s2, s3⟩ := runits_l1 per hper ys p y t e (hy y List.mem_cons_self) ins (t.flatMap fun y => ins.map (uN per y)) ins [] acc rfl hil hin hk (fun acc' h1 _ => by
      have hp : (p ++ y :: t).length ≤ 4611686018427387904 := by rw [← e]; omega
      rw [at_next hp]
      exact runits_l0 per hper ins hil hin ys hyl t (p ++ [y]) acc' (by rw [← at_app]; exact e) (fun x hx => hy x (List.mem_cons_of_mem _ hx)) h1)
    exact ⟨s, Ev.step (f := fun k => lustrumref08_units.l1 k ys acc per ins (p.length : Int) 0) (fun k => by rw [lustrumref08_units.l0, if_pos (by rw [e]; exact at_lt p y t)]) s1, s2, s3⟩
theorem uN_asc {per : Int} (hper : 1 ≤ per) {ins : List Int} (ha : asc ins) (hin : ∀ n, n ∈ ins → 1 ≤ n ∧ n ≤ per) {ys : List Int} (hy : asc ys) : asc (ys.flatMap fun y => ins.map (uN per y)) := by
  refine List.pairwise_flatMap.2 ⟨fun y _ => List.Pairwise.map _ (fun a b hab => by unfold uN; omega) ha, List.Pairwise.imp (fun {y z} hyz x hx w hw => ?_) hy⟩
  obtain ⟨n, hn, rfl⟩ := List.mem_map.1 hx
  obtain ⟨m, hm, rfl⟩ := List.mem_map.1 hw
  have hn := hin n hn
  have hm := hin m hm
  have b2 := Int.mul_le_mul_of_nonneg_right (show y + 1 ≤ z by omega) (show 0 ≤ per by omega)
  rw [Int.add_mul, Int.one_mul] at b2
  unfold uN
  omega
theorem uN_mem {per : Nat} (hper : 1 ≤ per) {l m : List UInt8} (n : Int) : n ∈ ((numF l 0 10000).flatMap fun y => (numF m 1 per).map (uN per y)) ↔ 0 ≤ n ∧ n < 10000 * per ∧ refV l (n / per) = true ∧ refV m (n % per + 1) = true := by
  have hp : (0 : Int) < per := by omega
  have hm0 := Int.emod_nonneg n (show (per : Int) ≠ 0 by omega)
  have hm1 := Int.emod_lt_of_pos n hp
  have hdm := Int.mul_ediv_add_emod n per
  constructor
  · intro h
    obtain ⟨y, hy, h⟩ := List.mem_flatMap.1 h
    obtain ⟨k, hk, rfl⟩ := List.mem_map.1 h
    have hy := (numF_mem _ _ _ _).1 hy
    have hk := (numF_mem _ _ _ _).1 hk
    have e0 : uN per y k = (k - 1) + y * per := by unfold uN; omega
    have e1 : uN per y k / per = y := by rw [e0, Int.add_mul_ediv_right _ _ (by omega), Int.ediv_eq_zero_of_lt (by omega) (by omega)]; omega
    have e2 : uN per y k % per = k - 1 := by rw [e0, Int.add_mul_emod_self_right, Int.emod_eq_of_lt (by omega) (by omega)]
    have b1 : 0 ≤ y * per := Int.mul_nonneg hy.1 (by omega)
    have b2 := Int.mul_le_mul_of_nonneg_right (show y + 1 ≤ 10000 by omega) (show (0 : Int) ≤ per by omega)
    rw [Int.add_mul, Int.one_mul] at b2
    rw [e1, e2, show k - 1 + 1 = k by omega]
    exact ⟨by rw [e0]; omega, by rw [e0]; omega, hy.2.2, hk.2.2⟩
  · rintro ⟨h0, h1, h2, h3⟩
    have l1 : 0 ≤ n / per := Int.ediv_nonneg h0 (by omega)
    have l2 : n / per < 10000 := Int.ediv_lt_of_lt_mul hp h1
    refine List.mem_flatMap.2 ⟨n / per, (numF_mem _ _ _ _).2 ⟨l1, by omega, h2⟩, List.mem_map.2 ⟨n % per + 1, (numF_mem _ _ _ _).2 ⟨by omega, by omega, h3⟩, ?_⟩⟩
    unfold uN
    rw [Int.mul_comm (n / per) per]; omega
theorem rptText_f (p : S23) (g1 : p.f1.size ≤ 9223372036854775807) (g2 : p.f2.size ≤ 9223372036854775807) (g3 : p.f3.size ≤ 9223372036854775807) : Ev (fun k => lustrumref08_Text.f k p.f0 p.f1 p.f2 p.f3) (bA (ptTxt p)) := by
  refine Ev.bind (rptSane_f p g1 g2 g3) ?_
  unfold ptTxt
  cases hv : ptV p with
  | false => exact Ev.iff_ (by simp) (Ev.eq (Ev.now _) rfl)
  | true =>
    obtain ⟨h1, h2, h3⟩ := pt_sizes hv
    have e1 : (⟨#[45]⟩ : ByteArray).size = 1 := rfl
    have e2 : (⟨#[115]⟩ : ByteArray).size = 1 := rfl
    refine Ev.ift rfl ?_
    rw [if_pos rfl]
    unfold ptRaw
    by_cases c0 : p.f0 = 0
    · refine Ev.ift c0 ?_
      rw [if_pos c0]
      refine Ev.ift (by omega) (Ev.ift (by simp only [ByteArray.size_append]; omega) (Ev.ift (by simp only [ByteArray.size_append]; omega) (Ev.ift (by simp only [ByteArray.size_append]; omega) (Ev.eq (Ev.now _) (ba_eq ?_)))))
      simp only [ba_app, bA_data, List.append_assoc]; rfl
    refine Ev.iff_ c0 ?_
    rw [if_neg c0]
    by_cases c1 : p.f0 = 1
    · refine Ev.ift c1 ?_
      rw [if_pos c1]
      refine Ev.ift (by omega) (Ev.ift (by simp only [ByteArray.size_append]; omega) (Ev.eq (Ev.now _) (ba_eq ?_)))
      simp only [ba_app, bA_data, List.append_assoc]; rfl
    refine Ev.iff_ c1 ?_
    rw [if_neg c1]
    by_cases c2 : p.f0 = 2
    · refine Ev.ift c2 ?_
      rw [if_pos c2]
      refine Ev.ift (by omega) (Ev.ift (by simp only [ByteArray.size_append]; omega) (Ev.eq (Ev.now _) (ba_eq ?_)))
      simp only [ba_app, bA_data, List.append_assoc]; rfl
    refine Ev.iff_ c2 ?_
    rw [if_neg c2]
    by_cases c4 : p.f0 = 4
    · refine Ev.ift c4 ?_
      rw [if_pos c4]
      exact Ev.ift (by omega) (Ev.eq (Ev.now _) (ba_eq (by simp only [ba_app, bA_data])))
    refine Ev.iff_ c4 ?_
    rw [if_neg c4]
    by_cases c5 : p.f0 = 5
    · refine Ev.ift c5 ?_
      rw [if_pos c5]
      exact Ev.ift (by omega) (Ev.eq (Ev.now _) (ba_eq (by simp only [ba_app, bA_data])))
    refine Ev.iff_ c5 ?_
    rw [if_neg c5]
    exact Ev.eq (Ev.now _) (bA_mk _).symm
theorem Ev.det {α : Type} {f : Nat → Option α} {r q : α} (h : Ev f r) (g : Ev f q) : r = q := by
  obtain ⟨K, hK⟩ := h
  obtain ⟨L, hL⟩ := g
  exact Option.some.inj ((hK (max K L) (by omega)).symm.trans (hL (max K L) (by omega)))
theorem Ev.det1 {α : Type} {f : Nat → Option α} {r q : α} (hm : ∀ k, LeO (f k) (f (k + 1))) (h : Ev f r) {k : Nat} (hk : f k = some q) : q = r := Ev.det (Ev.of hm hk) h
theorem ptTxt_inj {p q : S23} (hp : ptV p = true) (hq : ptV q = true) (h : ptTxt p = ptTxt q) : p = q := by
  unfold ptTxt at h
  rw [if_pos hp, if_pos hq] at h
  have a := guess_raw p hp
  have b := guess_raw q hq
  rw [h, b] at a
  simp only [Option.some.injEq, Prod.mk.injEq] at a
  obtain ⟨e1, e2, e3, e4⟩ := a
  cases p; cases q; simp only at e1 e2 e3 e4; rw [e1, e2, e3, e4]
theorem ptTxt_ptV {p : S23} {l : List UInt8} (hl : l ≠ []) (h : ptTxt p = l) : ptV p = true := by
  unfold ptTxt at h
  cases hp : ptV p with
  | true => rfl
  | false => rw [hp, if_neg (by simp)] at h; exact absurd h.symm hl
def partV (l : List UInt8) (a b : Nat) : ByteArray := if b ≤ l.length then bA ((l.drop a).take (b - a)) else e0
theorem part_f (l : List UInt8) (a b : Nat) (h : a ≤ b) : lustrumref08_part.f (bA l) (a : Int) (b : Int) = some (partV l a b) := by
  unfold lustrumref08_part.f partV
  rw [bA_size]
  by_cases hb : b ≤ l.length
  · rw [if_neg (by omega), if_pos (by omega), if_pos (by omega), if_pos (by omega), if_pos hb, Int.toNat_natCast, Int.toNat_natCast]
    congr 1
    refine ba_eq ?_
    rw [ByteArray.data_extract, Array.toList_extract, bA_data]
    rfl
  · rw [if_pos (by omega), if_neg hb]; rfl
theorem partV_size (l : List UInt8) (a b : Nat) : (partV l a b).size ≤ b - a := by
  unfold partV
  split
  · rw [bA_size, List.length_take]; omega
  · exact Nat.zero_le _
theorem partV_mid (x y z : List UInt8) : partV (x ++ (y ++ z)) x.length (x.length + y.length) = bA y := by
  unfold partV
  rw [if_pos (by simp only [List.length_append]; omega), List.drop_left, Nat.add_sub_cancel_left, List.take_left]
def cands (l : List UInt8) : List S23 := [⟨0, partV l 0 4, partV l 5 7, partV l 8 10⟩, ⟨1, partV l 0 4, partV l 5 7, e0⟩, ⟨2, partV l 0 4, partV l 5 6, e0⟩, ⟨3, partV l 0 4, e0, e0⟩, ⟨4, partV l 0 3, e0, e0⟩, ⟨5, partV l 0 2, e0, e0⟩]
theorem cands_small (l : List UInt8) : ∀ p, p ∈ cands l → p.f1.size ≤ 10 ∧ p.f2.size ≤ 10 ∧ p.f3.size ≤ 10 := by
  have h1 := partV_size l 0 4
  have h2 := partV_size l 5 7
  have h3 := partV_size l 8 10
  have h4 := partV_size l 5 6
  have h5 := partV_size l 0 3
  have h6 := partV_size l 0 2
  have h7 : e0.size = 0 := rfl
  intro p hp
  simp only [cands, List.mem_cons, List.not_mem_nil, or_false] at hp
  rcases hp with rfl | rfl | rfl | rfl | rfl | rfl <;> simp only <;> omega
theorem cands_mem (p : S23) (hp : ptV p = true) : p ∈ cands (ptRaw p) := by
  obtain ⟨hY, hk⟩ := pt_kinds hp
  obtain ⟨k, y, m, d⟩ := p
  simp only at hY hk
  have eE : ∀ s : ByteArray, s.data.toList = [] → s = e0 := fun s h => ba_eq (by rw [h]; rfl)
  have e0' : ∀ (z : List UInt8) (n : Nat), y.data.toList.length = n → partV (y.data.toList ++ z) 0 n = y := fun z n h => by
    have := partV_mid [] y.data.toList z
    rw [List.nil_append, List.length_nil, Nat.zero_add, h] at this
    rw [this]; exact bA_mk y
  have em : ∀ (c : UInt8) (z : List UInt8) (n : Nat), y.data.toList.length = 4 → m.data.toList.length = n → partV (y.data.toList ++ c :: (m.data.toList ++ z)) 5 (5 + n) = m := fun c z n h1 h2 => by
    have := partV_mid (y.data.toList ++ [c]) m.data.toList z
    rw [List.length_append, h1, h2] at this
    simp only [List.length_cons, List.length_nil, List.append_assoc, List.cons_append, List.nil_append, Nat.zero_add] at this
    rw [this]; exact bA_mk m
  have hyl : y.data.toList.length = y.size := (bsize y).symm
  rcases hk with ⟨rfl, ly, lm, am, ld, ad⟩ | ⟨rfl, ly, lm, am, ld⟩ | ⟨rfl, ly, lm, am, ld⟩ | ⟨rfl, ly, lm, ld⟩ | ⟨rfl, ly, lm, ld⟩ | ⟨rfl, ly, lm, ld⟩
  · have hr : ptRaw ⟨0, y, m, d⟩ = y.data.toList ++ 45 :: (m.data.toList ++ 45 :: d.data.toList) := rfl
    have ed : partV (y.data.toList ++ 45 :: (m.data.toList ++ 45 :: d.data.toList)) 8 10 = d := by
      have := partV_mid (y.data.toList ++ 45 :: (m.data.toList ++ [45])) d.data.toList []
      simp only [List.length_append, List.length_cons, List.length_nil, ly, lm, ld, List.append_assoc, List.cons_append, List.nil_append, List.append_nil] at this
      rw [this]; exact bA_mk d
    rw [hr, cands, e0' _ 4 ly, em 45 (45 :: d.data.toList) 2 ly lm, ed]
    simp
  · have hr : ptRaw ⟨1, y, m, d⟩ = y.data.toList ++ 45 :: (m.data.toList ++ []) := by rw [List.append_nil]; rfl
    rw [hr, cands, e0' _ 4 ly, em 45 [] 2 ly lm, eE d ld]
    simp
  · have hr : ptRaw ⟨2, y, m, d⟩ = y.data.toList ++ 115 :: (m.data.toList ++ []) := by rw [List.append_nil]; rfl
    rw [hr, cands, e0' _ 4 ly, em 115 [] 1 ly lm, eE d ld]
    simp
  · have hr : ptRaw ⟨3, y, m, d⟩ = y.data.toList ++ [] := by rw [List.append_nil]; rfl
    rw [hr, cands, e0' _ 4 ly, eE d ld, eE m lm]
    simp
  · have hr : ptRaw ⟨4, y, m, d⟩ = y.data.toList ++ [100] := rfl
    rw [hr, cands, e0' _ 3 ly, eE d ld, eE m lm]
    simp
  · have hr : ptRaw ⟨5, y, m, d⟩ = y.data.toList ++ [99] := rfl
    rw [hr, cands, e0' _ 2 ly, eE d ld, eE m lm]
    simp
def tup5 : Option S23 → Int × ByteArray × ByteArray × ByteArray × Bool
  | some c => (c.f0, c.f1, c.f2, c.f3, true)
  | none => (0, e0, e0, e0, false)
theorem at_rd24 (p : List S23) (r : S23) (t : List S23) : rd_T23 (p ++ r :: t) (p.length : Int) = r := by simp [rd_T23]
theorem rread_l0 (l : List UInt8) (hl : l ≠ []) : ∀ (r p : List S23), (p ++ r).length ≤ 100 → (∀ c, c ∈ r → c.f1.size ≤ 10 ∧ c.f2.size ≤ 10 ∧ c.f3.size ≤ 10) →
    Ev (fun k => lustrumref08_Read.l0 k (bA l) (p ++ r) (p.length : Int)) (tup5 (r.find? fun c => decide (ptTxt c = l)))
  | [], p, hn, _ => Ev.step (f := fun _ => some (tup5 none)) (fun k => by rw [lustrumref08_Read.l0, if_neg (by simp)]; rfl) (Ev.now _)
  | c :: r, p, hn, hs => by
    obtain ⟨h1, h2, h3⟩ := hs c (by simp)
    have ht := rptText_f c (by omega) (by omega) (by omega)
    have hlen : p.length + 1 + r.length ≤ 100 := by simp only [List.length_append, List.length_cons] at hn; omega
    have hlt : (p.length : Int) < ((p ++ c :: r).length : Int) := by simp only [List.length_append, List.length_cons]; omega
    have hw : wrap64 ((p.length : Int) + 1) = (((p ++ [c]).length : Nat) : Int) := by rw [w64 (by omega) (by omega)]; simp
    have hlne : ¬ (bA l).toList = [] := by rw [bA_toList]; exact hl
    refine Ev.step (fun k => by rw [lustrumref08_Read.l0, if_pos hlt, if_neg hlne, if_pos (by omega), at_rd24]) ?_
    refine Ev.bind ht ?_
    rw [bA_toList, bA_toList, List.find?_cons, hw]
    by_cases he : ptTxt c = l
    · rw [decide_eq_true he]
      exact Ev.ift he (Ev.now _)
    · rw [decide_eq_false he]
      refine Ev.iff_ he ?_
      have := rread_l0 l hl r (p ++ [c]) (by rw [List.append_assoc]; exact hn) (fun x hx => hs x (by simp [hx]))
      rw [List.append_assoc] at this
      exact this
theorem rread_nil : ∀ (r p : List S23), (p ++ r).length ≤ 100 → Ev (fun k => lustrumref08_Read.l0 k (bA []) (p ++ r) (p.length : Int)) (tup5 none)
  | [], p, hn => Ev.step (f := fun _ => some (tup5 none)) (fun k => by rw [lustrumref08_Read.l0, if_neg (by simp)]; rfl) (Ev.now _)
  | c :: r, p, hn => by
    have hlen : p.length + 1 + r.length ≤ 100 := by simp only [List.length_append, List.length_cons] at hn; omega
    have hlt : (p.length : Int) < ((p ++ c :: r).length : Int) := by simp only [List.length_append, List.length_cons]; omega
    have hw : wrap64 ((p.length : Int) + 1) = (((p ++ [c]).length : Nat) : Int) := by rw [w64 (by omega) (by omega)]; simp
    refine Ev.step (fun k => by rw [lustrumref08_Read.l0, if_pos hlt, if_pos (by rw [bA_toList]), hw]) ?_
    have := rread_nil r (p ++ [c]) (by rw [List.append_assoc]; exact hn)
    rw [List.append_assoc] at this
    exact this
theorem rRead_f (l : List UInt8) : Ev (fun k => lustrumref08_Read.f k (bA l)) (tup5 (if l = [] then none else (cands l).find? fun c => decide (ptTxt c = l))) := by
  have hloop : Ev (fun k => lustrumref08_Read.l0 k (bA l) (cands l) 0) (tup5 (if l = [] then none else (cands l).find? fun c => decide (ptTxt c = l))) := by
    by_cases h : l = []
    · subst h
      rw [if_pos rfl]
      exact rread_nil (cands []) [] (by simp [cands])
    · rw [if_neg h]
      exact rread_l0 l h (cands l) [] (by simp [cands]) (cands_small l)
  have e : ∀ k, lustrumref08_Read.f k (bA l) = lustrumref08_Read.l0 k (bA l) (cands l) 0 := fun k => by
    unfold lustrumref08_Read.f
    rw [show lustrumref08_part.f (bA l) 0 4 = _ from part_f l 0 4 (by decide), show lustrumref08_part.f (bA l) 5 7 = _ from part_f l 5 7 (by decide), show lustrumref08_part.f (bA l) 8 10 = _ from part_f l 8 10 (by decide), show lustrumref08_part.f (bA l) 5 6 = _ from part_f l 5 6 (by decide), show lustrumref08_part.f (bA l) 0 3 = _ from part_f l 0 3 (by decide), show lustrumref08_part.f (bA l) 0 2 = _ from part_f l 0 2 (by decide)]
    simp only [Option.bind_some]
    rfl
  exact Ev.congr e hloop
theorem Read_same {k : Nat} {s : ByteArray} (hs : s.size ≤ 4611686018427387904) {x : Int × ByteArray × ByteArray × ByteArray × Bool} (h : point_Read.f k s = some x) : Ev (fun k => lustrumref08_Read.f k s) x := by
  obtain ⟨l, rfl⟩ : ∃ l, s = bA l := ⟨s.data.toList, (bA_mk _).symm⟩
  rw [bA_size] at hs
  have hf := rRead_f l
  rcases read_any l hs with ⟨p, hp, ht, hR⟩ | ⟨hno, hR⟩
  · have hx := Ev.det1 (f := fun k => point_Read.f k (bA l)) (fun k => point_Read.mono (bA l) k) hR h
    rw [hx]
    have hne : l ≠ [] := fun e => by
      have hl : ptRaw p = l := by unfold ptTxt at ht; rwa [if_pos hp] at ht
      have hm := cands_mem p hp
      obtain ⟨_, hk⟩ := pt_kinds hp
      have hy : p.f1.data.toList ≠ [] := by
        intro hy
        rcases hk with ⟨_, a, _⟩ | ⟨_, a, _⟩ | ⟨_, a, _⟩ | ⟨_, a, _⟩ | ⟨_, a, _⟩ | ⟨_, a, _⟩ <;> (rw [hy] at a; cases a)
      rw [e] at hl
      unfold ptRaw at hl
      repeat' split at hl
      all_goals first
        | exact hy hl | (have := congrArg List.length hl; simp only [List.length_append, List.length_cons, List.length_nil] at this; omega)
    have hmem : p ∈ cands l := by
      have := cands_mem p hp
      have hl : ptRaw p = l := by unfold ptTxt at ht; rwa [if_pos hp] at ht
      rwa [hl] at this
    rw [if_neg hne] at hf
    cases hfind : (cands l).find? fun c => decide (ptTxt c = l) with
    | none =>
      have := List.find?_eq_none.1 hfind p hmem
      exact absurd ht (by simpa using this)
    | some c =>
      have hc := List.find?_some hfind
      have hc' : ptTxt c = l := of_decide_eq_true hc
      have hcp := ptTxt_inj (ptTxt_ptV hne hc') hp (hc'.trans ht.symm)
      subst hcp
      rw [hfind] at hf
      exact hf
  · have hx := Ev.det1 (f := fun k => point_Read.f k (bA l)) (fun k => point_Read.mono (bA l) k) hR h
    rw [hx]
    refine Ev.eq hf ?_
    by_cases hne : l = []
    · rw [if_pos hne]; rfl
    · rw [if_neg hne]
      have : ((cands l).find? fun c => decide (ptTxt c = l)) = none := List.find?_eq_none.2 (fun c _ hc => hno c (ptTxt_ptV hne (of_decide_eq_true hc)) (of_decide_eq_true hc))
      rw [this]; rfl
def mL (y : Int) (ds : List Int) (m : Int) : List Int := (ds.filter fun d => decide (d ≤ dim y m)).map fun d => numD y m 1 + d - 1
def dL (ms ds : List Int) (y : Int) : List Int := ms.flatMap (mL y ds)
theorem dL_days (y : Int) (ms ds : List Int) (n : Int) : n ∈ dL ms ds y ↔ mem (daysL y ms ds) n := by
  unfold dL daysL
  constructor
  · intro h
    obtain ⟨m, hm, h⟩ := List.mem_flatMap.1 h
    obtain ⟨d, hd, rfl⟩ := List.mem_map.1 h
    exact ⟨dayOf y m d, List.mem_flatMap.2 ⟨m, hm, List.mem_map.2 ⟨d, hd, rfl⟩⟩, Int.le_refl _, Int.le_refl _⟩
  · rintro ⟨q, hq, h1, h2⟩
    obtain ⟨m, hm, hq⟩ := List.mem_flatMap.1 hq
    obtain ⟨d, hd, rfl⟩ := List.mem_map.1 hq
    unfold dayOf at h1 h2
    simp only at h1 h2
    have : n = numD y m 1 + d - 1 := by omega
    exact List.mem_flatMap.2 ⟨m, hm, List.mem_map.2 ⟨d, hd, this.symm⟩⟩
theorem mL_len (y m : Int) (ds : List Int) : (mL y ds m).length ≤ ds.length := by unfold mL; rw [List.length_map]; exact List.length_filter_le _ _
theorem dL_asc {y : Int} {ms ds : List Int} (hm : ∀ m, m ∈ ms → 1 ≤ m ∧ m ≤ 12) (hma : asc ms) (hda : asc ds) (hde : ∀ d, d ∈ ds → 1 ≤ d) : asc (dL ms ds y) := by
  unfold dL
  refine List.pairwise_flatMap.2 ⟨fun m _ => List.Pairwise.map _ (fun a b hab => by omega) (List.Pairwise.filter _ hda), ?_⟩
  have key : ∀ {l : List Int}, asc l → (∀ m, m ∈ l → 1 ≤ m ∧ m ≤ 12) → l.Pairwise (fun a b => 1 ≤ a ∧ a < b ∧ b ≤ 12) := by
    intro l
    induction l with
    | nil => intro _ _; exact List.Pairwise.nil
    | cons x t ih =>
      intro h hb
      have h' := List.pairwise_cons.1 h
      exact List.pairwise_cons.2 ⟨fun z hz => ⟨(hb x List.mem_cons_self).1, h'.1 z hz, (hb z (List.mem_cons_of_mem _ hz)).2⟩, ih h'.2 fun m hm => hb m (List.mem_cons_of_mem _ hm)⟩
  refine List.Pairwise.imp (fun {m m'} hmm x hx z hz => ?_) (key hma hm)
  unfold mL at hx hz
  obtain ⟨d, hd, rfl⟩ := List.mem_map.1 hx
  obtain ⟨e, he, rfl⟩ := List.mem_map.1 hz
  have hd := of_decide_eq_true (List.mem_filter.1 hd).2
  have s := month_step (y := y) (m := m) hmm.1 (by omega)
  have l := month_le (y := y) (m := m + 1) (m' := m') (by omega) (by omega) hmm.2.2
  have he1 : 1 ≤ e := hde e (List.mem_filter.1 he).1
  omega
def G (acc : List S71) (L : List Int) (s : List S71) : Prop :=
  sane s ∧ (∀ n, mem s n → mem acc n ∨ n ∈ L) ∧ ((∀ n, (mem acc n ∨ n ∈ L) → mem s n) ∨ (400 < s.length ∧ ∀ n, (mem acc n ∨ n ∈ L) → ¬ mem s n → ∀ x, mem s x → x < n))
theorem G.of {acc acc' : List S71} {A L : List Int} {s : List S71} (h : G acc' L s) (e : ∀ n, mem acc' n ↔ mem acc n ∨ n ∈ A) : G acc (A ++ L) s := by
  have e2 : ∀ n, (mem acc' n ∨ n ∈ L) ↔ (mem acc n ∨ n ∈ A ++ L) := fun n => by rw [e, List.mem_append, or_assoc]
  obtain ⟨h1, h2, h3⟩ := h
  refine ⟨h1, fun n hn => (e2 n).1 (h2 n hn), ?_⟩
  rcases h3 with h3 | ⟨h3, h4⟩
  · exact .inl fun n hn => h3 n ((e2 n).2 hn)
  · exact .inr ⟨h3, fun n hn => h4 n ((e2 n).2 hn)⟩
theorem rdays_l2 (ys py ty : List Int) (y : Int) (ey : ys = py ++ y :: ty) (hy : 0 ≤ y ∧ y ≤ 9999) (ms pm tm : List Int) (m : Int) (em : ms = pm ++ m :: tm) (hm : 1 ≤ m ∧ m ≤ 12) (ds : List Int) (hdl : ds.length ≤ 31) (rest : List Int) :
    ∀ (u q : List Int) (acc : List S71), ds = q ++ u → (∀ d, d ∈ u → 1 ≤ d ∧ d ≤ 31) → PutOK acc (mL y u m ++ rest) →
    (∀ acc', PutOK acc' rest → (∀ n, mem acc' n ↔ mem acc n ∨ n ∈ mL y u m) → ∃ s, Ev (fun k => lustrumref08_days.l1 k ys ms ds acc' (py.length : Int) (wrap64 ((pm.length : Int) + 1))) s ∧ G acc' rest s) →
    ∃ s, Ev (fun k => lustrumref08_days.l2 k ys ms ds acc (py.length : Int) (pm.length : Int) (numD y m 1) (q.length : Int)) s ∧ G acc (mL y u m ++ rest) s
  | [], q, acc, e, _, hk, h => by
    obtain ⟨s, s1, s2⟩ := h acc hk (fun n => by simp [mL])
    exact ⟨s, Ev.step (f := fun k => lustrumref08_days.l1 k ys ms ds acc (py.length : Int) (wrap64 ((pm.length : Int) + 1))) (fun k => by rw [lustrumref08_days.l2, if_neg (by rw [e]; exact at_end q)]) s1, s2⟩
  | d :: u, q, acc, e, hd, hk, h => by
    have hd1 := hd d List.mem_cons_self
    have r := num1_range (y := y) (m := m) hy hm
    have e1 : rd ys (py.length : Int) = y := by rw [ey]; exact at_rdi py y ty
    have e2 : rd ms (pm.length : Int) = m := by rw [em]; exact at_rdi pm m tm
    have e3 : rd ds (q.length : Int) = d := by rw [e]; exact at_rdi q d u
    have e4 : wrap64 (wrap64 (numD y m 1 + d) - 1) = numD y m 1 + d - 1 := by simp (disch := omega) only [w64]
    have e5 : wrap64 ((q.length : Int) + 1) = ((q ++ [d]).length : Int) := at_next (p := q) (r := d) (t := u) (by rw [← e]; omega)
    have hst : ∀ {s}, Ev (fun k => (lustrumref02_Days.f k y m).bind fun t199 => (if d ≤ t199 then ((lustrumref08_put.f acc (numD y m 1 + d - 1)).bind fun t201 => (lustrumref08_days.l2 k ys ms ds t201 (py.length : Int) (pm.length : Int) (numD y m 1) ((q ++ [d]).length : Int))) else (lustrumref08_days.l2 k ys ms ds acc (py.length : Int) (pm.length : Int) (numD y m 1) ((q ++ [d]).length : Int)))) s → Ev (fun k => lustrumref08_days.l2 k ys ms ds acc (py.length : Int) (pm.length : Int) (numD y m 1) (q.length : Int)) s := fun {s} hs =>
      Ev.step (fun k => by
        rw [lustrumref08_days.l2, if_pos (by rw [e]; exact at_lt q d u), if_pos (at_0 q), if_pos (at_0 py), if_pos (by rw [ey]; exact at_lt py y ty), if_pos (at_0 pm), if_pos (by rw [em]; exact at_lt pm m tm), e1, e2, e3, e4, e5]) hs
    have hdy := rDays_f (y := y) (m := m) hy.1 hm.1 hm.2
    by_cases hc : d ≤ dim y m
    · have hcons : mL y (d :: u) m = (numD y m 1 + d - 1) :: mL y u m := by
        unfold mL
        rw [List.filter_cons_of_pos (by simpa using hc), List.map_cons]
      rw [hcons, List.cons_append] at hk ⊢
      obtain ⟨acc', a1, a2, a3⟩ := hk.step
      obtain ⟨s, s1, s2⟩ := rdays_l2 ys py ty y ey hy ms pm tm m em hm ds hdl rest u (q ++ [d]) acc' (by rw [← at_app]; exact e) (fun x hx => hd x (List.mem_cons_of_mem _ hx)) a2 (fun acc2 h1 h2 => h acc2 h1 fun n => by rw [h2, a3, hcons, List.mem_cons, or_assoc])
      refine ⟨s, hst (Ev.bind hdy (Ev.ift hc (Ev.bnow a1 s1))), ?_⟩
      exact G.of (acc := acc) (acc' := acc') (A := [numD y m 1 + d - 1]) s2 (fun n => by rw [a3, List.mem_singleton])
    · have hcons : mL y (d :: u) m = mL y u m := by
        unfold mL
        rw [List.filter_cons_of_neg (by simpa using hc)]
      rw [hcons] at hk ⊢
      obtain ⟨s, s1, s2⟩ := rdays_l2 ys py ty y ey hy ms pm tm m em hm ds hdl rest u (q ++ [d]) acc (by rw [← at_app]; exact e) (fun x hx => hd x (List.mem_cons_of_mem _ hx)) hk (fun acc2 h1 h2 => h acc2 h1 fun n => by rw [h2, hcons])
      exact ⟨s, hst (Ev.bind hdy (Ev.iff_ hc s1)), s2⟩
theorem rdays_l1 (ys py ty : List Int) (y : Int) (ey : ys = py ++ y :: ty) (hy : 0 ≤ y ∧ y ≤ 9999) (ms ds : List Int) (hml : ms.length ≤ 12) (hdl : ds.length ≤ 31) (hd : ∀ d, d ∈ ds → 1 ≤ d ∧ d ≤ 31) (rest : List Int) :
    ∀ (t p : List Int) (acc : List S71), ms = p ++ t → (∀ m, m ∈ t → 1 ≤ m ∧ m ≤ 12) → PutOK acc (t.flatMap (mL y ds) ++ rest) →
    (∀ acc', PutOK acc' rest → ∃ s, Ev (fun k => lustrumref08_days.l0 k ys ms ds acc' (wrap64 ((py.length : Int) + 1))) s ∧ G acc' rest s) →
    ∃ s, Ev (fun k => lustrumref08_days.l1 k ys ms ds acc (py.length : Int) (p.length : Int)) s ∧ G acc (t.flatMap (mL y ds) ++ rest) s
  | [], p, acc, e, _, hk, h => by
    obtain ⟨s, s1, s2⟩ := h acc hk
    exact ⟨s, Ev.step (f := fun k => lustrumref08_days.l0 k ys ms ds acc (wrap64 ((py.length : Int) + 1))) (fun k => by rw [lustrumref08_days.l1, if_neg (by rw [e]; exact at_end p)]) s1, s2⟩
  | m :: t, p, acc, e, hm, hk, h => by
    have hm1 := hm m List.mem_cons_self
    rw [List.flatMap_cons, List.append_assoc] at hk ⊢
    have e1 : rd ys (py.length : Int) = y := by rw [ey]; exact at_rdi py y ty
    have e2 : rd ms (p.length : Int) = m := by rw [e]; exact at_rdi p m t
    obtain ⟨s, s1, s2⟩ := rdays_l2 ys py ty y ey hy ms p t m e hm1 ds hdl (t.flatMap (mL y ds) ++ rest) ds [] acc rfl hd hk (fun acc' h1 _ => by
      have hp : (p ++ m :: t).length ≤ 4611686018427387904 := by rw [← e]; omega
      rw [at_next hp]
      exact rdays_l1 ys py ty y ey hy ms ds hml hdl hd rest t (p ++ [m]) acc' (by rw [← at_app]; exact e) (fun x hx => hm x (List.mem_cons_of_mem _ hx)) h1 h)
    refine ⟨s, Ev.step (fun k => by rw [lustrumref08_days.l1, if_pos (by rw [e]; exact at_lt p m t), if_pos (at_0 py), if_pos (by rw [ey]; exact at_lt py y ty), if_pos (at_0 p), e1, e2]) (Ev.bind (rNumber_f hy.1 hy.2 hm1.1 hm1.2) s1), s2⟩
theorem rdays_l0 (ys ms ds : List Int) (hyl : ys.length ≤ 10000) (hml : ms.length ≤ 12) (hdl : ds.length ≤ 31) (hm : ∀ m, m ∈ ms → 1 ≤ m ∧ m ≤ 12) (hd : ∀ d, d ∈ ds → 1 ≤ d ∧ d ≤ 31) :
    ∀ (t p : List Int) (acc : List S71), ys = p ++ t → (∀ y, y ∈ t → 0 ≤ y ∧ y ≤ 9999) → PutOK acc (t.flatMap (dL ms ds)) →
    ∃ s, Ev (fun k => lustrumref08_days.l0 k ys ms ds acc (p.length : Int)) s ∧ G acc (t.flatMap (dL ms ds)) s
  | [], p, acc, e, _, hk => by
    refine ⟨acc, Ev.step (f := fun k => lustrumref08_days.j1 k ys ms ds acc (p.length : Int) false) (fun k => by rw [lustrumref08_days.l0, if_neg (by rw [e]; exact at_end p)]) (Ev.step (f := fun _ => some acc) (fun k => by rw [lustrumref08_days.j1, if_neg (by simp)]) (Ev.now _)), hk.1, fun n hn => .inl hn, .inl fun n hn => ?_⟩
    rcases hn with hn | hn
    · exact hn
    · simp at hn
  | y :: t, p, acc, e, hy, hk => by
    have hl0 : ∀ {s}, Ev (fun k => lustrumref08_days.j1 k ys ms ds acc (p.length : Int) (decide ((acc.length : Int) ≤ 400))) s → Ev (fun k => lustrumref08_days.l0 k ys ms ds acc (p.length : Int)) s := fun {s} h =>
      Ev.step (fun k => by rw [lustrumref08_days.l0, if_pos (by rw [e]; exact at_lt p y t)]) h
    by_cases hc : (acc.length : Int) ≤ 400
    · rw [List.flatMap_cons] at hk ⊢
      obtain ⟨s, s1, s2⟩ := rdays_l1 ys p t y e (hy y List.mem_cons_self) ms ds hml hdl hd (t.flatMap (dL ms ds)) ms [] acc rfl hm hk (fun acc' h1 => by
        have hp : (p ++ y :: t).length ≤ 4611686018427387904 := by rw [← e]; omega
        rw [at_next hp]
        exact rdays_l0 ys ms ds hyl hml hdl hm hd t (p ++ [y]) acc' (by rw [← at_app]; exact e) (fun x hx => hy x (List.mem_cons_of_mem _ hx)) h1)
      refine ⟨s, hl0 ?_, s2⟩
      rw [decide_eq_true hc]
      exact Ev.step (f := fun k => lustrumref08_days.l1 k ys ms ds acc (p.length : Int) 0) (fun k => by rw [lustrumref08_days.j1, if_pos rfl]) s1
    · refine ⟨acc, hl0 ?_, hk.1, fun n hn => .inl hn, .inr ⟨by omega, fun n hn hno x hx => ?_⟩⟩
      · rw [decide_eq_false hc]
        exact Ev.step (f := fun _ => some acc) (fun k => by rw [lustrumref08_days.j1, if_neg (by simp)]) (Ev.now _)
      · rcases hn with hn | hn
        · exact absurd hn hno
        · exact hk.2.2.1 x hx n hn
def UnitsOf (p : S23) (s : List S71) : Prop := sane s ∧ s.length ≤ 4000000 ∧ (∀ n, mem s n → unitP p n) ∧ ((∀ n, unitP p n → mem s n) ∨ (p.f0 = 0 ∧ 400 < s.length ∧ ∀ n, unitP p n → ¬ mem s n → ∀ x, mem s x → x < n))
theorem ref_num (l : List UInt8) (hl : l.length ≤ 4) (n : Int) : refV l n = true ↔ n ∈ numF l 0 10000 := by
  rw [numF_mem]
  constructor
  · intro h
    have hd : 0 ≤ n ∧ n < ((10 ^ l.length : Nat) : Int) := by
      unfold refV at h
      simp only [Bool.and_eq_true, decide_eq_true_eq] at h
      exact ⟨h.1.1.2, h.1.2⟩
    have hp : (10 ^ l.length : Nat) ≤ 10000 := pow_small hl (by omega)
    exact ⟨hd.1, by omega, h⟩
  · exact fun h => h.2.2
theorem rUnitsOf_f (p : S23) (hp : ptV p = true) : ∃ s, Ev (fun k => lustrumref08_units.f k p.f0 p.f1 p.f2 p.f3) s ∧ UnitsOf p s := by
  have hz := pt_sizes hp
  have hY : p.f1.data.toList.length ≤ 4 := by rw [← bsize]; exact hz.1
  have nY := rnumbers_f p.f1 (by omega) 0 10000 (by omega) 9999 (by omega) (by omega)
  have hlen : ∀ s, sane s → (∀ n, mem s n → unitP p n) → s.length ≤ 4000000 := fun s h1 h2 => sane_len h1 fun n hn => by have := unitP_range hp (h2 n hn); have := kcount_pos p.f0.toNat; omega
  obtain ⟨ys, hys⟩ : ∃ ys, ys = numF p.f1.data.toList 0 10000 := ⟨_, rfl⟩
  have hyb : ∀ y, y ∈ ys → 0 ≤ y ∧ y ≤ 9999 := fun y h => by rw [hys] at h; have := (numF_mem _ _ _ _).1 h; omega
  have hya : asc ys := by rw [hys]; exact numF_asc _ _ _
  have hyl : ys.length ≤ 10000 := by rw [hys]; exact numF_len _ _ _
  rw [← hys] at nY
  unfold lustrumref08_units.f
  by_cases c0 : p.f0 = 0
  · have nM := rnumbers_f p.f2 (by omega) 1 12 (by omega) 12 (by omega) (by omega)
    have nD := rnumbers_f p.f3 (by omega) 1 31 (by omega) 31 (by omega) (by omega)
    obtain ⟨ms, hms⟩ : ∃ ms, ms = numF p.f2.data.toList 1 12 := ⟨_, rfl⟩
    obtain ⟨ds, hds⟩ : ∃ ds, ds = numF p.f3.data.toList 1 31 := ⟨_, rfl⟩
    rw [← hms] at nM
    rw [← hds] at nD
    have hm : ∀ m, m ∈ ms → 1 ≤ m ∧ m ≤ 12 := fun m h => by rw [hms] at h; have := (numF_mem _ _ _ _).1 h; omega
    have hd : ∀ d, d ∈ ds → 1 ≤ d ∧ d ≤ 31 := fun m h => by rw [hds] at h; have := (numF_mem _ _ _ _).1 h; omega
    have hml : ms.length ≤ 12 := by rw [hms]; exact numF_len _ _ _
    have hdl : ds.length ≤ 31 := by rw [hds]; exact numF_len _ _ _
    have hmem : ∀ n, n ∈ ys.flatMap (dL ms ds) ↔ unitP p n := fun n => by
      have hu : unitP p n ↔ dayP p n := by unfold unitP; rw [if_pos c0]
      rw [hu, List.mem_flatMap]
      constructor
      · rintro ⟨y, hy, h⟩
        have h := (mem_days hm hd n).1 ((dL_days y ms ds n).1 h)
        have hb := day_in (ms := ms) (ds := ds) (hyb y hy) h.1
        have h2 := h.2.1; have h3 := h.2.2
        rw [hms] at h2; rw [hds] at h3; rw [hys] at hy
        exact ⟨hb.1, hb.2.1, by rw [h.1]; exact (ref_num _ hY y).2 hy, ((numF_mem _ _ _ _).1 h2).2.2, ((numF_mem _ _ _ _).1 h3).2.2⟩
      · rintro ⟨h0, h1, h2, h3, h4⟩
        obtain ⟨e, a, b, c, d⟩ := date_num n
        refine ⟨(dateD n).1, by rw [hys]; exact (ref_num _ hY _).1 h2, (dL_days _ ms ds n).2 ((mem_days hm hd n).2 ⟨rfl, ?_, ?_⟩)⟩
        · rw [hms]; exact (numF_mem _ _ _ _).2 ⟨a, by omega, h3⟩
        · rw [hds]; exact (numF_mem _ _ _ _).2 ⟨c, by have := dim_any (y := (dateD n).1) (m := (dateD n).2.1); omega, h4⟩
    have hasc : asc (ys.flatMap (dL ms ds)) := by
      refine List.pairwise_flatMap.2 ⟨fun y _ => dL_asc hm (by rw [hms]; exact numF_asc _ _ _) (by rw [hds]; exact numF_asc _ _ _) (fun d h => (hd d h).1), ?_⟩
      have key : ys.Pairwise (fun a b => (0 ≤ a ∧ a ≤ 9999) ∧ (0 ≤ b ∧ b ≤ 9999) ∧ a < b) := by
        have : ∀ {l : List Int}, asc l → (∀ y, y ∈ l → 0 ≤ y ∧ y ≤ 9999) → l.Pairwise (fun a b => (0 ≤ a ∧ a ≤ 9999) ∧ (0 ≤ b ∧ b ≤ 9999) ∧ a < b) := by
          intro l
          induction l with
          | nil => intro _ _; exact List.Pairwise.nil
          | cons x t ih =>
            intro h hb
            have h' := List.pairwise_cons.1 h
            exact List.pairwise_cons.2 ⟨fun z hz => ⟨hb x List.mem_cons_self, hb z (List.mem_cons_of_mem _ hz), h'.1 z hz⟩, ih h'.2 fun m hm => hb m (List.mem_cons_of_mem _ hm)⟩
        exact this hya hyb
      refine List.Pairwise.imp (fun {y z} hyz u hu w hw => ?_) key
      have h1 := day_in (ms := ms) (ds := ds) hyz.1 ((mem_days hm hd u).1 ((dL_days y ms ds u).1 hu)).1
      have h2 := day_in (ms := ms) (ds := ds) hyz.2.1 ((mem_days hm hd w).1 ((dL_days z ms ds w).1 hw)).1
      have := numY_mono (x := y + 1) (y := z) (by omega)
      omega
    have hL : (ys.flatMap (dL ms ds)).length ≤ 3720000 := by
      have a := flat_len (dL ms ds) 372 ys (fun y _ => by
        have := flat_len (mL y ds) 31 ms (fun m _ => by have := mL_len y m ds; omega)
        unfold dL
        omega)
      have b : ys.length * 372 ≤ 3720000 := by omega
      omega
    obtain ⟨s, s1, s2, s3, s4⟩ := rdays_l0 ys ms ds hyl hml hdl hm hd ys [] [] rfl hyb ⟨trivial, by simp only [List.length_nil]; omega, fun m hm => absurd hm (mem_nil m), hasc, fun x hx => by
      have := unitP_range hp ((hmem x).1 hx); have := kcount_pos p.f0.toNat; unfold lim; omega⟩
    have s3' : ∀ n, mem s n → unitP p n := fun n hn => by
      rcases s3 n hn with h | h
      · exact absurd h (mem_nil n)
      · exact (hmem n).1 h
    refine ⟨s, Ev.bind nY (Ev.ift c0 (Ev.bind (Ev.bind nY (Ev.bind nM (Ev.bind nD s1))) (Ev.now _))), s2, hlen s s2 s3', s3', ?_⟩
    rcases s4 with s4 | ⟨s4, s5⟩
    · exact .inl fun n hn => s4 n (.inr ((hmem n).2 hn))
    · exact .inr ⟨c0, s4, fun n hn => s5 n (.inr ((hmem n).2 hn))⟩
  ·
    have hparts : ∀ per : Nat, (1 ≤ per ∧ per ≤ 12) → (p.f0 = 1 ∧ per = 12 ∨ p.f0 = 2 ∧ per = 4) → ∃ s, Ev (fun k => lustrumref08_units.j1 k ys [] (per : Int) p.f0 p.f1 p.f2 p.f3) s ∧ UnitsOf p s := fun per hper hk => by
      have nM := rnumbers_f p.f2 (by omega) 1 per (by omega) (per : Int) (by omega) (by omega)
      have hmem : ∀ n, n ∈ (ys.flatMap fun y => (numF p.f2.data.toList 1 per).map (uN per y)) ↔ unitP p n := fun n => by
        rw [hys, uN_mem hper.1]
        rcases hk with ⟨k1, rfl⟩ | ⟨k1, rfl⟩
        · have hu : unitP p n ↔ (0 ≤ n ∧ refV p.f1.data.toList (n / 12) = true ∧ refV p.f2.data.toList (n % 12 + 1) = true) := by unfold unitP; rw [if_neg c0, if_pos k1]
          constructor
          · rintro ⟨a, _, b, c⟩; exact hu.2 ⟨a, b, c⟩
          · intro h
            have hr := unitP_range hp h
            rw [k1] at hr
            have h' := hu.1 h
            exact ⟨h'.1, by have : n < 120000 := hr.2; show n < 10000 * 12; omega, h'.2.1, h'.2.2⟩
        · have hu : unitP p n ↔ (0 ≤ n ∧ refV p.f1.data.toList (n / 4) = true ∧ refV p.f2.data.toList (n % 4 + 1) = true) := by unfold unitP; rw [if_neg c0, if_neg (by rw [k1]; decide), if_pos k1]
          constructor
          · rintro ⟨a, _, b, c⟩; exact hu.2 ⟨a, b, c⟩
          · intro h
            have hr := unitP_range hp h
            rw [k1] at hr
            have h' := hu.1 h
            exact ⟨h'.1, by have : n < 40000 := hr.2; show n < 10000 * 4; omega, h'.2.1, h'.2.2⟩
      have hil := numF_len p.f2.data.toList 1 per
      have hL : (ys.flatMap fun y => (numF p.f2.data.toList 1 per).map (uN per y)).length ≤ 310000 := by
        have a := flat_len (fun y => (numF p.f2.data.toList 1 per).map (uN per y)) 31 ys (fun y _ => by rw [List.length_map]; omega)
        have b : ys.length * 31 ≤ 310000 := by omega
        omega
      obtain ⟨s, s1, s2, s3⟩ := runits_l0 (per : Int) (by omega) (numF p.f2.data.toList 1 per) (by omega) (fun n hn => by have := (numF_mem _ _ _ _).1 hn; omega) ys (by omega) ys [] [] rfl hyb ⟨trivial, by simp only [List.length_nil]; omega, fun m hm => absurd hm (mem_nil m), uN_asc (by omega) (numF_asc _ _ _) (fun n hn => by have := (numF_mem _ _ _ _).1 hn; omega) hya, fun x hx => by
        have := unitP_range hp ((hmem x).1 hx); have := kcount_pos p.f0.toNat; unfold lim; omega⟩
      have e : ∀ n, mem s n ↔ unitP p n := fun n => by rw [s3, hmem]; simp [mem_nil]
      exact ⟨s, Ev.step (fun k => by rw [lustrumref08_units.j1]) (Ev.bind nM s1), s2, hlen s s2 (fun n hn => (e n).1 hn), fun n hn => (e n).1 hn, .inl fun n hn => (e n).2 hn⟩
    by_cases c1 : p.f0 = 1
    · obtain ⟨s, s1, s2⟩ := hparts 12 (by omega) (.inl ⟨c1, rfl⟩)
      refine ⟨s, Ev.bind nY (Ev.iff_ c0 (Ev.ift c1 (Ev.step (f := fun k => lustrumref08_units.j1 k ys [] ((12 : Nat) : Int) p.f0 p.f1 p.f2 p.f3) (fun k => by rw [lustrumref08_units.j0, if_pos (by simpa using c1), if_neg (by omega)]; rfl) s1))), s2⟩
    by_cases c2 : p.f0 = 2
    · obtain ⟨s, s1, s2⟩ := hparts 4 (by omega) (.inr ⟨c2, rfl⟩)
      refine ⟨s, Ev.bind nY (Ev.iff_ c0 (Ev.iff_ c1 (Ev.step (f := fun k => lustrumref08_units.j1 k ys [] ((4 : Nat) : Int) p.f0 p.f1 p.f2 p.f3) (fun k => by rw [lustrumref08_units.j0, if_pos (by simpa using c2), if_pos c2]; rfl) s1))), s2⟩
    have hmem : ∀ n, n ∈ ys ↔ unitP p n := fun n => by
      have hu : unitP p n ↔ refV p.f1.data.toList n = true := by unfold unitP; rw [if_neg c0, if_neg c1, if_neg c2]
      rw [hu, hys, ref_num _ hY]
    obtain ⟨s, s1, s2, s3⟩ := runits_l2 ys [] [] ⟨trivial, by simp only [List.length_nil]; omega, fun m hm => absurd hm (mem_nil m), hya, fun x hx => by have := hyb x hx; unfold lim; omega⟩ (by simp; omega) hyb
    have e : ∀ n, mem s n ↔ unitP p n := fun n => by rw [s3, hmem]; simp [mem_nil]
    refine ⟨s, Ev.bind nY (Ev.iff_ c0 (Ev.iff_ c1 (Ev.step (f := fun k => lustrumref08_units.l2 k ys [] 0) (fun k => by rw [lustrumref08_units.j0, if_neg (by simpa using c2)]) (by simpa using s1)))), s2, hlen s s2 (fun n hn => (e n).1 hn), fun n hn => (e n).1 hn, .inl fun n hn => (e n).2 hn⟩
theorem pre_len : ∀ {s t : List S71} {a b : Int}, saneF a s → saneF b t → (∀ n, mem s n → mem t n) → (∀ n, mem t n → ¬ mem s n → ∀ x, mem s x → x < n) → s.length ≤ t.length
  | [], t, _, _, _, _, _, _ => Nat.zero_le _
  | r :: s, [], a, b, hs, _, h1, _ => absurd (h1 r.f0 ⟨r, List.mem_cons_self, Int.le_refl _, hs.2.1⟩) (mem_nil _)
  | r :: s, q :: t, a, b, hs, ht, h1, h2 => by
    have hr0 : mem (r :: s) r.f0 := ⟨r, List.mem_cons_self, Int.le_refl _, hs.2.1⟩
    have hmin : ∀ {c : Int} {u : S71} {v : List S71}, saneF c (u :: v) → ∀ n, mem (u :: v) n → u.f0 ≤ n := fun {c u v} h n hn => by
      rcases (mem_cons u v n).1 hn with hn | hn
      · exact hn.1
      · have := saneF_mem h.2.2.2 hn; have := h.2.1; omega
    have hq0 : q.f0 = r.f0 := by
      have a1 := hmin ht r.f0 (h1 _ hr0)
      have hqm : mem (q :: t) q.f0 := ⟨q, List.mem_cons_self, Int.le_refl _, ht.2.1⟩
      by_cases hc : mem (r :: s) q.f0
      · have := hmin hs _ hc; omega
      · have := h2 _ hqm hc _ hr0; omega
    cases s with
    | nil => simp
    | cons r2 s =>
      have hs2 := hs.2.2.2
      have h2m : mem (r :: r2 :: s) r2.f0 := ⟨r2, by simp, Int.le_refl _, hs2.2.1⟩
      have hno : ¬ mem (r :: r2 :: s) (r.f1 + 1) := fun hm => by
        rcases (mem_cons r _ _).1 hm with hm | hm
        · omega
        · have := saneF_mem hs2 hm; omega
      have hnt : ¬ mem (q :: t) (r.f1 + 1) := fun hm => by
        have := h2 _ hm hno _ h2m
        have := hs2.1; omega
      have hq1 : q.f1 = r.f1 := by
        rcases Int.lt_trichotomy q.f1 r.f1 with hlt | he | hgt
        · exfalso
          have hm : mem (q :: t) (q.f1 + 1) := h1 _ ⟨r, List.mem_cons_self, by have := ht.2.1; omega, by omega⟩
          rcases (mem_cons q _ _).1 hm with hm | hm
          · omega
          · have := saneF_mem ht.2.2.2 hm; omega
        · exact he
        · exact absurd ⟨q, List.mem_cons_self, by have := hs.2.1; omega, by omega⟩ hnt
      have := pre_len (s := r2 :: s) (t := t) hs2 ht.2.2.2 (fun n hn => by
        have hb := saneF_mem hs2 hn
        rcases (mem_cons q t n).1 (h1 n ((mem_cons r _ n).2 (.inr hn))) with h | h
        · omega
        · exact h) (fun n hn hno x hx => h2 n ((mem_cons q t n).2 (.inr hn)) (fun hm => by
          rcases (mem_cons r _ n).1 hm with h | h
          · have := saneF_mem ht.2.2.2 hn; omega
          · exact hno h) x ((mem_cons r _ x).2 (.inr hx)))
      simp only [List.length_cons] at this ⊢
      omega
theorem units_same {p : S23} {s t : List S71} (hs : UnitsOf p s) (ht : UnitsOf p t) : wideV p.f0 s = wideV p.f0 t ∧ (wideV p.f0 s = false → s = t) := by
  obtain ⟨a1, a2, a3, a4⟩ := hs
  obtain ⟨b1, b2, b3, b4⟩ := ht
  rcases a4 with a4 | ⟨z, a4, a5⟩
  · rcases b4 with b4 | ⟨z, b4, b5⟩
    · have e : s = t := same a1 b1 fun n => ⟨fun h => b4 n (a3 n h), fun h => a4 n (b3 n h)⟩
      rw [e]; exact ⟨rfl, fun _ => rfl⟩
    · have hl := pre_len (s := t) (t := s) b1 a1 (fun n h => a4 n (b3 n h)) (fun n hn hno x hx => b5 n (a3 n hn) hno x hx)
      have w1 : wideV p.f0 s = true := by unfold wideV; rw [if_pos z]; exact decide_eq_true (by omega)
      have w2 : wideV p.f0 t = true := by unfold wideV; rw [if_pos z]; exact decide_eq_true (by omega)
      rw [w1, w2]; exact ⟨rfl, fun h => by cases h⟩
  · have w1 : wideV p.f0 s = true := by unfold wideV; rw [if_pos z]; exact decide_eq_true (by omega)
    have w2 : wideV p.f0 t = true := by
      unfold wideV; rw [if_pos z]
      rcases b4 with b4 | ⟨_, b4, _⟩
      · have hl := pre_len (s := s) (t := t) a1 b1 (fun n h => b4 n (a3 n h)) (fun n hn hno x hx => a5 n (b3 n hn) hno x hx)
        exact decide_eq_true (by omega)
      · exact decide_eq_true (by omega)
    rw [w1, w2]; exact ⟨rfl, fun h => by cases h⟩
def okSz (p : S23) : Prop := p.f1.size ≤ 9223372036854775807 ∧ p.f2.size ≤ 9223372036854775807 ∧ p.f3.size ≤ 9223372036854775807
theorem rSet_f (p : S23) (hp : ptV p = true) : ∃ s, Ev (fun k => lustrumref08_Set.f k p.f0 p.f1 p.f2 p.f3) (if wideV p.f0 s = true then ([], 8) else (s, 0)) ∧ UnitsOf p s := by
  have hz := pt_sizes hp
  have hsn := rptSane_f p (by omega) (by omega) (by omega)
  rw [hp] at hsn
  obtain ⟨s, s1, s2⟩ := rUnitsOf_f p hp
  obtain ⟨q, hq⟩ := rStarts_f (pt_kind hp) s2.1 (fun n hn => unitP_range hp (s2.2.2.1 n hn)) s2.2.1
  refine ⟨s, ?_, s2⟩
  unfold lustrumref08_Set.f
  refine Ev.bind hsn (Ev.ift rfl (Ev.bind s1 (Ev.bind hq ?_)))
  cases wideV p.f0 s with
  | true => exact Ev.iff_ (by simp) (Ev.now _)
  | false => exact Ev.ift rfl (Ev.now _)
theorem rSet_no (p : S23) (hz : okSz p) (hp : ptV p = false) : Ev (fun k => lustrumref08_Set.f k p.f0 p.f1 p.f2 p.f3) ([], 2) := by
  have hsn := rptSane_f p hz.1 hz.2.1 hz.2.2
  rw [hp] at hsn
  unfold lustrumref08_Set.f
  exact Ev.bind hsn (Ev.iff_ (by simp) (Ev.now _))
theorem rRadius_f (kind : Int) : lustrumref08_Radius.f kind = some (radV kind) := by
  unfold lustrumref08_Radius.f radV
  repeat' split
  all_goals first | rfl | omega
theorem sane_len3 {s : List S71} (hs : sane s) (hb : ∀ n, mem s n → -10 ≤ n ∧ n < 3652445) : s.length ≤ 4500000 := by
  have key : ∀ (t : List S71) (a : Int), saneF a t → (∀ n, mem t n → n ≤ 3652444) → -12 ≤ a → a ≤ 3652444 → (t.length : Int) ≤ 3652444 - a := fun t => by
    induction t with
    | nil => intro a _ _ _ h; simp; omega
    | cons r t ih =>
      intro a hs hn ha ha2
      have h1 := hn r.f1 ⟨r, List.mem_cons_self, hs.2.1, Int.le_refl _⟩
      have := ih r.f1 hs.2.2.2 (fun n h => hn n ((mem_cons _ _ _).2 (.inr h))) (by have := hs.1; have := hs.2.1; omega) h1
      have h2 := hs.1; have h3 := hs.2.1
      rw [List.length_cons]; omega
  cases s with
  | nil => simp
  | cons r t =>
    have h3 := hb r.f0 ⟨r, List.mem_cons_self, Int.le_refl _, hs.2.1⟩
    have := key (r :: t) (-12) ⟨by omega, hs.2.1, hs.2.2.1, hs.2.2.2⟩ (fun n h => by have := (hb n h).2; omega) (by omega) (by omega)
    omega
theorem near_same {p : S23} (hp : ptV p = true) {s : List S71} (hs : UnitsOf p s) : ∃ m, Ev (fun k => (sets_Grow.f k s (radV p.f0)).bind fun t => (unit_Count.f p.f0).bind fun u => (sets_Clip.f k t 0 (wrap64 (u - 1))).bind fun v => (point_known.f k p.f0 v).bind fun b => some (b.1, b.2)) (if wideV p.f0 m = true then ([], 8) else (m, 0)) ∧
    Ev (fun k => (lustrumref05_Grow.f k s (radV p.f0)).bind fun t360 => ((lustrumref07_Units.f k p.f0 t360).bind fun t363 => ((lustrumref07_Starts.f k p.f0 t363).bind fun bt366 => (if bt366.2 = true then ((lustrumref04_As.f k t363).bind fun t370 => (some (t370, (0 : Int)))) else (some (([] : List (S71)), 8)))))) (if wideV p.f0 m = true then ([], 8) else (m, 0)) ∧ m.length ≤ 4000000 := by
  have hk := pt_kind hp
  have hr := radV_ok hk
  have hK := kcount_pos p.f0.toNat
  obtain ⟨m, m1, m2, m3, m4⟩ := nearS hk hs.1 hs.2.1
  refine ⟨m, m1, ?_, m3⟩
  obtain ⟨g, g1, g2⟩ := rGrow_f s (radV p.f0) (by have := hs.2.1; omega)
  have hn : near (radV p.f0) = radV p.f0 := by unfold near; omega
  rw [hn, norm_of_sane hs.1] at g2
  have gl : g.length ≤ 4500000 := sane_len3 g2.1 fun n hn => by
    obtain ⟨_, _, x, hx, h1, h2⟩ := (g2.2 n).1 hn
    have := unitP_range hp (hs.2.2.1 x hx)
    omega
  obtain ⟨v, v1, v2⟩ := rUnits_any hk (s := g) (by omega)
  have hv : v = m := same v2.1 m2 fun n => by
    have a := v2.2 n
    have b := g2.2 n
    simp only at a b
    rw [a, b, m4]
    unfold lim
    constructor
    · rintro ⟨_, _, ⟨_, _, h⟩, h1, h2⟩; exact ⟨h1, by omega, h⟩
    · rintro ⟨h1, h2, h⟩; exact ⟨by omega, by omega, ⟨by omega, by omega, h⟩, h1, by omega⟩
  rw [hv] at v1
  obtain ⟨q, hq⟩ := rStarts_f hk m2 (fun n hn => by have := (m4 n).1 hn; exact ⟨this.1, this.2.1⟩) m3
  have has := As_f m (by omega)
  rw [norm_of_sane m2] at has
  refine Ev.bind g1 (Ev.bind v1 (Ev.bind hq ?_))
  cases wideV p.f0 m with
  | true => exact Ev.iff_ (by simp) (Ev.now _)
  | false => exact Ev.ift rfl (Ev.bind has (Ev.now _))
theorem Near_of {p : S23} {a : List S71} (h : Ev (fun k => point_Set.f k p.f0 p.f1 p.f2 p.f3) (a, 0)) {x : List S71 × Int} (hx : Ev (fun k => (sets_Grow.f k a (radV p.f0)).bind fun t => (unit_Count.f p.f0).bind fun u => (sets_Clip.f k t 0 (wrap64 (u - 1))).bind fun v => (point_known.f k p.f0 v).bind fun b => some (b.1, b.2)) x) : Ev (fun k => point_Near.f k p.f0 p.f1 p.f2 p.f3) x := by
  unfold point_Near.f
  exact Ev.bind h (Ev.ift rfl (Ev.bnow (Radius_f p.f0) hx))
theorem Near_err {p : S23} {e : Int} (he : ¬ e = 0) (h : Ev (fun k => point_Set.f k p.f0 p.f1 p.f2 p.f3) ([], e)) : Ev (fun k => point_Near.f k p.f0 p.f1 p.f2 p.f3) ([], e) := by
  unfold point_Near.f
  exact Ev.bind h (Ev.iff_ he (Ev.now _))
theorem rNear_err {p : S23} {e : Int} (he : ¬ e = 0) (h : Ev (fun k => lustrumref08_Set.f k p.f0 p.f1 p.f2 p.f3) ([], e)) : Ev (fun k => lustrumref08_Near.f k p.f0 p.f1 p.f2 p.f3) ([], e) := by
  unfold lustrumref08_Near.f
  exact Ev.bind h (Ev.iff_ he (Ev.now _))
theorem both_same (p : S23) (hz : okSz p) : ∃ (a c : List S71) (e g : Int), a.length ≤ 4000000 ∧ c.length ≤ 4000000 ∧ Ev (fun k => point_Set.f k p.f0 p.f1 p.f2 p.f3) (a, e) ∧ Ev (fun k => lustrumref08_Set.f k p.f0 p.f1 p.f2 p.f3) (a, e) ∧ Ev (fun k => point_Near.f k p.f0 p.f1 p.f2 p.f3) (c, g) ∧ Ev (fun k => lustrumref08_Near.f k p.f0 p.f1 p.f2 p.f3) (c, g) := by
  cases hp : ptV p with
  | false =>
    have h1 := Set_no p hp
    have h2 := rSet_no p hz hp
    exact ⟨[], [], 2, 2, by simp, by simp, h1, h2, Near_err (by decide) h1, rNear_err (by decide) h2⟩
  | true =>
    obtain ⟨s, s1, u1, u2, u3, u4⟩ := Set_f p hp
    obtain ⟨t, t1, t2⟩ := rSet_f p hp
    have hs : UnitsOf p s := ⟨u1, u2, u3, u4⟩
    obtain ⟨w1, w2⟩ := units_same hs t2
    cases hw : wideV p.f0 s with
    | true =>
      rw [← w1, hw] at t1
      rw [hw] at s1
      exact ⟨[], [], 8, 8, by simp, by simp, s1, t1, Near_err (by decide) s1, rNear_err (by decide) t1⟩
    | false =>
      have e := w2 hw
      subst e
      rw [hw] at s1 t1
      obtain ⟨m, m1, m2, m3⟩ := near_same hp hs
      have hN := Near_of s1 m1
      have hR : Ev (fun k => lustrumref08_Near.f k p.f0 p.f1 p.f2 p.f3) (if wideV p.f0 m = true then ([], 8) else (m, 0)) := by
        unfold lustrumref08_Near.f
        exact Ev.bind t1 (Ev.ift rfl (Ev.bnow (rRadius_f p.f0) m2))
      cases hm : wideV p.f0 m with
      | true => rw [hm] at hN hR; exact ⟨s, [], 0, 8, u2, by simp, s1, t1, hN, hR⟩
      | false => rw [hm] at hN hR; exact ⟨s, m, 0, 0, u2, m3, s1, t1, hN, hR⟩
theorem PointIs_t (p : S23) (t : ByteArray) (kind : Int) : Ev (fun k => lustrumlaw08_PointIs.f k p.f0 p.f1 p.f2 p.f3 t kind) true := by
  unfold lustrumlaw08_PointIs.f
  refine Ev.bind awake8 (Ev.bnow (short_f p) ?_)
  have hout : Ev (fun k => lustrumlaw08_PointIs.j0 k t kind true true p.f0 p.f1 p.f2 p.f3) true := Ev.step (f := fun _ => some true) (fun k => by rw [lustrumlaw08_PointIs.j0, if_pos rfl]) (Ev.now _)
  cases hb : short8 p with
  | false => exact Ev.iff_ (by simp) hout
  | true =>
  refine Ev.ift rfl ?_
  have hsz : okSz p := by
    unfold short8 at hb
    have := of_decide_eq_true hb
    exact ⟨by omega, by omega, by omega⟩
  by_cases ht : (t.size : Int) > 40
  · rw [decide_eq_true ht]; exact hout
  rw [decide_eq_false ht]
  have hread : ∃ x, Ev (fun k => point_Read.f k t) x ∧ Ev (fun k => lustrumref08_Read.f k t) x := by
    obtain ⟨l, rfl⟩ : ∃ l, t = bA l := ⟨_, (bA_mk t).symm⟩
    rw [bA_size] at ht
    rcases read_any l (by omega) with ⟨q, _, _, h⟩ | ⟨_, h⟩
    · obtain ⟨K, hK⟩ := h
      exact ⟨_, ⟨K, hK⟩, Read_same (by rw [bA_size]; omega) (hK K (Nat.le_refl _))⟩
    · obtain ⟨K, hK⟩ := h
      exact ⟨_, ⟨K, hK⟩, Read_same (by rw [bA_size]; omega) (hK K (Nat.le_refl _))⟩
  obtain ⟨x, hx1, hx2⟩ := hread
  obtain ⟨a, c, e, g, la, lc, h1, h2, h3, h4⟩ := both_same p hsz
  have hlast : Ev (fun k => lustrumlaw08_PointIs.j1 k kind true false p.f0 p.f1 p.f2 p.f3) true := by
    refine Ev.step (fun k => by rw [lustrumlaw08_PointIs.j1, if_neg (by simp)]) (Ev.ift rfl ?_)
    refine Ev.bind (ptSane_f p) (Ev.bind (rptSane_f p hsz.1 hsz.2.1 hsz.2.2) (Ev.ift (by simp) ?_))
    refine Ev.bind (ptText_f p) (Ev.bind (rptText_f p hsz.1 hsz.2.1 hsz.2.2) (Ev.ift rfl ?_))
    exact Ev.bnow (Radius_f kind) (Ev.bnow (rRadius_f kind) (Ev.eq (Ev.now _) (by simp)))
  have hsame1 := Same_t (s := a) (t := a) (by omega) rfl
  have hsame2 := Same_t (s := c) (t := c) (by omega) rfl
  refine Ev.step (fun k => by rw [lustrumlaw08_PointIs.j0, if_neg (by simp)]) ?_
  exact Ev.bind hx1 (Ev.bind hx2 (Ev.bind h1 (Ev.bind h2 (Ev.bind h3 (Ev.bind h4 (Ev.iff_ (by simp) (Ev.iff_ (by simp) (Ev.ift rfl (Ev.ift rfl (Ev.bind hsame1 (Ev.ift rfl (Ev.bind hsame2 hlast))))))))))))
end Go.Proofs.YthppfagfmjchoaaGreatDoor.A