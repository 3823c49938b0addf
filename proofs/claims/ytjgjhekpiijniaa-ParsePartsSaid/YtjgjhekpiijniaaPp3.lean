/- Walks of functions, and plain facts about what they compute. No conditions. -/
import Derived.Test.YtjgjhekpiijniaaPp2
set_option linter.unusedVariables false
set_option linter.unusedSimpArgs false
namespace Go.Proofs.Ytjgjhekpiijniaa.A
open Go.RowKit Go.Proofs.YtjgjhekpiijniaaW.PrintWords Go.Proofs.YtjgjhekpiijniaaW.PrintLast Go.Proofs.YtjgjhekpiijniaaW.PrintMore
theorem er0 {x y : S48} (h : er x = er y) : x.f0 = y.f0 := by have := congrArg S48.f0 h; exact this
theorem er2 {x y : S48} (h : er x = er y) : x.f2 = y.f2 := by have := congrArg S48.f2 h; exact this
theorem sign_no9 (c : UInt8) (h : signB (c.toNat : Int) = true) : signK (c.toNat : Int) ≠ 9 := by
  have e : ∀ n : Nat, n < 256 → signB ((UInt8.ofNat n).toNat : Int) = true → signK ((UInt8.ofNat n).toNat : Int) ≠ 9 := by decide +kernel
  have := e c.toNat c.toNat_lt
  rw [UInt8.ofNat_toNat] at this
  exact this h
theorem toks_no9 : ∀ (its : List It) (p : Nat) (r : List UInt8), okG its r → ∀ x, x ∈ toks p its → x.f0 ≠ 9
  | [], _, _, _, x, h => by cases h
  | i :: t, p, r, ho, x, h => by
    rw [toks] at h
    cases i with
    | w l =>
      rcases List.mem_append.1 h with h | h
      · obtain rfl := List.mem_singleton.1 h; simp
      · exact toks_no9 t _ r ho.2.2.2 x h
    | s k c =>
      rcases List.mem_append.1 h with h | h
      · obtain rfl := List.mem_singleton.1 h
        have := sign_no9 c ho.2.1
        rw [ho.1] at this; exact this
      · exact toks_no9 t _ r ho.2.2 x h
    | d =>
      rcases List.mem_append.1 h with h | h
      · obtain rfl := List.mem_singleton.1 h; simp
      · exact toks_no9 t _ r ho x h
    | b => exact toks_no9 t _ r ho x h
theorem tail_9 {l v u : List S48} {e y : S48} (hl : ∀ x, x ∈ l → x.f0 ≠ 9) (hy : y.f0 = 9) (h : l ++ [e] = v ++ y :: u) : v = l ∧ y = e ∧ u = [] := by
  cases hu : u with
  | nil =>
    rw [hu] at h
    have := List.append_inj' h rfl
    obtain ⟨h1, h2⟩ := this
    injection h2 with h2 _
    exact ⟨h1.symm, h2.symm, rfl⟩
  | cons z w =>
    obtain ⟨w', e', hw⟩ : ∃ w' e', u = w' ++ [e'] := ⟨_, _, (List.dropLast_concat_getLast (by rw [hu]; simp)).symm⟩
    rw [hw] at h
    have h' : l ++ [e] = (v ++ y :: w') ++ [e'] := by rw [h]; simp
    have h1 := (List.append_inj' h' rfl).1
    exact absurd hy (hl y (by rw [h1]; simp))
theorem toks_er : ∀ (its : List It) (p q : Nat), (toks p its).map er = (toks q its).map er
  | [], _, _ => rfl
  | i :: t, p, q => by
    rw [toks, toks, List.map_append, List.map_append, toks_er t _ (q + i.tx.length)]
    cases i <;> rfl
theorem marks_er : ∀ (v v2 : List S48) (a b a' b' : Bool), v.map er = v2.map er → DM v a b a' b' → DM v2 a b a' b'
  | [], [], _, _, _, _, _, h => h
  | [], y :: v2, _, _, _, _, e, _ => by cases e
  | x :: v, [], _, _, _, _, e, _ => by cases e
  | x :: v, y :: v2, a, b, a', b', e, h => by
    simp only [List.map_cons, List.cons.injEq] at e
    obtain ⟨e1, e2⟩ := e
    have e0 : x.f0 = y.f0 := er0 e1
    rw [DM] at h ⊢
    rcases h with ⟨c, d, h⟩ | ⟨c, d, h⟩
    · exact .inl ⟨e0 ▸ c, d, marks_er v v2 _ _ _ _ e2 h⟩
    · exact .inr ⟨e0 ▸ c, d, marks_er v v2 _ _ _ _ e2 h⟩
theorem DE_er {v v2 : List S48} {n : S27} (e : v.map er = v2.map er) (h : DE v n) : DE v2 n := by
  cases v with
  | nil => exact h.elim
  | cons x v =>
    cases v2 with
    | nil => cases e
    | cons y v2 =>
      simp only [List.map_cons, List.cons.injEq] at e
      obtain ⟨e1, e2⟩ := e
      have e0 : x.f0 = y.f0 := er0 e1
      have ef : x.f2 = y.f2 := er2 e1
      have enil : v = [] → v2 = [] := fun h => by subst h; cases v2 with
        | nil => rfl
        | cons z w => cases e2
      rcases h with ⟨c, p, a, b, h1, h2, h3, h4⟩ | ⟨c, h1, h2⟩ | ⟨c, h1, h2⟩
      · exact .inl ⟨e0 ▸ c, p, a, b, h1, ef ▸ h2, marks_er v v2 _ _ _ _ e2 h3, h4⟩
      · exact .inr (.inl ⟨e0 ▸ c, enil h1, h2⟩)
      · exact .inr (.inr ⟨e0 ▸ c, enil h1, h2⟩)
theorem split_er {v1 v2 w : List S48} {y : S48} (e : (v1 ++ y :: v2).map er = w.map er) : ∃ w1 z w2, w = w1 ++ z :: w2 ∧ v1.map er = w1.map er ∧ y.f0 = z.f0 ∧ v2.map er = w2.map er := by
  rw [List.map_append, List.map_cons] at e
  obtain ⟨w1, w', rfl, h1, h2⟩ := List.map_eq_append_iff.1 e.symm
  obtain ⟨z, w2, rfl, h3, h4⟩ := List.map_eq_cons_iff.1 h2
  exact ⟨w1, z, w2, rfl, h1.symm, er0 h3.symm, h4.symm⟩
theorem D_er : ∀ k, (∀ v v2 n, v.map er = v2.map er → DX k v n → DX k v2 n) ∧ (∀ v v2 l, v.map er = v2.map er → DL k v l → DL k v2 l)
  | 0 => ⟨fun _ _ _ _ h => by rw [DX] at h; exact h.elim, fun _ _ _ _ h => by rw [DL] at h; exact h.elim⟩
  | k + 1 => by
    obtain ⟨i1, i2⟩ := D_er k
    refine ⟨fun v v2 n e h => ?_, fun v v2 l e h => ?_⟩
    · rw [DX] at h ⊢
      rcases h with ⟨h, c⟩ | ⟨v1, y, w1, a, b, rfl, cy, h1, h2, hn⟩ | ⟨x, v1, l, rfl, h4, hl, hn⟩
      · exact .inl ⟨DE_er e h, c⟩
      · obtain ⟨u1, z, u2, rfl, g1, g2, g3⟩ := split_er e
        exact .inr (.inl ⟨u1, z, u2, a, b, rfl, g2 ▸ cy, DE_er g1 h1, DE_er g3 h2, hn⟩)
      · obtain ⟨u1, z, u2, rfl, g1, g2, g3⟩ := split_er (v1 := []) e
        have : u1 = [] := by cases u1 with
          | nil => rfl
          | cons _ _ => cases g1
        subst this
        exact .inr (.inr ⟨z, u2, l, rfl, g2 ▸ h4, i2 _ _ _ g3 hl, hn⟩)
    · rw [DL] at h ⊢
      rcases h with ⟨v1, y, n, rfl, h5, hx, hl⟩ | ⟨v1, y, w1, n, l', rfl, h6, hx, h2, hl⟩
      · obtain ⟨u1, z, u2, rfl, g1, g2, g3⟩ := split_er (v2 := []) e
        have : u2 = [] := by cases u2 with
          | nil => rfl
          | cons _ _ => cases g3
        subst this
        exact .inl ⟨u1, z, n, rfl, g2 ▸ h5, i1 _ _ _ g1 hx, hl⟩
      · obtain ⟨u1, z, u2, rfl, g1, g2, g3⟩ := split_er e
        exact .inr ⟨u1, z, u2, n, l', rfl, g2 ▸ h6, i1 _ _ _ g1 hx, i2 _ _ _ g3 h2, hl⟩
theorem okG_app : ∀ (u v : List It), okG u [] → okG v [] → noW (flatT v) → okG (u ++ v) []
  | [], v, _, h, _ => h
  | .w l :: t, v, h, hv, hn => ⟨h.1, h.2.1, by
      have := h.2.2.1
      rw [List.append_nil] at this ⊢
      rw [List.append_eq, flatT_app]
      cases hf : flatT t with
      | nil => exact hn
      | cons c r => rw [hf] at this; exact this, okG_app t v h.2.2.2 hv hn⟩
  | .s k c :: t, v, h, hv, hn => ⟨h.1, h.2.1, okG_app t v h.2.2 hv hn⟩
  | .d :: t, v, h, hv, hn => okG_app t v h hv hn
  | .b :: t, v, h, hv, hn => okG_app t v h hv hn
theorem Parse_D (l : List UInt8) : (∃ its n k, okG its [] ∧ l = flatT its ∧ DX k (toks 0 its) n ∧ saneV n = true ∧ l.length ≤ 2000 ∧ Ev (fun k => parse_Parse.f k (bA l)) (tupP n (l.length : Int) 0)) ∨ ∃ a e : Int, e ≠ 0 ∧ 0 ≤ a ∧ a ≤ (l.length : Int) ∧ Ev (fun k => parse_Parse.f k (bA l)) (tupP pz a e) := by
  rcases Parse_any l with ⟨n, hn, hl, hP⟩ | h
  · left
    obtain ⟨its, r, ho, rfl⟩ := split_any _ l (Nat.le_refl _)
    by_cases hr : r = []
    · subst hr
      rw [List.append_nil] at hl hP ⊢
      have hL := All_ok its ho hl
      have hT := toks_in its 0
      have hw0 : shortW (toks 0 its) := fun x hx => by have := hT x hx; omega
      have hw : shortW (toks 0 its ++ [endT (flatT its).length]) := fun x hx => by
        rcases List.mem_append.1 hx with h | h
        · exact hw0 x h
        · obtain rfl := List.mem_singleton.1 h; exact Nat.zero_le _
      obtain ⟨R, hR, hO⟩ := expr_any (endT (flatT its).length) rfl (toks 0 its) hw0 0 0 (by omega) (by omega)
      rcases hO with ⟨hx, _, _, _, _, _, v', ht, _, _⟩ | ⟨a, c, hx, _, hc⟩
      · obtain ⟨n2, x, t, m, d⟩ := R
        simp only at hx ht
        subst hx; subst ht
        obtain ⟨y, u, hyu⟩ := cons_of v' (endT (flatT its).length)
        rw [hyu] at hR
        by_cases hy : y.f0 = 9
        · have hQ : Ev (fun k => parse_Parse.f k (bA (flatT its))) (tupP n2 ((flatT its).length : Int) 0) := Ev.bind hL (Ev.ift rfl (Ev.bind hR (Ev.ift hy (Ev.now _))))
          have e := Ev.det hP hQ
          have en : n = n2 := by
            unfold tupP at e
            simp only [Prod.mk.injEq] at e
            obtain ⟨a0, a1, a2, a3, a4, a5, a6, a7, _⟩ := e
            obtain ⟨k1, ⟨p0, p1, p2, p3⟩, b1, c1, l1⟩ := n
            obtain ⟨k2, ⟨q0, q1, q2, q3⟩, b2, c2, l2⟩ := n2
            simp only at a0 a1 a2 a3 a4 a5 a6 a7
            rw [a0, a1, a2, a3, a4, a5, a6, a7]
          subst en
          obtain ⟨k, hk⟩ := hR.rounds
          obtain ⟨v, e1, hD⟩ := (expr_D k).1 _ _ _ _ _ _ _ hw hk
          obtain ⟨rfl, _, _⟩ := tail_9 (toks_no9 its 0 [] ho) hy e1
          exact ⟨its, n, k, ho, rfl, hD, hn, hl, hP⟩
        · have hQ : Ev (fun k => parse_Parse.f k (bA (flatT its))) (tupP pz y.f1 3) := Ev.bind hL (Ev.ift rfl (Ev.bind hR (Ev.iff_ hy (Ev.now _))))
          have e := Ev.det hP hQ
          simp [tupP] at e
      · have hQ : Ev (fun k => parse_Parse.f k (bA (flatT its))) (tupP pz a c) := by
          refine Ev.bind hL (Ev.ift rfl (Ev.bind hR ?_))
          rw [hx]; exact Ev.now _
        have e := Ev.det hP hQ
        simp only [tupP, Prod.mk.injEq] at e
        exact absurd e.2.2.2.2.2.2.2.2.2.symm hc
    · have hL := All_bad its r ho hr hl
      have hQ : Ev (fun k => parse_Parse.f k (bA (flatT its ++ r))) (tupP pz ((flatT its).length : Int) 1) := Ev.bind hL (Ev.iff_ (by simp) (Ev.now _))
      have e := Ev.det hP hQ
      simp [tupP] at e
  · exact .inr h
theorem Parse_two {is js : List It} {a b : S27} {k j : Nat} (hi : okG is []) (hj : okG js []) (ha : DX k (toks 0 is) a) (hb : DX j (toks 0 js) b) (hl : (flatT is).length + (flatT js).length + 3 ≤ 2000) :
    rt (liN [a, b]) = true ∧ ((saneV (liN [a, b]) = true ∧ Ev (fun k => parse_Parse.f k (bA (91 :: (flatT is ++ 44 :: (flatT js ++ [93]))))) (tupP (liN [a, b]) (((flatT is).length + (flatT js).length + 3 : Nat) : Int) 0))
      ∨ (saneV (liN [a, b]) = false ∧ ∃ p c : Int, (c = 5 ∨ c = 6) ∧ Ev (fun k => parse_Parse.f k (bA (91 :: (flatT is ++ 44 :: (flatT js ++ [93]))))) (tupP pz p c))) := by
  obtain ⟨its, hits⟩ : ∃ its, its = It.s 4 91 :: (is ++ (.s 6 44 :: (js ++ [.s 5 93]))) := ⟨_, rfl⟩
  have ho5 : okG [.s 5 93] [] := ⟨by decide, by decide, .inl rfl⟩
  have ho1 : okG (js ++ [.s 5 93]) [] := okG_app _ _ hj ho5 (show isW 93 = false by decide)
  have ho2 : okG (.s 6 44 :: (js ++ [.s 5 93])) [] := ⟨by decide, by decide, ho1⟩
  have ho3 : okG (is ++ (.s 6 44 :: (js ++ [.s 5 93]))) [] := okG_app _ _ hi ho2 (show isW 44 = false by decide)
  have ho : okG its [] := by rw [hits]; exact ⟨by decide, by decide, ho3⟩
  have hf : flatT its = 91 :: (flatT is ++ 44 :: (flatT js ++ [93])) := by rw [hits, flatT, flatT_app, flatT, flatT_app]; rfl
  have hfl : (flatT its).length = (flatT is).length + (flatT js).length + 3 := by rw [hf]; simp only [List.length_cons, List.length_append, List.length_nil]; omega
  have hL := All_ok its ho (by omega)
  obtain ⟨q, t5, ht⟩ : ∃ q t5, toks 0 its = (⟨4, 0, e0⟩ : S48) :: (toks 1 is ++ (⟨6, ((1 + (flatT is).length : Nat) : Int), e0⟩ : S48) :: (toks q js ++ [(⟨5, t5, e0⟩ : S48)])) := by
    rw [hits]
    refine ⟨1 + (flatT is).length + 1, ((1 + (flatT is).length + 1 + (flatT js).length : Nat) : Int), ?_⟩
    rw [toks, toks_app, toks, toks_app]
    rfl
  have hD : DX (max k j + 3) (toks 0 its) (liN [a, b]) := by
    rw [ht, DX]
    refine .inr (.inr ⟨_, _, [a, b], rfl, rfl, ?_, rfl⟩)
    rw [DL]
    refine .inr ⟨_, _, _, a, [b], rfl, rfl, (D_er _).1 _ _ _ (toks_er is 0 1) (D_le (by omega) ha), ?_, rfl⟩
    rw [DL]
    exact .inl ⟨_, _, b, rfl, rfl, (D_er _).1 _ _ _ (toks_er js 0 q) (D_le (by omega) hb), rfl⟩
  obtain ⟨hrt, hgo⟩ := (expr_go _).1 _ _ hD
  refine ⟨hrt, ?_⟩
  have hg := hgo 0 0 [endT (flatT its).length] ⟨_, _, rfl, by simp [endT], by simp [endT], by simp [endT]⟩ (by omega) (by omega)
  rw [Nat.zero_add, Nat.zero_add] at hg
  rcases hg with ⟨g1, g2, g3⟩ | ⟨g1, R, g2, p, c, hx, hc⟩
  · left
    refine ⟨by unfold saneV; rw [hrt]; simp only [Bool.and_true, Bool.and_eq_true, decide_eq_true_eq]; exact ⟨g1, g2⟩, ?_⟩
    have : Ev (fun k => parse_Parse.f k (bA (flatT its))) (tupP (liN [a, b]) ((flatT its).length : Int) 0) := Ev.bind hL (Ev.ift rfl (Ev.bind g3 (Ev.ift rfl (Ev.now _))))
    rw [hfl, hf] at this
    exact this
  · right
    refine ⟨?_, p, c, hc, ?_⟩
    · cases hs : saneV (liN [a, b]) with
      | false => rfl
      | true => exact absurd ⟨(sane_rt hs).1, (sane_rt hs).2.1⟩ g1
    · rw [← hf]
      refine Ev.bind hL (Ev.ift rfl (Ev.bind g2 ?_))
      rw [hx]; exact Ev.now _
theorem parts_txt (l u : List UInt8) : ((((⟨#[91]⟩ : ByteArray) ++ bA l) ++ (⟨#[44]⟩ : ByteArray)) ++ bA u) ++ (⟨#[93]⟩ : ByteArray) = bA (91 :: (l ++ 44 :: (u ++ [93]))) := by
  rw [show (⟨#[91]⟩ : ByteArray) = bA [91] from rfl, show (⟨#[44]⟩ : ByteArray) = bA [44] from rfl, show (⟨#[93]⟩ : ByteArray) = bA [93] from rfl, bA_app, bA_app, bA_app, bA_app]
  congr 1
  simp
theorem eta27 (n : S27) : (⟨n.f0, ⟨n.f1.f0, n.f1.f1, n.f1.f2, n.f1.f3⟩, n.f2, n.f3, n.f4⟩ : S27) = n := by cases n; rfl
theorem ParseParts_t (s t : ByteArray) : Ev (fun k => lustrumlaw13_ParseParts.f k s t) true := by
  have out : Ev (fun k => lustrumlaw13_ParseParts.j0 k s t true true) true := Ev.step (f := fun _ => some true) (fun k => by rw [lustrumlaw13_ParseParts.j0, if_pos rfl]) (Ev.now _)
  have out1 : ∀ (a e : Int) (n m o : S27), Ev (fun k => lustrumlaw13_ParseParts.j1 k s t true a e true n.f0 n.f1.f0 n.f1.f1 n.f1.f2 n.f1.f3 n.f2 n.f3 n.f4 m.f0 m.f1.f0 m.f1.f1 m.f1.f2 m.f1.f3 m.f2 m.f3 m.f4 o.f0 o.f1.f0 o.f1.f1 o.f1.f2 o.f1.f3 o.f2 o.f3 o.f4) true := fun a e n m o => Ev.step (f := fun _ => some true) (fun k => by rw [lustrumlaw13_ParseParts.j1, if_pos rfl]) (Ev.now _)
  refine Ev.bind awake13 ?_
  by_cases hs : (s.size : Int) > 400
  · exact Ev.ift hs out
  refine Ev.iff_ hs ?_
  by_cases ht : (t.size : Int) > 400
  · rw [decide_eq_true ht]; exact out
  rw [decide_eq_false ht]
  obtain ⟨l, rfl⟩ : ∃ l, s = bA l := ⟨s.data.toList, (bA_mk _).symm⟩
  obtain ⟨u, rfl⟩ : ∃ l, t = bA l := ⟨t.data.toList, (bA_mk _).symm⟩
  rw [bA_size] at hs ht
  obtain ⟨N, hN⟩ : ∃ N : S27 × Int × Int, Ev (fun k => parse_Parse.f k (bA (91 :: (l ++ 44 :: (u ++ [93]))))) (tupP N.1 N.2.1 N.2.2) := by
    rcases Parse_any (91 :: (l ++ 44 :: (u ++ [93]))) with ⟨n, _, _, h⟩ | ⟨a, e, _, _, _, h⟩
    · exact ⟨(n, _, _), h⟩
    · exact ⟨(pz, a, e), h⟩
  have hcat := parts_txt l u
  refine Ev.step (fun k => by rw [lustrumlaw13_ParseParts.j0, if_neg (by simp), hcat]) ?_
  have z1 : ((⟨#[91]⟩ : ByteArray) ++ bA l).size = 1 + l.length := by rw [show (⟨#[91]⟩ : ByteArray) = bA [91] from rfl, bA_app, bA_size]; simp; omega
  have z2 : (((⟨#[91]⟩ : ByteArray) ++ bA l) ++ (⟨#[44]⟩ : ByteArray)).size = 2 + l.length := by rw [show (⟨#[91]⟩ : ByteArray) = bA [91] from rfl, show (⟨#[44]⟩ : ByteArray) = bA [44] from rfl, bA_app, bA_app, bA_size]; simp; omega
  have z3 : ((((⟨#[91]⟩ : ByteArray) ++ bA l) ++ (⟨#[44]⟩ : ByteArray)) ++ bA u).size = 2 + l.length + u.length := by rw [show (⟨#[91]⟩ : ByteArray) = bA [91] from rfl, show (⟨#[44]⟩ : ByteArray) = bA [44] from rfl, bA_app, bA_app, bA_app, bA_size]; simp; omega
  have g1 : 1 + (bA l).size ≤ 9223372036854775807 := by rw [bA_size]; omega
  have g2 : ((⟨#[91]⟩ : ByteArray) ++ bA l).size + 1 ≤ 9223372036854775807 := by rw [z1]; omega
  have g3 : (((⟨#[91]⟩ : ByteArray) ++ bA l) ++ (⟨#[44]⟩ : ByteArray)).size + (bA u).size ≤ 9223372036854775807 := by rw [z2, bA_size]; omega
  have g4 : ((((⟨#[91]⟩ : ByteArray) ++ bA l) ++ (⟨#[44]⟩ : ByteArray)) ++ bA u).size + 1 ≤ 9223372036854775807 := by rw [z3]; omega
  rcases Parse_D l with ⟨is, a, i, hi, rfl, ha, sa, _, hA⟩ | ⟨a, e, he, _, _, hA⟩
  · rcases Parse_D u with ⟨js, b, j, hj, rfl, hb, sb, _, hB⟩ | ⟨b, f, hf, _, _, hB⟩
    · have hl : (flatT is).length + (flatT js).length + 3 ≤ 2000 := by omega
      obtain ⟨hrt, h2⟩ := Parse_two hi hj ha hb hl
      refine Ev.bind hA (Ev.bind hB (Ev.ift g1 (Ev.ift g2 (Ev.ift g3 (Ev.ift g4 ?_)))))
      have hO := OneOf_e [a, b] (by simp)
      have wf : wfN (liN [a, b]) := by
        have wa := sane_wf sa
        have wb := sane_wf sb
        exact .mk _ (by show e0.size ≤ _; decide) (by show e0.size ≤ _; decide) (by show e0.size ≤ _; decide) (by simp [liN]) (fun x hx => by
          simp only [liN, List.mem_cons, List.not_mem_nil, or_false] at hx
          rcases hx with rfl | rfl
          · exact wa
          · exact wb)
      have hnd : nd (liN [a, b]) ≤ 1048576 := by
        have na := sane_rt sa
        have nb := sane_rt sb
        rw [nd_eq]
        simp only [liN, ndL]
        omega
      have hSn := tSane_f (liN [a, b]) wf (by omega)
      have go : ∀ (p c : Int) (m : S27), (saneV (liN [a, b]) = true → p = (((flatT is).length + (flatT js).length + 3 : Nat) : Int) ∧ c = 0 ∧ m = liN [a, b]) → (saneV (liN [a, b]) = false → c = 5 ∨ c = 6) →
          Ev (fun k => lustrumlaw13_ParseParts.j1 k (bA (flatT is)) (bA (flatT js)) true p c false a.f0 a.f1.f0 a.f1.f1 a.f1.f2 a.f1.f3 a.f2 a.f3 a.f4 b.f0 b.f1.f0 b.f1.f1 b.f1.f2 b.f1.f3 b.f2 b.f3 b.f4 m.f0 m.f1.f0 m.f1.f1 m.f1.f2 m.f1.f3 m.f2 m.f3 m.f4) true := by
        intro p c m h1 h2
        refine Ev.step (fun k => by rw [lustrumlaw13_ParseParts.j1, if_neg (by simp)]) ?_
        refine Ev.bnow (by rw [eta27, eta27]; exact hO) ?_
        refine Ev.bind hSn ?_
        cases hv : saneV (liN [a, b]) with
        | true =>
          obtain ⟨rfl, rfl, rfl⟩ := h1 hv
          refine Ev.ift rfl (Ev.ift rfl (Ev.ift rfl (Ev.ift ?_ (Ev.bind (same_t hv) (Ev.now _)))))
          have h1 : wrap64 (((flatT is).length : Int) + ((flatT js).length : Int)) = ((flatT is).length : Int) + ((flatT js).length : Int) := w64 (by omega) (by omega)
          rw [bA_size, bA_size, h1, w64 (by omega) (by omega)]
          omega
        | false =>
          refine Ev.iff_ (by simp) (Ev.ift rfl ?_)
          rcases h2 hv with rfl | rfl
          · exact Ev.ift rfl (Ev.now _)
          · exact Ev.iff_ (by decide) (Ev.now _)
      rcases h2 with ⟨hv, hP⟩ | ⟨hv, p, c, hc, hP⟩
      · exact Ev.bind hP (Ev.ift rfl (go _ _ _ (fun _ => ⟨rfl, rfl, rfl⟩) (fun h => by rw [hv] at h; cases h)))
      · exact Ev.bind hP (Ev.ift rfl (go _ _ pz (fun h => by rw [hv] at h; cases h) (fun _ => hc)))
    · refine Ev.bind hA (Ev.bind hB (Ev.ift g1 (Ev.ift g2 (Ev.ift g3 (Ev.ift g4 (Ev.bind hN (Ev.ift rfl ?_)))))))
      have : (f != 0) = true := bne_iff_ne.2 hf
      show Ev (fun k => lustrumlaw13_ParseParts.j1 k _ _ true _ _ (f != 0) _ _ _ _ _ _ _ _ _ _ _ _ _ _ _ _ _ _ _ _ _ _ _ _) true
      rw [this]
      exact out1 _ _ _ pz _
  · obtain ⟨B, hB⟩ : ∃ N : S27 × Int × Int, Ev (fun k => parse_Parse.f k (bA u)) (tupP N.1 N.2.1 N.2.2) := by
      rcases Parse_any u with ⟨n, _, _, h⟩ | ⟨a, e, _, _, _, h⟩
      · exact ⟨(n, _, _), h⟩
      · exact ⟨(pz, a, e), h⟩
    refine Ev.bind hA (Ev.bind hB (Ev.ift g1 (Ev.ift g2 (Ev.ift g3 (Ev.ift g4 (Ev.bind hN (Ev.iff_ he ?_)))))))
    exact out1 _ _ pz _ _
end Go.Proofs.Ytjgjhekpiijniaa.A