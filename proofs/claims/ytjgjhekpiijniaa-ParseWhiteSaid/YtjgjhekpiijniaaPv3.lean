/- Walks of functions, and plain facts about what they compute. No conditions. -/
import Derived.Test.YtjgjhekpiijniaaPv2
set_option linter.unusedVariables false
set_option linter.unusedSimpArgs false
namespace Go.Proofs.Ytjgjhekpiijniaa.A
open Go.RowKit Go.Proofs.YtjgjhekpiijniaaW.PrintWords Go.Proofs.YtjgjhekpiijniaaW.PrintLast Go.Proofs.YtjgjhekpiijniaaW.PrintMore
def badC : List UInt8 → Prop
  | [] => False
  | c :: r => isW c = false ∧ signB (c.toNat : Int) = false ∧ c ≠ 32 ∧ ([46, 46] : List UInt8).isPrefixOf (c :: r) = false
def okG : List It → List UInt8 → Prop
  | [], r => r = [] ∨ badC r
  | .w l :: t, r => l ≠ [] ∧ l.all isW = true ∧ noW (flatT t ++ r) ∧ okG t r
  | .s k c :: t, r => signK (c.toNat : Int) = k ∧ signB (c.toNat : Int) = true ∧ okG t r
  | .d :: t, r => okG t r
  | .b :: t, r => okG t r
theorem drop_noW : ∀ l : List UInt8, noW (l.dropWhile isW)
  | [] => trivial
  | c :: l => by
    rw [List.dropWhile_cons]
    cases h : isW c with
    | true => exact drop_noW l
    | false => exact h
theorem all_take : ∀ l : List UInt8, (l.takeWhile isW).all isW = true
  | [] => rfl
  | c :: l => by
    rw [List.takeWhile_cons]
    cases h : isW c with
    | true => simp only [if_true, List.all_cons, h, Bool.true_and]; exact all_take l
    | false => rfl
theorem split_any : ∀ (M : Nat) (l : List UInt8), l.length ≤ M → ∃ its r, okG its r ∧ l = flatT its ++ r
  | _, [], _ => ⟨[], [], .inl rfl, rfl⟩
  | 0, c :: l, h => by rw [List.length_cons] at h; omega
  | M + 1, c :: l, h => by
    rw [List.length_cons] at h
    by_cases hW : isW c = true
    · have e := List.takeWhile_append_dropWhile (p := isW) (l := c :: l)
      have ht : (c :: l).takeWhile isW = c :: l.takeWhile isW := by rw [List.takeWhile_cons, hW]; rfl
      have hd : (c :: l).dropWhile isW = l.dropWhile isW := by rw [List.dropWhile_cons, hW]; rfl
      have hlen : (l.dropWhile isW).length ≤ l.length := (List.dropWhile_suffix _).length_le
      obtain ⟨its, r, ho, hr⟩ := split_any M (l.dropWhile isW) (by omega)
      refine ⟨.w (c :: l.takeWhile isW) :: its, r, ⟨by simp, ?_, ?_, ho⟩, ?_⟩
      · rw [← ht]; exact all_take _
      · rw [← hr]; exact drop_noW l
      · rw [flatT, List.append_assoc, ← hr, ← hd, It.tx, ← ht, e]
    have hW : isW c = false := Bool.eq_false_iff.mpr hW
    by_cases hS : signB (c.toNat : Int) = true
    · obtain ⟨its, r, ho, hr⟩ := split_any M l (by omega)
      exact ⟨.s (signK (c.toNat : Int)) c :: its, r, ⟨rfl, hS, ho⟩, by rw [flatT, It.tx, hr]; rfl⟩
    have hS : signB (c.toNat : Int) = false := Bool.eq_false_iff.mpr hS
    by_cases h2 : ([46, 46] : List UInt8).isPrefixOf (c :: l) = true
    · obtain ⟨u, rfl, rfl⟩ : ∃ u, c = 46 ∧ l = 46 :: u := by
        cases l with
        | nil => simp [List.isPrefixOf] at h2
        | cons b u =>
          simp only [List.isPrefixOf, Bool.and_true, Bool.and_eq_true, beq_iff_eq] at h2
          exact ⟨u, h2.1.symm, by rw [← h2.2]⟩
      rw [List.length_cons] at h
      obtain ⟨its, r, ho, hr⟩ := split_any M u (by omega)
      exact ⟨.d :: its, r, ho, by rw [flatT, It.tx, hr]; rfl⟩
    by_cases h3 : c = 32
    · obtain ⟨its, r, ho, hr⟩ := split_any M l (by omega)
      exact ⟨.b :: its, r, ho, by rw [flatT, It.tx, hr, h3]; rfl⟩
    · exact ⟨[], c :: l, .inr ⟨hW, hS, h3, Bool.eq_false_iff.mpr h2⟩, rfl⟩
theorem lex_round (p X : List UInt8) (c : UInt8) (l : List UInt8) (hX : X = c :: l) (acc : List S48) (k : Nat) :
    lex_All.l0 (k + 1) (bA (p ++ X)) acc (p.length : Int) = (lex_word.f k (bA X)).bind fun t274 => (if t274 > 0 then (if (p.length : Int) ≤ (wrap64 ((p.length : Int) + t274)) then (if (wrap64 ((p.length : Int) + t274)) ≤ ((bA (p ++ X)).size : Int) then (if acc.length < 4398046511104 then (lex_All.l0 k (bA (p ++ X)) (acc ++ [(⟨0, (p.length : Int), (bA (p ++ X)).extract ((p.length : Int)).toNat ((wrap64 ((p.length : Int) + t274)) : Int).toNat⟩ : S48)]) (wrap64 ((p.length : Int) + t274))) else (none)) else (none)) else (none)) else (if signB (c.toNat : Int) = true then (if acc.length < 4398046511104 then (lex_All.l0 k (bA (p ++ X)) (acc ++ [(⟨signK (c.toNat : Int), (p.length : Int), (⟨#[]⟩ : ByteArray)⟩ : S48)]) (wrap64 ((p.length : Int) + 1))) else (none)) else (if ([46, 46] : List UInt8).isPrefixOf X = true then (if acc.length < 4398046511104 then (lex_All.l0 k (bA (p ++ X)) (acc ++ [(⟨2, (p.length : Int), (⟨#[]⟩ : ByteArray)⟩ : S48)]) (wrap64 ((p.length : Int) + 2))) else (none)) else (if (c.toNat : Int) = 32 then (lex_All.l0 k (bA (p ++ X)) acc (wrap64 ((p.length : Int) + 1))) else (some (([] : List S48), (p.length : Int), 1)))))) := by
  have hbt : bt (bA (p ++ X)) (p.length : Int) = (c.toNat : Int) := by rw [hX, bt_mid]
  have hsz : ((bA (p ++ X)).size : Int) = ((p ++ X).length : Nat) := by rw [bA_size]
  have hlt : (p.length : Int) < ((bA (p ++ X)).size : Int) := by rw [hsz, hX, List.length_append, List.length_cons]; omega
  have hext : (bA (p ++ X)).extract ((p.length : Int)).toNat (bA (p ++ X)).size = bA X := by rw [Int.toNat_natCast]; exact ext_end p _
  have hp := prefix_f X [46, 46]
  rw [lex_All.l0, if_pos hlt, if_pos (by omega), hbt, hext]
  simp only [lex_signs.f, Option.bind_some]
  rw [if_pos (by omega)]
  have e1 : (⟨#[46, 46]⟩ : ByteArray) = bA [46, 46] := rfl
  rw [e1, hp]
  rfl
def lexR (p : List UInt8) (acc : List S48) (its : List It) (r : List UInt8) : List S48 × Int × Int :=
  if r = [] then (acc ++ toks p.length its ++ [endT (p ++ (flatT its ++ r)).length], ((p ++ (flatT its ++ r)).length : Int), 0) else ([], ((p.length + (flatT its).length : Nat) : Int), 1)
theorem lex_g (r : List UInt8) : ∀ (its : List It) (p : List UInt8) (acc : List S48), okG its r → (p ++ (flatT its ++ r)).length ≤ 1000000 → acc.length ≤ p.length →
    Ev (fun k => lex_All.l0 k (bA (p ++ (flatT its ++ r))) acc (p.length : Int)) (lexR p acc its r)
  | [], p, acc, hok, hn, ha => by
    unfold lexR
    rw [flatT, List.nil_append] at hn ⊢
    rcases hok with rfl | hb
    · rw [if_pos rfl]
      refine Ev.step (f := fun _ => some (acc ++ toks p.length [] ++ [endT (p ++ []).length], ((p ++ []).length : Int), 0)) (fun k => ?_) (Ev.now _)
      rw [lex_All.l0, bA_size, if_neg (by simp), if_pos (by simp at hn; omega)]
      simp only [toks, List.append_nil]
      rfl
    · cases r with
      | nil => exact hb.elim
      | cons c l =>
        obtain ⟨h1, h2, h3, h4⟩ := hb
        rw [if_neg (by simp)]
        have hword := word_f (c :: l) (by rw [List.length_append] at hn; omega)
        have e1 : (c :: l).takeWhile isW = [] := take_W [] (c :: l) rfl h1
        rw [e1] at hword
        have h32 : ¬ (c.toNat : Int) = 32 := fun h => h3 (u8eq (show c.toNat = 32 by omega))
        refine Ev.step (lex_round p (c :: l) c l rfl acc) (Ev.bind hword (Ev.iff_ (by simp) (Ev.iff_ (by rw [h2]; simp) (Ev.iff_ (by rw [h4]; simp) (Ev.iff_ h32 ?_)))))
        exact Ev.eq (Ev.now _) (by simp)
  | i :: t, p, acc, hok, hn, ha => by
    rw [flatT, List.append_assoc] at hn ⊢
    have hlen : p.length + i.tx.length + (flatT t).length + r.length ≤ 1000000 := by simp only [List.length_append] at hn; omega
    have hhead : ∃ c l, i.tx ++ (flatT t ++ r) = c :: l := by
      cases i with
      | w l => obtain ⟨h1, _⟩ := hok; cases l with
        | nil => exact absurd rfl h1
        | cons c l => exact ⟨c, _, rfl⟩
      | s k c => exact ⟨c, _, rfl⟩
      | d => exact ⟨46, _, rfl⟩
      | b => exact ⟨32, _, rfl⟩
    obtain ⟨c, l, hcl⟩ := hhead
    have next : ∀ (acc' : List S48), okG t r → acc'.length ≤ p.length + i.tx.length → acc' = acc ++ i.tok p.length → Ev (fun k => lex_All.l0 k (bA (p ++ (i.tx ++ (flatT t ++ r)))) acc' ((p.length : Int) + (i.tx.length : Int))) (lexR p acc (i :: t) r) := fun acc' hr ha' e => by
      have := lex_g r t (p ++ i.tx) acc' hr (by simp only [List.length_append]; omega) (by rw [List.length_append]; exact ha')
      have e3 : ((p ++ i.tx).length : Int) = (p.length : Int) + (i.tx.length : Int) := by rw [List.length_append]; omega
      rw [e3, List.append_assoc p] at this
      refine Ev.eq this ?_
      unfold lexR
      rw [flatT, toks, e]
      by_cases h0 : r = []
      · rw [if_pos h0, if_pos h0]
        simp only [List.append_assoc, List.length_append]
      · rw [if_neg h0, if_neg h0]
        simp only [List.length_append, Nat.add_assoc]
    have W : ∀ n : Nat, n ≤ 1000000 → wrap64 ((p.length : Int) + (n : Int)) = (p.length : Int) + (n : Int) := fun n h => w64 (by omega) (by omega)
    have w1 := W 1 (by omega)
    have w2 := W 2 (by omega)
    have n1 := Aside0.mk w1
    have n2 := Aside0.mk w2
    clear w1 w2
    have hword := word_f (i.tx ++ (flatT t ++ r)) (by simp only [List.length_append]; omega)
    refine Ev.step (lex_round p _ c l hcl acc) (Ev.bind hword ?_)
    cases i with
    | w u =>
      obtain ⟨h1, h2, h3, h4⟩ := hok
      have hu := List.length_pos_iff.2 h1
      have e1 : ((It.w u).tx ++ (flatT t ++ r)).takeWhile isW = u := take_W u _ h2 h3
      rw [e1]
      rw [W u.length (by simp only [It.tx] at hlen; omega)]
      refine Ev.ift (by omega) (Ev.ift (by omega) (Ev.ift (by rw [bA_size]; simp only [It.tx, List.length_append]; omega) (Ev.ift (by simp only [It.tx] at hlen; omega) ?_)))
      have e2 : (bA (p ++ ((It.w u).tx ++ (flatT t ++ r)))).extract ((p.length : Int)).toNat ((p.length : Int) + (u.length : Int)).toNat = bA u := by
        have : ((p.length : Int) + (u.length : Int)).toNat = p.length + u.length := by omega
        rw [Int.toNat_natCast, this]
        exact ext_bA p u _
      rw [e2]
      exact next (acc ++ [⟨0, (p.length : Int), bA u⟩]) h4 (by simp only [It.tx, List.length_append, List.length_cons, List.length_nil]; omega) rfl
    | s k d =>
      obtain ⟨h1, h2, h3⟩ := hok
      injection hcl with hc _
      subst hc
      have e1 : ((It.s k d).tx ++ (flatT t ++ r)).takeWhile isW = [] := take_W [] _ rfl (sign_noW h2)
      rw [e1]
      refine Ev.iff_ (by simp) (Ev.ift h2 (Ev.ift (by omega) ?_))
      rw [h1]
      rw [show wrap64 ((p.length : Int) + 1) = (p.length : Int) + 1 from n1.out]
      exact next (acc ++ [⟨k, (p.length : Int), e0⟩]) h3 (by simp only [It.tx, List.length_append, List.length_cons, List.length_nil]; omega) rfl
    | d =>
      injection hcl with hc _
      subst hc
      have e1 : (It.d.tx ++ (flatT t ++ r)).takeWhile isW = [] := take_W [] _ rfl (show isW 46 = false by decide)
      rw [e1]
      refine Ev.iff_ (by simp) (Ev.iff_ (by decide) (Ev.ift (by simp [It.tx, List.isPrefixOf]) (Ev.ift (by omega) ?_)))
      rw [show wrap64 ((p.length : Int) + 2) = (p.length : Int) + 2 from n2.out]
      exact next (acc ++ [⟨2, (p.length : Int), e0⟩]) hok (by simp only [It.tx, List.length_append, List.length_cons, List.length_nil]; omega) rfl
    | b =>
      injection hcl with hc _
      subst hc
      have e1 : (It.b.tx ++ (flatT t ++ r)).takeWhile isW = [] := take_W [] _ rfl (show isW 32 = false by decide)
      rw [e1]
      refine Ev.iff_ (by simp) (Ev.iff_ (by decide) (Ev.iff_ (by simp [It.tx, List.isPrefixOf]) (Ev.ift (by decide) ?_)))
      rw [show wrap64 ((p.length : Int) + 1) = (p.length : Int) + 1 from n1.out]
      exact next acc hok (by simp only [It.tx, List.length_cons, List.length_nil]; omega) (by simp [It.tok])
theorem All_ok (its : List It) (h : okG its []) (hn : (flatT its).length ≤ 2000) : Ev (fun k => lex_All.f k (bA (flatT its))) (toks 0 its ++ [endT (flatT its).length], ((flatT its).length : Int), 0) := by
  have := lex_g [] its [] [] h (by simp only [List.nil_append, List.append_nil]; omega) (Nat.le_refl _)
  unfold lexR at this
  rw [if_pos rfl] at this
  simp only [List.nil_append, List.append_nil, List.length_nil] at this
  exact Ev.iff_ (by rw [bA_size]; omega) this
theorem All_bad (its : List It) (r : List UInt8) (h : okG its r) (hr : r ≠ []) (hn : (flatT its ++ r).length ≤ 2000) : Ev (fun k => lex_All.f k (bA (flatT its ++ r))) ([], ((flatT its).length : Int), 1) := by
  have := lex_g r its [] [] h (by simp only [List.nil_append]; omega) (Nat.le_refl _)
  unfold lexR at this
  rw [if_neg hr] at this
  simp only [List.nil_append, List.length_nil, Nat.zero_add] at this
  exact Ev.iff_ (by rw [bA_size]; omega) this
theorem toks_in : ∀ (its : List It) (p : Nat) (x : S48), x ∈ toks p its → (p : Int) ≤ x.f1 ∧ x.f1 ≤ ((p + (flatT its).length : Nat) : Int) ∧ x.f2.size ≤ (flatT its).length
  | [], _, _, h => by cases h
  | i :: t, p, x, h => by
    rw [toks] at h
    rw [flatT, List.length_append]
    rcases List.mem_append.1 h with h | h
    · cases i with
      | w l => obtain rfl := List.mem_singleton.1 h; exact ⟨Int.le_refl _, by simp only; omega, by simp only [bA_size, It.tx]; omega⟩
      | s k c => obtain rfl := List.mem_singleton.1 h; exact ⟨Int.le_refl _, by simp only; omega, Nat.zero_le _⟩
      | d => obtain rfl := List.mem_singleton.1 h; exact ⟨Int.le_refl _, by simp only; omega, Nat.zero_le _⟩
      | b => cases h
    · have := toks_in t _ x h
      exact ⟨by omega, by omega, by omega⟩
def tupP (n : S27) (a e : Int) : Int × Int × ByteArray × ByteArray × ByteArray × Bool × Bool × List S27 × Int × Int := (n.f0, n.f1.f0, n.f1.f1, n.f1.f2, n.f1.f3, n.f2, n.f3, n.f4, a, e)
def er (x : S48) : S48 := ⟨x.f0, 0, x.f2⟩
def erX (x : Wr) : Wr := x.map fun w => (0, w.2)
def erR (r : PR) : PR := ⟨r.n, erX r.x, r.t.map er, r.m, r.d⟩
theorem map_bind {α β δ : Type} (a : Option α) (f : α → β) (g : β → Option δ) : (a.map f).bind g = a.bind fun x => g (f x) := by cases a <;> rfl
theorem bind_then_map {α δ ε : Type} (a : Option α) (g : α → Option δ) (f : δ → ε) : (a.bind g).map f = a.bind fun x => (g x).map f := by cases a <;> rfl
theorem bind_eq {α δ : Type} {a : Option α} {g h : α → Option δ} (e : ∀ x, g x = h x) : a.bind g = a.bind h := by cases a with
  | none => rfl
  | some x => exact e x
theorem marked_er : ∀ (t : List S48) (p : S24) (a b : Bool), pMarked (t.map er) p a b = (pMarked t p a b).map fun r => (r.1, r.2.map er)
  | [], _, _, _ => rfl
  | x :: t, p, a, b => by
    rw [List.map_cons, pMarked, pMarked, marked_er t p true b, marked_er t p a true]
    show (if x.f0 = 7 then _ else if x.f0 = 8 then _ else _) = _
    by_cases c7 : x.f0 = 7
    · rw [if_pos c7, if_pos c7]
      cases a <;> rfl
    · rw [if_neg c7, if_neg c7]
      by_cases c8 : x.f0 = 8
      · rw [if_pos c8, if_pos c8]
        cases b <;> rfl
      · rw [if_neg c8, if_neg c8]; rfl
theorem word_er (k : Nat) (x : S48) (t : List S48) (m d : Int) : pWord k (er x) (t.map er) m d = (pWord k x t m d).map erR := by
  unfold pWord
  rw [bind_then_map]
  show (point_Read.f k x.f2).bind _ = _
  refine bind_eq fun p => ?_
  by_cases c : p.2.2.2.2 = true
  · rw [if_pos c, if_pos c, marked_er, map_bind, bind_then_map]
    rfl
  · rw [if_neg c, if_neg c]; rfl
theorem end_er (k : Nat) (m d : Int) : ∀ t : List S48, pEnd k m d (t.map er) = (pEnd k m d t).map erR
  | [] => rfl
  | x :: t => by
    rw [List.map_cons]
    unfold pEnd
    simp only
    rw [word_er]
    show (if x.f0 = 0 then _ else if x.f0 = 2 then _ else if x.f0 = 3 then _ else _) = _
    by_cases c0 : x.f0 = 0
    · rw [if_pos c0, if_pos c0]
      by_cases c : m = 64
      · rw [if_pos c, if_pos c]; rfl
      · rw [if_neg c, if_neg c]
    rw [if_neg c0, if_neg c0]
    by_cases c2 : x.f0 = 2
    · rw [if_pos c2, if_pos c2]
      by_cases c : m = 64
      · rw [if_pos c, if_pos c]; rfl
      · rw [if_neg c, if_neg c]; rfl
    rw [if_neg c2, if_neg c2]
    by_cases c3 : x.f0 = 3
    · rw [if_pos c3, if_pos c3]
      by_cases c : m = 64
      · rw [if_pos c, if_pos c]; rfl
      · rw [if_neg c, if_neg c]; rfl
    · rw [if_neg c3, if_neg c3]; rfl
theorem span_er (k : Nat) (m d : Int) (t : List S48) : pSpan k m d (t.map er) = (pSpan k m d t).map erR := by
  unfold pSpan
  rw [end_er, map_bind, bind_then_map]
  refine bind_eq fun r => ?_
  obtain ⟨n, x, u, m', d'⟩ := r
  cases x with
  | some w => rfl
  | none =>
    cases u with
    | nil => rfl
    | cons y u =>
      show (if y.f0 = 1 then _ else if n.f0 = 0 then _ else _) = Option.map erR (if y.f0 = 1 then _ else if n.f0 = 0 then _ else _)
      by_cases c1 : y.f0 = 1
      · rw [if_pos c1, if_pos c1]
        show (if m' = 64 then _ else _) = Option.map erR (if m' = 64 then _ else _)
        by_cases c : m' = 64
        · rw [if_pos c, if_pos c]; rfl
        · rw [if_neg c, if_neg c]
          show (pEnd k (wrap64 (m' + 1)) d' (u.map er)).bind _ = _
          rw [end_er, map_bind, bind_then_map]
          exact bind_eq fun s => rfl
      · rw [if_neg c1, if_neg c1]
        by_cases c0 : n.f0 = 0
        · rw [if_pos c0, if_pos c0]; rfl
        · rw [if_neg c0, if_neg c0]; rfl
theorem expr_er : ∀ k, (∀ (m d : Int) (t : List S48), pExpr k m d (t.map er) = (pExpr k m d t).map erR)
    ∧ (∀ (m d : Int) (x : S48) (t : List S48), pList k m d (er x) (t.map er) = (pList k m d x t).map erR)
    ∧ (∀ (m d : Int) (t : List S48) (l : List S27), pItems k m d (t.map er) l = (pItems k m d t l).map erR)
  | 0 => ⟨fun _ _ _ => by simp [pExpr], fun _ _ _ _ => by simp [pList], fun _ _ _ _ => by simp [pItems]⟩
  | k + 1 => by
    obtain ⟨i1, i2, i3⟩ := expr_er k
    refine ⟨fun m d t => ?_, fun m d x t => ?_, fun m d t l => ?_⟩
    · cases t with
      | nil => simp [pExpr]
      | cons x t =>
        have hs := span_er k m d (x :: t)
        rw [List.map_cons] at hs ⊢
        rw [pExpr, pExpr, i2, hs]
        show (if x.f0 = 4 then _ else _) = _
        by_cases c : x.f0 = 4
        · rw [if_pos c, if_pos c]
        · rw [if_neg c, if_neg c]
    · have h3 := i3 (wrap64 (m + 1)) (wrap64 (d + 1)) (x :: t) []
      rw [List.map_cons] at h3
      rw [pList, pList, h3]
      by_cases c : d = 8
      · rw [if_pos c, if_pos c]; rfl
      rw [if_neg c, if_neg c]
      by_cases c : m = 64
      · rw [if_pos c, if_pos c]; rfl
      rw [if_neg c, if_neg c]
    · cases t with
      | nil => simp [pItems]
      | cons x t =>
        rw [List.map_cons, pItems_one, pItems_one, i1, map_bind, bind_then_map]
        refine bind_eq fun r => ?_
        obtain ⟨n, x, u, m', d'⟩ := r
        cases x with
        | some w => rfl
        | none =>
          show (if l.length < 1466015503701 then _ else _) = Option.map erR (if l.length < 1466015503701 then _ else _)
          by_cases cl : l.length < 1466015503701
          · rw [if_pos cl, if_pos cl]
            cases u with
            | nil => rfl
            | cons y u =>
              have h3 := i3 m' d' (y :: u) (l ++ [n])
              rw [List.map_cons] at h3
              show (if y.f0 = 6 then pItems k m' d' (er y :: u.map er) (l ++ [n]) else if y.f0 = 5 then _ else _) = Option.map erR (if y.f0 = 6 then _ else if y.f0 = 5 then _ else _)
              rw [h3]
              by_cases c6 : y.f0 = 6
              · rw [if_pos c6, if_pos c6]
              rw [if_neg c6, if_neg c6]
              by_cases c5 : y.f0 = 5
              · rw [if_pos c5, if_pos c5, bind_then_map]
                exact bind_eq fun o => rfl
              · rw [if_neg c5, if_neg c5]; rfl
          · rw [if_neg cl, if_neg cl]; rfl
theorem alike {t t' : List S48} (h : t.map er = t'.map er) {m d : Int} {R : PR} (hR : Ev (fun k => pExpr k m d t) R) : ∃ R', Ev (fun k => pExpr k m d t') R' ∧ erR R' = erR R := by
  obtain ⟨K, hK⟩ := hR
  have e : pExpr K m d t = some R := hK K (Nat.le_refl _)
  have e1 := (expr_er K).1 m d t
  have e2 := (expr_er K).1 m d t'
  rw [← h, e1, e] at e2
  cases h2 : pExpr K m d t' with
  | none => rw [h2] at e2; cases e2
  | some R' =>
    rw [h2] at e2
    exact ⟨R', Ev.of (fun k => pExpr.mono k m d t') h2, (Option.some.inj e2).symm⟩
theorem bare_sizes {n : S27} (h : bareV n = true) : n.f1.f1.size = 0 ∧ n.f1.f2.size = 0 ∧ n.f1.f3.size = 0 := by
  unfold bareV at h
  simp only [Bool.and_eq_true] at h
  exact ⟨empty_size h.1.1.2.1, empty_size h.1.1.2.2.1, empty_size h.1.1.2.2.2⟩
theorem end_sizes {n : S27} (h : endV n = true) : n.f1.f1.size ≤ 4 ∧ n.f1.f2.size ≤ 4 ∧ n.f1.f3.size ≤ 4 := by
  obtain ⟨_, hk⟩ := end_kinds h
  rcases hk with ⟨_, hp⟩ | ⟨_, hb⟩ | ⟨_, hb⟩
  · have := pt_sizes hp; omega
  · have := bare_sizes hb; omega
  · have := bare_sizes hb; omega
theorem end_wf {n : S27} (h : endV n = true) : wfN n := by
  have := end_sizes h
  refine .mk _ (by omega) (by omega) (by omega) (by rw [(end_kinds h).1]; simp) (fun x hx => ?_)
  rw [(end_kinds h).1] at hx; cases hx
theorem rtL_mem' : ∀ {l : List S27}, rtL l = true → ∀ x, x ∈ l → rt x = true
  | [], _, x, hx => by cases hx
  | y :: l, h, x, hx => by
    rw [rtL, Bool.and_eq_true] at h
    rcases List.mem_cons.1 hx with rfl | hx
    · exact h.1
    · exact rtL_mem' h.2 x hx
theorem rt_wf : ∀ (M : Nat) (n : S27), nd n ≤ M → nd n ≤ 1000 → rt n = true → wfN n
  | 0, n, h, _, _ => by have := nd_pos n; omega
  | M + 1, n, h, hb, hr => by
    have e := nd_eq n
    have hl := len_nd n.f4
    rcases rt_kinds hr with ⟨he, _⟩ | ⟨_, hb', x, y, h4, hx, hy, _⟩ | ⟨_, hb', _, hrt, _⟩
    · exact end_wf he
    · have := bare_sizes hb'
      refine .mk _ (by omega) (by omega) (by omega) (by omega) (fun z hz => ?_)
      rw [h4] at hz
      simp only [List.mem_cons, List.not_mem_nil, or_false] at hz
      rcases hz with rfl | rfl
      · exact end_wf hx
      · exact end_wf hy
    · have := bare_sizes hb'
      refine .mk _ (by omega) (by omega) (by omega) (by omega) (fun z hz => ?_)
      have := ndL_mem hz
      exact rt_wf M z (by omega) (by omega) (rtL_mem' hrt z hz)
theorem sane_wf {n : S27} (h : saneV n = true) : wfN n := rt_wf _ n (Nat.le_refl _) (by have := sane_rt h; omega) (sane_rt h).2.2
theorem same_t {n : S27} (h : saneV n = true) : Ev (fun k => tSame k n n) true := Ev.eq (tSame_f _ n n (Nat.le_refl _) (sane_wf h)) (sm_refl _ _ (Nat.le_refl _))
theorem er0 {x y : S48} (h : er x = er y) : x.f0 = y.f0 := by have := congrArg S48.f0 h; exact this
theorem Parse_alike {is js : List It} (hi : okG is []) (hj : okG js []) (li : (flatT is).length ≤ 2000) (lj : (flatT js).length ≤ 2000) (he : (toks 0 is).map er = (toks 0 js).map er) :
    ∃ n a b e, (saneV n = true ∨ n = pz) ∧ Ev (fun k => parse_Parse.f k (bA (flatT is))) (tupP n a e) ∧ Ev (fun k => parse_Parse.f k (bA (flatT js))) (tupP n b e) := by
  have hL := All_ok is hi li
  have hM := All_ok js hj lj
  have hT := toks_in is 0
  have hw0 : shortW (toks 0 is) := fun x hx => by have := hT x hx; omega
  obtain ⟨R, hR, hO⟩ := expr_any (endT (flatT is).length) rfl (toks 0 is) hw0 0 0 (by omega) (by omega)
  have he' : (toks 0 is ++ [endT (flatT is).length]).map er = (toks 0 js ++ [endT (flatT js).length]).map er := by rw [List.map_append, List.map_append, he]; rfl
  obtain ⟨R', hR', hE⟩ := alike he' hR
  obtain ⟨n, x, t, m, d⟩ := R
  obtain ⟨n', x', t', m', d'⟩ := R'
  simp only [erR, PR.mk.injEq] at hE
  obtain ⟨rfl, hX, hTt, _, _⟩ := hE
  rcases hO with ⟨hx, hn, hm, h64, hd, h8, v', ht, hs, hl⟩ | ⟨a, c, hx, _, hc⟩
  · simp only at hx ht
    subst hx; subst ht
    have hx' : x' = none := by cases x' with
      | none => rfl
      | some w => cases hX
    subst hx'
    obtain ⟨y, u, hyu⟩ := cons_of v' (endT (flatT is).length)
    rw [hyu] at hR hTt
    cases t' with
    | nil => cases hTt
    | cons z w =>
      simp only [List.map_cons, List.cons.injEq] at hTt
      have hf : z.f0 = y.f0 := er0 hTt.1
      have hs' : saneV n' = true := by
        unfold saneV
        rw [show rt n' = true from hn]
        simp only [Bool.and_true, Bool.and_eq_true, decide_eq_true_eq]
        simp only at h64 h8
        omega
      by_cases hy : y.f0 = 9
      · exact ⟨n', _, _, 0, .inl hs', Ev.bind hL (Ev.ift rfl (Ev.bind hR (Ev.ift hy (Ev.now _)))), Ev.bind hM (Ev.ift rfl (Ev.bind hR' (Ev.ift (hf.trans hy) (Ev.now _))))⟩
      · exact ⟨pz, y.f1, z.f1, 3, .inr rfl, Ev.bind hL (Ev.ift rfl (Ev.bind hR (Ev.iff_ hy (Ev.now _)))), Ev.bind hM (Ev.ift rfl (Ev.bind hR' (Ev.iff_ (fun h => hy (hf.symm.trans h)) (Ev.now _))))⟩
  · simp only at hx
    subst hx
    cases x' with
    | none => cases hX
    | some w =>
      have hw : w.2 = c := by
        simp only [erX, Option.map_some, Option.some.injEq, Prod.mk.injEq] at hX
        exact hX.2
      refine ⟨pz, a, w.1, c, .inr rfl, Ev.bind hL (Ev.ift rfl (Ev.bind hR (Ev.now _))), Ev.bind hM (Ev.ift rfl (Ev.bind hR' (Ev.eq (Ev.now _) ?_)))⟩
      rw [← hw]; rfl
def wh : List It → List It
  | [] => []
  | .b :: t => wh t
  | i :: t => .b :: i :: wh t
def shT (t : S48) : List UInt8 := if t.f0 = 0 then t.f2.data.toList else if t.f0 = 2 then [46, 46] else sgn t.f0
def shA : List S48 → List UInt8
  | [] => []
  | t :: r => 32 :: (shT t ++ shA r)
theorem shA_app : ∀ l u : List S48, shA (l ++ u) = shA l ++ shA u
  | [], u => rfl
  | t :: l, u => by rw [List.cons_append, shA, shA, shA_app l u, List.cons_append, List.append_assoc]
theorem sign_shown (c : UInt8) (h : signB (c.toNat : Int) = true) : signK (c.toNat : Int) ≠ 0 ∧ signK (c.toNat : Int) ≠ 2 ∧ sgn (signK (c.toNat : Int)) = [c] := by
  have e : ∀ n : Nat, n < 256 → signB ((UInt8.ofNat n).toNat : Int) = true → signK ((UInt8.ofNat n).toNat : Int) ≠ 0 ∧ signK ((UInt8.ofNat n).toNat : Int) ≠ 2 ∧ sgn (signK ((UInt8.ofNat n).toNat : Int)) = [UInt8.ofNat n] := by decide +kernel
  have := e c.toNat c.toNat_lt
  rw [UInt8.ofNat_toNat] at this
  exact this h
theorem shA_wh : ∀ (its : List It) (q : Nat), okG its [] → shA (toks q its) = flatT (wh its)
  | [], q, _ => rfl
  | .w l :: t, q, h => by
    show shA (⟨0, (q : Int), bA l⟩ :: toks _ t) = flatT (.b :: .w l :: wh t)
    rw [shA, shA_wh t _ h.2.2.2, flatT, flatT]
    rfl
  | .s k c :: t, q, h => by
    obtain ⟨h1, h2, h3⟩ := sign_shown c h.2.1
    rw [h.1] at h1 h2 h3
    show shA (⟨k, (q : Int), e0⟩ :: toks _ t) = flatT (.b :: .s k c :: wh t)
    rw [shA, shA_wh t _ h.2.2, flatT, flatT]
    unfold shT
    rw [if_neg h1, if_neg h2, h3]
    rfl
  | .d :: t, q, h => by
    show shA (⟨2, (q : Int), e0⟩ :: toks _ t) = flatT (.b :: .d :: wh t)
    rw [shA, shA_wh t _ h, flatT, flatT]
    rfl
  | .b :: t, q, h => shA_wh t _ h
theorem noW_wh : ∀ t : List It, noW (flatT (wh t ++ [.b]) ++ [])
  | [] => by show isW 32 = false; decide
  | .w l :: t => by show isW 32 = false; decide
  | .s k c :: t => by show isW 32 = false; decide
  | .d :: t => by show isW 32 = false; decide
  | .b :: t => noW_wh t
theorem okG_wh : ∀ its : List It, okG its [] → okG (wh its ++ [.b]) []
  | [], _ => .inl rfl
  | .w l :: t, h => ⟨h.1, h.2.1, noW_wh t, okG_wh t h.2.2.2⟩
  | .s k c :: t, h => ⟨h.1, h.2.1, okG_wh t h.2.2⟩
  | .d :: t, h => okG_wh t h
  | .b :: t, h => okG_wh t h
theorem len_wh : ∀ its : List It, okG its [] → (flatT (wh its)).length ≤ 2 * (flatT its).length
  | [], _ => Nat.le_refl _
  | .w l :: t, h => by
    have := len_wh t h.2.2.2
    have hl : 0 < l.length := List.length_pos_iff.2 h.1
    show (32 :: (l ++ flatT (wh t))).length ≤ 2 * (l ++ flatT t).length
    simp only [List.length_cons, List.length_append]
    omega
  | .s k c :: t, h => by
    have := len_wh t h.2.2
    show (32 :: c :: flatT (wh t)).length ≤ 2 * (c :: flatT t).length
    simp only [List.length_cons]
    omega
  | .d :: t, h => by
    have := len_wh t h
    show (32 :: 46 :: 46 :: flatT (wh t)).length ≤ 2 * (46 :: 46 :: flatT t).length
    simp only [List.length_cons]
    omega
  | .b :: t, h => by
    have := len_wh t h
    show (flatT (wh t)).length ≤ 2 * (32 :: flatT t).length
    simp only [List.length_cons]
    omega
theorem er_wh : ∀ (its : List It) (p q : Nat), (toks p its).map er = (toks q (wh its ++ [.b])).map er
  | [], p, q => rfl
  | .w l :: t, p, q => by
    show er ⟨0, (p : Int), bA l⟩ :: (toks _ t).map er = er ⟨0, ((q + 1 : Nat) : Int), bA l⟩ :: (toks _ (wh t ++ [.b])).map er
    rw [er_wh t _ (q + 1 + (It.w l).tx.length)]
    rfl
  | .s k c :: t, p, q => by
    show er ⟨k, (p : Int), e0⟩ :: (toks _ t).map er = er ⟨k, ((q + 1 : Nat) : Int), e0⟩ :: (toks _ (wh t ++ [.b])).map er
    rw [er_wh t _ (q + 1 + (It.s k c).tx.length)]
    rfl
  | .d :: t, p, q => by
    show er ⟨2, (p : Int), e0⟩ :: (toks _ t).map er = er ⟨2, ((q + 1 : Nat) : Int), e0⟩ :: (toks _ (wh t ++ [.b])).map er
    rw [er_wh t _ (q + 1 + It.d.tx.length)]
    rfl
  | .b :: t, p, q => er_wh t _ _
theorem Show_1 (t : S48) (h : (shT t).length ≤ 1000000) : Ev (fun k => lex_Show.f k [t]) (bA (shT t)) := by
  have e : showR (lastW []) [t] = shT t := by
    show (if t.f0 = 0 then (if false = true then 32 :: t.f2.data.toList else t.f2.data.toList) else if t.f0 = 2 then [46, 46] else sgn t.f0) ++ [] = _
    rw [List.append_nil]; rfl
  have := Show_l0 [t] [] [] (by simp) (by rw [e]; simpa using h)
  rw [e] at this
  exact this
theorem white_l0 (s : ByteArray) (n : S27) (a b e : Int) (hP : Ev (fun k => parse_Parse.f k s) (tupP n a e)) (hS : Ev (fun k => tSame k n n) true) : ∀ (r p : List S48) (out : List UInt8), (p ++ r).length ≤ 1000000 → out.length + (shA r).length ≤ 1000000 →
    Ev (fun k => parse_Parse.f k (bA (out ++ shA r))) (tupP n b e) → Ev (fun k => lustrumlaw13_ParseWhite.l0 k s true (p ++ r) (bA out) (p.length : Int)) true
  | [], p, out, hn, hl, hQ => by
    rw [shA, List.append_nil] at hQ
    refine Ev.step (fun k => by rw [lustrumlaw13_ParseWhite.l0, if_neg (at_end p)]) ?_
    exact Ev.bind hP (Ev.bind hQ (Ev.ift rfl (Ev.ift rfl (Ev.bind hS (Ev.now _)))))
  | t :: r, p, out, hn, hl, hQ => by
    rw [shA] at hl hQ
    simp only [List.length_cons, List.length_append] at hl
    have hsz : (bA out).size + 1 ≤ 9223372036854775807 := by rw [bA_size]; omega
    have hw : wrap64 ((p.length : Int) + 1) = ((p ++ [t]).length : Int) := at_next (t := r) (by omega)
    have hsl : ((p ++ t :: r).take (((p ++ [t]).length : Int)).toNat).drop (p.length : Int).toNat = [t] := by
      rw [Int.toNat_natCast, Int.toNat_natCast, at_app p t r, List.take_left, List.drop_left]
    have hle : (((p ++ [t]).length : Nat) : Int) ≤ ((p ++ t :: r).length : Int) := by simp; omega
    have hge : (p.length : Int) ≤ ((p ++ [t]).length : Int) := by simp; omega
    have cat : (bA out ++ (⟨#[32]⟩ : ByteArray)) ++ bA (shT t) = bA (out ++ (32 :: shT t)) := by
      rw [show (⟨#[32]⟩ : ByteArray) = bA [32] from rfl, bA_app, bA_app]
      congr 1
      simp
    have hsz2 : (bA out ++ (⟨#[32]⟩ : ByteArray)).size + (bA (shT t)).size ≤ 9223372036854775807 := by
      rw [show (⟨#[32]⟩ : ByteArray) = bA [32] from rfl, bA_app, bA_size, bA_size]
      simp only [List.length_append, List.length_cons, List.length_nil]
      omega
    refine Ev.step (fun k => by rw [lustrumlaw13_ParseWhite.l0, if_pos (at_lt p t r), if_pos hsz, if_pos (at_0 p), hw, if_pos hge, if_pos hle, hsl]) ?_
    refine Ev.bind (Show_1 t (by omega)) (Ev.ift hsz2 ?_)
    rw [cat]
    have := white_l0 s n a b e hP hS r (p ++ [t]) (out ++ (32 :: shT t)) (by rw [← at_app]; exact hn) (by simp only [List.length_append, List.length_cons]; omega) (by
      rw [List.append_assoc]
      exact hQ)
    rw [← at_app] at this
    exact this
theorem ParseWhite_t (s : ByteArray) : Ev (fun k => lustrumlaw13_ParseWhite.f k s) true := by
  refine Ev.bind awake13 ?_
  by_cases hs : (s.size : Int) > 400
  · exact Ev.ift hs (Ev.now _)
  refine Ev.iff_ hs ?_
  obtain ⟨l, rfl⟩ : ∃ l, s = bA l := ⟨s.data.toList, (bA_mk _).symm⟩
  rw [bA_size] at hs
  obtain ⟨its, r, ho, rfl⟩ := split_any _ l (Nat.le_refl _)
  by_cases hr : r = []
  · subst hr
    rw [List.append_nil] at hs ⊢
    have hL := All_ok its ho (by omega)
    refine Ev.bind hL (Ev.ift rfl ?_)
    have hlw := len_wh its ho
    have lw : (flatT (wh its ++ [.b])).length ≤ 2000 := by rw [flatT_app]; simp only [List.length_append, flatT, It.tx, List.append_nil, List.length_cons, List.length_nil]; omega
    obtain ⟨n, a, b, c, hn, hP, hQ⟩ := Parse_alike ho (okG_wh its ho) (by omega) lw (er_wh its 0 0)
    have hS : Ev (fun k => tSame k n n) true := by
      rcases hn with hn | rfl
      · exact same_t hn
      · have := tSame_f _ pz pz (Nat.le_refl _) (wf_leaf _ _ _ _ (by decide) (by decide) (by decide))
        rwa [sm_refl _ _ (Nat.le_refl _)] at this
    have e : shA (toks 0 its ++ [endT (flatT its).length]) = flatT (wh its ++ [.b]) := by
      rw [shA_app, shA_wh its 0 ho, flatT_app]; rfl
    have hk : ∀ (its : List It) (q : Nat), okG its [] → (toks q its).length ≤ (flatT its).length := by
      intro its
      induction its with
      | nil => intro q _; exact Nat.le_refl _
      | cons i t ih =>
        intro q h
        rw [toks, flatT, List.length_append, List.length_append]
        cases i with
        | w l =>
          have := ih (q + (It.w l).tx.length) h.2.2.2
          have hl : 0 < l.length := List.length_pos_iff.2 h.1
          simp only [It.tok, It.tx, List.length_cons, List.length_nil] at this ⊢
          omega
        | s k c => have := ih (q + (It.s k c).tx.length) h.2.2; simp only [It.tok, It.tx, List.length_cons, List.length_nil] at this ⊢; omega
        | d => have := ih (q + It.d.tx.length) h; simp only [It.tok, It.tx, List.length_cons, List.length_nil] at this ⊢; omega
        | b => have := ih (q + It.b.tx.length) h; simp only [It.tok, It.tx, List.length_cons, List.length_nil] at this ⊢; omega
    have hk0 := hk its 0 ho
    have := white_l0 (bA (flatT its)) n a b c hP hS (toks 0 its ++ [endT (flatT its).length]) [] [] (by simp only [List.nil_append, List.length_append, List.length_cons, List.length_nil]; omega) (by rw [‹shA _ = _›]; simp only [List.length_nil]; omega) (by rw [List.nil_append, ‹shA _ = _›]; exact hQ)
    exact this
  · have hlen : (flatT its ++ r).length ≤ 2000 := by omega
    have hL := All_bad its r ho hr hlen
    have hP : Ev (fun k => parse_Parse.f k (bA (flatT its ++ r))) (tupP pz ((flatT its).length : Int) 1) := Ev.bind hL (Ev.iff_ (by simp) (Ev.now _))
    refine Ev.bind hL (Ev.iff_ (by simp) (Ev.bind hP (Ev.bind hL (Ev.ift rfl (Ev.ift rfl ?_)))))
    exact Ev.eq (Ev.now _) (by simp [tupP])
end Go.Proofs.Ytjgjhekpiijniaa.A