/- Walks of functions, and plain facts about what they compute. No conditions. -/
import Derived.Test.YtjgjhekpiijniaaGreatPc2
set_option linter.unusedVariables false
set_option linter.unusedSimpArgs false
namespace Go.Proofs.YtjgjhekpiijniaaGreat.A
open Go.RowKit Go.Proofs.YtjgjhekpiijniaaGreatW.PrintWords Go.Proofs.YtjgjhekpiijniaaGreatW.PrintLast Go.Proofs.YtjgjhekpiijniaaGreatW.PrintMore
def badC : List UInt8 → Prop
  | [] => False
  | c :: r => isW c = false ∧ signB (c.toNat : Int) = false ∧ c ≠ 32 ∧ ([46, 46] : List UInt8).isPrefixOf (c :: r) = false
def okG : List It → List UInt8 → Prop
  | [], r => r = [] ∨ badC r
  | .w l :: t, r => l ≠ [] ∧ l.all isW = true ∧ noW (flatT t ++ r) ∧ okG t r
  | .s k c :: t, r => signK (c.toNat : Int) = k ∧ signB (c.toNat : Int) = true ∧ okG t r
  | .d :: t, r => okG t r
  | .b :: t, r => okG t r
theorem drop_noW : ∀ l : List UInt8, noW (l.dropWhile isW)
  | [] => trivial
  | c :: l => by
    rw [List.dropWhile_cons]
    cases h : isW c with
    | true => exact drop_noW l
    | false => exact h
theorem all_take : ∀ l : List UInt8, (l.takeWhile isW).all isW = true
  | [] => rfl
  | c :: l => by
    rw [List.takeWhile_cons]
    cases h : isW c with
    | true => simp only [if_true, List.all_cons, h, Bool.true_and]; exact all_take l
    | false => rfl
theorem split_any : ∀ (M : Nat) (l : List UInt8), l.length ≤ M → ∃ its r, okG its r ∧ l = flatT its ++ r
  | _, [], _ => ⟨[], [], .inl rfl, rfl⟩
  | 0, c :: l, h => by rw [List.length_cons] at h; omega
  | M + 1, c :: l, h => by
    rw [List.length_cons] at h
    by_cases hW : isW c = true
    · have e := List.takeWhile_append_dropWhile (p := isW) (l := c :: l)
      have ht : (c :: l).takeWhile isW = c :: l.takeWhile isW := by rw [List.takeWhile_cons, hW]; rfl
      have hd : (c :: l).dropWhile isW = l.dropWhile isW := by rw [List.dropWhile_cons, hW]; rfl
      have hlen : (l.dropWhile isW).length ≤ l.length := (List.dropWhile_suffix _).length_le
      obtain ⟨its, r, ho, hr⟩ := split_any M (l.dropWhile isW) (by omega)
      refine ⟨.w (c :: l.takeWhile isW) :: its, r, ⟨by simp, ?_, ?_, ho⟩, ?_⟩
      · rw [← ht]; exact all_take _
      · rw [← hr]; exact drop_noW l
      · rw [flatT, List.append_assoc, ← hr, ← hd, It.tx, ← ht, e]
    have hW : isW c = false := Bool.eq_false_iff.mpr hW
    by_cases hS : signB (c.toNat : Int) = true
    · obtain ⟨its, r, ho, hr⟩ := split_any M l (by omega)
      exact ⟨.s (signK (c.toNat : Int)) c :: its, r, ⟨rfl, hS, ho⟩, by rw [flatT, It.tx, hr]; rfl⟩
    have hS : signB (c.toNat : Int) = false := Bool.eq_false_iff.mpr hS
    by_cases h2 : ([46, 46] : List UInt8).isPrefixOf (c :: l) = true
    · obtain ⟨u, rfl, rfl⟩ : ∃ u, c = 46 ∧ l = 46 :: u := by
        cases l with
        | nil => simp [List.isPrefixOf] at h2
        | cons b u =>
          simp only [List.isPrefixOf, Bool.and_true, Bool.and_eq_true, beq_iff_eq] at h2
          exact ⟨u, h2.1.symm, by rw [← h2.2]⟩
      rw [List.length_cons] at h
      obtain ⟨its, r, ho, hr⟩ := split_any M u (by omega)
      exact ⟨.d :: its, r, ho, by rw [flatT, It.tx, hr]; rfl⟩
    by_cases h3 : c = 32
    · obtain ⟨its, r, ho, hr⟩ := split_any M l (by omega)
      exact ⟨.b :: its, r, ho, by rw [flatT, It.tx, hr, h3]; rfl⟩
    · exact ⟨[], c :: l, .inr ⟨hW, hS, h3, Bool.eq_false_iff.mpr h2⟩, rfl⟩
theorem lex_round (p X : List UInt8) (c : UInt8) (l : List UInt8) (hX : X = c :: l) (acc : List S46) (k : Nat) :
    lex_All.l0 (k + 1) (bA (p ++ X)) acc (p.length : Int) = (lex_word.f k (bA X)).bind fun t274 => (if t274 > 0 then (if (p.length : Int) ≤ (wrap64 ((p.length : Int) + t274)) then (if (wrap64 ((p.length : Int) + t274)) ≤ ((bA (p ++ X)).size : Int) then (if acc.length < 4398046511104 then (lex_All.l0 k (bA (p ++ X)) (acc ++ [(⟨0, (p.length : Int), (bA (p ++ X)).extract ((p.length : Int)).toNat ((wrap64 ((p.length : Int) + t274)) : Int).toNat⟩ : S46)]) (wrap64 ((p.length : Int) + t274))) else (none)) else (none)) else (none)) else (if signB (c.toNat : Int) = true then (if acc.length < 4398046511104 then (lex_All.l0 k (bA (p ++ X)) (acc ++ [(⟨signK (c.toNat : Int), (p.length : Int), (⟨#[]⟩ : ByteArray)⟩ : S46)]) (wrap64 ((p.length : Int) + 1))) else (none)) else (if ([46, 46] : List UInt8).isPrefixOf X = true then (if acc.length < 4398046511104 then (lex_All.l0 k (bA (p ++ X)) (acc ++ [(⟨2, (p.length : Int), (⟨#[]⟩ : ByteArray)⟩ : S46)]) (wrap64 ((p.length : Int) + 2))) else (none)) else (if (c.toNat : Int) = 32 then (lex_All.l0 k (bA (p ++ X)) acc (wrap64 ((p.length : Int) + 1))) else (some (([] : List S46), (p.length : Int), 1)))))) := by
  have hbt : bt (bA (p ++ X)) (p.length : Int) = (c.toNat : Int) := by rw [hX, bt_mid]
  have hsz : ((bA (p ++ X)).size : Int) = ((p ++ X).length : Nat) := by rw [bA_size]
  have hlt : (p.length : Int) < ((bA (p ++ X)).size : Int) := by rw [hsz, hX, List.length_append, List.length_cons]; omega
  have hext : (bA (p ++ X)).extract ((p.length : Int)).toNat (bA (p ++ X)).size = bA X := by rw [Int.toNat_natCast]; exact ext_end p _
  have hp := prefix_f X [46, 46]
  rw [lex_All.l0, if_pos hlt, if_pos (by omega), hbt, hext]
  simp only [lex_signs.f, Option.bind_some]
  rw [if_pos (by omega)]
  have e1 : (⟨#[46, 46]⟩ : ByteArray) = bA [46, 46] := rfl
  rw [e1, hp]
  rfl
def lexR (p : List UInt8) (acc : List S46) (its : List It) (r : List UInt8) : List S46 × Int × Int :=
  if r = [] then (acc ++ toks p.length its ++ [endT (p ++ (flatT its ++ r)).length], ((p ++ (flatT its ++ r)).length : Int), 0) else ([], ((p.length + (flatT its).length : Nat) : Int), 1)
theorem lex_g (r : List UInt8) : ∀ (its : List It) (p : List UInt8) (acc : List S46), okG its r → (p ++ (flatT its ++ r)).length ≤ 1000000 → acc.length ≤ p.length →
    Ev (fun k => lex_All.l0 k (bA (p ++ (flatT its ++ r))) acc (p.length : Int)) (lexR p acc its r)
  | [], p, acc, hok, hn, ha => by
    unfold lexR
    rw [flatT, List.nil_append] at hn ⊢
    rcases hok with rfl | hb
    · rw [if_pos rfl]
      refine Ev.step (f := fun _ => some (acc ++ toks p.length [] ++ [endT (p ++ []).length], ((p ++ []).length : Int), 0)) (fun k => ?_) (Ev.now _)
      rw [lex_All.l0, bA_size, if_neg (by simp), if_pos (by simp at hn; omega)]
      simp only [toks, List.append_nil]
      rfl
    · cases r with
      | nil => exact hb.elim
      | cons c l =>
        obtain ⟨h1, h2, h3, h4⟩ := hb
        rw [if_neg (by simp)]
        have hword := word_f (c :: l) (by rw [List.length_append] at hn; omega)
        have e1 : (c :: l).takeWhile isW = [] := take_W [] (c :: l) rfl h1
        rw [e1] at hword
        have h32 : ¬ (c.toNat : Int) = 32 := fun h => h3 (u8eq (show c.toNat = 32 by omega))
        refine Ev.step (lex_round p (c :: l) c l rfl acc) (Ev.bind hword (Ev.iff_ (by simp) (Ev.iff_ (by rw [h2]; simp) (Ev.iff_ (by rw [h4]; simp) (Ev.iff_ h32 ?_)))))
        exact Ev.eq (Ev.now _) (by simp)
  | i :: t, p, acc, hok, hn, ha => by
    rw [flatT, List.append_assoc] at hn ⊢
    have hlen : p.length + i.tx.length + (flatT t).length + r.length ≤ 1000000 := by simp only [List.length_append] at hn; omega
    have hhead : ∃ c l, i.tx ++ (flatT t ++ r) = c :: l := by
      cases i with
      | w l => obtain ⟨h1, _⟩ := hok; cases l with
        | nil => exact absurd rfl h1
        | cons c l => exact ⟨c, _, rfl⟩
      | s k c => exact ⟨c, _, rfl⟩
      | d => exact ⟨46, _, rfl⟩
      | b => exact ⟨32, _, rfl⟩
    obtain ⟨c, l, hcl⟩ := hhead
    have next : ∀ (acc' : List S46), okG t r → acc'.length ≤ p.length + i.tx.length → acc' = acc ++ i.tok p.length → Ev (fun k => lex_All.l0 k (bA (p ++ (i.tx ++ (flatT t ++ r)))) acc' ((p.length : Int) + (i.tx.length : Int))) (lexR p acc (i :: t) r) := fun acc' hr ha' e => by
      have := lex_g r t (p ++ i.tx) acc' hr (by simp only [List.length_append]; omega) (by rw [List.length_append]; exact ha')
      have e3 : ((p ++ i.tx).length : Int) = (p.length : Int) + (i.tx.length : Int) := by rw [List.length_append]; omega
      rw [e3, List.append_assoc p] at this
      refine Ev.eq this ?_
      unfold lexR
      rw [flatT, toks, e]
      by_cases h0 : r = []
      · rw [if_pos h0, if_pos h0]
        simp only [List.append_assoc, List.length_append]
      · rw [if_neg h0, if_neg h0]
        simp only [List.length_append, Nat.add_assoc]
    have W : ∀ n : Nat, n ≤ 1000000 → wrap64 ((p.length : Int) + (n : Int)) = (p.length : Int) + (n : Int) := fun n h => w64 (by omega) (by omega)
    have w1 := W 1 (by omega)
    have w2 := W 2 (by omega)
    have n1 := Aside0.mk w1
    have n2 := Aside0.mk w2
    clear w1 w2
    have hword := word_f (i.tx ++ (flatT t ++ r)) (by simp only [List.length_append]; omega)
    refine Ev.step (lex_round p _ c l hcl acc) (Ev.bind hword ?_)
    cases i with
    | w u =>
      obtain ⟨h1, h2, h3, h4⟩ := hok
      have hu := List.length_pos_iff.2 h1
      have e1 : ((It.w u).tx ++ (flatT t ++ r)).takeWhile isW = u := take_W u _ h2 h3
      rw [e1]
      rw [W u.length (by simp only [It.tx] at hlen; omega)]
      refine Ev.ift (by omega) (Ev.ift (by omega) (Ev.ift (by rw [bA_size]; simp only [It.tx, List.length_append]; omega) (Ev.ift (by simp only [It.tx] at hlen; omega) ?_)))
      have e2 : (bA (p ++ ((It.w u).tx ++ (flatT t ++ r)))).extract ((p.length : Int)).toNat ((p.length : Int) + (u.length : Int)).toNat = bA u := by
        have : ((p.length : Int) + (u.length : Int)).toNat = p.length + u.length := by omega
        rw [Int.toNat_natCast, this]
        exact ext_bA p u _
      rw [e2]
      exact next (acc ++ [⟨0, (p.length : Int), bA u⟩]) h4 (by simp only [It.tx, List.length_append, List.length_cons, List.length_nil]; omega) rfl
    | s k d =>
      obtain ⟨h1, h2, h3⟩ := hok
      injection hcl with hc _
      subst hc
      have e1 : ((It.s k d).tx ++ (flatT t ++ r)).takeWhile isW = [] := take_W [] _ rfl (sign_noW h2)
      rw [e1]
      refine Ev.iff_ (by simp) (Ev.ift h2 (Ev.ift (by omega) ?_))
      rw [h1]
      rw [show wrap64 ((p.length : Int) + 1) = (p.length : Int) + 1 from n1.out]
      exact next (acc ++ [⟨k, (p.length : Int), e0⟩]) h3 (by simp only [It.tx, List.length_append, List.length_cons, List.length_nil]; omega) rfl
    | d =>
      injection hcl with hc _
      subst hc
      have e1 : (It.d.tx ++ (flatT t ++ r)).takeWhile isW = [] := take_W [] _ rfl (show isW 46 = false by decide)
      rw [e1]
      refine Ev.iff_ (by simp) (Ev.iff_ (by decide) (Ev.ift (by simp [It.tx, List.isPrefixOf]) (Ev.ift (by omega) ?_)))
      rw [show wrap64 ((p.length : Int) + 2) = (p.length : Int) + 2 from n2.out]
      exact next (acc ++ [⟨2, (p.length : Int), e0⟩]) hok (by simp only [It.tx, List.length_append, List.length_cons, List.length_nil]; omega) rfl
    | b =>
      injection hcl with hc _
      subst hc
      have e1 : (It.b.tx ++ (flatT t ++ r)).takeWhile isW = [] := take_W [] _ rfl (show isW 32 = false by decide)
      rw [e1]
      refine Ev.iff_ (by simp) (Ev.iff_ (by decide) (Ev.iff_ (by simp [It.tx, List.isPrefixOf]) (Ev.ift (by decide) ?_)))
      rw [show wrap64 ((p.length : Int) + 1) = (p.length : Int) + 1 from n1.out]
      exact next acc hok (by simp only [It.tx, List.length_cons, List.length_nil]; omega) (by simp [It.tok])
theorem All_ok (its : List It) (h : okG its []) (hn : (flatT its).length ≤ 2000) : Ev (fun k => lex_All.f k (bA (flatT its))) (toks 0 its ++ [endT (flatT its).length], ((flatT its).length : Int), 0) := by
  have := lex_g [] its [] [] h (by simp only [List.nil_append, List.append_nil]; omega) (Nat.le_refl _)
  unfold lexR at this
  rw [if_pos rfl] at this
  simp only [List.nil_append, List.append_nil, List.length_nil] at this
  exact Ev.iff_ (by rw [bA_size]; omega) this
theorem All_bad (its : List It) (r : List UInt8) (h : okG its r) (hr : r ≠ []) (hn : (flatT its ++ r).length ≤ 2000) : Ev (fun k => lex_All.f k (bA (flatT its ++ r))) ([], ((flatT its).length : Int), 1) := by
  have := lex_g r its [] [] h (by simp only [List.nil_append]; omega) (Nat.le_refl _)
  unfold lexR at this
  rw [if_neg hr] at this
  simp only [List.nil_append, List.length_nil, Nat.zero_add] at this
  exact Ev.iff_ (by rw [bA_size]; omega) this
theorem All_long (l : List UInt8) (h : 2000 < l.length) : Ev (fun k => lex_All.f k (bA l)) ([], 2000, 7) := Ev.ift (by rw [bA_size]; omega) (Ev.now _)
theorem toks_in : ∀ (its : List It) (p : Nat) (x : S46), x ∈ toks p its → (p : Int) ≤ x.f1 ∧ x.f1 ≤ ((p + (flatT its).length : Nat) : Int) ∧ x.f2.size ≤ (flatT its).length
  | [], _, _, h => by cases h
  | i :: t, p, x, h => by
    rw [toks] at h
    rw [flatT, List.length_append]
    rcases List.mem_append.1 h with h | h
    · cases i with
      | w l => obtain rfl := List.mem_singleton.1 h; exact ⟨Int.le_refl _, by simp only; omega, by simp only [bA_size, It.tx]; omega⟩
      | s k c => obtain rfl := List.mem_singleton.1 h; exact ⟨Int.le_refl _, by simp only; omega, Nat.zero_le _⟩
      | d => obtain rfl := List.mem_singleton.1 h; exact ⟨Int.le_refl _, by simp only; omega, Nat.zero_le _⟩
      | b => cases h
    · have := toks_in t _ x h
      exact ⟨by omega, by omega, by omega⟩
def tupP (n : S27) (a e : Int) : Int × Int × ByteArray × ByteArray × ByteArray × Bool × Bool × List S27 × Int × Int := (n.f0, n.f1.f0, n.f1.f1, n.f1.f2, n.f1.f3, n.f2, n.f3, n.f4, a, e)
theorem Parse_any (l : List UInt8) : (∃ n, saneV n = true ∧ l.length ≤ 2000 ∧ Ev (fun k => parse_Parse.f k (bA l)) (tupP n (l.length : Int) 0)) ∨ ∃ a e : Int, e ≠ 0 ∧ 0 ≤ a ∧ a ≤ (l.length : Int) ∧ Ev (fun k => parse_Parse.f k (bA l)) (tupP pz a e) := by
  by_cases hlong : 2000 < l.length
  · refine .inr ⟨2000, 7, by omega, by omega, by omega, ?_⟩
    exact Ev.bind (All_long l hlong) (Ev.iff_ (by simp) (Ev.now _))
  · obtain ⟨its, r, ho, rfl⟩ := split_any _ l (Nat.le_refl _)
    by_cases hr : r = []
    · subst hr
      rw [List.append_nil] at hlong ⊢
      have hL := All_ok its ho (by omega)
      have hT := toks_in its 0
      obtain ⟨R, hR, hO⟩ := expr_any (endT (flatT its).length) rfl (toks 0 its) (fun x hx => by have := hT x hx; omega) 0 0 (by omega) (by omega)
      rcases hO with ⟨hx, hn, hm, h64, hd, h8, v', ht, hs, hl⟩ | ⟨a, c, hx, ⟨x, hxm, hax⟩, hc⟩
      · have hs' : saneV R.n = true := by
          unfold saneV
          rw [hn]
          simp only [Bool.and_true, Bool.and_eq_true, decide_eq_true_eq]
          omega
        obtain ⟨n, x, t, m, d⟩ := R
        simp only at hx ht hs'
        subst hx; subst ht
        obtain ⟨y, u, hyu⟩ := cons_of v' (endT (flatT its).length)
        rw [hyu] at hR
        by_cases hy : y.f0 = 9
        · exact .inl ⟨n, hs', by omega, Ev.bind hL (Ev.ift rfl (Ev.bind hR (Ev.ift hy (Ev.now _))))⟩
        · have hym : y ∈ v' := by
            have : y ∈ v' ++ [endT (flatT its).length] := by rw [hyu]; simp
            rcases List.mem_append.1 this with h | h
            · exact h
            · obtain rfl := List.mem_singleton.1 h; exact absurd rfl hy
          have := hT y (hs.subset hym)
          refine .inr ⟨y.f1, 3, by omega, by omega, by omega, Ev.bind hL (Ev.ift rfl (Ev.bind hR (Ev.iff_ hy (Ev.now _))))⟩
      · have hb : 0 ≤ a ∧ a ≤ ((flatT its).length : Int) := by
          rcases List.mem_append.1 hxm with h | h
          · have := hT x h; omega
          · obtain rfl := List.mem_singleton.1 h
            rw [hax]; simp [endT]
        refine .inr ⟨a, c, hc, hb.1, hb.2, Ev.bind hL (Ev.ift rfl (Ev.bind hR ?_))⟩
        rw [hx]; exact Ev.now _
    · have hL := All_bad its r ho hr (by omega)
      refine .inr ⟨((flatT its).length : Int), 1, by omega, by omega, by rw [List.length_append]; omega, ?_⟩
      exact Ev.bind hL (Ev.iff_ (by simp) (Ev.now _))
theorem bare_sizes {n : S27} (h : bareV n = true) : n.f1.f1.size = 0 ∧ n.f1.f2.size = 0 ∧ n.f1.f3.size = 0 := by
  unfold bareV at h
  simp only [Bool.and_eq_true] at h
  exact ⟨empty_size h.1.1.2.1, empty_size h.1.1.2.2.1, empty_size h.1.1.2.2.2⟩
theorem end_sizes {n : S27} (h : endV n = true) : n.f1.f1.size ≤ 4 ∧ n.f1.f2.size ≤ 4 ∧ n.f1.f3.size ≤ 4 := by
  obtain ⟨_, hk⟩ := end_kinds h
  rcases hk with ⟨_, hp⟩ | ⟨_, hb⟩ | ⟨_, hb⟩
  · have := pt_sizes hp; omega
  · have := bare_sizes hb; omega
  · have := bare_sizes hb; omega
theorem end_wf {n : S27} (h : endV n = true) : wfN n := by
  have := end_sizes h
  refine .mk _ (by omega) (by omega) (by omega) (by rw [(end_kinds h).1]; simp) (fun x hx => ?_)
  rw [(end_kinds h).1] at hx; cases hx
theorem rtL_mem' : ∀ {l : List S27}, rtL l = true → ∀ x, x ∈ l → rt x = true
  | [], _, x, hx => by cases hx
  | y :: l, h, x, hx => by
    rw [rtL, Bool.and_eq_true] at h
    rcases List.mem_cons.1 hx with rfl | hx
    · exact h.1
    · exact rtL_mem' h.2 x hx
theorem rt_wf : ∀ (M : Nat) (n : S27), nd n ≤ M → nd n ≤ 1000 → rt n = true → wfN n
  | 0, n, h, _, _ => by have := nd_pos n; omega
  | M + 1, n, h, hb, hr => by
    have e := nd_eq n
    have hl := len_nd n.f4
    rcases rt_kinds hr with ⟨he, _⟩ | ⟨_, hb', x, y, h4, hx, hy, _⟩ | ⟨_, hb', _, hrt, _⟩
    · exact end_wf he
    · have := bare_sizes hb'
      refine .mk _ (by omega) (by omega) (by omega) (by omega) (fun z hz => ?_)
      rw [h4] at hz
      simp only [List.mem_cons, List.not_mem_nil, or_false] at hz
      rcases hz with rfl | rfl
      · exact end_wf hx
      · exact end_wf hy
    · have := bare_sizes hb'
      refine .mk _ (by omega) (by omega) (by omega) (by omega) (fun z hz => ?_)
      have := ndL_mem hz
      exact rt_wf M z (by omega) (by omega) (rtL_mem' hrt z hz)
theorem sane_wf {n : S27} (h : saneV n = true) : wfN n := rt_wf _ n (Nat.le_refl _) (by have := sane_rt h; omega) (sane_rt h).2.2
theorem sane_nd {n : S27} (h : saneV n = true) : nd n ≤ 1048576 := by have := sane_rt h; omega
theorem text_t {n : S27} (h : saneV n = true) : Ev (fun k => pTx k n) (bA (tx n)) := by
  have := pTx_f n (sane_wf h) (sane_nd h)
  rwa [txV, if_pos h] at this
theorem Ev.det {α : Type} {f : Nat → Option α} {r q : α} (h : Ev f r) (g : Ev f q) : r = q := by
  obtain ⟨K, hK⟩ := h
  obtain ⟨L, hL⟩ := g
  exact Option.some.inj ((hK (max K L) (by omega)).symm.trans (hL (max K L) (by omega)))
theorem Ev.det1 {α : Type} {f : Nat → Option α} {r q : α} (hm : ∀ k, LeO (f k) (f (k + 1))) (h : Ev f r) {k : Nat} (hk : f k = some q) : q = r := Ev.det (Ev.of hm hk) h
def wt (x : S46) : Nat := if x.f0 = 0 then x.f2.size else if x.f0 = 2 then 2 else 1
def wtL : List S46 → Nat
  | [] => 0
  | x :: t => wt x + wtL t
def Wn (n : S27) : Nat := (nob (tx n)).length
def Wl : List S27 → Nat
  | [] => 0
  | x :: l => Wn x + Wl l
def b2 (a : Bool) : Nat := if a = true then 1 else 0
theorem Wl_app : ∀ l u : List S27, Wl (l ++ u) = Wl l + Wl u
  | [], u => by simp [Wl]
  | x :: l, u => by rw [List.cons_append, Wl, Wl, Wl_app l u]; omega
theorem txt_W {p : S24} (h : ptV p = true) : (ptTxt p).all isW = true := by unfold ptTxt; rw [if_pos h]; exact raw_W h
theorem Wn_pt (p : S24) (a b : Bool) (h : ptV p = true) : Wn ⟨0, p, a, b, []⟩ = (ptTxt p).length + b2 a + b2 b := by
  unfold Wn
  have e : tx ⟨0, p, a, b, []⟩ = ptTxt p ++ (markV a 63 ++ markV b 126) := by rw [tx_eq, if_neg (by simp), if_neg (by simp), if_neg (by simp), if_neg (by simp)]
  rw [e, nob_app, nob_W (txt_W h), List.length_append]
  have : (nob (markV a 63 ++ markV b 126)).length = b2 a + b2 b := by cases a <;> cases b <;> rfl
  omega
theorem Wn_3 : Wn (kz 3) = 2 := by
  have e : tx (kz 3) = [46, 46] := by rw [tx_eq, if_neg (by decide), if_neg (by decide), if_pos (by decide)]
  unfold Wn; rw [e]; rfl
theorem Wn_4 : Wn (kz 4) = 1 := by
  have e : tx (kz 4) = [42] := by rw [tx_eq, if_neg (by decide), if_neg (by decide), if_neg (by decide), if_pos (by decide)]
  unfold Wn; rw [e]; rfl
theorem Wn_span (p : S24) (a b : Bool) (x y : S27) : Wn ⟨1, p, a, b, [x, y]⟩ = Wn x + 1 + Wn y := by
  have e : tx ⟨1, p, a, b, [x, y]⟩ = tx x ++ ([47] ++ tx y) := by rw [tx_eq, if_pos rfl]; show span2 (txL [x, y]) = _; rw [txL, txL, txL]; rfl
  unfold Wn
  rw [e, nob_app, nob_app]
  have : (nob [47]).length = 1 := rfl
  simp only [List.length_append]; omega
theorem Wl_join : ∀ (l : List S27) (x : S27), (nob (Lib.join (txL (x :: l)) [44, 32])).length = Wn x + Wl l + l.length
  | [], x => by rw [txL, txL, Lib.join_one]; simp [Wl, Wn]
  | y :: l, x => by
    have e : Lib.join (txL (x :: y :: l)) [44, 32] = tx x ++ ([44, 32] ++ Lib.join (txL (y :: l)) [44, 32]) := by
      rw [txL, txL, Lib.join_cons, Lib.join_cons]
      simp [Lib.joinTail]
    have := Wl_join l y
    have h2 : (nob [44, 32]).length = 1 := rfl
    rw [e, nob_app, nob_app, Wl]
    simp only [List.length_append, List.length_cons]
    have h3 : (nob (tx x)).length = Wn x := rfl
    omega
theorem Wn_list (p : S24) (a b : Bool) (l : List S27) (h : l ≠ []) : Wn ⟨2, p, a, b, l⟩ + 1 = Wl l + l.length + 2 := by
  cases l with
  | nil => exact absurd rfl h
  | cons x l =>
    have e : tx ⟨2, p, a, b, x :: l⟩ = [91] ++ (Lib.join (txL (x :: l)) [44, 32] ++ [93]) := by rw [tx_eq, if_neg (by simp), if_pos rfl]; rfl
    have h1 : (nob [91]).length = 1 := rfl
    have h2 : (nob [93]).length = 1 := rfl
    have := Wl_join l x
    unfold Wn
    rw [e, nob_app, nob_app]
    simp only [List.length_append, Wl, List.length_cons]; omega
theorem marked_w : ∀ (t : List S46) (p : S24) (a b : Bool) (n : S27) (u : List S46), pMarked t p a b = some (n, u) → ∃ a' b', n = ⟨0, p, a', b', []⟩ ∧ wtL t + b2 a + b2 b = wtL u + b2 a' + b2 b' ∧ u <:+ t
  | [], p, a, b, n, u, h => by rw [pMarked] at h; cases h
  | x :: t, p, a, b, n, u, h => by
    rw [pMarked] at h
    by_cases c7 : x.f0 = 7
    · rw [if_pos c7] at h
      have hx : wt x = 1 := by unfold wt; rw [if_neg (by omega), if_neg (by omega)]
      by_cases ca : a = false
      · rw [if_pos ca] at h
        obtain ⟨a', b', e, hw, hs⟩ := marked_w t p true b n u h
        refine ⟨a', b', e, ?_, hs.trans (List.suffix_cons _ _)⟩
        rw [wtL, hx, ca]
        have h1 : b2 true = 1 := rfl
        have h0 : b2 false = 0 := rfl
        omega
      · rw [if_neg ca] at h
        simp only [Option.some.injEq, Prod.mk.injEq] at h
        obtain ⟨rfl, rfl⟩ := h
        exact ⟨a, b, rfl, rfl, List.suffix_refl _⟩
    · rw [if_neg c7] at h
      by_cases c8 : x.f0 = 8
      · rw [if_pos c8] at h
        have hx : wt x = 1 := by unfold wt; rw [if_neg (by omega), if_neg (by omega)]
        by_cases cb : b = false
        · rw [if_pos cb] at h
          obtain ⟨a', b', e, hw, hs⟩ := marked_w t p a true n u h
          refine ⟨a', b', e, ?_, hs.trans (List.suffix_cons _ _)⟩
          rw [wtL, hx, cb]
          have h1 : b2 true = 1 := rfl
          have h0 : b2 false = 0 := rfl
          omega
        · rw [if_neg cb] at h
          simp only [Option.some.injEq, Prod.mk.injEq] at h
          obtain ⟨rfl, rfl⟩ := h
          exact ⟨a, b, rfl, rfl, List.suffix_refl _⟩
      · rw [if_neg c8] at h
        simp only [Option.some.injEq, Prod.mk.injEq] at h
        obtain ⟨rfl, rfl⟩ := h
        exact ⟨a, b, rfl, rfl, List.suffix_refl _⟩
theorem read_wt {k : Nat} {s : ByteArray} (hs : s.size ≤ 4611686018427387904) {p : Int × ByteArray × ByteArray × ByteArray × Bool} (h : point_Read.f k s = some p) (ht : p.2.2.2.2 = true) :
    ptV ⟨p.1, p.2.1, p.2.2.1, p.2.2.2.1⟩ = true ∧ (ptTxt ⟨p.1, p.2.1, p.2.2.1, p.2.2.2.1⟩).length = s.size := by
  have hr := read_any s.data.toList (by rw [← bsize]; exact hs)
  rw [bA_mk] at hr
  rcases hr with ⟨q, hq, hqt, hq2⟩ | ⟨_, hq2⟩
  · have := Ev.det1 (f := fun k => point_Read.f k s) (fun k => point_Read.mono s k) hq2 h
    subst this
    exact ⟨hq, by rw [show (ptTxt ⟨q.f0, q.f1, q.f2, q.f3⟩) = ptTxt q from rfl, hqt, ← bsize]⟩
  · have := Ev.det1 (f := fun k => point_Read.f k s) (fun k => point_Read.mono s k) hq2 h
    subst this; cases ht
theorem end_w {k : Nat} {m d : Int} {t u : List S46} {n : S27} {m' d' : Int} (hw : shortW t) (h : pEnd k m d t = some ⟨n, none, u, m', d'⟩) : wtL t = wtL u + Wn n ∧ u <:+ t := by
  cases t with
  | nil => cases h
  | cons x t =>
    unfold pEnd at h
    simp only at h
    rw [wtL]
    by_cases c0 : x.f0 = 0
    · rw [if_pos c0] at h
      by_cases c64 : m = 64
      · rw [if_pos c64] at h; simp at h
      rw [if_neg c64] at h
      unfold pWord at h
      obtain ⟨p, hp, h⟩ := Option.bind_eq_some_iff.mp h
      by_cases ht : p.2.2.2.2 = true
      · rw [if_pos ht] at h
        obtain ⟨r, hr, h⟩ := Option.bind_eq_some_iff.mp h
        simp only [Option.some.injEq, PR.mk.injEq] at h
        obtain ⟨h1, _, h2, _, _⟩ := h
        obtain ⟨a', b', e, he, hs⟩ := marked_w _ _ _ _ _ _ hr
        obtain ⟨hv, hl⟩ := read_wt (hw x (by simp)) hp ht
        rw [← h1, e, Wn_pt _ _ _ hv, hl, ← h2]
        have hx : wt x = x.f2.size := by unfold wt; rw [if_pos c0]
        have h0 : b2 false = 0 := rfl
        exact ⟨by omega, hs.trans (List.suffix_cons _ _)⟩
      · rw [if_neg ht] at h; simp at h
    rw [if_neg c0] at h
    by_cases c2 : x.f0 = 2
    · rw [if_pos c2] at h
      by_cases c64 : m = 64
      · rw [if_pos c64] at h; simp at h
      rw [if_neg c64] at h
      simp only [Option.some.injEq, PR.mk.injEq] at h
      obtain ⟨h1, _, h2, _, _⟩ := h
      rw [← h1, Wn_3, ← h2]
      have hx : wt x = 2 := by unfold wt; rw [if_neg c0, if_pos c2]
      exact ⟨by omega, List.suffix_cons _ _⟩
    rw [if_neg c2] at h
    by_cases c3 : x.f0 = 3
    · rw [if_pos c3] at h
      by_cases c64 : m = 64
      · rw [if_pos c64] at h; simp at h
      rw [if_neg c64] at h
      simp only [Option.some.injEq, PR.mk.injEq] at h
      obtain ⟨h1, _, h2, _, _⟩ := h
      rw [← h1, Wn_4, ← h2]
      have hx : wt x = 1 := by unfold wt; rw [if_neg c0, if_neg c2]
      exact ⟨by omega, List.suffix_cons _ _⟩
    · rw [if_neg c3] at h; simp at h
theorem PR.ext' {r : PR} {n : S27} {x : Wr} {t : List S46} {m d : Int} (h : r = ⟨n, x, t, m, d⟩) : r.n = n ∧ r.x = x ∧ r.t = t := by subst h; exact ⟨rfl, rfl, rfl⟩
theorem span_w {k : Nat} {m d : Int} {t u : List S46} {n : S27} {m' d' : Int} (hw : shortW t) (h : pSpan k m d t = some ⟨n, none, u, m', d'⟩) : wtL t = wtL u + Wn n ∧ u <:+ t := by
  unfold pSpan at h
  obtain ⟨⟨rn, rx, rt_, rm, rd⟩, hr, h⟩ := Option.bind_eq_some_iff.mp h
  cases rx with
  | some x => simp only [Option.some.injEq] at h; obtain ⟨_, h, _⟩ := PR.ext' h; cases h
  | none =>
    obtain ⟨e1, s1⟩ := end_w hw hr
    cases rt_ with
    | nil => cases h
    | cons y v =>
      simp only at h
      by_cases cy : y.f0 = 1
      · rw [if_pos cy] at h
        by_cases c64 : rm = 64
        · rw [if_pos c64] at h; simp at h
        rw [if_neg c64] at h
        obtain ⟨⟨sn, sx, st, sm_, sd⟩, hs, h⟩ := Option.bind_eq_some_iff.mp h
        simp only [Option.some.injEq] at h
        obtain ⟨h1, h2, h3⟩ := PR.ext' h
        simp only at h1 h2 h3
        subst h2
        have sv : v <:+ t := (List.suffix_cons y v).trans s1
        obtain ⟨e2, s2⟩ := end_w (hw.suf sv) hs
        rw [← h1, Wn_span, ← h3]
        rw [wtL] at e1
        have hy : wt y = 1 := by unfold wt; rw [if_neg (by omega), if_neg (by omega)]
        exact ⟨by omega, s2.trans sv⟩
      · rw [if_neg cy] at h
        by_cases c0 : rn.f0 = 0
        · rw [if_pos c0] at h
          simp only [Option.some.injEq] at h
          obtain ⟨h1, h2, h3⟩ := PR.ext' h
          simp only at h1 h3
          rw [← h1, ← h3]
          exact ⟨e1, s1⟩
        · rw [if_neg c0] at h; simp at h
theorem OneOf_p {l : List S27} {o : Int × Int × ByteArray × ByteArray × ByteArray × Bool × Bool × List S27} (h : tree_OneOf.f l = some o) : o = (2, 0, e0, e0, e0, false, false, l) := by
  unfold tree_OneOf.f at h
  obtain ⟨v, hv, h⟩ := Option.bind_eq_some_iff.mp h
  rw [slices_Clone.f] at hv
  split at hv
  · simp only [Option.some.injEq] at hv h
    subst hv; exact h.symm
  · cases hv
theorem expr_w : ∀ k, (∀ (m d : Int) (t u : List S46) (n : S27) (m' d' : Int), shortW t → pExpr k m d t = some ⟨n, none, u, m', d'⟩ → wtL t = wtL u + Wn n ∧ u <:+ t)
    ∧ (∀ (m d : Int) (x : S46) (t u : List S46) (n : S27) (m' d' : Int), shortW t → pList k m d x t = some ⟨n, none, u, m', d'⟩ → wtL t + 1 = wtL u + Wn n ∧ u <:+ t)
    ∧ (∀ (m d : Int) (x : S46) (t u : List S46) (l : List S27) (n : S27) (m' d' : Int), shortW t → pItems k m d (x :: t) l = some ⟨n, none, u, m', d'⟩ → wtL t + 1 + Wl l + l.length = wtL u + Wn n ∧ u <:+ t)
  | 0 => ⟨fun _ _ _ _ _ _ _ _ h => by simp [pExpr] at h, fun _ _ _ _ _ _ _ _ _ h => by simp [pList] at h, fun _ _ _ _ _ _ _ _ _ _ h => by simp [pItems] at h⟩
  | k + 1 => by
    obtain ⟨i1, i2, i3⟩ := expr_w k
    refine ⟨fun m d t u n m' d' hw h => ?_, fun m d x t u n m' d' hw h => ?_, fun m d x t u l n m' d' hw h => ?_⟩
    · cases t with
      | nil => simp [pExpr] at h
      | cons x t =>
        rw [pExpr] at h
        by_cases c4 : x.f0 = 4
        · rw [if_pos c4] at h
          obtain ⟨e, s⟩ := i2 m d x t u n m' d' (hw.suf (List.suffix_cons _ _)) h
          have hx : wt x = 1 := by unfold wt; rw [if_neg (by omega), if_neg (by omega)]
          rw [wtL, hx]
          exact ⟨by omega, s.trans (List.suffix_cons _ _)⟩
        · rw [if_neg c4] at h
          exact span_w hw h
    · rw [pList] at h
      by_cases c8 : d = 8
      · rw [if_pos c8] at h; simp at h
      rw [if_neg c8] at h
      by_cases c64 : m = 64
      · rw [if_pos c64] at h; simp at h
      rw [if_neg c64] at h
      obtain ⟨e, s⟩ := i3 _ _ x t u [] n m' d' hw h
      simp only [Wl, List.length_nil] at e
      exact ⟨by omega, s⟩
    · rw [pItems_one] at h
      obtain ⟨⟨rn, rx, rt_, rm, rd⟩, hr, h⟩ := Option.bind_eq_some_iff.mp h
      cases rx with
      | some x => simp only [Option.some.injEq] at h; obtain ⟨_, h, _⟩ := PR.ext' h; cases h
      | none =>
        obtain ⟨e1, s1⟩ := i1 _ _ _ _ _ _ _ hw hr
        simp only at h
        by_cases cl : l.length < 1466015503701
        · rw [if_pos cl] at h
          cases rt_ with
          | nil => cases h
          | cons y v =>
            have sv : v <:+ t := (List.suffix_cons y v).trans s1
            rw [wtL] at e1
            simp only at h
            by_cases c6 : y.f0 = 6
            · rw [if_pos c6] at h
              obtain ⟨e, s⟩ := i3 _ _ y v u (l ++ [rn]) n m' d' (hw.suf sv) h
              have hy : wt y = 1 := by unfold wt; rw [if_neg (by omega), if_neg (by omega)]
              rw [Wl_app, List.length_append] at e
              simp only [Wl, List.length_cons, List.length_nil] at e
              exact ⟨by omega, s.trans sv⟩
            rw [if_neg c6] at h
            by_cases c5 : y.f0 = 5
            · rw [if_pos c5] at h
              obtain ⟨o, ho, h⟩ := Option.bind_eq_some_iff.mp h
              have ho := OneOf_p ho
              subst ho
              simp only [Option.some.injEq] at h
              obtain ⟨h1, _, h3⟩ := PR.ext' h
              simp only at h1 h3
              have hy : wt y = 1 := by unfold wt; rw [if_neg (by omega), if_neg (by omega)]
              have hW := Wn_list ⟨0, e0, e0, e0⟩ false false (l ++ [rn]) (by simp)
              rw [h1, Wl_app, List.length_append] at hW
              simp only [Wl, List.length_cons, List.length_nil] at hW
              rw [← h3]
              exact ⟨by omega, sv⟩
            · rw [if_neg c5] at h; simp at h
        · rw [if_neg cl] at h; cases h
theorem toks_wt : ∀ (its : List It) (p : Nat) (r : List UInt8), okG its r → wtL (toks p its) = (nob (flatT its)).length
  | [], _, _, _ => rfl
  | .w l :: t, p, r, h => by
    have := toks_wt t (p + (It.w l).tx.length) r h.2.2.2
    have e : nob (flatT (.w l :: t)) = l ++ nob (flatT t) := by rw [flatT, nob_app, It.tx, nob_W h.2.1]
    have e2 : wtL (toks p (.w l :: t)) = l.length + wtL (toks (p + (It.w l).tx.length) t) := by
      show wt ⟨0, (p : Int), bA l⟩ + wtL _ = _
      unfold wt
      rw [if_pos rfl, bA_size]; rfl
    rw [e, e2, List.length_append, this]
  | .s k c :: t, p, r, h => by
    have := toks_wt t (p + (It.s k c).tx.length) r h.2.2
    obtain ⟨h1, _, h2, h3⟩ := sign_is h.2.1
    rw [h.1] at h2 h3
    have e : nob (flatT (.s k c :: t)) = c :: nob (flatT t) := by
      rw [flatT, nob_app, It.tx]
      have : nob [c] = [c] := by unfold nob; simp [h1]
      rw [this]; rfl
    have e2 : wtL (toks p (.s k c :: t)) = 1 + wtL (toks (p + (It.s k c).tx.length) t) := by
      show wt ⟨k, (p : Int), e0⟩ + wtL _ = _
      unfold wt
      rw [if_neg h2, if_neg h3]; rfl
    rw [e, e2, List.length_cons, this]; omega
  | .d :: t, p, r, h => by
    have := toks_wt t (p + It.d.tx.length) r h
    have e : nob (flatT (.d :: t)) = 46 :: 46 :: nob (flatT t) := by rw [flatT, nob_app, It.tx]; rfl
    have e2 : wtL (toks p (.d :: t)) = 2 + wtL (toks (p + It.d.tx.length) t) := rfl
    rw [e, e2, List.length_cons, List.length_cons, this]; omega
  | .b :: t, p, r, h => by
    have := toks_wt t (p + It.b.tx.length) r h
    have e : nob (flatT (.b :: t)) = nob (flatT t) := by rw [flatT, nob_app, It.tx]; rfl
    have e2 : wtL (toks p (.b :: t)) = wtL (toks (p + It.b.tx.length) t) := rfl
    rw [e, e2, this]
theorem wtL_app : ∀ l u : List S46, wtL (l ++ u) = wtL l + wtL u
  | [], u => by simp [wtL]
  | x :: l, u => by rw [List.cons_append, wtL, wtL, wtL_app l u]; omega
theorem Parse_anyW (l : List UInt8) : (∃ n, saneV n = true ∧ l.length ≤ 2000 ∧ Wn n ≤ (nob l).length ∧ Ev (fun k => parse_Parse.f k (bA l)) (tupP n (l.length : Int) 0)) ∨ ∃ a e : Int, e ≠ 0 ∧ 0 ≤ a ∧ a ≤ (l.length : Int) ∧ Ev (fun k => parse_Parse.f k (bA l)) (tupP pz a e) := by
  rcases Parse_any l with ⟨n, hn, hl, hP⟩ | h
  · refine .inl ⟨n, hn, hl, ?_, hP⟩
    obtain ⟨its, r, ho, rfl⟩ := split_any _ l (Nat.le_refl _)
    by_cases hr : r = []
    · subst hr
      rw [List.append_nil] at hl hP ⊢
      have hL := All_ok its ho hl
      have hT := toks_in its 0
      have hw0 : shortW (toks 0 its) := fun x hx => by have := hT x hx; omega
      have hw : shortW (toks 0 its ++ [endT (flatT its).length]) := fun x hx => by
        rcases List.mem_append.1 hx with h | h
        · exact hw0 x h
        · obtain rfl := List.mem_singleton.1 h; exact Nat.zero_le _
      obtain ⟨R, hR, hO⟩ := expr_any (endT (flatT its).length) rfl (toks 0 its) hw0 0 0 (by omega) (by omega)
      rcases hO with ⟨hx, _, _, _, _, _, v', ht, _, _⟩ | ⟨a, c, hx, _, hc⟩
      · obtain ⟨n2, x, t, m, d⟩ := R
        simp only at hx ht
        subst hx; subst ht
        obtain ⟨y, u, hyu⟩ := cons_of v' (endT (flatT its).length)
        rw [hyu] at hR
        by_cases hy : y.f0 = 9
        · have hQ : Ev (fun k => parse_Parse.f k (bA (flatT its))) (tupP n2 ((flatT its).length : Int) 0) := Ev.bind hL (Ev.ift rfl (Ev.bind hR (Ev.ift hy (Ev.now _))))
          have e := Ev.det hP hQ
          have en : n = n2 := by
            unfold tupP at e
            simp only [Prod.mk.injEq] at e
            obtain ⟨a0, a1, a2, a3, a4, a5, a6, a7, _⟩ := e
            obtain ⟨k1, ⟨p0, p1, p2, p3⟩, b1, c1, l1⟩ := n
            obtain ⟨k2, ⟨q0, q1, q2, q3⟩, b2, c2, l2⟩ := n2
            simp only at a0 a1 a2 a3 a4 a5 a6 a7
            rw [a0, a1, a2, a3, a4, a5, a6, a7]
          rw [en]
          obtain ⟨k, hk⟩ := hR.rounds
          have hW := ((expr_w k).1 _ _ _ _ _ _ _ hw hk).1
          rw [wtL_app, toks_wt its 0 [] ho, show wtL (y :: u) = wt y + wtL u from rfl] at hW
          have h9 : wt y = 1 := by unfold wt; rw [if_neg (by omega), if_neg (by omega)]
          have hE : wtL [endT (flatT its).length] = 1 := rfl
          omega
        · have hQ : Ev (fun k => parse_Parse.f k (bA (flatT its))) (tupP pz y.f1 3) := Ev.bind hL (Ev.ift rfl (Ev.bind hR (Ev.iff_ hy (Ev.now _))))
          have e := Ev.det hP hQ
          simp [tupP] at e
      · have hQ : Ev (fun k => parse_Parse.f k (bA (flatT its))) (tupP pz a c) := by
          refine Ev.bind hL (Ev.ift rfl (Ev.bind hR ?_))
          rw [hx]; exact Ev.now _
        have e := Ev.det hP hQ
        simp only [tupP, Prod.mk.injEq] at e
        exact absurd e.2.2.2.2.2.2.2.2.2.symm hc
    · have hL := All_bad its r ho hr hl
      have hQ : Ev (fun k => parse_Parse.f k (bA (flatT its ++ r))) (tupP pz ((flatT its).length : Int) 1) := Ev.bind hL (Ev.iff_ (by simp) (Ev.now _))
      have e := Ev.det hP hQ
      simp [tupP] at e
  · exact .inr h
theorem okI_pre : ∀ u v : List It, okI (u ++ v) → okI u
  | [], v, _ => trivial
  | .w l :: t, v, h => ⟨h.1, h.2.1, by
      have := h.2.2.1
      cases t with
      | nil => trivial
      | cons i t => cases i <;> exact this, okI_pre t v h.2.2.2⟩
  | .s k c :: t, v, h => ⟨h.1, h.2.1, okI_pre t v h.2.2⟩
  | .d :: t, v, h => okI_pre t v h
  | .b :: t, v, h => okI_pre t v h
theorem items_cut (N d : Nat) : ∀ (l : List S27), l ≠ [] → rtL l = true → ∀ (acc : List S27) (q m : Nat) (x : S46), m + ndL l ≤ 64 → d + 1 + dpL l ≤ 8 → acc.length + l.length ≤ 64 →
    ∃ R : PR, Ev (fun k => pItems k (m : Int) ((d + 1 : Nat) : Int) (x :: (toks q (joinI (itL l)) ++ [endT N])) acc) R ∧ R.x = some ((N : Int), 4) := fun l => by
  induction l with
  | nil => intro h; exact absurd rfl h
  | cons n1 l ih =>
    intro _ hrt acc q m x hm1 hd1 hlen
    rw [ndL] at hm1
    rw [dpL] at hd1
    rw [rtL, Bool.and_eq_true] at hrt
    rw [List.length_cons] at hlen
    cases l with
    | nil =>
      have ei : joinI (itL [n1]) = it n1 := by rw [itL, itL, joinI]
      rw [ei]
      have h1 := expr_back _ n1 (Nat.le_refl _) hrt.1 q m (d + 1) [endT N] ⟨_, _, rfl, by simp [endT], by simp [endT], by simp [endT]⟩ (by omega) (by omega)
      exact ⟨⟨n1, some ((N : Int), 4), [endT N], ((m + nd n1 : Nat) : Int), ((d + 1 : Nat) : Int)⟩, Ev.step (fun k => pItems_one k _ _ x _ acc) (Ev.bind h1 (Ev.ift (by omega) (Ev.iff_ (by simp [endT]) (Ev.iff_ (by simp [endT]) (Ev.now _))))), rfl⟩
    | cons n2 l =>
      have ei : joinI (itL (n1 :: n2 :: l)) = it n1 ++ (.s 6 44 :: .b :: joinI (itL (n2 :: l))) := by rw [itL, itL, joinI]
      rw [ei, toks_app, List.append_assoc]
      have h1 := expr_back _ n1 (Nat.le_refl _) hrt.1 q m (d + 1) (toks (q + (flatT (it n1)).length) (.s 6 44 :: .b :: joinI (itL (n2 :: l))) ++ [endT N]) ⟨_, _, rfl, by simp, by simp, by simp⟩ (by omega) (by omega)
      obtain ⟨R, hR, hx⟩ := ih (by simp) hrt.2 (acc ++ [n1]) (q + (flatT (it n1)).length + 1 + 1) (m + nd n1) ⟨6, ((q + (flatT (it n1)).length : Nat) : Int), e0⟩ (by omega) (by omega) (by rw [List.length_append]; simp only [List.length_cons, List.length_nil]; simp only [List.length_cons] at hlen; omega)
      exact ⟨R, items_step (y := ⟨6, ((q + (flatT (it n1)).length : Nat) : Int), e0⟩) (u := toks (q + (flatT (it n1)).length + 1 + 1) (joinI (itL (n2 :: l))) ++ [endT N]) h1 (by omega) (.inl ⟨rfl, hR⟩), hx⟩
theorem list_cut (n : S27) (hv : saneV n = true) (c : n.f0 = 2) : Ev (fun k => parse_Parse.f k (bA (tx n).dropLast)) (0, 0, e0, e0, e0, false, false, [], ((tx n).dropLast.length : Int), 4) := by
  obtain ⟨h1, h2, h3⟩ := sane_rt hv
  have hlen := tx_len _ n (Nat.le_refl _)
  have hok : okI (it n) := by have := it_ok _ n [] (Nat.le_refl _) h3 trivial trivial; simpa using this
  have hi : it n = (.s 4 91 :: joinI (itL n.f4)) ++ [.s 5 93] := by rw [it_eq, if_neg (by omega), if_pos c]; rfl
  have hf : tx n = flatT (.s 4 91 :: joinI (itL n.f4)) ++ [93] := by rw [← flat_n n, hi, flatT_app]; rfl
  have hd : (tx n).dropLast = flatT (.s 4 91 :: joinI (itL n.f4)) := by rw [hf, List.dropLast_concat]
  rw [hi] at hok
  rw [hd]
  have hfl : (flatT (.s 4 91 :: joinI (itL n.f4))).length ≤ 2000 := by rw [hf, List.length_append] at hlen; omega
  have hLex := lex_f _ (okI_pre _ _ hok) hfl
  rcases rt_kinds h3 with ⟨_, c'⟩ | ⟨c', _⟩ | ⟨_, _, hne, hl, _⟩
  · omega
  · omega
  have hnd := nd_eq n
  have hdp : dp n = dpL n.f4 + 1 := by rw [dp_eq, if_pos c]
  have hlen4 := len_nd n.f4
  obtain ⟨R, hR, hx⟩ := items_cut (flatT (.s 4 91 :: joinI (itL n.f4))).length 0 n.f4 hne hl [] (0 + 1) (0 + 1) ⟨4, ((0 : Nat) : Int), e0⟩ (by omega) (by omega) (by simp only [List.length_nil]; omega)
  exact parse_bad hLex (list_go (m := 0) (d := 0) rfl (by omega) (by omega) hR) hx
theorem nob_end {x : S27} (h : endV x = true) : nob (tx x) = tx x := by
  obtain ⟨_, hk⟩ := end_kinds h
  rw [tx_eq]
  rcases hk with ⟨c, hp⟩ | ⟨c, _⟩ | ⟨c, _⟩
  · rw [if_neg (by omega), if_neg (by omega), if_neg (by omega), if_neg (by omega), nob_app, nob_W (txt_W hp)]
    cases x.f2 <;> cases x.f3 <;> rfl
  · rw [if_neg (by omega), if_neg (by omega), if_pos c]; rfl
  · rw [if_neg (by omega), if_neg (by omega), if_neg (by omega), if_pos c]; rfl
theorem nob_small {n : S27} (h : rt n = true) (c : n.f0 ≠ 2) : nob (tx n) = tx n := by
  rcases rt_kinds h with ⟨he, _⟩ | ⟨_, _, x, y, _, hx, hy, e⟩ | ⟨c', _⟩
  · exact nob_end he
  · have e1 : tx x ++ 47 :: tx y = tx x ++ ([47] ++ tx y) := rfl
    rw [e, e1, nob_app, nob_app, nob_end hx, nob_end hy]; rfl
  · exact absurd c' c
theorem ParseCut_t (n : S27) (hn : wfN n) (hb : nd n ≤ 1048576) : Ev (fun k => lustrumlaw13_ParseCut.f k n.f0 n.f1.f0 n.f1.f1 n.f1.f2 n.f1.f3 n.f2 n.f3 n.f4) true := by
  obtain ⟨b1, f1, _⟩ := rFew_f n hn
  have out : Ev (fun k => lustrumlaw13_ParseCut.j0 k true true n.f0 n.f1.f0 n.f1.f1 n.f1.f2 n.f1.f3 n.f2 n.f3 n.f4) true := Ev.step (f := fun _ => some true) (fun k => by rw [lustrumlaw13_ParseCut.j0, if_pos rfl]) (Ev.now _)
  refine Ev.bind awake13 (Ev.bind f1 ?_)
  cases b1 with
  | false => exact Ev.iff_ (by simp) out
  | true =>
    refine Ev.ift rfl (Ev.bind (tSane_f n hn (by omega)) ?_)
    cases hv : saneV n with
    | false => exact out
    | true =>
      have hT := text_t hv
      obtain ⟨h1, h2, h3⟩ := sane_rt hv
      have hlen := tx_len _ n (Nat.le_refl _)
      have hpos := tx_pos h3
      have hne : tx n ≠ [] := fun h => by rw [h] at hpos; simp at hpos
      have hsp : tx n = (tx n).dropLast ++ [(tx n).getLast hne] := (List.dropLast_concat_getLast hne).symm
      have hll : (tx n).length = (tx n).dropLast.length + 1 := by rw [List.length_dropLast]; omega
      have hz : mx 0 (wrap64 (((bA (tx n)).size : Int) - 1)) = ((tx n).dropLast.length : Int) := by
        rw [bA_size, w64 (by omega) (by omega), mx_max]; omega
      have hx : (bA (tx n)).extract 0 (((tx n).dropLast.length : Int)).toNat = bA (tx n).dropLast := by
        have := ext_to (tx n).dropLast [(tx n).getLast hne]
        rw [← hsp] at this
        rw [Int.toNat_natCast]; exact this
      refine Ev.step (fun k => by rw [lustrumlaw13_ParseCut.j0, if_neg (by simp)]) ?_
      refine Ev.bind hT ?_
      rw [hz, hx]
      refine Ev.ift (by omega) (Ev.ift (by rw [bA_size]; omega) ?_)
      rw [bA_size]
      by_cases c2 : n.f0 = 2
      · refine Ev.bind (list_cut n hv c2) (Ev.iff_ (by simp) (Ev.ift rfl (Ev.ift (by simp) (Ev.ift (by simp) (Ev.ift c2 (Ev.ift rfl (Ev.eq (Ev.now _) ?_)))))))
        simp
      · rcases Parse_anyW (tx n).dropLast with ⟨m, hm, _, hW, hP⟩ | ⟨a, e, he, ha, hb', hP⟩
        · have hS := tSame_f _ m n (Nat.le_refl _) (sane_wf hm)
          have hs : sm m n = false := by
            cases hs : sm m n with
            | false => rfl
            | true =>
              have e := sm_eq_of _ m n (Nat.le_refl _) hs
              have e2 : Wn n = (tx n).length := by unfold Wn; rw [nob_small h3 c2]
              have e3 : (nob (tx n).dropLast).length ≤ (tx n).dropLast.length := List.length_filter_le ..
              rw [e, e2] at hW
              omega
          rw [hs] at hS
          refine Ev.bind hP (Ev.ift rfl (Ev.ift rfl (Ev.bind hS (Ev.iff_ (by simp) (Ev.ift rfl (Ev.eq (Ev.now _) ?_))))))
          exact bne_iff_ne.mpr c2
        · exact Ev.bind hP (Ev.iff_ he (Ev.ift rfl (Ev.ift ha (Ev.ift hb' (Ev.iff_ c2 (Ev.now _))))))
end Go.Proofs.YtjgjhekpiijniaaGreat.A