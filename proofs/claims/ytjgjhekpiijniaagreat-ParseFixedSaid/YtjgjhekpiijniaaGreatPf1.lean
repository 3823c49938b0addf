/- Walks of functions, and plain facts about what they compute. No conditions. -/
import Derived.Test.YtjgjhekpiijniaaGreatPf0
set_option linter.unusedVariables false
set_option linter.unusedSimpArgs false
namespace Go.Proofs.YtjgjhekpiijniaaGreat.A
open Go.RowKit Go.Proofs.YtjgjhekpiijniaaGreatW.PrintWords Go.Proofs.YtjgjhekpiijniaaGreatW.PrintLast Go.Proofs.YtjgjhekpiijniaaGreatW.PrintMore
noncomputable abbrev keyK (x : KE) : List UInt8 := (tyT x.nd).toList
theorem rise_heap (l0 : List KE) (hn : l0.length ≤ 2097152) : ∀ (j : Nat) (l : List KE), l.length = l0.length → (∀ x, x ∈ l ↔ x ∈ l0) → j ≤ 1048577 → Hf l j →
    ∃ l', l'.length = l0.length ∧ (∀ x, x ∈ l' ↔ x ∈ l0) ∧ Hf l' 0 ∧ ∀ r, Ev (fun k => canonK_rising.l1 k l' [] ⟨#[]⟩) r → Ev (fun k => canonK_rising.l0 k l ((j : Int) - 1)) r := by
  intro j
  induction j with
  | zero =>
    intro l hl hm _ hf
    refine ⟨l, hl, hm, hf, fun r h => ?_⟩
    exact Ev.step (fun k => by rw [canonK_rising.l0, if_neg (by omega)]) h
  | succ j ih =>
    intro l hl hm hj hf
    obtain ⟨l1, h1, h2, h3, h4⟩ := sink_f j l.length l j (by omega) (by omega) (by omega) (Nat.le_refl _) (fun i c hi hne hc hcl => hf i c (by omega) hc hcl) (fun p c hp he _ _ => by omega)
    obtain ⟨l', g1, g2, g3, g4⟩ := ih l1 (by omega) (fun x => by rw [h3, hm]) (by omega) h4
    refine ⟨l', g1, g2, g3, fun r h => ?_⟩
    have e1 : ((j + 1 : Nat) : Int) - 1 = (j : Int) := by omega
    rw [e1]
    refine Ev.step (f := fun k => (canon_sink.f k l (j : Int)).bind fun t => canonK_rising.l0 k t ((j : Int) - 1)) (fun k => by rw [canonK_rising.l0, if_pos (by omega), wrapIn _ ⟨by omega, by omega⟩]) ?_
    exact Ev.bind h1 (g4 r h)
theorem heap_min {l : List KE} (hf : Hf l 0) : ∀ (m i : Nat), i ≤ m → i < l.length → lsK (gK l i) (gK l 0) = false := by
  intro m
  induction m with
  | zero => intro i hi _; have : i = 0 := by omega
            subst this; exact bl_irr _
  | succ m ih =>
    intro i hi hl
    by_cases h0 : i = 0
    · subst h0; exact bl_irr _
    · have h1 := hf ((i - 1) / 2) i (Nat.zero_le _) (by omega) hl
      have h2 := ih ((i - 1) / 2) (by omega) (by omega)
      exact bl_le_trans h2 h1
theorem gK_mem {l : List KE} {i : Nat} (h : i < l.length) : gK l i ∈ l := by rw [gK_get l i h]; exact List.getElem_mem h
theorem mem_gK {l : List KE} {x : KE} (h : x ∈ l) : ∃ i, i < l.length ∧ gK l i = x := by
  obtain ⟨i, hi, e⟩ := List.getElem_of_mem h
  exact ⟨i, hi, by rw [gK_get l i hi]; exact e⟩
noncomputable def cutK (l : List KE) : List KE := (l.set 0 (gK l (l.length - 1))).take (l.length - 1)
theorem cut_len (l : List KE) : (cutK l).length = l.length - 1 := by unfold cutK; rw [List.length_take, List.length_set]; omega
theorem cut_gK (l : List KE) (i : Nat) (hi : i < l.length - 1) : gK (cutK l) i = if i = 0 then gK l (l.length - 1) else gK l i := by
  rw [← gK_set l 0 (gK l (l.length - 1)) (by omega) i]
  unfold gK cutK
  rw [List.getD_eq_getElem?_getD, List.getD_eq_getElem?_getD, List.getElem?_take, if_pos hi]
  rfl
theorem cut_mem (l : List KE) (h : 0 < l.length) (x : KE) : (x ∈ cutK l → x ∈ l) ∧ (x ∈ l → x = gK l 0 ∨ x ∈ cutK l) := by
  constructor
  · intro hx
    obtain ⟨i, hi, rfl⟩ := mem_gK hx
    rw [cut_len] at hi
    rw [cut_gK l i hi]
    split
    · exact gK_mem (by omega)
    · exact gK_mem (by omega)
  · intro hx
    obtain ⟨i, hi, rfl⟩ := mem_gK hx
    by_cases h0 : i = 0
    · subst h0; exact .inl rfl
    · refine .inr ?_
      by_cases h1 : i = l.length - 1
      · have h2 : 0 < (cutK l).length := by rw [cut_len]; omega
        have h3 := gK_mem h2
        rw [cut_gK l 0 (by omega), if_pos rfl, ← h1] at h3
        exact h3
      · have h2 : i < (cutK l).length := by rw [cut_len]; omega
        have h3 := gK_mem h2
        rw [cut_gK l i (by omega), if_neg h0] at h3
        exact h3
theorem cut_heap {l : List KE} (hf : Hf l 0) : Hp (cutK l) 0 0 := fun i c _ h0 hc hcl => by
  rw [cut_len] at hcl
  rw [cut_gK l c hcl, cut_gK l i (by omega), if_neg h0, if_neg (by omega)]
  exact hf i c (Nat.zero_le _) hc (by omega)
theorem rise_l1 : ∀ (n : Nat) (l out : List KE) (last : ByteArray), l.length = n → out.length + n ≤ 2097152 → Hf l 0 → out.Pairwise (fun a b => lsK a b = true) → (∀ y, y ∈ out → Op.bytesLess last.toList (keyK y) = false) →
    (last.toList ≠ [] → ∃ y, y ∈ out ∧ keyK y = last.toList) → (∀ x, x ∈ l → Op.bytesLess (keyK x) last.toList = false) → (∀ x, x ∈ l → keyK x ≠ []) →
    ∃ r, Ev (fun k => canonK_rising.l1 k l out last) r ∧ r.Pairwise (fun a b => lsK a b = true) ∧ (∀ x, x ∈ r → x ∈ l ∨ x ∈ out) ∧ (∀ x, x ∈ l ∨ x ∈ out → ∃ y, y ∈ r ∧ keyK y = keyK x) := by
  intro n
  induction n with
  | zero =>
    intro l out last hl hb hf hp _ _ _ _
    have e : l = [] := List.eq_nil_of_length_eq_zero hl
    subst e
    refine ⟨out, Ev.step (fun k => by rw [canonK_rising.l1, if_neg (by simp)]) (Ev.now _), hp, fun x h => .inr h, fun x h => ?_⟩
    rcases h with h | h
    · simp at h
    · exact ⟨x, h, rfl⟩
  | succ n ih =>
    intro l out last hl hb hf hp hlo hla hge hne
    have h0 : gK l 0 ∈ l := gK_mem (by omega)
    have w1 : wrap64 ((l.length : Int) - 1) = ((n : Nat) : Int) := by rw [wrapIn _ ⟨by omega, by omega⟩]; omega
    obtain ⟨l2, s1, s2, s3, s4⟩ := sink_f 0 (cutK l).length (cutK l) 0 (by omega) (by rw [cut_len]; omega) (by omega) (Nat.le_refl _) (cut_heap hf) (fun p c _ he _ _ => by omega)
    have hl2 : l2.length = n := by rw [s2, cut_len]; omega
    have hcut : ((l.set (0 : Int).toNat (rdOf zKE l ((n : Nat) : Int))).take ((n : Nat) : Int).toNat) = cutK l := by
      unfold cutK
      rw [rd_gK, Int.toNat_natCast, hl]
      rfl
    have hmin : ∀ x, x ∈ l → Op.bytesLess (keyK x) (keyK (gK l 0)) = false := fun x hx => by
      obtain ⟨i, hi, rfl⟩ := mem_gK hx
      exact heap_min hf i i (Nat.le_refl _) hi
    have hsub : ∀ x, x ∈ l2 → x ∈ l := fun x hx => (cut_mem l (by omega) x).1 ((s3 x).1 hx)
    by_cases he : (tyT (gK l 0).nd).toList = last.toList
    · obtain ⟨r, r1, r2, r3, r4⟩ := ih l2 out last hl2 (by omega) s4 hp hlo hla (fun x hx => hge x (hsub x hx)) (fun x hx => hne x (hsub x hx))
      refine ⟨r, ?_, r2, fun x hx => (r3 x hx).imp (hsub x) id, fun x hx => ?_⟩
      · refine Ev.step (f := fun k => (canon_sink.f k (cutK l) 0).bind fun t => canonK_rising.l1 k t out last) (fun k => by
          rw [canonK_rising.l1, if_pos (by omega), if_pos (by omega)]
          simp only [canon_element_key.f, Option.bind_some]
          rw [show rdOf zKE l 0 = gK l 0 from rfl, if_pos he, w1, if_pos (by omega), if_pos (by omega), if_pos (by omega), hcut]) ?_
        exact Ev.bind s1 r1
      · rcases hx with hx | hx
        · rcases (cut_mem l (by omega) x).2 hx with rfl | hx
          · obtain ⟨y, hy, e⟩ := hla (fun e => hne _ h0 (he.trans e))
            obtain ⟨z, hz, e2⟩ := r4 y (.inr hy)
            exact ⟨z, hz, e2.trans (e.trans he.symm)⟩
          · exact r4 x (.inl ((s3 x).2 hx))
        · exact r4 x (.inr hx)
    · have hlt : Op.bytesLess last.toList (keyK (gK l 0)) = true := by
        cases h : Op.bytesLess last.toList (keyK (gK l 0)) with
        | true => rfl
        | false => exact absurd (bl_tri (hge _ h0) h) he
      obtain ⟨r, r1, r2, r3, r4⟩ := ih l2 (out ++ [gK l 0]) (tyT (gK l 0).nd) hl2 (by rw [List.length_append, List.length_singleton]; omega) s4
        (List.pairwise_append.2 ⟨hp, List.pairwise_singleton _ _, fun a ha b hb => by
          rw [List.mem_singleton.1 hb]
          exact bl_le_lt (hlo a ha) hlt⟩)
        (fun y hy => by
          rcases List.mem_append.1 hy with hy | hy
          · exact bl_asym (bl_le_lt (hlo y hy) hlt)
          · rw [List.mem_singleton.1 hy]; exact bl_irr _)
        (fun _ => ⟨gK l 0, by simp, rfl⟩) (fun x hx => hmin x (hsub x hx)) (fun x hx => hne x (hsub x hx))
      refine ⟨r, ?_, r2, fun x hx => ?_, fun x hx => ?_⟩
      · refine Ev.step (f := fun k => (canon_sink.f k (cutK l) 0).bind fun t => canonK_rising.l1 k t (out ++ [gK l 0]) (tyT (gK l 0).nd)) (fun k => by
          rw [canonK_rising.l1, if_pos (by omega), if_pos (by omega)]
          simp only [canon_element_key.f, Option.bind_some]
          rw [show rdOf zKE l 0 = gK l 0 from rfl, if_neg he, if_pos (by omega), w1, if_pos (by omega), if_pos (by omega), if_pos (by omega), hcut]) ?_
        exact Ev.bind s1 r1
      · rcases r3 x hx with h | h
        · exact .inl (hsub x h)
        · rcases List.mem_append.1 h with h | h
          · exact .inr h
          · rw [List.mem_singleton.1 h]; exact .inl h0
      · rcases hx with hx | hx
        · rcases (cut_mem l (by omega) x).2 hx with rfl | hx
          · exact r4 _ (.inr (by simp))
          · exact r4 x (.inl ((s3 x).2 hx))
        · exact r4 x (.inr (List.mem_append_left _ hx))
theorem no_bytes : (⟨#[]⟩ : ByteArray).toList = [] := by rw [ba_toList]
theorem rising_f (l : List KE) (hn : l.length ≤ 2097152) (hne : ∀ x, x ∈ l → keyK x ≠ []) :
    ∃ r, Ev (fun k => canonK_rising.f k l) r ∧ r.Pairwise (fun a b => lsK a b = true) ∧ (∀ x, x ∈ r → x ∈ l) ∧ (∀ x, x ∈ l → ∃ y, y ∈ r ∧ keyK y = keyK x) := by
  have hw : wrap64 ((wrap64 ((l.length : Int) / 2)) - 1) = ((l.length / 2 : Nat) : Int) - 1 := by
    rw [wrapIn ((l.length : Int) / 2) ⟨by omega, by omega⟩, wrapIn _ ⟨by omega, by omega⟩]; omega
  obtain ⟨l', h1, h2, h3, h4⟩ := rise_heap l hn (l.length / 2) l rfl (fun _ => Iff.rfl) (by omega) (fun i c hi hc hcl => by omega)
  obtain ⟨r, r1, r2, r3, r4⟩ := rise_l1 l'.length l' [] ⟨#[]⟩ rfl (by simpa [h1] using hn) h3 List.Pairwise.nil (fun y h => by simp at h) (fun h => absurd no_bytes h) (fun x hx => by
    rw [no_bytes]
    cases keyK x <;> rfl) (fun x hx => hne x ((h2 x).1 hx))
  refine ⟨r, ?_, r2, fun x hx => ?_, fun x hx => r4 x (.inl ((h2 x).2 hx))⟩
  · unfold canonK_rising.f
    rw [hw]
    exact h4 r r1
  · rcases r3 x hx with h | h
    · exact (h2 x).1 h
    · simp at h
theorem key_mk {x : S27} (h : goodN x) : keyK (mkK x) = txV x := by
  show (tyT x).toList = txV x
  rw [tyT_txV x h.1 h.2, bA_toList]
theorem Clone_e (l : List S27) (h : l.length < 1466015503701) : slices_Clone.f l = some l := by rw [slices_Clone.f, if_pos h]
theorem risingN_f (l : List S27) (hn : l.length ≤ 2097152) (hg : ∀ x, x ∈ l → goodN x) (hs : ∀ x, x ∈ l → saneV x = true) : Ev (fun k => risingN k l) (clV l) := by
  have hm : ∀ y, y ∈ l.map mkK → y.nd ∈ l ∧ y = mkK y.nd := fun y hy => by
    obtain ⟨x, hx, rfl⟩ := List.mem_map.1 hy
    exact ⟨hx, rfl⟩
  have hk : ∀ y, y ∈ l.map mkK → keyK y = txV y.nd := fun y hy => by
    obtain ⟨h1, h2⟩ := hm y hy
    rw [h2]
    exact key_mk (hg _ h1)
  obtain ⟨r, h1, h2, h3, h4⟩ := rising_f (l.map mkK) (by rw [List.length_map]; exact hn) (fun x hx => by
    rw [hk x hx]
    have hsx := hs _ (hm x hx).1
    have := tx_pos (sane_rt hsx).2.2
    unfold txV
    rw [if_pos hsx]
    intro e
    rw [e] at this
    simp at this)
  obtain ⟨c1, c2, c3⟩ := clV_is hs
  have e : r.map KE.nd = clV l := by
    refine rise_only _ _ ?_ c1 (fun x => ?_)
    · unfold rise
      rw [List.pairwise_map]
      refine h2.imp_of_mem (fun {a b} ha hb hab => ?_)
      have hab' : Op.bytesLess (keyK a) (keyK b) = true := hab
      rw [hk a (h3 a ha), hk b (h3 b hb)] at hab'
      exact hab'
    · rw [c3]
      constructor
      · intro hx
        obtain ⟨y, hy, rfl⟩ := List.mem_map.1 hx
        exact (hm y (h3 y hy)).1
      · intro hx
        obtain ⟨y, hy, e⟩ := h4 (mkK x) (List.mem_map.2 ⟨x, hx, rfl⟩)
        have hy2 := hm y (h3 y hy)
        rw [hk y (h3 y hy), key_mk (hg x hx)] at e
        have e2 : y.nd = x := txV_inj (hs _ hy2.1) (hs x hx) e
        exact List.mem_map.2 ⟨y, hy, e2⟩
  obtain ⟨K, hK⟩ := h1
  refine ⟨K, fun k hk => ?_⟩
  show (canonK_rising.f k (l.map mkK)).map (fun r => r.map KE.nd) = some (clV l)
  have h5 : canonK_rising.f k (l.map mkK) = some r := hK k hk
  rw [h5, ← e]
  rfl
theorem flV_saneV {n : S27} (h : saneV n = true) : ∀ x, x ∈ flV n → saneV x = true := fun x hx => (flV_sane _ n (Nat.le_refl _) h x hx).1
theorem Canon_t (n : S27) (hw : wfN n) (hb : nd n ≤ 1048576) : Ev (fun k => canon_Canon.f k n.f0 n.f1.f0 n.f1.f1 n.f1.f2 n.f1.f3 n.f2 n.f3 n.f4) (tup (cnV n)) := by
  refine Ev.bind (tSane_f n hw (by omega)) ?_
  unfold cnV
  cases hv : saneV n with
  | false =>
    rw [if_neg (by simp)]
    exact Ev.iff_ (by simp) (Ev.now _)
  | true =>
    rw [if_pos rfl]
    refine Ev.ift rfl ?_
    by_cases c : n.f0 = 2
    · rw [if_pos c]
      have hl := flV_len _ n (Nat.le_refl _)
      have hgd := flV_good hw hb
      have hsn := flV_saneV hv
      obtain ⟨c1, c2, c3⟩ := clV_is hsn
      refine Ev.ift c (Ev.bind (Ev.bind (flat_f _ n (Nat.le_refl _) hb hw hv) (risingN_f (flV n) (by omega) hgd hsn)) ?_)
      by_cases h1 : (clV (flV n)).length = 1
      · have e : oneV (clV (flV n)) = rd_T27 (clV (flV n)) 0 := by unfold oneV; rw [if_pos h1]
        rw [e]
        exact Ev.ift (by omega) (Ev.ift (by omega) (Ev.now _))
      · have e : oneV (clV (flV n)) = ⟨2, ⟨0, ⟨#[]⟩, ⟨#[]⟩, ⟨#[]⟩⟩, false, false, clV (flV n)⟩ := by unfold oneV; rw [if_neg h1]
        rw [e]
        refine Ev.iff_ (by omega) (Ev.bnow (x := (2, 0, (⟨#[]⟩ : ByteArray), (⟨#[]⟩ : ByteArray), (⟨#[]⟩ : ByteArray), false, false, clV (flV n))) ?_ (Ev.now _))
        unfold tree_OneOf.f
        rw [Clone_e _ (by omega)]
        rfl
    · rw [if_neg c]
      have hn := nd_eq n
      have hlen := len_nd n.f4
      refine Ev.iff_ c (Ev.bnow (Clone_e _ (by omega)) (Ev.now _))
def free (r : List S46) : Prop := ∃ y u, r = y :: u ∧ y.f0 ≠ 7 ∧ y.f0 ≠ 8
def freeE (r : List S46) : Prop := ∃ y u, r = y :: u ∧ y.f0 ≠ 7 ∧ y.f0 ≠ 8 ∧ y.f0 ≠ 1
theorem up1 {m : Nat} (h : m ≤ 1000) : wrap64 ((m : Int) + 1) = ((m + 1 : Nat) : Int) := by rw [w64 (by omega) (by omega)]; omega
theorem marked_back (a b : Bool) (p : S24) (q : Nat) (r : List S46) (hr : free r) : pMarked (toks q (markI a 7 63 ++ markI b 8 126) ++ r) p false false = some (⟨0, p, a, b, []⟩, r) := by
  obtain ⟨y, u, rfl, h7, h8⟩ := hr
  cases a <;> cases b <;> simp [markI, toks, It.tok, pMarked, h7, h8]
theorem bare_mk (k : Int) (l : List S27) : bareV ⟨k, ⟨0, e0, e0, e0⟩, false, false, l⟩ = true := by
  have e : emptyV e0 = true := by unfold emptyV; rw [ba_toList]; rfl
  simp [bareV, e]
theorem kz_of {n : S27} (h4 : n.f4 = []) (hb : bareV n = true) : n = kz n.f0 := bare_inj hb (bare_mk _ _) rfl h4
theorem end_back (n : S27) (he : endV n = true) (q m : Nat) (d : Int) (r : List S46) (hr : free r) (hm : m + 1 ≤ 64) :
    Ev (fun k => pEnd k (m : Int) d (toks q (it n) ++ r)) ⟨n, none, r, ((m + 1 : Nat) : Int), d⟩ := by
  obtain ⟨h4, hk⟩ := end_kinds he
  rw [it_eq]
  rcases hk with ⟨c, hp⟩ | ⟨c, hb⟩ | ⟨c, hb⟩
  · rw [if_neg (by omega), if_neg (by omega), if_neg (by omega), if_neg (by omega)]
    have e : toks q (It.w (ptTxt n.f1) :: (markI n.f2 7 63 ++ markI n.f3 8 126)) ++ r = (⟨0, (q : Int), bA (ptTxt n.f1)⟩ : S46) :: (toks (q + (It.w (ptTxt n.f1)).tx.length) (markI n.f2 7 63 ++ markI n.f3 8 126) ++ r) := rfl
    rw [e]
    unfold pEnd pWord
    refine Ev.ift rfl (Ev.iff_ (by omega) ?_)
    refine Ev.bind (read_txt n.f1 hp) (Ev.ift rfl (Ev.bnow (marked_back n.f2 n.f3 ⟨n.f1.f0, n.f1.f1, n.f1.f2, n.f1.f3⟩ _ r hr) (Ev.eq (Ev.now _) ?_)))
    rw [up1 (by omega)]
    have e2 : (⟨0, ⟨n.f1.f0, n.f1.f1, n.f1.f2, n.f1.f3⟩, n.f2, n.f3, []⟩ : S27) = n := S27.ext5 c.symm rfl rfl rfl h4.symm
    rw [e2]
  · rw [if_neg (by omega), if_neg (by omega), if_pos c]
    have e : toks q [It.d] ++ r = (⟨2, (q : Int), e0⟩ : S46) :: r := rfl
    rw [e]
    unfold pEnd
    refine Ev.iff_ (by simp) (Ev.ift rfl (Ev.iff_ (by omega) (Ev.eq (Ev.now _) ?_)))
    rw [up1 (by omega), kz_of h4 hb, c]
  · rw [if_neg (by omega), if_neg (by omega), if_neg (by omega), if_pos c]
    have e : toks q [It.s 3 42] ++ r = (⟨3, (q : Int), e0⟩ : S46) :: r := rfl
    rw [e]
    unfold pEnd
    refine Ev.iff_ (by simp) (Ev.iff_ (by simp) (Ev.ift rfl (Ev.iff_ (by omega) (Ev.eq (Ev.now _) ?_))))
    rw [up1 (by omega), kz_of h4 hb, c]
theorem point_back (n : S27) (he : endV n = true) (c0 : n.f0 = 0) (q m : Nat) (d : Int) (r : List S46) (hr : freeE r) (hm : m + 1 ≤ 64) :
    Ev (fun k => pSpan k (m : Int) d (toks q (it n) ++ r)) ⟨n, none, r, ((m + 1 : Nat) : Int), d⟩ := by
  obtain ⟨y, u, rfl, h7, h8, h1⟩ := hr
  unfold pSpan
  exact Ev.bind (end_back n he q m d _ ⟨y, u, rfl, h7, h8⟩ hm) (Ev.iff_ h1 (Ev.ift c0 (Ev.now _)))
theorem span_back (x y : S27) (hx : endV x = true) (hy : endV y = true) (q m : Nat) (d : Int) (r : List S46) (hr : free r) (hm : m + 3 ≤ 64) :
    Ev (fun k => pSpan k (m : Int) d (toks q (it x ++ .s 1 47 :: it y) ++ r)) ⟨⟨1, ⟨0, e0, e0, e0⟩, false, false, [x, y]⟩, none, r, ((m + 3 : Nat) : Int), d⟩ := by
  rw [toks_app, List.append_assoc]
  have e : ∀ p, toks p (.s 1 47 :: it y) ++ r = (⟨1, (p : Int), e0⟩ : S46) :: (toks (p + 1) (it y) ++ r) := fun p => rfl
  rw [e]
  unfold pSpan
  refine Ev.bind (end_back x hx q m d _ ⟨_, _, rfl, by simp, by simp⟩ (by omega)) (Ev.ift rfl (Ev.iff_ (by show ¬ ((m + 1 : Nat) : Int) = 64; omega) ?_))
  refine Ev.bind (f := fun k s => _) (a := ⟨y, none, r, ((m + 3 : Nat) : Int), d⟩) ?_ (Ev.now _)
  show Ev (fun k => pEnd k (wrap64 (((m + 1 : Nat) : Int) + 1)) d (toks (q + (flatT (it x)).length + 1) (it y) ++ r)) _
  rw [up1 (by omega)]
  exact end_back y hy _ (m + 2) d r hr (by omega)
theorem OneOf_e (l : List S27) (h : l.length < 1466015503701) : tree_OneOf.f l = some (2, 0, e0, e0, e0, false, false, l) := by
  unfold tree_OneOf.f
  rw [Clone_e l h]; rfl
theorem pItems_one (k : Nat) (m d : Int) (x : S46) (t : List S46) (l : List S27) : pItems (k + 1) m d (x :: t) l = (pExpr k m d t).bind fun r => match r.x with
    | some _ => some r
    | none => if l.length < 1466015503701 then (match r.t with
      | [] => none
      | y :: u =>
        if y.f0 = 6 then pItems k r.m r.d (y :: u) (l ++ [r.n])
        else if y.f0 = 5 then (tree_OneOf.f (l ++ [r.n])).bind fun o => some ⟨⟨o.1, ⟨o.2.1, o.2.2.1, o.2.2.2.1, o.2.2.2.2.1⟩, o.2.2.2.2.2.1, o.2.2.2.2.2.2.1, o.2.2.2.2.2.2.2⟩, none, u, r.m, wrap64 (r.d - 1)⟩
        else some ⟨r.n, some (y.f1, eNot y 3), y :: u, r.m, r.d⟩) else none := by rw [pItems] <;> rfl
theorem items_step {n : S27} {m m' : Int} {d : Int} {x y : S46} {t u : List S46} {l : List S27} {R : PR} (h1 : Ev (fun k => pExpr k m d t) ⟨n, none, y :: u, m', d⟩) (hl : l.length < 1466015503701)
    (h2 : y.f0 = 6 ∧ Ev (fun k => pItems k m' d (y :: u) (l ++ [n])) R ∨ y.f0 = 5 ∧ R = ⟨⟨2, ⟨0, e0, e0, e0⟩, false, false, l ++ [n]⟩, none, u, m', wrap64 (d - 1)⟩ ∧ l.length + 1 < 1466015503701) :
    Ev (fun k => pItems k m d (x :: t) l) R := by
  refine Ev.step (fun k => pItems_one k m d x t l) (Ev.bind h1 (Ev.ift hl ?_))
  rcases h2 with ⟨c, h⟩ | ⟨c, rfl, h⟩
  · exact Ev.ift c h
  · refine Ev.iff_ (by omega) (Ev.ift c ?_)
    exact Ev.bnow (OneOf_e _ (by rw [List.length_append]; simpa using h)) (Ev.now _)
theorem expr_back : ∀ (M : Nat) (n : S27), nd n ≤ M → rt n = true → ∀ (q m d : Nat) (r : List S46), freeE r → m + nd n ≤ 64 → d + dp n ≤ 8 →
    Ev (fun k => pExpr k (m : Int) (d : Int) (toks q (it n) ++ r)) ⟨n, none, r, ((m + nd n : Nat) : Int), (d : Int)⟩
  | 0, n, h, _ => by have := nd_pos n; omega
  | M + 1, n, hM, hn => by
    intro q m d r hr hm hd
    have span : ∀ (t : List S46) (R : PR), (∃ x u, t = x :: u ∧ x.f0 ≠ 4) → Ev (fun k => pSpan k (m : Int) (d : Int) t) R → Ev (fun k => pExpr k (m : Int) (d : Int) t) R := fun t R ht h => by
      obtain ⟨x, u, rfl, hx⟩ := ht
      exact Ev.step (fun k => by rw [pExpr, if_neg hx]) h
    have hr' : free r := by obtain ⟨y, u, e, h7, h8, _⟩ := hr; exact ⟨y, u, e, h7, h8⟩
    have head : ∀ (x : S27), endV x = true → ∀ (s : List It) (v : List S46), ∃ z u, toks q (it x ++ s) ++ v = z :: u ∧ z.f0 ≠ 4 := fun x hx s v => by
      obtain ⟨_, hk⟩ := end_kinds hx
      rw [it_eq]
      rcases hk with ⟨c, _⟩ | ⟨c, _⟩ | ⟨c, _⟩
      · rw [if_neg (by omega), if_neg (by omega), if_neg (by omega), if_neg (by omega)]; exact ⟨_, _, rfl, by simp [It.tok]⟩
      · rw [if_neg (by omega), if_neg (by omega), if_pos c]; exact ⟨_, _, rfl, by simp [It.tok]⟩
      · rw [if_neg (by omega), if_neg (by omega), if_neg (by omega), if_pos c]; exact ⟨_, _, rfl, by simp [It.tok]⟩
    rcases rt_kinds hn with ⟨he, c⟩ | ⟨c, hb, x, y, h4, hx, hy, _⟩ | ⟨c, hb, hne, hl, _⟩
    · have h1 : nd n = 1 := by rw [nd_eq, (end_kinds he).1]; rfl
      refine span _ _ (by have := head n he [] r; rwa [List.append_nil] at this) ?_
      rw [h1]
      exact point_back n he c q m d r hr (by omega)
    · have h3 : nd n = 3 := by
        have e1 : nd x = 1 := by rw [nd_eq, (end_kinds hx).1]; rfl
        have e2 : nd y = 1 := by rw [nd_eq, (end_kinds hy).1]; rfl
        rw [nd_eq, h4, ndL, ndL, ndL, e1, e2]
      have hi : it n = it x ++ .s 1 47 :: it y := by rw [it_eq, if_pos c, h4]; rfl
      rw [hi, h3]
      refine span _ _ (head x hx _ r) (Ev.eq (span_back x y hx hy q m d r hr' (by omega)) ?_)
      have e : (⟨1, ⟨0, e0, e0, e0⟩, false, false, [x, y]⟩ : S27) = n := bare_inj (bare_mk _ _) hb c.symm h4.symm
      rw [e]
    · have hi : it n = .s 4 91 :: (joinI (itL n.f4) ++ [.s 5 93]) := by rw [it_eq, if_neg (by omega), if_pos c]
      have hnd : nd n = ndL n.f4 + 1 := nd_eq n
      have hdp : dp n = dpL n.f4 + 1 := by rw [dp_eq, if_pos c]
      rw [hi]
      have e : toks q (.s 4 91 :: (joinI (itL n.f4) ++ [.s 5 93])) ++ r = (⟨4, (q : Int), e0⟩ : S46) :: (toks (q + 1) (joinI (itL n.f4) ++ [.s 5 93]) ++ r) := rfl
      rw [e]
      have items : ∀ (l : List S27), l ≠ [] → ndL l ≤ M → rtL l = true → ∀ (acc : List S27) (q m : Nat) (x : S46), m + ndL l ≤ 64 → d + 1 + dpL l ≤ 8 → acc.length + l.length ≤ 64 →
          Ev (fun k => pItems k (m : Int) ((d + 1 : Nat) : Int) (x :: (toks q (joinI (itL l) ++ [.s 5 93]) ++ r)) acc) ⟨⟨2, ⟨0, e0, e0, e0⟩, false, false, acc ++ l⟩, none, r, ((m + ndL l : Nat) : Int), (d : Int)⟩ := fun l => by
        induction l with
        | nil => intro h; exact absurd rfl h
        | cons n1 l ih =>
          intro _ hM1 hrt acc q m x hm1 hd1 hlen
          rw [ndL] at hM1 hm1
          rw [dpL] at hd1
          rw [rtL, Bool.and_eq_true] at hrt
          rw [List.length_cons] at hlen
          cases l with
          | nil =>
            have ei : joinI (itL [n1]) ++ [.s 5 93] = it n1 ++ [.s 5 93] := by rw [itL, itL, joinI]
            rw [ei, toks_app, List.append_assoc]
            have h1 := expr_back M n1 (by omega) hrt.1 q m (d + 1) (toks (q + (flatT (it n1)).length) [.s 5 93] ++ r) ⟨_, _, rfl, by simp [It.tok], by simp [It.tok], by simp [It.tok]⟩ (by omega) (by omega)
            refine items_step (y := ⟨5, ((q + (flatT (it n1)).length : Nat) : Int), e0⟩) (u := r) h1 (by omega) (.inr ⟨rfl, ?_, by omega⟩)
            have e2 : wrap64 (((d + 1 : Nat) : Int) - 1) = (d : Int) := by rw [w64 (by omega) (by omega)]; omega
            rw [e2]; rfl
          | cons n2 l =>
            have ei : joinI (itL (n1 :: n2 :: l)) ++ [.s 5 93] = it n1 ++ (.s 6 44 :: .b :: (joinI (itL (n2 :: l)) ++ [.s 5 93])) := by rw [itL, itL, joinI, List.append_assoc]; rfl
            rw [ei, toks_app, List.append_assoc]
            have h1 := expr_back M n1 (by omega) hrt.1 q m (d + 1) (toks (q + (flatT (it n1)).length) (.s 6 44 :: .b :: (joinI (itL (n2 :: l)) ++ [.s 5 93])) ++ r) ⟨_, _, rfl, by simp [It.tok], by simp [It.tok], by simp [It.tok]⟩ (by omega) (by omega)
            have h2 := ih (by simp) (by omega) hrt.2 (acc ++ [n1]) (q + (flatT (it n1)).length + 1 + 1) (m + nd n1) ⟨6, ((q + (flatT (it n1)).length : Nat) : Int), e0⟩ (by omega) (by omega) (by rw [List.length_append]; simp only [List.length_cons, List.length_nil]; simp only [List.length_cons] at hlen; omega)
            refine items_step (y := ⟨6, ((q + (flatT (it n1)).length : Nat) : Int), e0⟩) (u := toks (q + (flatT (it n1)).length + 1 + 1) (joinI (itL (n2 :: l)) ++ [.s 5 93]) ++ r) h1 (by omega) (.inl ⟨rfl, Ev.eq h2 ?_⟩)
            rw [List.append_assoc, ndL, Nat.add_assoc]; rfl
      have hi2 := items n.f4 hne (by omega) hl [] (q + 1) (m + 1) ⟨4, (q : Int), e0⟩ (by omega) (by omega) (by have := len_nd n.f4; simp only [List.length_nil]; omega)
      have en : (⟨2, ⟨0, e0, e0, e0⟩, false, false, [] ++ n.f4⟩ : S27) = n := bare_inj (bare_mk _ _) hb c.symm rfl
      rw [en] at hi2
      refine Ev.step (f := fun k => pList k (m : Int) (d : Int) ⟨4, (q : Int), e0⟩ (toks (q + 1) (joinI (itL n.f4) ++ [.s 5 93]) ++ r)) (fun k => by rw [pExpr, if_pos rfl]) ?_
      refine Ev.step (fun k => by rw [pList, if_neg (by omega), if_neg (by omega), up1 (by omega), up1 (by omega)]) (Ev.eq hi2 ?_)
      rw [hnd, Nat.add_assoc, Nat.add_comm 1]
theorem Parse_back (n : S27) (hv : saneV n = true) : Ev (fun k => parse_Parse.f k (bA (tx n))) (n.f0, n.f1.f0, n.f1.f1, n.f1.f2, n.f1.f3, n.f2, n.f3, n.f4, ((tx n).length : Int), 0) := by
  obtain ⟨h1, h2, h3⟩ := sane_rt hv
  have hlen := tx_len _ n (Nat.le_refl _)
  have hok : okI (it n) := by have := it_ok _ n [] (Nat.le_refl _) h3 trivial trivial; simpa using this
  have hLex := lex_f (it n) hok (by rw [flat_n]; omega)
  rw [flat_n] at hLex
  have hE := expr_back _ n (Nat.le_refl _) h3 0 0 0 [endT (tx n).length] ⟨_, _, rfl, by simp [endT], by simp [endT], by simp [endT]⟩ (by omega) (by omega)
  unfold parse_Parse.f
  exact Ev.bind hLex (Ev.ift rfl (Ev.bind hE (Ev.ift rfl (Ev.now _))))
def b13 : S27 := ⟨0, ⟨3, ⟨#[49, 57, 88, 52]⟩, ⟨#[]⟩, ⟨#[]⟩⟩, false, false, []⟩
def s13 : S27 := ⟨1, eP, false, false, [oN, b13]⟩
def l13 : S27 := lN [p11, s13]
theorem pv_b13 : ptV b13.f1 = true := by
  show (saneL [49, 57, 88, 52] && (true && (emptyV ⟨#[]⟩ && emptyV ⟨#[]⟩))) = true
  rw [emptyV_nil]; decide
theorem wf_b13 : wfN b13 := wf_leaf _ _ _ _ (by decide) (by decide) (by decide)
theorem wf_s13 : wfN s13 := .mk _ (by decide) (by decide) (by decide) (by simp [s13]) (fun x hx => by
  simp only [s13, List.mem_cons, List.not_mem_nil, or_false] at hx
  rcases hx with rfl | rfl
  · exact wf_oN
  · exact wf_b13)
theorem wf_l13 : wfN l13 := .mk _ (by decide) (by decide) (by decide) (by simp [l13, lN]) (fun x hx => by
  simp only [l13, lN, List.mem_cons, List.not_mem_nil, or_false] at hx
  rcases hx with rfl | rfl
  · exact wf_p11
  · exact wf_s13)
theorem endV_b13 : endV b13 = true := by show (true && ptV b13.f1) = true; rw [pv_b13]; rfl
theorem rt_s13 : rt s13 = true := by
  rw [rt_eq]
  show (bareV ⟨1, eP, false, false, [oN, b13]⟩ && two [oN, b13]) = true
  rw [bare_e, two, endV_b13, endV_o]; rfl
theorem sane_l13 : saneV l13 = true := by
  have h1 : nd l13 = 5 := by simp [l13, lN, s13, b13, p11, oN, nd, ndL]
  have h2 : dp l13 = 1 := by simp [l13, lN, s13, b13, p11, oN, dp, dpL]
  have h4 : rt p11 = true := by rw [rt_eq]; show endV p11 = true; exact endV_p11
  have h3 : rt l13 = true := by
    rw [rt_eq]
    show (bareV ⟨2, eP, false, false, [p11, s13]⟩ && (true && rtL [p11, s13])) = true
    rw [bare_e, rtL, rtL, rtL, rt_s13, h4]; rfl
  unfold saneV
  rw [h1, h2, h3]; rfl
theorem tx_l13 : tx l13 = [91, 49, 57, 56, 52, 63, 126, 44, 32, 46, 46, 47, 49, 57, 88, 52, 93] := by
  have e1 : tx p11 = [49, 57, 56, 52, 63, 126] := by
    rw [tx_eq]
    show ptTxt p11.f1 ++ [63, 126] = _
    unfold ptTxt
    rw [pv_p11]; rfl
  have e2 : tx b13 = [49, 57, 88, 52] := by
    rw [tx_eq]
    show ptTxt b13.f1 ++ [] = _
    unfold ptTxt
    rw [pv_b13]; rfl
  have e3 : tx oN = [46, 46] := by rw [tx_eq]; rfl
  have e4 : tx s13 = [46, 46, 47, 49, 57, 88, 52] := by
    rw [tx_eq]
    show span2 (txL [oN, b13]) = _
    rw [txL, txL, txL, e2, e3]; rfl
  rw [tx_eq]
  show 91 :: (Lib.join (txL [p11, s13]) [44, 32] ++ [93]) = _
  rw [txL, txL, txL, e1, e4]; rfl
theorem ptTxt_p11 : ptTxt p11.f1 = [49, 57, 56, 52] := by unfold ptTxt; rw [pv_p11]; rfl
theorem read_1984 : Ev (fun k => point_Read.f k (⟨#[49, 57, 56, 52]⟩ : ByteArray)) (3, ⟨#[49, 57, 56, 52]⟩, e0, e0, true) := by
  have := read_txt p11.f1 pv_p11
  rw [ptTxt_p11] at this
  exact this
theorem end_1984 (q : Int) (m : Nat) (d : Int) (t r : List S46) (a b : Bool) (hm : m + 1 ≤ 64) (h : pMarked t ⟨3, ⟨#[49, 57, 56, 52]⟩, e0, e0⟩ false false = some (⟨0, ⟨3, ⟨#[49, 57, 56, 52]⟩, e0, e0⟩, a, b, []⟩, r)) :
    Ev (fun k => pEnd k (m : Int) d ((⟨0, q, ⟨#[49, 57, 56, 52]⟩⟩ : S46) :: t)) ⟨⟨0, ⟨3, ⟨#[49, 57, 56, 52]⟩, e0, e0⟩, a, b, []⟩, none, r, ((m + 1 : Nat) : Int), d⟩ := by
  unfold pEnd pWord
  refine Ev.ift rfl (Ev.iff_ (by omega) ?_)
  refine Ev.bind read_1984 (Ev.ift rfl (Ev.bnow h (Ev.eq (Ev.now _) ?_)))
  rw [up1 (by omega)]
theorem list_go {x : S46} {t : List S46} {m d : Nat} {R : PR} (h4 : x.f0 = 4) (hm : m + 1 ≤ 64) (hd : d + 1 ≤ 8) (h : Ev (fun k => pItems k ((m + 1 : Nat) : Int) ((d + 1 : Nat) : Int) (x :: t) []) R) : Ev (fun k => pExpr k (m : Int) (d : Int) (x :: t)) R := by
  refine Ev.step (f := fun k => pList k (m : Int) (d : Int) x t) (fun k => by rw [pExpr, if_pos h4]) ?_
  exact Ev.step (fun k => by rw [pList, if_neg (by omega), if_neg (by omega), up1 (by omega), up1 (by omega)]) h
theorem span_go {x : S46} {t : List S46} {m d : Int} {R : PR} (h4 : x.f0 ≠ 4) (h : Ev (fun k => pSpan k m d (x :: t)) R) : Ev (fun k => pExpr k m d (x :: t)) R := Ev.step (fun k => by rw [pExpr, if_neg h4]) h
theorem parse_bad {s : List UInt8} {L : List S46} {z at_ e : Int} {R : PR} (hL : Ev (fun k => lex_All.f k (bA s)) (L, z, 0)) (hE : Ev (fun k => pExpr k 0 0 L) R) (hx : R.x = some (at_, e)) : Ev (fun k => parse_Parse.f k (bA s)) (0, 0, e0, e0, e0, false, false, [], at_, e) := by
  unfold parse_Parse.f
  refine Ev.bind hL (Ev.ift rfl (Ev.bind hE ?_))
  rw [hx]; exact Ev.now _
theorem parse_good {s : List UInt8} {L : List S46} {z : Int} {n : S27} {y : S46} {u : List S46} {m d : Int} (hL : Ev (fun k => lex_All.f k (bA s)) (L, z, 0)) (hE : Ev (fun k => pExpr k 0 0 L) ⟨n, none, y :: u, m, d⟩) (hy : y.f0 = 9) : Ev (fun k => parse_Parse.f k (bA s)) (n.f0, n.f1.f0, n.f1.f1, n.f1.f2, n.f1.f3, n.f2, n.f3, n.f4, z, 0) := by
  unfold parse_Parse.f
  exact Ev.bind hL (Ev.ift rfl (Ev.bind hE (Ev.ift hy (Ev.now _))))
theorem first13 : Ev (fun k => parse_Parse.f k (⟨#[91, 49, 57, 56, 52, 126, 63, 44, 32, 46, 46, 47, 49, 57, 88, 52, 93]⟩ : ByteArray)) (l13.f0, l13.f1.f0, l13.f1.f1, l13.f1.f2, l13.f1.f3, l13.f2, l13.f3, l13.f4, 17, 0) := by
  have hL := lex_f [.s 4 91, .w [49, 57, 56, 52], .s 8 126, .s 7 63, .s 6 44, .b, .d, .s 1 47, .w [49, 57, 88, 52], .s 5 93] (by simp [okI, stopI]; decide) (by decide)
  refine parse_good hL (n := l13) (y := endT 17) (u := []) (m := 5) (d := 0) ?_ rfl
  refine list_go (m := 0) (d := 0) rfl (by omega) (by omega) ?_
  have h1 : Ev (fun k => pExpr k 1 1 [⟨0, 1, ⟨#[49, 57, 56, 52]⟩⟩, ⟨8, 5, e0⟩, ⟨7, 6, e0⟩, ⟨6, 7, e0⟩, ⟨2, 9, e0⟩, ⟨1, 11, e0⟩, ⟨0, 12, ⟨#[49, 57, 88, 52]⟩⟩, ⟨5, 16, e0⟩, endT 17]) ⟨p11, none, [⟨6, 7, e0⟩, ⟨2, 9, e0⟩, ⟨1, 11, e0⟩, ⟨0, 12, ⟨#[49, 57, 88, 52]⟩⟩, ⟨5, 16, e0⟩, endT 17], 2, 1⟩ := by
    refine span_go (by simp) ?_
    unfold pSpan
    exact Ev.bind (end_1984 1 1 1 _ _ true true (by omega) rfl) (Ev.iff_ (by simp) (Ev.ift rfl (Ev.now _)))
  refine items_step h1 (by decide) (.inl ⟨rfl, ?_⟩)
  have h2 : Ev (fun k => pExpr k 2 1 [⟨2, 9, e0⟩, ⟨1, 11, e0⟩, ⟨0, 12, ⟨#[49, 57, 88, 52]⟩⟩, ⟨5, 16, e0⟩, endT 17]) ⟨s13, none, [⟨5, 16, e0⟩, endT 17], 5, 1⟩ := by
    have h := expr_back 3 s13 (by simp [s13, b13, oN, nd, ndL]) rt_s13 9 2 1 [⟨5, 16, e0⟩, endT 17] ⟨_, _, rfl, by simp, by simp, by simp⟩ (by simp [s13, b13, oN, nd, ndL]) (by simp [s13, b13, oN, dp, dpL])
    have e : nd s13 = 3 := by simp [s13, b13, oN, nd, ndL]
    have e2 : toks 9 (it s13) ++ [⟨5, 16, e0⟩, endT 17] = [⟨2, 9, e0⟩, ⟨1, 11, e0⟩, ⟨0, 12, ⟨#[49, 57, 88, 52]⟩⟩, ⟨5, 16, e0⟩, endT 17] := by
      have ei : it s13 = [.d, .s 1 47, .w [49, 57, 88, 52]] := by
        have eb : it b13 = [.w [49, 57, 88, 52]] := by
          rw [it_eq]
          show [It.w (ptTxt b13.f1)] = _
          unfold ptTxt
          rw [pv_b13]; rfl
        rw [it_eq]
        show spanI (itL [oN, b13]) = _
        rw [itL, itL, itL, eb, it_eq]; rfl
      rw [ei]; rfl
    rw [e, e2] at h
    exact h
  exact items_step h2 (by decide) (.inr ⟨rfl, by rw [w64 (by omega) (by omega)]; rfl, by decide⟩)
theorem second13 : Ev (fun k => parse_Parse.f k (⟨#[49, 57, 56, 52, 47, 91]⟩ : ByteArray)) (0, 0, e0, e0, e0, false, false, [], 5, 3) := by
  have hL := lex_f [.w [49, 57, 56, 52], .s 1 47, .s 4 91] (by simp [okI, stopI]; decide) (by decide)
  refine parse_bad hL (R := ⟨⟨1, ⟨0, e0, e0, e0⟩, false, false, [⟨0, ⟨3, ⟨#[49, 57, 56, 52]⟩, e0, e0⟩, false, false, []⟩, pz]⟩, some (5, 3), [⟨4, 5, e0⟩, endT 6], 2, 0⟩) ?_ rfl
  refine span_go (by simp) ?_
  unfold pSpan
  refine Ev.bind (end_1984 0 0 0 _ _ false false (by omega) rfl) (Ev.ift rfl (Ev.iff_ (by simp) ?_))
  refine Ev.bind (a := ⟨pz, some (5, 3), [⟨4, 5, e0⟩, endT 6], 2, 0⟩) ?_ ?_
  · show Ev (fun k => pEnd k (wrap64 (((0 + 1 : Nat) : Int) + 1)) 0 [⟨4, 5, e0⟩, endT 6]) _
    rw [up1 (by omega)]
    unfold pEnd
    exact Ev.iff_ (by simp) (Ev.iff_ (by simp) (Ev.iff_ (by simp) (Ev.eq (Ev.now _) rfl)))
  · exact Ev.now _
theorem third13 : Ev (fun k => parse_Parse.f k (⟨#[91, 49, 57, 56, 52]⟩ : ByteArray)) (0, 0, e0, e0, e0, false, false, [], 5, 4) := by
  have hL := lex_f [.s 4 91, .w [49, 57, 56, 52]] (by simp [okI, stopI]; decide) (by decide)
  refine parse_bad hL (R := ⟨⟨0, ⟨3, ⟨#[49, 57, 56, 52]⟩, e0, e0⟩, false, false, []⟩, some (5, 4), [endT 5], 2, 1⟩) ?_ rfl
  refine list_go (m := 0) (d := 0) rfl (by omega) (by omega) ?_
  refine Ev.step (fun k => pItems_one k _ _ _ _ []) ?_
  refine Ev.bind (a := ⟨⟨0, ⟨3, ⟨#[49, 57, 56, 52]⟩, e0, e0⟩, false, false, []⟩, none, [endT 5], 2, 1⟩) ?_ ?_
  · refine span_go (by simp) ?_
    unfold pSpan
    exact Ev.bind (end_1984 1 1 1 _ _ false false (by omega) rfl) (Ev.iff_ (by simp [endT]) (Ev.ift rfl (Ev.now _)))
  · exact Ev.ift (by decide) (Ev.iff_ (by simp [endT]) (Ev.iff_ (by simp [endT]) (Ev.now _)))
theorem awake13 : Ev (fun k => lustrumlaw13_awake.f k) true := by
  have hT := pTx_f l13 wf_l13 (by have := (sane_rt sane_l13).1; omega)
  have e : txV l13 = [91, 49, 57, 56, 52, 63, 126, 44, 32, 46, 46, 47, 49, 57, 88, 52, 93] := by unfold txV; rw [if_pos sane_l13, tx_l13]
  rw [e] at hT
  exact Ev.bind first13 (Ev.bind second13 (Ev.bind third13 (Ev.ift rfl (Ev.ift rfl (Ev.bind hT (Ev.ift (bA_toList _) (Ev.ift rfl (Ev.ift rfl (Ev.ift rfl (Ev.now _))))))))))
end Go.Proofs.YtjgjhekpiijniaaGreat.A
namespace Go.Proofs.YtjgjhekpiijniaaGreat.A
open Go.RowKit Go.Proofs.YtjgjhekpiijniaaGreatW.PrintWords Go.Proofs.YtjgjhekpiijniaaGreatW.PrintLast Go.Proofs.YtjgjhekpiijniaaGreatW.PrintMore
attribute [local go_sem] max2_int min2_int max_two min_two max_three min_three max_four min_four
theorem eqA23 (d : Nat) (w : World) (x0 y0 : Int) (x1 y1 : ByteArray) (x2 y2 : ByteArray) (x3 y3 : ByteArray) :
  (Op.equalIn (d + 2) 24 (.agg #[.int .i64 x0, .string x1, .string x2, .string x3]) (.agg #[.int .i64 y0, .string y1, .string y2, .string y3])).run Tryz.prog w = .ok (x0 == y0 && (x1.toList == y1.toList && (x2.toList == y2.toList && (x3.toList == y3.toList)))) w := by
 refine eqA_of Tryz.underlying24 (by kernel_rfl) ?_; refine eqf_cons (by rfl) (by go_simp; rfl) (by go_simp; rfl) (by go_simp) ?_; refine eqf_cons (by rfl) (by go_simp; rfl) (by go_simp; rfl) (by go_simp) ?_; refine eqf_cons (by rfl) (by go_simp; rfl) (by go_simp; rfl) (by go_simp) ?_; exact eqf_last (by rfl) (by go_simp; rfl) (by go_simp; rfl) (by go_simp)
end Go.Proofs.YtjgjhekpiijniaaGreat.A
namespace Go.Proofs.YtjgjhekpiijniaaGreat.A
open Go.RowKit Go.Proofs.YtjgjhekpiijniaaGreatW.PrintWords Go.Proofs.YtjgjhekpiijniaaGreatW.PrintLast Go.Proofs.YtjgjhekpiijniaaGreatW.PrintMore
attribute [local go_sem] max2_int min2_int max_two min_two max_three min_three max_four min_four
attribute [local go_sem] isSome_setCell
set_option maxHeartbeats 8000000 in
set_option maxRecDepth 100000 in
theorem runs_Sane.calls (k : Nat) (A0 : Option Addr) (c0 : Nat) (l0 : List (S120)) (r : Bool) (w : World) (hr0 : Kd.C k120 w A0 l0.length l0) (hc0 : l0.length ≤ c0) (h : runs_Sane.f k l0 = some r) :
  Calls Tryz.prog 104 #[.slice A0 l0.length c0] w fun e w' => e = .returned (.bool r) ∧ Below w.heap.size w w' := by
 have hu120 := Tryz.underlying120; have HR0 := A_ hr0; have HC0 := A_ hc0; clear hr0 hc0; have HB := A_ (Below.refl w.heap.size w); have H : (runs_Sane.l0 k (-1099511627778) l0 (l0.length : Int) 0) = some r := h; clear h; have H' := A_ H; clear H; go_enter Tryz.func104, Tryz.ntmps104; go_wp2; go_loopg [3, 8] k (fun kq v3 v8 w' => ∃ (x3_1 : Int) (x8_1 : Int), v3 = .int .i64 x3_1 ∧ v8 = .int .i64 x8_1 ∧ Aside0 (runs_Sane.l0 kq x3_1 l0 (l0.length : Int) x8_1 = some r) ∧ Aside0 (kq ≤ k) ∧ Aside0 (Below w.heap.size w w'))
 case atStart => exact ⟨((-1099511627778)), (0), rf_, rf_, H', ⟨Nat.le_refl _⟩, ⟨hs_⟩⟩
 case round =>
  clear H'; obtain ⟨x3_1, x8_1, rfl, rfl, HA, HK1, HB⟩ := hrel
  cases gk with
  | zero => exact absurd HA.out (by simp [runs_Sane.l0])
  | succ k1 =>
   have H := HA.out; clear HA; simp only [runs_Sane.l0] at H
   by_cases c2 : x8_1 < (l0.length : Int)
   ·rw [if_pos c2] at H
    have c2b0 := decide_eq_true c2; clear c2
    by_cases c3 : 0 ≤ x8_1
    ·rw [if_pos c3] at H
     have c3b0 := decide_eq_true c3; clear c3
     by_cases c4 : x8_1 < (l0.length : Int)
     ·rw [if_pos c4] at H
      have c4b0 := decide_eq_true c4; clear c4
      by_cases c5 : ((rd_T120 l0 x8_1).f0) > ((rd_T120 l0 x8_1).f1)
      ·rw [if_pos c5] at H
       have c5b0 := decide_eq_true c5; clear c5; obtain rfl := Option.some.inj H; have p101 : 0 ≤ (x8_1 : Int) := od_; have q101 : x8_1 < (l0.length : Int) := od_; obtain ⟨ad101, e101, hx101_0, hx101_1⟩ := at_T120 HR0.out x8_1 p101 q101
       cases e101
       replace hx101_0 := cl_ HB hx101_0; replace hx101_1 := cl_ HB hx101_1; replace p101 := eq_true p101; replace q101 := eq_true q101; go_wp2_with (first | (refine gx_ w 5 #[.int .i64 0, .int .i64 0] 120 ?_; clear HB; intro gb102 w6 BK102 GE102 HB; have GW102 := GE102; have Z7 := bz2_ BK102)); go_ret; exact ⟨re_, hs_⟩
      ·rw [if_neg c5] at H
       have c5b0 := decide_eq_false c5; clear c5
       by_cases c8 : ((rd_T120 l0 x8_1).f0) < (wrap64 (x3_1 + 2))
       ·rw [if_pos c8] at H
        have c8b0 := decide_eq_true c8; clear c8; obtain rfl := Option.some.inj H; have p101 : 0 ≤ (x8_1 : Int) := od_; have q101 : x8_1 < (l0.length : Int) := od_; obtain ⟨ad101, e101, hx101_0, hx101_1⟩ := at_T120 HR0.out x8_1 p101 q101
        cases e101
        replace hx101_0 := cl_ HB hx101_0; replace hx101_1 := cl_ HB hx101_1; replace p101 := eq_true p101; replace q101 := eq_true q101; go_wp2_with (first | (refine gx_ w 5 #[.int .i64 0, .int .i64 0] 120 ?_; clear HB; intro gb102 w9 BK102 GE102 HB; have GW102 := GE102; have Z10 := bz2_ BK102)); go_ret; exact ⟨re_, hs_⟩
       ·rw [if_neg c8] at H
        have c8b0 := decide_eq_false c8; clear c8
        by_cases c11 : ((rd_T120 l0 x8_1).f1) > 1099511627776
        ·rw [if_pos c11] at H
         have c11b0 := decide_eq_true c11; clear c11; obtain rfl := Option.some.inj H; have p101 : 0 ≤ (x8_1 : Int) := od_; have q101 : x8_1 < (l0.length : Int) := od_; obtain ⟨ad101, e101, hx101_0, hx101_1⟩ := at_T120 HR0.out x8_1 p101 q101
         cases e101
         replace hx101_0 := cl_ HB hx101_0; replace hx101_1 := cl_ HB hx101_1; replace p101 := eq_true p101; replace q101 := eq_true q101; go_wp2_with (first | (refine gx_ w 5 #[.int .i64 0, .int .i64 0] 120 ?_; clear HB; intro gb102 w12 BK102 GE102 HB; have GW102 := GE102; have Z13 := bz2_ BK102)); go_ret; exact ⟨re_, hs_⟩
        ·rw [if_neg c11] at H
         have c11b0 := decide_eq_false c11; clear c11; have H' := A_ H; clear H; have p101 : 0 ≤ (x8_1 : Int) := od_; have q101 : x8_1 < (l0.length : Int) := od_; obtain ⟨ad101, e101, hx101_0, hx101_1⟩ := at_T120 HR0.out x8_1 p101 q101
         cases e101
         replace hx101_0 := cl_ HB hx101_0; replace hx101_1 := cl_ HB hx101_1; replace p101 := eq_true p101; replace q101 := eq_true q101; go_wp2_with (first | (refine gx_ w 5 #[.int .i64 0, .int .i64 0] 120 ?_; clear HB; intro gb102 w14 BK102 GE102 HB; have GW102 := GE102; have Z15 := bz2_ BK102)); go_roundg k1
         case measure => have := HK1.out; omega
         case rel => exact ⟨((rd_T120 l0 x8_1).f1), (wrap64 (x8_1 + 1)), rf_, rf_, H', ⟨by have := HK1.out; omega⟩, ⟨hs_⟩⟩
     ·rw [if_neg c4] at H
      exact absurd H (by simp)
    ·rw [if_neg c3] at H
     exact absurd H (by simp)
   ·rw [if_neg c2] at H
    have c2b0 := decide_eq_false c2; clear c2; obtain rfl := Option.some.inj H; go_wp2; go_ret; exact ⟨re_, hs_⟩
theorem runs_Make.calls (A0 : Option Addr) (c0 : Nat) (l0 r : List S120) (w : World) (hr0 : Kd.C k120 w A0 l0.length l0) (hc0 : l0.length ≤ c0) (h : runs_Make.f l0 = some r) :
    Calls Tryz.prog 105 #[.slice A0 l0.length c0] w fun e w' => ∃ v0_ : Value, e = .returned (v0_) ∧ Kd.R k120 120 w' w.heap.size (fun _ => True) v0_ r ∧ Below w.heap.size w w' := by
  exact absurd h (by simp [runs_Make.f])
set_option maxHeartbeats 8000000 in
set_option maxRecDepth 100000 in
theorem sets_known.calls (k : Nat) (P0_ : Nat → Prop) (A0 : Option Addr) (c0 : Nat) (l0 r : List (S120)) (w : World) (hs0 : Kd.V k120 120 w w.heap.size (fun k_ => P0_ k_) (.slice A0 l0.length c0) l0) (h : sets_known.f k l0 = some r) :
  Calls Tryz.prog 100 #[.slice A0 l0.length c0] w fun e w' => ∃ v0_ : Value, e = .returned (v0_) ∧ Kd.V k120 120 w' w.heap.size (fun k_ => (P0_ k_ ∨ w.heap.size ≤ k_)) v0_ r ∧ Below w.heap.size w w' := by
 have HO0 := A_ (show Kd.V k120 120 w w.heap.size (fun k_ => (P0_ k_ ∨ w.heap.size ≤ k_)) (.slice A0 l0.length c0) l0 from Kd.V_mono hs0 (fun k_ hk => .inl hk)); have HB := A_ (Below.refl w.heap.size w); have H : ((runs_Sane.f k l0).bind fun t103 => (if t103 = true then (some l0) else ((runs_Make.f l0).bind fun t104 => (some t104)))) = some r := h; clear h; replace H := Option.bind_eq_some_iff.mp H; obtain ⟨t103, A20, H⟩ := H; replace H : (if t103 = true then (some l0) else ((runs_Make.f l0).bind fun t104 => (some t104))) = some r := H; have A2 := A_ A20; clear A20
 by_cases c3 : t103 = true
 ·subst c3
  replace H := iP_ H; obtain rfl := Option.some.inj H; go_enter Tryz.func100, Tryz.ntmps100; go_wp2_with (first | (refine gC 104 ?_; refine gL 4 Tryz.func104 #[.slice A0 l0.length c0] ?_; (with_reducible refine (runs_Sane.calls k _ _ l0 true _ ?side1 ?side2 A2.out).mono ?_); (case side1 => exact cr_ (Kd.V_reads' HO0.out).2.2); (case side2 => exact (Kd.V_reads' HO0.out).2.1); rintro e w4 ⟨rfl, hb⟩; refine ⟨_, rfl, ?_⟩; replace HO0 := bV_ HO0 hb; replace HB := bs_ hb; (try clear hb))); go_ret; exact ⟨_, by first | rfl | (simp [errW_none, errW_some] <;> rfl) | (simp [*, errW_none, errW_some] <;> rfl), fxV_ HO0.out, hs_⟩
 ·replace c3 := Bool.eq_false_iff.mpr c3
  subst c3; replace H := iN_ H; replace H := Option.bind_eq_some_iff.mp H; obtain ⟨t104, A50, H⟩ := H; replace H : (some t104) = some r := H; have A5 := A_ A50; clear A50; obtain rfl := Option.some.inj H; go_enter Tryz.func100, Tryz.ntmps100; go_wp2_with (first | (refine gC 104 ?_; refine gL 4 Tryz.func104 #[.slice A0 l0.length c0] ?_; (with_reducible refine (runs_Sane.calls k _ _ l0 false _ ?side1 ?side2 A2.out).mono ?_); (case side1 => exact cr_ (Kd.V_reads' HO0.out).2.2); (case side2 => exact (Kd.V_reads' HO0.out).2.1); rintro e w6 ⟨rfl, hb⟩; refine ⟨_, rfl, ?_⟩; replace HO0 := bV_ HO0 hb; replace HB := bs_ hb; (try clear hb)) | (refine gC 105 ?_; refine gL 7 Tryz.func105 #[.slice A0 l0.length c0] ?_; (with_reducible refine (runs_Make.calls _ _ l0 t104 _ ?side1 ?side2 A5.out).mono ?_); (case side1 => exact cr_ (Kd.V_reads' HO0.out).2.2); (case side2 => exact (Kd.V_reads' HO0.out).2.1); rintro e w7 ⟨v105, rfl, ho0, hb⟩; refine ⟨_, rfl, ?_⟩; replace HO0 := A_ (Kd.V_elder' (hrV_ HO0.out) (Kd.R_base ho0) hb); have HO106 := A_ (Kd.R_lower (Kd.R_newM (M := fun k_ => (w.heap.size ≤ k_)) ho0 (below_size hs_) (fun k_ h_ => h_)) (below_size hs_)); replace HB := bs_ hb; (try clear hb); (try clear ho0))); go_ret; exact ⟨_, by first | rfl | (simp [errW_none, errW_some] <;> rfl) | (simp [*, errW_none, errW_some] <;> rfl), Kd.V_mono (Kd.R_V (by (with_reducible repeat (first | apply Kd.R_alloc | apply Kd.R_drewN | apply Kd.R_drew)); exact Kd.R_mono HO106.out (fun _ hk => hk.1))) (fun k_ hk => by first | exact ⟨(.inr (hk.1)), hk.2⟩ | exact (.inr (hk))), hs_⟩
def sets_Meet.T5 : Bool × List (List Nat × List Nat) := (true, [([], []), ([], []), ([0, 1], [0, 1]), ([2], [2]), ([3], [3]), ([], []), ([], []), ([5, 6], [5, 6]), ([7], [7]), ([8], [8]), ([4, 9], [4, 9]), ([], []), ([], []), ([11, 12], [11, 12]), ([13], [13]), ([14], [14]), ([], []), ([], []), ([16, 17], [16, 17]), ([18], [18]), ([19], [19]), ([15, 20], [15, 20]), ([10, 21], [10, 21]), ([], []), ([23, 22, 0, 1, 2, 3, 4, 5, 6, 7, 8, 9, 10, 11, 12, 13, 14, 15, 16, 17, 18, 19, 20, 21, 22, 23], [22, 23])])
def sets_Meet.B5 : List Nat := [0, 0, 3, 7, 15, 0, 0, 96, 224, 480, 1023, 0, 0, 6144, 14336, 30720, 0, 0, 196608, 458752, 983040, 2095104, 4194303, 0, 16777215]
theorem sets_Meet.tab5 : rtab .any (opsOf Tryz.f96 5) = sets_Meet.T5 := by kernel_rfl
theorem sets_Meet.bits5 : waitsOk sets_Meet.T5.2 sets_Meet.B5 = true := by kernel_rfl
def sets_Meet.T8 : Bool × List (List Nat × List Nat) := (true, [([], []), ([], []), ([0, 1], [0, 1]), ([2], [2]), ([3], [3]), ([], []), ([], []), ([5, 6], [5, 6]), ([7], [7]), ([8], [8]), ([4, 9], [4, 9])])
def sets_Meet.B8 : List Nat := [0, 0, 3, 7, 15, 0, 0, 96, 224, 480, 1023]
theorem sets_Meet.tab8 : rtab .any (opsOf Tryz.f96 8) = sets_Meet.T8 := by kernel_rfl
theorem sets_Meet.bits8 : waitsOk sets_Meet.T8.2 sets_Meet.B8 = true := by kernel_rfl
set_option maxHeartbeats 8000000 in
set_option maxRecDepth 100000 in
theorem sets_Meet.calls (k : Nat) (A0 : Option Addr) (c0 : Nat) (l0 : List (S120)) (A1 : Option Addr) (c1 : Nat) (l1 r : List (S120)) (w : World) (hr0 : Kd.C k120 w A0 l0.length l0) (hc0 : l0.length ≤ c0) (hr1 : Kd.C k120 w A1 l1.length l1) (hc1 : l1.length ≤ c1) (h : sets_Meet.f k l0 l1 = some r) :
  Calls Tryz.prog 96 #[.slice A0 l0.length c0, .slice A1 l1.length c1] w fun e w' => ∃ v0_ : Value, e = .returned (v0_) ∧ Kd.R k120 120 w' w.heap.size (fun _ => True) v0_ r ∧ Below w.heap.size w w' := by
 have hu120 := Tryz.underlying120; have HR0 := A_ hr0; have HC0 := A_ hc0; clear hr0 hc0; have HR1 := A_ hr1; have HC1 := A_ hc1; clear hr1 hc1; have HB := A_ (Below.refl w.heap.size w); have H : ((sets_known.f k l0).bind fun t107 => ((sets_known.f k l1).bind fun t110 => (sets_Meet.l0 k t107 t110 ([] : List (S120)) 0 0))) = some r := h; clear h; obtain ⟨t107, A3, H⟩ := bi_ H; obtain ⟨t110, A4, H⟩ := bi_ H; have H' := A_ H; clear H; go_enter Tryz.func96, Tryz.ntmps96; go_wp2_with (fail); (try go_step3); go_wp2_with (first | (refine gC 100 ?_; refine gL 10 Tryz.func100 #[.slice A0 l0.length c0] ?_; (with_reducible refine (sets_known.calls k (fun k_ => k_ < w.heap.size) _ _ l0 t107 _ ?side1 A3.out).mono ?_); (case side1 => exact Kd.V_mk HC0.out (Kd.F_below (Kd.C_F k120_heap HR0.out) hs_)); rintro e w5 ⟨v108, rfl, ho0, hb⟩; refine ⟨_, rfl, ?_⟩; have HO109 := A_ (Kd.V_lower (Kd.V_mono (ok' := fun k_ => True) ho0 (fun k_ hk_ => trivial)) (below_size hs_)); replace HB := bs_ hb; (try clear hb); (try clear ho0)) | (refine gC 100 ?_; refine gL 12 Tryz.func100 #[.slice A1 l1.length c1] ?_; (with_reducible refine (sets_known.calls k (fun k_ => k_ < w.heap.size) _ _ l1 t110 _ ?side1 A4.out).mono ?_); (case side1 => exact Kd.V_mk HC1.out (Kd.F_below (Kd.C_F k120_heap HR1.out) hs_)); rintro e w6 ⟨v111, rfl, ho0, hb⟩; refine ⟨_, rfl, ?_⟩; replace HO109 := bV_ HO109 hb; have HO112 := A_ (Kd.V_lower (Kd.V_mono (ok' := fun k_ => True) ho0 (fun k_ hk_ => trivial)) (below_size hs_)); replace HB := bs_ hb; (try clear hb); (try clear ho0))); (try (go_step3; try go_wp2_with (fail))); go_loopg [5, 6, 7] k (fun kq v5 v6 v7 w' => ∃ (x5_1 : List (S120)) (x6_1 : Int) (x7_1 : Int), v6 = .int .i64 x6_1 ∧ v7 = .int .i64 x7_1 ∧ Aside0 (sets_Meet.l0 kq t107 t110 x5_1 x6_1 x7_1 = some r) ∧ Aside0 (kq ≤ k) ∧ Aside0 (Kd.V k120 120 w' w.heap.size (fun k_ => nv_ k_ v5) v108 t107) ∧ Aside0 (Kd.V k120 120 w' w.heap.size (fun k_ => nv_ k_ v5) v111 t110) ∧ Aside0 (Kd.R k120 120 w' w.heap.size (fun _ => True) v5 x5_1) ∧ Aside0 (Below w.heap.size w w'))
 case atStart => exact ⟨(([] : List (S120))), (0), (0), rf_, rf_, H', ⟨Nat.le_refl _⟩, ⟨by (with_reducible repeat (first | apply Kd.V_alloc | apply Kd.V_drewN | apply Kd.V_drew)); exact Kd.V_mono HO109.out (fun _ hk => (by simp [Value.ownBlock]))⟩, ⟨by (with_reducible repeat (first | apply Kd.V_alloc | apply Kd.V_drewN | apply Kd.V_drew)); exact Kd.V_mono HO112.out (fun _ hk => (by simp [Value.ownBlock]))⟩, ⟨by first | exact Kd.R_nil _ _ _ _ _ | exact Kd.N_nil _ _ _ _ _ | exact Kd.V_nil _ _ _ _ _ | exact Kd.Q_nil _ _ _ _ _ | exact Kd.S_nil _ _ _ _ _⟩, ⟨hs_⟩⟩
 case round =>
  clear H'; (try clear c1); (try clear p2); (try clear p3); obtain ⟨x5_1, x6_1, x7_1, rfl, rfl, HA, HK1, HO_0, HO_1, HO_5, HB⟩ := hrel
  cases gk with
  | zero => exact absurd HA.out (by simp [sets_Meet.l0])
  | succ k1 =>
   have H := HA.out; clear HA; simp only [sets_Meet.l0] at H; have HC7 := A_ H; clear H; go_upto_region 4 with (fail); go_cut [22] (fun v22 wc => ∃ (kq : Nat) (x22_6 : Bool), v22 = .bool x22_6 ∧ Aside0 (sets_Meet.j1 kq t107 t110 x5_1 x6_1 x7_1 x22_6 = some r) ∧ Aside0 (kq ≤ k1) ∧ Aside0 (Kd.V k120 120 wc w.heap.size (fun k_ => nv_ k_ u5) v108 t107) ∧ Aside0 (Kd.V k120 120 wc w.heap.size (fun k_ => nv_ k_ u5) v111 t110) ∧ Aside0 (Kd.R k120 120 wc w.heap.size (fun _ => True) u5 x5_1) ∧ Aside0 (Below w.heap.size w wc))
   case first =>
    have H := HC7.out; clear HC7
    by_cases c8 : x6_1 < (t107.length : Int)
    ·rw [if_pos c8] at H
     have c8b0 := decide_eq_true c8; clear c8; (first | rw [c8b0] | (simp only [i64_w, i32_w]; rw [c8b0]) | skip); have H' := A_ H; clear H; obtain ⟨Ao9, co9, eo9⟩ := Kd.V_slice HO_0.out; subst eo9; obtain ⟨Ao10, co10, eo10⟩ := Kd.V_slice HO_1.out; subst eo10; go_wp2; go_meet
     case rel => exact ⟨_, (decide (x7_1 < (t110.length : Int))), rf_, H', ⟨by have := HK1.out; first | omega | exact Nat.le_refl _⟩, ⟨fxV_ HO_0.out⟩, ⟨fxV_ HO_1.out⟩, ⟨fxR_ HO_5.out⟩, ⟨hs_⟩⟩
    ·rw [if_neg c8] at H
     have c8b0 := decide_eq_false c8; clear c8; (first | rw [c8b0] | (simp only [i64_w, i32_w]; rw [c8b0]) | skip); have H' := A_ H; clear H; obtain ⟨Ao11, co11, eo11⟩ := Kd.V_slice HO_0.out; subst eo11; go_wp2; go_meet
     case rel => exact ⟨_, (false), rf_, H', ⟨by have := HK1.out; first | omega | exact Nat.le_refl _⟩, ⟨fxV_ HO_0.out⟩, ⟨fxV_ HO_1.out⟩, ⟨fxR_ HO_5.out⟩, ⟨hs_⟩⟩
   case rest =>
    clear HC7; (try clear c1); (try clear p2); (try clear p3); (try clear c8); (try clear c8b0); (try clear c9); (try clear p2); (try clear p3); obtain ⟨kq, x22_6, rfl, HA, HJ6, HO_0, HO_1, HO_5, HB⟩ := hcut
    cases kq with
    | zero => exact absurd HA.out (by simp [sets_Meet.j1])
    | succ kj6 =>
     have H := HA.out; clear HA; simp only [sets_Meet.j1] at H
     by_cases c12 : x22_6 = true
     ·subst c12
      replace H := iP_ H
      by_cases c13 : 0 ≤ x6_1
      ·rw [if_pos c13] at H
       have c13b0 := decide_eq_true c13; clear c13
       by_cases c14 : x6_1 < (t107.length : Int)
       ·rw [if_pos c14] at H
        have c14b0 := decide_eq_true c14; clear c14
        by_cases c15 : 0 ≤ x7_1
        ·rw [if_pos c15] at H
         have c15b0 := decide_eq_true c15; clear c15
         by_cases c16 : x7_1 < (t110.length : Int)
         ·rw [if_pos c16] at H
          have c16b0 := decide_eq_true c16; clear c16; obtain ⟨ji17, hji17⟩ : ∃ j_ : Int, (mx ((rd_T120 t107 x6_1).f0) ((rd_T120 t110 x7_1).f0)) = j_ := ⟨_, rfl⟩; (replace H : (if (ji17) ≤ (mn ((rd_T120 t107 x6_1).f1) ((rd_T120 t110 x7_1).f1)) then (if x5_1.length < 8796093022208 then ((some (x5_1 ++ [(⟨ji17, mn ((rd_T120 t107 x6_1).f1) ((rd_T120 t110 x7_1).f1)⟩ : S120)] : List (S120))).bind fun y118 => (if ((rd_T120 t107 x6_1).f1) < ((rd_T120 t110 x7_1).f1) then (sets_Meet.l0 kj6 t107 t110 y118 (wrap64 (x6_1 + 1)) x7_1) else (sets_Meet.l0 kj6 t107 t110 y118 x6_1 (wrap64 (x7_1 + 1))))) else (none)) else (if ((rd_T120 t107 x6_1).f1) < ((rd_T120 t110 x7_1).f1) then (sets_Meet.l0 kj6 t107 t110 x5_1 (wrap64 (x6_1 + 1)) x7_1) else (sets_Meet.l0 kj6 t107 t110 x5_1 x6_1 (wrap64 (x7_1 + 1))))) = some r := by first | (rw [hji17] at H; exact H) | (simp only [hji17] at H ⊢; exact H)); have hji17_ : (if ((rd_T120 t107 x6_1).f0) < ((rd_T120 t110 x7_1).f0) then ((rd_T120 t110 x7_1).f0) else ((rd_T120 t107 x6_1).f0)) = ji17 := hji17; obtain ⟨ji18, hji18⟩ : ∃ j_ : Int, (mn ((rd_T120 t107 x6_1).f1) ((rd_T120 t110 x7_1).f1)) = j_ := ⟨_, rfl⟩; (replace H : (if (ji17) ≤ (ji18) then (if x5_1.length < 8796093022208 then ((some (x5_1 ++ [(⟨ji17, ji18⟩ : S120)] : List (S120))).bind fun y118 => (if ((rd_T120 t107 x6_1).f1) < ((rd_T120 t110 x7_1).f1) then (sets_Meet.l0 kj6 t107 t110 y118 (wrap64 (x6_1 + 1)) x7_1) else (sets_Meet.l0 kj6 t107 t110 y118 x6_1 (wrap64 (x7_1 + 1))))) else (none)) else (if ((rd_T120 t107 x6_1).f1) < ((rd_T120 t110 x7_1).f1) then (sets_Meet.l0 kj6 t107 t110 x5_1 (wrap64 (x6_1 + 1)) x7_1) else (sets_Meet.l0 kj6 t107 t110 x5_1 x6_1 (wrap64 (x7_1 + 1))))) = some r := by first | (rw [hji18] at H; exact H) | (simp only [hji18] at H ⊢; exact H)); have hji18_ : (if ((rd_T120 t110 x7_1).f1) < ((rd_T120 t107 x6_1).f1) then ((rd_T120 t110 x7_1).f1) else ((rd_T120 t107 x6_1).f1)) = ji18 := hji18
          by_cases c19 : (ji17) ≤ (ji18)
          ·rw [if_pos c19] at H
           have c19b0 := decide_eq_true c19; clear c19
           by_cases c20 : x5_1.length < 8796093022208
           ·rw [if_pos c20] at H
            have LMc20 := A_ c20; clear c20; obtain ⟨y118, hy118⟩ : ∃ y_ : List (S120), y_ = (x5_1 ++ [(⟨ji17, ji18⟩ : S120)]) := ⟨_, rfl⟩; (replace H : (if ((rd_T120 t107 x6_1).f1) < ((rd_T120 t110 x7_1).f1) then (sets_Meet.l0 kj6 t107 t110 y118 (wrap64 (x6_1 + 1)) x7_1) else (sets_Meet.l0 kj6 t107 t110 y118 x6_1 (wrap64 (x7_1 + 1)))) = some r := hy_ hy118 H); have Ny118 := A_ hy118; clear hy118
            by_cases c21 : ((rd_T120 t107 x6_1).f1) < ((rd_T120 t110 x7_1).f1)
            ·rw [if_pos c21] at H
             have c21b0 := decide_eq_true c21; clear c21; have H' := A_ H; clear H; (try go_wp2); replace HO_0 := A_ (Kd.V_drew HO_0.out); replace HO_1 := A_ (Kd.V_drew HO_1.out); replace HO_5 := A_ (Kd.R_drew HO_5.out); replace HB := A_ (below_drew1 HB.out); obtain ⟨Ao23, co23, eo23⟩ := Kd.V_slice HO_0.out; (first | subst eo23 | (injection eo23 with f1_ f2_ f3_; have f4_ := f1_.symm; have f5_ := f3_.symm; clear f1_ f2_ f3_; subst f4_; subst f5_)); have p113 : 0 ≤ (x6_1 : Int) := od_; have q113 : x6_1 < (t107.length : Int) := od_; obtain ⟨ad113, e113, hx113_0, hx113_1⟩ := at_T120 (Kd.V_reads' HO_0.out).2.2 x6_1 p113 q113
             cases e113
             replace p113 := eq_true p113; replace q113 := eq_true q113; obtain ⟨Ao24, co24, eo24⟩ := Kd.V_slice HO_1.out; (first | subst eo24 | (injection eo24 with f1_ f2_ f3_; have f4_ := f1_.symm; have f5_ := f3_.symm; clear f1_ f2_ f3_; subst f4_; subst f5_)); have p114 : 0 ≤ (x7_1 : Int) := od_; have q114 : x7_1 < (t110.length : Int) := od_; obtain ⟨ad114, e114, hx114_0, hx114_1⟩ := at_T120 (Kd.V_reads' HO_1.out).2.2 x7_1 p114 q114
             cases e114
             replace p114 := eq_true p114; replace q114 := eq_true q114; have p115 : 0 ≤ (x6_1 : Int) := od_; have q115 : x6_1 < (t107.length : Int) := od_; obtain ⟨ad115, e115, hx115_0, hx115_1⟩ := at_T120 (Kd.V_reads' HO_0.out).2.2 x6_1 p115 q115; obtain rfl : ad113 = ad115 := (by injection e115); replace p115 := eq_true p115; replace q115 := eq_true q115; have p116 : 0 ≤ (x7_1 : Int) := od_; have q116 : x7_1 < (t110.length : Int) := od_; obtain ⟨ad116, e116, hx116_0, hx116_1⟩ := at_T120 (Kd.V_reads' HO_1.out).2.2 x7_1 p116 q116; obtain rfl : ad114 = ad116 := (by injection e116); replace p116 := eq_true p116; replace q116 := eq_true q116; refine start_ (n := 25) (S := fun w' => w'.cell? (ad113.add ((x6_1).toNat * 2)) = some (.int .i64 ((rd_T120 t107 x6_1).f0)) ∧ w'.cell? ⟨(ad113.add ((x6_1).toNat * 2)).block, (ad113.add ((x6_1).toNat * 2)).off + 1, none⟩ = some (.int .i64 ((rd_T120 t107 x6_1).f1)) ∧ w'.cell? (ad114.add ((x7_1).toNat * 2)) = some (.int .i64 ((rd_T120 t110 x7_1).f0)) ∧ w'.cell? ⟨(ad114.add ((x7_1).toNat * 2)).block, (ad114.add ((x7_1).toNat * 2)).off + 1, none⟩ = some (.int .i64 ((rd_T120 t110 x7_1).f1)) ∧ w'.cell? (ad113.add ((x6_1).toNat * 2)) = some (.int .i64 ((rd_T120 t107 x6_1).f0)) ∧ w'.cell? ⟨(ad113.add ((x6_1).toNat * 2)).block, (ad113.add ((x6_1).toNat * 2)).off + 1, none⟩ = some (.int .i64 ((rd_T120 t107 x6_1).f1)) ∧ w'.cell? (ad114.add ((x7_1).toNat * 2)) = some (.int .i64 ((rd_T120 t110 x7_1).f0)) ∧ w'.cell? ⟨(ad114.add ((x7_1).toNat * 2)).block, (ad114.add ((x7_1).toNat * 2)).off + 1, none⟩ = some (.int .i64 ((rd_T120 t110 x7_1).f1))) (ds := []) (ab 25 0) (by kernel_rfl) rfl rfl ⟨hx113_0, hx113_1, hx114_0, hx114_1, hx115_0, hx115_1, hx116_0, hx116_1⟩ (fun hHeld => ?_); refine with_tabW sets_Meet.tab5 sets_Meet.bits5 (fun HT_ HW_ => ?_); generalize wc.drew = w22 at HO_0 HO_1 HO_5 HB hx113_0 hx113_1 hx114_0 hx114_1 hx115_0 hx115_1 hx116_0 hx116_1 hHeld ⊢; refine pA 0 23 25 1 ?_; refine pA 1 24 25 3 ?_; refine pA 2 25 25 7 ?_; refine pA 3 26 25 15 ?_; refine pA 5 28 25 47 ?_; refine pA 6 29 25 111 ?_; refine pA 7 30 25 239 ?_; refine pA 8 31 25 495 ?_; refine pA 11 34 25 2543 ?_; refine pA 12 35 25 6639 ?_; refine pA 13 36 25 14831 ?_; refine pA 14 37 25 31215 ?_; refine pA 16 39 25 96751 ?_; refine pA 17 40 25 227823 ?_; refine pA 18 41 25 489967 ?_; refine pA 19 42 25 1014255 ?_; refine tB 4 27 25 1014271 ?_; refine tB 9 32 25 1014783 ?_; refine pA 10 33 25 1015807 ?_; refine tB 15 38 25 1048575 ?_; refine tB 20 43 25 2097151 ?_; refine pA 21 44 25 4194303 ?_; refine pA 22 45 25 8388607 ?_; refine oA 23 (some 8) 25 16777215 fun K hK => ?_; refine bxs_ 8 #[.int .i64 0, .int .i64 0] 120 ?_; intro gb117 hg w25 hbox hb; have NE0_ : ad113.block ≠ gb117 := (by have h_ := World.block_lt_of_cell? _ _ hHeld.1; rw [add_block] at h_; omega); have NE1_ : ad114.block ≠ gb117 := (by have h_ := World.block_lt_of_cell? _ _ hHeld.2.2.1; rw [add_block] at h_; omega); have HS0_ := (hb.cell (World.block_lt_of_cell? _ _ (hHeld.1))).trans (hHeld.1); have HS1_ := (hb.cell (World.block_lt_of_cell? _ _ (hHeld.2.1))).trans (hHeld.2.1); have HS2_ := (hb.cell (World.block_lt_of_cell? _ _ (hHeld.2.2.1))).trans (hHeld.2.2.1); have HS3_ := (hb.cell (World.block_lt_of_cell? _ _ (hHeld.2.2.2.1))).trans (hHeld.2.2.2.1); have HS4_ := (hb.cell (World.block_lt_of_cell? _ _ (hHeld.2.2.2.2.1))).trans (hHeld.2.2.2.2.1); have HS5_ := (hb.cell (World.block_lt_of_cell? _ _ (hHeld.2.2.2.2.2.1))).trans (hHeld.2.2.2.2.2.1)
             have HS6_ := (hb.cell (World.block_lt_of_cell? _ _ (hHeld.2.2.2.2.2.2.1))).trans (hHeld.2.2.2.2.2.2.1); have HS7_ := (hb.cell (World.block_lt_of_cell? _ _ (hHeld.2.2.2.2.2.2.2))).trans (hHeld.2.2.2.2.2.2.2); replace HO_0 := eV_ HO_0 hg hb; replace HO_1 := eV_ HO_1 hg hb; replace HO_5 := A_ (Kd.R_below (Kd.R_elderB (hrR_ HO_5.out) gb117 (Nat.le_of_eq hg.symm)) hb); have BK117 := A_ (hbox); have GW117 := gs_ w hg; have GE117 := gs_ w hg; replace HB := bs_ hb; clear hb hbox hg; refine hK.out _ _ ⟨HS0_, HS1_, HS2_, HS3_, HS4_, HS5_, HS6_, HS7_⟩ (fun hHeld => ?_); clear hK K; refine nA ?_; refine oA 24 none 25 33554431 fun K hK => ?_; have hs26 : w25.cell? ⟨gb117, 0, none⟩ = some (.int .i64 0) := bq_ BK117 0; have hfs26 := blk_frozen BK117.out 0; have hs27 : w25.cell? ⟨gb117, 1, none⟩ = some (.int .i64 0) := bq_ BK117 1; have hfs27 := blk_frozen BK117.out 1; refine sA ?_; refine hK.out _ _ ⟨((cell_far (p := ⟨gb117, _, none⟩) (ne_ NE0_) _).trans (((cell_far (p := ⟨gb117, _, none⟩) (ne_ NE0_) _).trans (hHeld.1)))), ((cell_far (p := ⟨gb117, _, none⟩) (ne_ NE0_) _).trans (((cell_far (p := ⟨gb117, _, none⟩) (ne_ NE0_) _).trans (hHeld.2.1)))), ((cell_far (p := ⟨gb117, _, none⟩) (ne_ NE1_) _).trans (((cell_far (p := ⟨gb117, _, none⟩) (ne_ NE1_) _).trans (hHeld.2.2.1)))), ((cell_far (p := ⟨gb117, _, none⟩) (ne_ NE1_) _).trans (((cell_far (p := ⟨gb117, _, none⟩) (ne_ NE1_) _).trans (hHeld.2.2.2.1)))), ((cell_far (p := ⟨gb117, _, none⟩) (ne_ NE0_) _).trans (((cell_far (p := ⟨gb117, _, none⟩) (ne_ NE0_) _).trans (hHeld.2.2.2.2.1)))), ((cell_far (p := ⟨gb117, _, none⟩) (ne_ NE0_) _).trans (((cell_far (p := ⟨gb117, _, none⟩) (ne_ NE0_) _).trans (hHeld.2.2.2.2.2.1)))), ((cell_far (p := ⟨gb117, _, none⟩) (ne_ NE1_) _).trans (((cell_far (p := ⟨gb117, _, none⟩) (ne_ NE1_) _).trans (hHeld.2.2.2.2.2.2.1)))), ((cell_far (p := ⟨gb117, _, none⟩) (ne_ NE1_) _).trans (((cell_far (p := ⟨gb117, _, none⟩) (ne_ NE1_) _).trans (hHeld.2.2.2.2.2.2.2))))⟩ (fun hHeld => ?_)
             clear hK K; refine done_ (done_of HT_.out (by kernel_rfl)) ?_; have Z28 := bz2_ BK117; (try go_wp2_with (first | ((with_reducible refine gate_builtin (b := .append) (xs := #[.tmp 51, .tmp 53]) rfl ?_); (try (refine gate_guard (by rfl) ?_; dsimp only)); at_builtin; refine Kd.R_append k120 (w0 := w) w.heap.size rfl (.tmp 51) (.tmp 53) 116 120 (.agg #[(.int .i64 0), (.int .i64 0)]) 16 rfl Tryz.underlying116 info120 rfl (by decide) (by omega) u5 x5_1 (⟨ji17, ji18⟩ : S120) [.int .i64 ji17, .int .i64 ji18] (fun k_ => k_ ≠ gb117) (fun _ => False) rfl (by first | (go_simp; done) | (go_simp; rfl)) ?aP (fun _ hk => hk.elim) ?aF ?aO ?aB ?aS ?aL ?_; (case aP => exact k120_mkM _ _ _ (⟨ji17, ji18⟩ : S120)); (case aB => exact hs_); (case aF => exact (fun k_ hk => fb_ BK117 k_ hk)); (case aO => exact (fpR_ HO_5.out)); (case aS => exact (below_size hs_)); (case aL => have := LMc20.out; omega); intro v119 w29 ho hb hg hat; rw [← Ny118.out] at ho; replace HO_0 := A_ (Kd.V_afterv (ok := (fun k_ => k_ ≠ gb117)) (fpV_ HO_0.out) hg hat); replace HO_1 := A_ (Kd.V_afterv (ok := (fun k_ => k_ ≠ gb117)) (fpV_ HO_1.out) hg hat); replace BK117 := A_ (blk_grown (g := gb117) (o := .cells #[.int .i64 ji17, .int .i64 ji18] 120 (0, 0)) (pb_ BK117.out) hg (Kd.R_away HO_5.out (fun _ hk => hk.2))); replace HB := A_ (hb); have HO120 := A_ (ho); clear HO_5; clear ho hb hg hat)))
             replace HO_0 := A_ (Kd.V_drew HO_0.out); replace HO_1 := A_ (Kd.V_drew HO_1.out); replace HO120 := A_ (Kd.R_drew HO120.out); replace BK117 := A_ (blk_drew BK117.out); replace HB := A_ (below_drew1 HB.out); have p121 : 0 ≤ (x6_1 : Int) := od_; have q121 : x6_1 < (t107.length : Int) := od_; obtain ⟨ad121, e121, hx121_0, hx121_1⟩ := at_T120 (Kd.V_reads' HO_0.out).2.2 x6_1 p121 q121; obtain rfl : ad113 = ad121 := (by injection e121); replace p121 := eq_true p121; replace q121 := eq_true q121; have p122 : 0 ≤ (x7_1 : Int) := od_; have q122 : x7_1 < (t110.length : Int) := od_; obtain ⟨ad122, e122, hx122_0, hx122_1⟩ := at_T120 (Kd.V_reads' HO_1.out).2.2 x7_1 p122 q122; obtain rfl : ad114 = ad122 := (by injection e122); replace p122 := eq_true p122; replace q122 := eq_true q122; refine start_ (n := 11) (S := fun w' => w'.cell? (ad113.add ((x6_1).toNat * 2)) = some (.int .i64 ((rd_T120 t107 x6_1).f0)) ∧ w'.cell? ⟨(ad113.add ((x6_1).toNat * 2)).block, (ad113.add ((x6_1).toNat * 2)).off + 1, none⟩ = some (.int .i64 ((rd_T120 t107 x6_1).f1)) ∧ w'.cell? (ad114.add ((x7_1).toNat * 2)) = some (.int .i64 ((rd_T120 t110 x7_1).f0)) ∧ w'.cell? ⟨(ad114.add ((x7_1).toNat * 2)).block, (ad114.add ((x7_1).toNat * 2)).off + 1, none⟩ = some (.int .i64 ((rd_T120 t110 x7_1).f1))) (ds := []) (ab 11 0) (by kernel_rfl) rfl rfl ⟨hx121_0, hx121_1, hx122_0, hx122_1⟩ (fun hHeld => ?_); refine with_tabW sets_Meet.tab8 sets_Meet.bits8 (fun HT_ HW_ => ?_); generalize w29.drew = w30 at HO_0 HO_1 HO120 BK117 HB hx121_0 hx121_1 hx122_0 hx122_1 hHeld ⊢; refine pA 0 55 11 1 ?_; refine pA 1 56 11 3 ?_; refine pA 2 57 11 7 ?_; refine pA 3 58 11 15 ?_; refine pA 5 60 11 47 ?_; refine pA 6 61 11 111 ?_; refine pA 7 62 11 239 ?_; refine pA 8 63 11 495 ?_; refine tB 4 59 11 511 ?_; refine tB 9 64 11 1023 ?_; refine pA 10 65 11 2047 ?_; refine done_ (done_of HT_.out (by kernel_rfl)) ?_; (try go_wp2); go_roundg kj6
             case measure => have := HK1.out; have := HJ6.out; omega
             case rel => exact ⟨(y118), (wrap64 (x6_1 + 1)), (x7_1), rf_, rf_, H', ⟨by have := HK1.out; have := HJ6.out; omega⟩, ⟨by (with_reducible repeat (first | apply Kd.V_alloc | apply Kd.V_drewN | apply Kd.V_drew)); exact Kd.V_mono HO_0.out (fun _ hk => hk.2)⟩, ⟨by (with_reducible repeat (first | apply Kd.V_alloc | apply Kd.V_drewN | apply Kd.V_drew)); exact Kd.V_mono HO_1.out (fun _ hk => hk.2)⟩, ⟨by (with_reducible repeat (first | apply Kd.R_alloc | apply Kd.R_drewN | apply Kd.R_drew)); exact Kd.R_mono HO120.out (fun _ hk => trivial)⟩, ⟨hs_⟩⟩
            ·rw [if_neg c21] at H
             have c21b0 := decide_eq_false c21; clear c21; have H' := A_ H; clear H; (try go_wp2); replace HO_0 := A_ (Kd.V_drew HO_0.out); replace HO_1 := A_ (Kd.V_drew HO_1.out); replace HO_5 := A_ (Kd.R_drew HO_5.out); replace HB := A_ (below_drew1 HB.out); obtain ⟨Ao32, co32, eo32⟩ := Kd.V_slice HO_0.out; (first | subst eo32 | (injection eo32 with f1_ f2_ f3_; have f4_ := f1_.symm; have f5_ := f3_.symm; clear f1_ f2_ f3_; subst f4_; subst f5_)); have p113 : 0 ≤ (x6_1 : Int) := od_; have q113 : x6_1 < (t107.length : Int) := od_; obtain ⟨ad113, e113, hx113_0, hx113_1⟩ := at_T120 (Kd.V_reads' HO_0.out).2.2 x6_1 p113 q113
             cases e113
             replace p113 := eq_true p113; replace q113 := eq_true q113; obtain ⟨Ao33, co33, eo33⟩ := Kd.V_slice HO_1.out; (first | subst eo33 | (injection eo33 with f1_ f2_ f3_; have f4_ := f1_.symm; have f5_ := f3_.symm; clear f1_ f2_ f3_; subst f4_; subst f5_)); have p114 : 0 ≤ (x7_1 : Int) := od_; have q114 : x7_1 < (t110.length : Int) := od_; obtain ⟨ad114, e114, hx114_0, hx114_1⟩ := at_T120 (Kd.V_reads' HO_1.out).2.2 x7_1 p114 q114
             cases e114
             replace p114 := eq_true p114; replace q114 := eq_true q114; have p115 : 0 ≤ (x6_1 : Int) := od_; have q115 : x6_1 < (t107.length : Int) := od_; obtain ⟨ad115, e115, hx115_0, hx115_1⟩ := at_T120 (Kd.V_reads' HO_0.out).2.2 x6_1 p115 q115; obtain rfl : ad113 = ad115 := (by injection e115); replace p115 := eq_true p115; replace q115 := eq_true q115; have p116 : 0 ≤ (x7_1 : Int) := od_; have q116 : x7_1 < (t110.length : Int) := od_; obtain ⟨ad116, e116, hx116_0, hx116_1⟩ := at_T120 (Kd.V_reads' HO_1.out).2.2 x7_1 p116 q116; obtain rfl : ad114 = ad116 := (by injection e116); replace p116 := eq_true p116; replace q116 := eq_true q116; refine start_ (n := 25) (S := fun w' => w'.cell? (ad113.add ((x6_1).toNat * 2)) = some (.int .i64 ((rd_T120 t107 x6_1).f0)) ∧ w'.cell? ⟨(ad113.add ((x6_1).toNat * 2)).block, (ad113.add ((x6_1).toNat * 2)).off + 1, none⟩ = some (.int .i64 ((rd_T120 t107 x6_1).f1)) ∧ w'.cell? (ad114.add ((x7_1).toNat * 2)) = some (.int .i64 ((rd_T120 t110 x7_1).f0)) ∧ w'.cell? ⟨(ad114.add ((x7_1).toNat * 2)).block, (ad114.add ((x7_1).toNat * 2)).off + 1, none⟩ = some (.int .i64 ((rd_T120 t110 x7_1).f1)) ∧ w'.cell? (ad113.add ((x6_1).toNat * 2)) = some (.int .i64 ((rd_T120 t107 x6_1).f0)) ∧ w'.cell? ⟨(ad113.add ((x6_1).toNat * 2)).block, (ad113.add ((x6_1).toNat * 2)).off + 1, none⟩ = some (.int .i64 ((rd_T120 t107 x6_1).f1)) ∧ w'.cell? (ad114.add ((x7_1).toNat * 2)) = some (.int .i64 ((rd_T120 t110 x7_1).f0)) ∧ w'.cell? ⟨(ad114.add ((x7_1).toNat * 2)).block, (ad114.add ((x7_1).toNat * 2)).off + 1, none⟩ = some (.int .i64 ((rd_T120 t110 x7_1).f1))) (ds := []) (ab 25 0) (by kernel_rfl) rfl rfl ⟨hx113_0, hx113_1, hx114_0, hx114_1, hx115_0, hx115_1, hx116_0, hx116_1⟩ (fun hHeld => ?_); refine with_tabW sets_Meet.tab5 sets_Meet.bits5 (fun HT_ HW_ => ?_); generalize wc.drew = w31 at HO_0 HO_1 HO_5 HB hx113_0 hx113_1 hx114_0 hx114_1 hx115_0 hx115_1 hx116_0 hx116_1 hHeld ⊢; refine pA 0 23 25 1 ?_; refine pA 1 24 25 3 ?_; refine pA 2 25 25 7 ?_; refine pA 3 26 25 15 ?_; refine pA 5 28 25 47 ?_; refine pA 6 29 25 111 ?_; refine pA 7 30 25 239 ?_; refine pA 8 31 25 495 ?_; refine pA 11 34 25 2543 ?_; refine pA 12 35 25 6639 ?_; refine pA 13 36 25 14831 ?_; refine pA 14 37 25 31215 ?_; refine pA 16 39 25 96751 ?_; refine pA 17 40 25 227823 ?_; refine pA 18 41 25 489967 ?_; refine pA 19 42 25 1014255 ?_; refine tB 4 27 25 1014271 ?_; refine tB 9 32 25 1014783 ?_; refine pA 10 33 25 1015807 ?_; refine tB 15 38 25 1048575 ?_; refine tB 20 43 25 2097151 ?_; refine pA 21 44 25 4194303 ?_; refine pA 22 45 25 8388607 ?_; refine oA 23 (some 8) 25 16777215 fun K hK => ?_; refine bxs_ 8 #[.int .i64 0, .int .i64 0] 120 ?_; intro gb117 hg w34 hbox hb; have NE0_ : ad113.block ≠ gb117 := (by have h_ := World.block_lt_of_cell? _ _ hHeld.1; rw [add_block] at h_; omega); have NE1_ : ad114.block ≠ gb117 := (by have h_ := World.block_lt_of_cell? _ _ hHeld.2.2.1; rw [add_block] at h_; omega); have HS0_ := (hb.cell (World.block_lt_of_cell? _ _ (hHeld.1))).trans (hHeld.1); have HS1_ := (hb.cell (World.block_lt_of_cell? _ _ (hHeld.2.1))).trans (hHeld.2.1); have HS2_ := (hb.cell (World.block_lt_of_cell? _ _ (hHeld.2.2.1))).trans (hHeld.2.2.1); have HS3_ := (hb.cell (World.block_lt_of_cell? _ _ (hHeld.2.2.2.1))).trans (hHeld.2.2.2.1); have HS4_ := (hb.cell (World.block_lt_of_cell? _ _ (hHeld.2.2.2.2.1))).trans (hHeld.2.2.2.2.1); have HS5_ := (hb.cell (World.block_lt_of_cell? _ _ (hHeld.2.2.2.2.2.1))).trans (hHeld.2.2.2.2.2.1)
             have HS6_ := (hb.cell (World.block_lt_of_cell? _ _ (hHeld.2.2.2.2.2.2.1))).trans (hHeld.2.2.2.2.2.2.1); have HS7_ := (hb.cell (World.block_lt_of_cell? _ _ (hHeld.2.2.2.2.2.2.2))).trans (hHeld.2.2.2.2.2.2.2); replace HO_0 := eV_ HO_0 hg hb; replace HO_1 := eV_ HO_1 hg hb; replace HO_5 := A_ (Kd.R_below (Kd.R_elderB (hrR_ HO_5.out) gb117 (Nat.le_of_eq hg.symm)) hb); have BK117 := A_ (hbox); have GW117 := gs_ w hg; have GE117 := gs_ w hg; replace HB := bs_ hb; clear hb hbox hg; refine hK.out _ _ ⟨HS0_, HS1_, HS2_, HS3_, HS4_, HS5_, HS6_, HS7_⟩ (fun hHeld => ?_); clear hK K; refine nA ?_; refine oA 24 none 25 33554431 fun K hK => ?_; have hs35 : w34.cell? ⟨gb117, 0, none⟩ = some (.int .i64 0) := bq_ BK117 0; have hfs35 := blk_frozen BK117.out 0; have hs36 : w34.cell? ⟨gb117, 1, none⟩ = some (.int .i64 0) := bq_ BK117 1; have hfs36 := blk_frozen BK117.out 1; refine sA ?_; refine hK.out _ _ ⟨((cell_far (p := ⟨gb117, _, none⟩) (ne_ NE0_) _).trans (((cell_far (p := ⟨gb117, _, none⟩) (ne_ NE0_) _).trans (hHeld.1)))), ((cell_far (p := ⟨gb117, _, none⟩) (ne_ NE0_) _).trans (((cell_far (p := ⟨gb117, _, none⟩) (ne_ NE0_) _).trans (hHeld.2.1)))), ((cell_far (p := ⟨gb117, _, none⟩) (ne_ NE1_) _).trans (((cell_far (p := ⟨gb117, _, none⟩) (ne_ NE1_) _).trans (hHeld.2.2.1)))), ((cell_far (p := ⟨gb117, _, none⟩) (ne_ NE1_) _).trans (((cell_far (p := ⟨gb117, _, none⟩) (ne_ NE1_) _).trans (hHeld.2.2.2.1)))), ((cell_far (p := ⟨gb117, _, none⟩) (ne_ NE0_) _).trans (((cell_far (p := ⟨gb117, _, none⟩) (ne_ NE0_) _).trans (hHeld.2.2.2.2.1)))), ((cell_far (p := ⟨gb117, _, none⟩) (ne_ NE0_) _).trans (((cell_far (p := ⟨gb117, _, none⟩) (ne_ NE0_) _).trans (hHeld.2.2.2.2.2.1)))), ((cell_far (p := ⟨gb117, _, none⟩) (ne_ NE1_) _).trans (((cell_far (p := ⟨gb117, _, none⟩) (ne_ NE1_) _).trans (hHeld.2.2.2.2.2.2.1)))), ((cell_far (p := ⟨gb117, _, none⟩) (ne_ NE1_) _).trans (((cell_far (p := ⟨gb117, _, none⟩) (ne_ NE1_) _).trans (hHeld.2.2.2.2.2.2.2))))⟩ (fun hHeld => ?_)
             clear hK K; refine done_ (done_of HT_.out (by kernel_rfl)) ?_; have Z37 := bz2_ BK117; (try go_wp2_with (first | ((with_reducible refine gate_builtin (b := .append) (xs := #[.tmp 51, .tmp 53]) rfl ?_); (try (refine gate_guard (by rfl) ?_; dsimp only)); at_builtin; refine Kd.R_append k120 (w0 := w) w.heap.size rfl (.tmp 51) (.tmp 53) 116 120 (.agg #[(.int .i64 0), (.int .i64 0)]) 16 rfl Tryz.underlying116 info120 rfl (by decide) (by omega) u5 x5_1 (⟨ji17, ji18⟩ : S120) [.int .i64 ji17, .int .i64 ji18] (fun k_ => k_ ≠ gb117) (fun _ => False) rfl (by first | (go_simp; done) | (go_simp; rfl)) ?aP (fun _ hk => hk.elim) ?aF ?aO ?aB ?aS ?aL ?_; (case aP => exact k120_mkM _ _ _ (⟨ji17, ji18⟩ : S120)); (case aB => exact hs_); (case aF => exact (fun k_ hk => fb_ BK117 k_ hk)); (case aO => exact (fpR_ HO_5.out)); (case aS => exact (below_size hs_)); (case aL => have := LMc20.out; omega); intro v119 w38 ho hb hg hat; rw [← Ny118.out] at ho; replace HO_0 := A_ (Kd.V_afterv (ok := (fun k_ => k_ ≠ gb117)) (fpV_ HO_0.out) hg hat); replace HO_1 := A_ (Kd.V_afterv (ok := (fun k_ => k_ ≠ gb117)) (fpV_ HO_1.out) hg hat); replace BK117 := A_ (blk_grown (g := gb117) (o := .cells #[.int .i64 ji17, .int .i64 ji18] 120 (0, 0)) (pb_ BK117.out) hg (Kd.R_away HO_5.out (fun _ hk => hk.2))); replace HB := A_ (hb); have HO120 := A_ (ho); clear HO_5; clear ho hb hg hat)))
             replace HO_0 := A_ (Kd.V_drew HO_0.out); replace HO_1 := A_ (Kd.V_drew HO_1.out); replace HO120 := A_ (Kd.R_drew HO120.out); replace BK117 := A_ (blk_drew BK117.out); replace HB := A_ (below_drew1 HB.out); have p121 : 0 ≤ (x6_1 : Int) := od_; have q121 : x6_1 < (t107.length : Int) := od_; obtain ⟨ad121, e121, hx121_0, hx121_1⟩ := at_T120 (Kd.V_reads' HO_0.out).2.2 x6_1 p121 q121; obtain rfl : ad113 = ad121 := (by injection e121); replace p121 := eq_true p121; replace q121 := eq_true q121; have p122 : 0 ≤ (x7_1 : Int) := od_; have q122 : x7_1 < (t110.length : Int) := od_; obtain ⟨ad122, e122, hx122_0, hx122_1⟩ := at_T120 (Kd.V_reads' HO_1.out).2.2 x7_1 p122 q122; obtain rfl : ad114 = ad122 := (by injection e122); replace p122 := eq_true p122; replace q122 := eq_true q122; refine start_ (n := 11) (S := fun w' => w'.cell? (ad113.add ((x6_1).toNat * 2)) = some (.int .i64 ((rd_T120 t107 x6_1).f0)) ∧ w'.cell? ⟨(ad113.add ((x6_1).toNat * 2)).block, (ad113.add ((x6_1).toNat * 2)).off + 1, none⟩ = some (.int .i64 ((rd_T120 t107 x6_1).f1)) ∧ w'.cell? (ad114.add ((x7_1).toNat * 2)) = some (.int .i64 ((rd_T120 t110 x7_1).f0)) ∧ w'.cell? ⟨(ad114.add ((x7_1).toNat * 2)).block, (ad114.add ((x7_1).toNat * 2)).off + 1, none⟩ = some (.int .i64 ((rd_T120 t110 x7_1).f1))) (ds := []) (ab 11 0) (by kernel_rfl) rfl rfl ⟨hx121_0, hx121_1, hx122_0, hx122_1⟩ (fun hHeld => ?_); refine with_tabW sets_Meet.tab8 sets_Meet.bits8 (fun HT_ HW_ => ?_); generalize w38.drew = w39 at HO_0 HO_1 HO120 BK117 HB hx121_0 hx121_1 hx122_0 hx122_1 hHeld ⊢; refine pA 0 55 11 1 ?_; refine pA 1 56 11 3 ?_; refine pA 2 57 11 7 ?_; refine pA 3 58 11 15 ?_; refine pA 5 60 11 47 ?_; refine pA 6 61 11 111 ?_; refine pA 7 62 11 239 ?_; refine pA 8 63 11 495 ?_; refine tB 4 59 11 511 ?_; refine tB 9 64 11 1023 ?_; refine pA 10 65 11 2047 ?_; refine done_ (done_of HT_.out (by kernel_rfl)) ?_; (try go_wp2); go_roundg kj6
             case measure => have := HK1.out; have := HJ6.out; omega
             case rel => exact ⟨(y118), (x6_1), (wrap64 (x7_1 + 1)), rf_, rf_, H', ⟨by have := HK1.out; have := HJ6.out; omega⟩, ⟨by (with_reducible repeat (first | apply Kd.V_alloc | apply Kd.V_drewN | apply Kd.V_drew)); exact Kd.V_mono HO_0.out (fun _ hk => hk.2)⟩, ⟨by (with_reducible repeat (first | apply Kd.V_alloc | apply Kd.V_drewN | apply Kd.V_drew)); exact Kd.V_mono HO_1.out (fun _ hk => hk.2)⟩, ⟨by (with_reducible repeat (first | apply Kd.R_alloc | apply Kd.R_drewN | apply Kd.R_drew)); exact Kd.R_mono HO120.out (fun _ hk => trivial)⟩, ⟨hs_⟩⟩
           ·rw [if_neg c20] at H
            exact absurd H (by simp)
          ·rw [if_neg c19] at H
           have c19b0 := decide_eq_false c19; clear c19
           by_cases c40 : ((rd_T120 t107 x6_1).f1) < ((rd_T120 t110 x7_1).f1)
           ·rw [if_pos c40] at H
            have c40b0 := decide_eq_true c40; clear c40; have H' := A_ H; clear H; (try go_wp2); replace HO_0 := A_ (Kd.V_drew HO_0.out); replace HO_1 := A_ (Kd.V_drew HO_1.out); replace HO_5 := A_ (Kd.R_drew HO_5.out); replace HB := A_ (below_drew1 HB.out); obtain ⟨Ao42, co42, eo42⟩ := Kd.V_slice HO_0.out; (first | subst eo42 | (injection eo42 with f1_ f2_ f3_; have f4_ := f1_.symm; have f5_ := f3_.symm; clear f1_ f2_ f3_; subst f4_; subst f5_)); have p113 : 0 ≤ (x6_1 : Int) := od_; have q113 : x6_1 < (t107.length : Int) := od_; obtain ⟨ad113, e113, hx113_0, hx113_1⟩ := at_T120 (Kd.V_reads' HO_0.out).2.2 x6_1 p113 q113
            cases e113
            replace p113 := eq_true p113; replace q113 := eq_true q113; obtain ⟨Ao43, co43, eo43⟩ := Kd.V_slice HO_1.out; (first | subst eo43 | (injection eo43 with f1_ f2_ f3_; have f4_ := f1_.symm; have f5_ := f3_.symm; clear f1_ f2_ f3_; subst f4_; subst f5_)); have p114 : 0 ≤ (x7_1 : Int) := od_; have q114 : x7_1 < (t110.length : Int) := od_; obtain ⟨ad114, e114, hx114_0, hx114_1⟩ := at_T120 (Kd.V_reads' HO_1.out).2.2 x7_1 p114 q114
            cases e114
            replace p114 := eq_true p114; replace q114 := eq_true q114; have p115 : 0 ≤ (x6_1 : Int) := od_; have q115 : x6_1 < (t107.length : Int) := od_; obtain ⟨ad115, e115, hx115_0, hx115_1⟩ := at_T120 (Kd.V_reads' HO_0.out).2.2 x6_1 p115 q115; obtain rfl : ad113 = ad115 := (by injection e115); replace p115 := eq_true p115; replace q115 := eq_true q115; have p116 : 0 ≤ (x7_1 : Int) := od_; have q116 : x7_1 < (t110.length : Int) := od_; obtain ⟨ad116, e116, hx116_0, hx116_1⟩ := at_T120 (Kd.V_reads' HO_1.out).2.2 x7_1 p116 q116; obtain rfl : ad114 = ad116 := (by injection e116); replace p116 := eq_true p116; replace q116 := eq_true q116; refine start_ (n := 25) (S := fun w' => w'.cell? (ad113.add ((x6_1).toNat * 2)) = some (.int .i64 ((rd_T120 t107 x6_1).f0)) ∧ w'.cell? ⟨(ad113.add ((x6_1).toNat * 2)).block, (ad113.add ((x6_1).toNat * 2)).off + 1, none⟩ = some (.int .i64 ((rd_T120 t107 x6_1).f1)) ∧ w'.cell? (ad114.add ((x7_1).toNat * 2)) = some (.int .i64 ((rd_T120 t110 x7_1).f0)) ∧ w'.cell? ⟨(ad114.add ((x7_1).toNat * 2)).block, (ad114.add ((x7_1).toNat * 2)).off + 1, none⟩ = some (.int .i64 ((rd_T120 t110 x7_1).f1)) ∧ w'.cell? (ad113.add ((x6_1).toNat * 2)) = some (.int .i64 ((rd_T120 t107 x6_1).f0)) ∧ w'.cell? ⟨(ad113.add ((x6_1).toNat * 2)).block, (ad113.add ((x6_1).toNat * 2)).off + 1, none⟩ = some (.int .i64 ((rd_T120 t107 x6_1).f1)) ∧ w'.cell? (ad114.add ((x7_1).toNat * 2)) = some (.int .i64 ((rd_T120 t110 x7_1).f0)) ∧ w'.cell? ⟨(ad114.add ((x7_1).toNat * 2)).block, (ad114.add ((x7_1).toNat * 2)).off + 1, none⟩ = some (.int .i64 ((rd_T120 t110 x7_1).f1))) (ds := []) (ab 25 0) (by kernel_rfl) rfl rfl ⟨hx113_0, hx113_1, hx114_0, hx114_1, hx115_0, hx115_1, hx116_0, hx116_1⟩ (fun hHeld => ?_); refine with_tabW sets_Meet.tab5 sets_Meet.bits5 (fun HT_ HW_ => ?_); generalize wc.drew = w41 at HO_0 HO_1 HO_5 HB hx113_0 hx113_1 hx114_0 hx114_1 hx115_0 hx115_1 hx116_0 hx116_1 hHeld ⊢; refine pA 0 23 25 1 ?_; refine pA 1 24 25 3 ?_; refine pA 2 25 25 7 ?_; refine pA 3 26 25 15 ?_; refine pA 5 28 25 47 ?_; refine pA 6 29 25 111 ?_; refine pA 7 30 25 239 ?_; refine pA 8 31 25 495 ?_; refine pA 11 34 25 2543 ?_; refine pA 12 35 25 6639 ?_; refine pA 13 36 25 14831 ?_; refine pA 14 37 25 31215 ?_; refine pA 16 39 25 96751 ?_; refine pA 17 40 25 227823 ?_; refine pA 18 41 25 489967 ?_; refine pA 19 42 25 1014255 ?_; refine tB 4 27 25 1014271 ?_; refine tB 9 32 25 1014783 ?_; refine pA 10 33 25 1015807 ?_; refine tB 15 38 25 1048575 ?_; refine tB 20 43 25 2097151 ?_; refine pA 21 44 25 4194303 ?_; refine pA 22 45 25 8388607 ?_; refine oA 23 (some 8) 25 16777215 fun K hK => ?_; refine bxs_ 8 #[.int .i64 0, .int .i64 0] 120 ?_; intro gb117 hg w44 hbox hb; have NE0_ : ad113.block ≠ gb117 := (by have h_ := World.block_lt_of_cell? _ _ hHeld.1; rw [add_block] at h_; omega); have NE1_ : ad114.block ≠ gb117 := (by have h_ := World.block_lt_of_cell? _ _ hHeld.2.2.1; rw [add_block] at h_; omega); have HS0_ := (hb.cell (World.block_lt_of_cell? _ _ (hHeld.1))).trans (hHeld.1); have HS1_ := (hb.cell (World.block_lt_of_cell? _ _ (hHeld.2.1))).trans (hHeld.2.1); have HS2_ := (hb.cell (World.block_lt_of_cell? _ _ (hHeld.2.2.1))).trans (hHeld.2.2.1); have HS3_ := (hb.cell (World.block_lt_of_cell? _ _ (hHeld.2.2.2.1))).trans (hHeld.2.2.2.1); have HS4_ := (hb.cell (World.block_lt_of_cell? _ _ (hHeld.2.2.2.2.1))).trans (hHeld.2.2.2.2.1); have HS5_ := (hb.cell (World.block_lt_of_cell? _ _ (hHeld.2.2.2.2.2.1))).trans (hHeld.2.2.2.2.2.1)
            have HS6_ := (hb.cell (World.block_lt_of_cell? _ _ (hHeld.2.2.2.2.2.2.1))).trans (hHeld.2.2.2.2.2.2.1); have HS7_ := (hb.cell (World.block_lt_of_cell? _ _ (hHeld.2.2.2.2.2.2.2))).trans (hHeld.2.2.2.2.2.2.2); replace HO_0 := eV_ HO_0 hg hb; replace HO_1 := eV_ HO_1 hg hb; replace HO_5 := A_ (Kd.R_below (Kd.R_elderB (hrR_ HO_5.out) gb117 (Nat.le_of_eq hg.symm)) hb); have BK117 := A_ (hbox); have GW117 := gs_ w hg; have GE117 := gs_ w hg; replace HB := bs_ hb; clear hb hbox hg; refine hK.out _ _ ⟨HS0_, HS1_, HS2_, HS3_, HS4_, HS5_, HS6_, HS7_⟩ (fun hHeld => ?_); clear hK K; refine nA ?_; refine oA 24 none 25 33554431 fun K hK => ?_; have hs45 : w44.cell? ⟨gb117, 0, none⟩ = some (.int .i64 0) := bq_ BK117 0; have hfs45 := blk_frozen BK117.out 0; have hs46 : w44.cell? ⟨gb117, 1, none⟩ = some (.int .i64 0) := bq_ BK117 1; have hfs46 := blk_frozen BK117.out 1; refine sA ?_; refine hK.out _ _ ⟨((cell_far (p := ⟨gb117, _, none⟩) (ne_ NE0_) _).trans (((cell_far (p := ⟨gb117, _, none⟩) (ne_ NE0_) _).trans (hHeld.1)))), ((cell_far (p := ⟨gb117, _, none⟩) (ne_ NE0_) _).trans (((cell_far (p := ⟨gb117, _, none⟩) (ne_ NE0_) _).trans (hHeld.2.1)))), ((cell_far (p := ⟨gb117, _, none⟩) (ne_ NE1_) _).trans (((cell_far (p := ⟨gb117, _, none⟩) (ne_ NE1_) _).trans (hHeld.2.2.1)))), ((cell_far (p := ⟨gb117, _, none⟩) (ne_ NE1_) _).trans (((cell_far (p := ⟨gb117, _, none⟩) (ne_ NE1_) _).trans (hHeld.2.2.2.1)))), ((cell_far (p := ⟨gb117, _, none⟩) (ne_ NE0_) _).trans (((cell_far (p := ⟨gb117, _, none⟩) (ne_ NE0_) _).trans (hHeld.2.2.2.2.1)))), ((cell_far (p := ⟨gb117, _, none⟩) (ne_ NE0_) _).trans (((cell_far (p := ⟨gb117, _, none⟩) (ne_ NE0_) _).trans (hHeld.2.2.2.2.2.1)))), ((cell_far (p := ⟨gb117, _, none⟩) (ne_ NE1_) _).trans (((cell_far (p := ⟨gb117, _, none⟩) (ne_ NE1_) _).trans (hHeld.2.2.2.2.2.2.1)))), ((cell_far (p := ⟨gb117, _, none⟩) (ne_ NE1_) _).trans (((cell_far (p := ⟨gb117, _, none⟩) (ne_ NE1_) _).trans (hHeld.2.2.2.2.2.2.2))))⟩ (fun hHeld => ?_)
            clear hK K; refine done_ (done_of HT_.out (by kernel_rfl)) ?_; have Z47 := bz2_ BK117; (try go_wp2); have n0_ : Aside0 (Kd.V k120 120 ((w44.setCell ⟨gb117, 0, none⟩ (.int .i64 ji17)).setCell ⟨gb117, 1, none⟩ (.int .i64 ji18)) w.heap.size (fun k_ => nv_ k_ u5 ∧ k_ ≠ gb117) (.slice (some ad113) t107.length co42) t107) := ⟨fpV_ HO_0.out⟩; have n1_ : Aside0 (Kd.V k120 120 ((w44.setCell ⟨gb117, 0, none⟩ (.int .i64 ji17)).setCell ⟨gb117, 1, none⟩ (.int .i64 ji18)) w.heap.size (fun k_ => nv_ k_ u5 ∧ k_ ≠ gb117) (.slice (some ad114) t110.length co43) t110) := ⟨fpV_ HO_1.out⟩; have n2_ : Aside0 (Kd.R k120 120 ((w44.setCell ⟨gb117, 0, none⟩ (.int .i64 ji17)).setCell ⟨gb117, 1, none⟩ (.int .i64 ji18)) w.heap.size (fun k_ => k_ ≠ gb117) u5 x5_1) := ⟨fpR_ HO_5.out⟩; have n3_ : Aside0 (((w44.setCell ⟨gb117, 0, none⟩ (.int .i64 ji17)).setCell ⟨gb117, 1, none⟩ (.int .i64 ji18)).heap[gb117]? = some (.cells #[.int .i64 ji17, .int .i64 ji18] 120 (0, 0))) := ⟨pb_ BK117.out⟩; have n4_ : Aside0 (Below w.heap.size w ((w44.setCell ⟨gb117, 0, none⟩ (.int .i64 ji17)).setCell ⟨gb117, 1, none⟩ (.int .i64 ji18))) := ⟨hs_⟩; (try clear HO_0); (try clear HO_1); (try clear HO_5); (try clear BK117); (try clear HB); generalize ((w44.setCell ⟨gb117, 0, none⟩ (.int .i64 ji17)).setCell ⟨gb117, 1, none⟩ (.int .i64 ji18)) = w48 at n0_ n1_ n2_ n3_ n4_ ⊢; have HO_0 := n0_; have HO_1 := n1_; have HO_5 := n2_; have BK117 := n3_; have HB := n4_; clear n0_ n1_ n2_ n3_ n4_; replace HO_0 := A_ (Kd.V_drew HO_0.out); replace HO_1 := A_ (Kd.V_drew HO_1.out); replace HO_5 := A_ (Kd.R_drew HO_5.out); replace BK117 := A_ (blk_drew BK117.out); replace HB := A_ (below_drew1 HB.out); have p123 : 0 ≤ (x6_1 : Int) := od_; have q123 : x6_1 < (t107.length : Int) := od_; obtain ⟨ad123, e123, hx123_0, hx123_1⟩ := at_T120 (Kd.V_reads' HO_0.out).2.2 x6_1 p123 q123; obtain rfl : ad113 = ad123 := (by injection e123); replace p123 := eq_true p123; replace q123 := eq_true q123; have p124 : 0 ≤ (x7_1 : Int) := od_; have q124 : x7_1 < (t110.length : Int) := od_; obtain ⟨ad124, e124, hx124_0, hx124_1⟩ := at_T120 (Kd.V_reads' HO_1.out).2.2 x7_1 p124 q124
            obtain rfl : ad114 = ad124 := (by injection e124); replace p124 := eq_true p124; replace q124 := eq_true q124; refine start_ (n := 11) (S := fun w' => w'.cell? (ad113.add ((x6_1).toNat * 2)) = some (.int .i64 ((rd_T120 t107 x6_1).f0)) ∧ w'.cell? ⟨(ad113.add ((x6_1).toNat * 2)).block, (ad113.add ((x6_1).toNat * 2)).off + 1, none⟩ = some (.int .i64 ((rd_T120 t107 x6_1).f1)) ∧ w'.cell? (ad114.add ((x7_1).toNat * 2)) = some (.int .i64 ((rd_T120 t110 x7_1).f0)) ∧ w'.cell? ⟨(ad114.add ((x7_1).toNat * 2)).block, (ad114.add ((x7_1).toNat * 2)).off + 1, none⟩ = some (.int .i64 ((rd_T120 t110 x7_1).f1))) (ds := []) (ab 11 0) (by kernel_rfl) rfl rfl ⟨hx123_0, hx123_1, hx124_0, hx124_1⟩ (fun hHeld => ?_); refine with_tabW sets_Meet.tab8 sets_Meet.bits8 (fun HT_ HW_ => ?_); generalize w48.drew = w49 at HO_0 HO_1 HO_5 BK117 HB hx123_0 hx123_1 hx124_0 hx124_1 hHeld ⊢; refine pA 0 55 11 1 ?_; refine pA 1 56 11 3 ?_; refine pA 2 57 11 7 ?_; refine pA 3 58 11 15 ?_; refine pA 5 60 11 47 ?_; refine pA 6 61 11 111 ?_; refine pA 7 62 11 239 ?_; refine pA 8 63 11 495 ?_; refine tB 4 59 11 511 ?_; refine tB 9 64 11 1023 ?_; refine pA 10 65 11 2047 ?_; refine done_ (done_of HT_.out (by kernel_rfl)) ?_; (try go_wp2); go_roundg kj6
            case measure => have := HK1.out; have := HJ6.out; omega
            case rel => exact ⟨(x5_1), (wrap64 (x6_1 + 1)), (x7_1), rf_, rf_, H', ⟨by have := HK1.out; have := HJ6.out; omega⟩, ⟨by (with_reducible repeat (first | apply Kd.V_alloc | apply Kd.V_drewN | apply Kd.V_drew)); exact Kd.V_mono HO_0.out (fun _ hk => hk.1)⟩, ⟨by (with_reducible repeat (first | apply Kd.V_alloc | apply Kd.V_drewN | apply Kd.V_drew)); exact Kd.V_mono HO_1.out (fun _ hk => hk.1)⟩, ⟨by (with_reducible repeat (first | apply Kd.R_alloc | apply Kd.R_drewN | apply Kd.R_drew)); exact Kd.R_mono HO_5.out (fun _ hk => trivial)⟩, ⟨hs_⟩⟩
           ·rw [if_neg c40] at H
            have c40b0 := decide_eq_false c40; clear c40; have H' := A_ H; clear H; (try go_wp2); replace HO_0 := A_ (Kd.V_drew HO_0.out); replace HO_1 := A_ (Kd.V_drew HO_1.out); replace HO_5 := A_ (Kd.R_drew HO_5.out); replace HB := A_ (below_drew1 HB.out); obtain ⟨Ao51, co51, eo51⟩ := Kd.V_slice HO_0.out; (first | subst eo51 | (injection eo51 with f1_ f2_ f3_; have f4_ := f1_.symm; have f5_ := f3_.symm; clear f1_ f2_ f3_; subst f4_; subst f5_)); have p113 : 0 ≤ (x6_1 : Int) := od_; have q113 : x6_1 < (t107.length : Int) := od_; obtain ⟨ad113, e113, hx113_0, hx113_1⟩ := at_T120 (Kd.V_reads' HO_0.out).2.2 x6_1 p113 q113
            cases e113
            replace p113 := eq_true p113; replace q113 := eq_true q113; obtain ⟨Ao52, co52, eo52⟩ := Kd.V_slice HO_1.out; (first | subst eo52 | (injection eo52 with f1_ f2_ f3_; have f4_ := f1_.symm; have f5_ := f3_.symm; clear f1_ f2_ f3_; subst f4_; subst f5_)); have p114 : 0 ≤ (x7_1 : Int) := od_; have q114 : x7_1 < (t110.length : Int) := od_; obtain ⟨ad114, e114, hx114_0, hx114_1⟩ := at_T120 (Kd.V_reads' HO_1.out).2.2 x7_1 p114 q114
            cases e114
            replace p114 := eq_true p114; replace q114 := eq_true q114; have p115 : 0 ≤ (x6_1 : Int) := od_; have q115 : x6_1 < (t107.length : Int) := od_; obtain ⟨ad115, e115, hx115_0, hx115_1⟩ := at_T120 (Kd.V_reads' HO_0.out).2.2 x6_1 p115 q115; obtain rfl : ad113 = ad115 := (by injection e115); replace p115 := eq_true p115; replace q115 := eq_true q115; have p116 : 0 ≤ (x7_1 : Int) := od_; have q116 : x7_1 < (t110.length : Int) := od_; obtain ⟨ad116, e116, hx116_0, hx116_1⟩ := at_T120 (Kd.V_reads' HO_1.out).2.2 x7_1 p116 q116; obtain rfl : ad114 = ad116 := (by injection e116); replace p116 := eq_true p116; replace q116 := eq_true q116; refine start_ (n := 25) (S := fun w' => w'.cell? (ad113.add ((x6_1).toNat * 2)) = some (.int .i64 ((rd_T120 t107 x6_1).f0)) ∧ w'.cell? ⟨(ad113.add ((x6_1).toNat * 2)).block, (ad113.add ((x6_1).toNat * 2)).off + 1, none⟩ = some (.int .i64 ((rd_T120 t107 x6_1).f1)) ∧ w'.cell? (ad114.add ((x7_1).toNat * 2)) = some (.int .i64 ((rd_T120 t110 x7_1).f0)) ∧ w'.cell? ⟨(ad114.add ((x7_1).toNat * 2)).block, (ad114.add ((x7_1).toNat * 2)).off + 1, none⟩ = some (.int .i64 ((rd_T120 t110 x7_1).f1)) ∧ w'.cell? (ad113.add ((x6_1).toNat * 2)) = some (.int .i64 ((rd_T120 t107 x6_1).f0)) ∧ w'.cell? ⟨(ad113.add ((x6_1).toNat * 2)).block, (ad113.add ((x6_1).toNat * 2)).off + 1, none⟩ = some (.int .i64 ((rd_T120 t107 x6_1).f1)) ∧ w'.cell? (ad114.add ((x7_1).toNat * 2)) = some (.int .i64 ((rd_T120 t110 x7_1).f0)) ∧ w'.cell? ⟨(ad114.add ((x7_1).toNat * 2)).block, (ad114.add ((x7_1).toNat * 2)).off + 1, none⟩ = some (.int .i64 ((rd_T120 t110 x7_1).f1))) (ds := []) (ab 25 0) (by kernel_rfl) rfl rfl ⟨hx113_0, hx113_1, hx114_0, hx114_1, hx115_0, hx115_1, hx116_0, hx116_1⟩ (fun hHeld => ?_); refine with_tabW sets_Meet.tab5 sets_Meet.bits5 (fun HT_ HW_ => ?_); generalize wc.drew = w50 at HO_0 HO_1 HO_5 HB hx113_0 hx113_1 hx114_0 hx114_1 hx115_0 hx115_1 hx116_0 hx116_1 hHeld ⊢; refine pA 0 23 25 1 ?_; refine pA 1 24 25 3 ?_; refine pA 2 25 25 7 ?_; refine pA 3 26 25 15 ?_; refine pA 5 28 25 47 ?_; refine pA 6 29 25 111 ?_; refine pA 7 30 25 239 ?_; refine pA 8 31 25 495 ?_; refine pA 11 34 25 2543 ?_; refine pA 12 35 25 6639 ?_; refine pA 13 36 25 14831 ?_; refine pA 14 37 25 31215 ?_; refine pA 16 39 25 96751 ?_; refine pA 17 40 25 227823 ?_; refine pA 18 41 25 489967 ?_; refine pA 19 42 25 1014255 ?_; refine tB 4 27 25 1014271 ?_; refine tB 9 32 25 1014783 ?_; refine pA 10 33 25 1015807 ?_; refine tB 15 38 25 1048575 ?_; refine tB 20 43 25 2097151 ?_; refine pA 21 44 25 4194303 ?_; refine pA 22 45 25 8388607 ?_; refine oA 23 (some 8) 25 16777215 fun K hK => ?_; refine bxs_ 8 #[.int .i64 0, .int .i64 0] 120 ?_; intro gb117 hg w53 hbox hb; have NE0_ : ad113.block ≠ gb117 := (by have h_ := World.block_lt_of_cell? _ _ hHeld.1; rw [add_block] at h_; omega); have NE1_ : ad114.block ≠ gb117 := (by have h_ := World.block_lt_of_cell? _ _ hHeld.2.2.1; rw [add_block] at h_; omega); have HS0_ := (hb.cell (World.block_lt_of_cell? _ _ (hHeld.1))).trans (hHeld.1); have HS1_ := (hb.cell (World.block_lt_of_cell? _ _ (hHeld.2.1))).trans (hHeld.2.1); have HS2_ := (hb.cell (World.block_lt_of_cell? _ _ (hHeld.2.2.1))).trans (hHeld.2.2.1); have HS3_ := (hb.cell (World.block_lt_of_cell? _ _ (hHeld.2.2.2.1))).trans (hHeld.2.2.2.1); have HS4_ := (hb.cell (World.block_lt_of_cell? _ _ (hHeld.2.2.2.2.1))).trans (hHeld.2.2.2.2.1); have HS5_ := (hb.cell (World.block_lt_of_cell? _ _ (hHeld.2.2.2.2.2.1))).trans (hHeld.2.2.2.2.2.1)
            have HS6_ := (hb.cell (World.block_lt_of_cell? _ _ (hHeld.2.2.2.2.2.2.1))).trans (hHeld.2.2.2.2.2.2.1); have HS7_ := (hb.cell (World.block_lt_of_cell? _ _ (hHeld.2.2.2.2.2.2.2))).trans (hHeld.2.2.2.2.2.2.2); replace HO_0 := eV_ HO_0 hg hb; replace HO_1 := eV_ HO_1 hg hb; replace HO_5 := A_ (Kd.R_below (Kd.R_elderB (hrR_ HO_5.out) gb117 (Nat.le_of_eq hg.symm)) hb); have BK117 := A_ (hbox); have GW117 := gs_ w hg; have GE117 := gs_ w hg; replace HB := bs_ hb; clear hb hbox hg; refine hK.out _ _ ⟨HS0_, HS1_, HS2_, HS3_, HS4_, HS5_, HS6_, HS7_⟩ (fun hHeld => ?_); clear hK K; refine nA ?_; refine oA 24 none 25 33554431 fun K hK => ?_; have hs54 : w53.cell? ⟨gb117, 0, none⟩ = some (.int .i64 0) := bq_ BK117 0; have hfs54 := blk_frozen BK117.out 0; have hs55 : w53.cell? ⟨gb117, 1, none⟩ = some (.int .i64 0) := bq_ BK117 1; have hfs55 := blk_frozen BK117.out 1; refine sA ?_; refine hK.out _ _ ⟨((cell_far (p := ⟨gb117, _, none⟩) (ne_ NE0_) _).trans (((cell_far (p := ⟨gb117, _, none⟩) (ne_ NE0_) _).trans (hHeld.1)))), ((cell_far (p := ⟨gb117, _, none⟩) (ne_ NE0_) _).trans (((cell_far (p := ⟨gb117, _, none⟩) (ne_ NE0_) _).trans (hHeld.2.1)))), ((cell_far (p := ⟨gb117, _, none⟩) (ne_ NE1_) _).trans (((cell_far (p := ⟨gb117, _, none⟩) (ne_ NE1_) _).trans (hHeld.2.2.1)))), ((cell_far (p := ⟨gb117, _, none⟩) (ne_ NE1_) _).trans (((cell_far (p := ⟨gb117, _, none⟩) (ne_ NE1_) _).trans (hHeld.2.2.2.1)))), ((cell_far (p := ⟨gb117, _, none⟩) (ne_ NE0_) _).trans (((cell_far (p := ⟨gb117, _, none⟩) (ne_ NE0_) _).trans (hHeld.2.2.2.2.1)))), ((cell_far (p := ⟨gb117, _, none⟩) (ne_ NE0_) _).trans (((cell_far (p := ⟨gb117, _, none⟩) (ne_ NE0_) _).trans (hHeld.2.2.2.2.2.1)))), ((cell_far (p := ⟨gb117, _, none⟩) (ne_ NE1_) _).trans (((cell_far (p := ⟨gb117, _, none⟩) (ne_ NE1_) _).trans (hHeld.2.2.2.2.2.2.1)))), ((cell_far (p := ⟨gb117, _, none⟩) (ne_ NE1_) _).trans (((cell_far (p := ⟨gb117, _, none⟩) (ne_ NE1_) _).trans (hHeld.2.2.2.2.2.2.2))))⟩ (fun hHeld => ?_)
            clear hK K; refine done_ (done_of HT_.out (by kernel_rfl)) ?_; have Z56 := bz2_ BK117; (try go_wp2); have n0_ : Aside0 (Kd.V k120 120 ((w53.setCell ⟨gb117, 0, none⟩ (.int .i64 ji17)).setCell ⟨gb117, 1, none⟩ (.int .i64 ji18)) w.heap.size (fun k_ => nv_ k_ u5 ∧ k_ ≠ gb117) (.slice (some ad113) t107.length co51) t107) := ⟨fpV_ HO_0.out⟩; have n1_ : Aside0 (Kd.V k120 120 ((w53.setCell ⟨gb117, 0, none⟩ (.int .i64 ji17)).setCell ⟨gb117, 1, none⟩ (.int .i64 ji18)) w.heap.size (fun k_ => nv_ k_ u5 ∧ k_ ≠ gb117) (.slice (some ad114) t110.length co52) t110) := ⟨fpV_ HO_1.out⟩; have n2_ : Aside0 (Kd.R k120 120 ((w53.setCell ⟨gb117, 0, none⟩ (.int .i64 ji17)).setCell ⟨gb117, 1, none⟩ (.int .i64 ji18)) w.heap.size (fun k_ => k_ ≠ gb117) u5 x5_1) := ⟨fpR_ HO_5.out⟩; have n3_ : Aside0 (((w53.setCell ⟨gb117, 0, none⟩ (.int .i64 ji17)).setCell ⟨gb117, 1, none⟩ (.int .i64 ji18)).heap[gb117]? = some (.cells #[.int .i64 ji17, .int .i64 ji18] 120 (0, 0))) := ⟨pb_ BK117.out⟩; have n4_ : Aside0 (Below w.heap.size w ((w53.setCell ⟨gb117, 0, none⟩ (.int .i64 ji17)).setCell ⟨gb117, 1, none⟩ (.int .i64 ji18))) := ⟨hs_⟩; (try clear HO_0); (try clear HO_1); (try clear HO_5); (try clear BK117); (try clear HB); generalize ((w53.setCell ⟨gb117, 0, none⟩ (.int .i64 ji17)).setCell ⟨gb117, 1, none⟩ (.int .i64 ji18)) = w57 at n0_ n1_ n2_ n3_ n4_ ⊢; have HO_0 := n0_; have HO_1 := n1_; have HO_5 := n2_; have BK117 := n3_; have HB := n4_; clear n0_ n1_ n2_ n3_ n4_; replace HO_0 := A_ (Kd.V_drew HO_0.out); replace HO_1 := A_ (Kd.V_drew HO_1.out); replace HO_5 := A_ (Kd.R_drew HO_5.out); replace BK117 := A_ (blk_drew BK117.out); replace HB := A_ (below_drew1 HB.out); have p123 : 0 ≤ (x6_1 : Int) := od_; have q123 : x6_1 < (t107.length : Int) := od_; obtain ⟨ad123, e123, hx123_0, hx123_1⟩ := at_T120 (Kd.V_reads' HO_0.out).2.2 x6_1 p123 q123; obtain rfl : ad113 = ad123 := (by injection e123); replace p123 := eq_true p123; replace q123 := eq_true q123; have p124 : 0 ≤ (x7_1 : Int) := od_; have q124 : x7_1 < (t110.length : Int) := od_; obtain ⟨ad124, e124, hx124_0, hx124_1⟩ := at_T120 (Kd.V_reads' HO_1.out).2.2 x7_1 p124 q124
            obtain rfl : ad114 = ad124 := (by injection e124); replace p124 := eq_true p124; replace q124 := eq_true q124; refine start_ (n := 11) (S := fun w' => w'.cell? (ad113.add ((x6_1).toNat * 2)) = some (.int .i64 ((rd_T120 t107 x6_1).f0)) ∧ w'.cell? ⟨(ad113.add ((x6_1).toNat * 2)).block, (ad113.add ((x6_1).toNat * 2)).off + 1, none⟩ = some (.int .i64 ((rd_T120 t107 x6_1).f1)) ∧ w'.cell? (ad114.add ((x7_1).toNat * 2)) = some (.int .i64 ((rd_T120 t110 x7_1).f0)) ∧ w'.cell? ⟨(ad114.add ((x7_1).toNat * 2)).block, (ad114.add ((x7_1).toNat * 2)).off + 1, none⟩ = some (.int .i64 ((rd_T120 t110 x7_1).f1))) (ds := []) (ab 11 0) (by kernel_rfl) rfl rfl ⟨hx123_0, hx123_1, hx124_0, hx124_1⟩ (fun hHeld => ?_); refine with_tabW sets_Meet.tab8 sets_Meet.bits8 (fun HT_ HW_ => ?_); generalize w57.drew = w58 at HO_0 HO_1 HO_5 BK117 HB hx123_0 hx123_1 hx124_0 hx124_1 hHeld ⊢; refine pA 0 55 11 1 ?_; refine pA 1 56 11 3 ?_; refine pA 2 57 11 7 ?_; refine pA 3 58 11 15 ?_; refine pA 5 60 11 47 ?_; refine pA 6 61 11 111 ?_; refine pA 7 62 11 239 ?_; refine pA 8 63 11 495 ?_; refine tB 4 59 11 511 ?_; refine tB 9 64 11 1023 ?_; refine pA 10 65 11 2047 ?_; refine done_ (done_of HT_.out (by kernel_rfl)) ?_; (try go_wp2); go_roundg kj6
            case measure => have := HK1.out; have := HJ6.out; omega
            case rel => exact ⟨(x5_1), (x6_1), (wrap64 (x7_1 + 1)), rf_, rf_, H', ⟨by have := HK1.out; have := HJ6.out; omega⟩, ⟨by (with_reducible repeat (first | apply Kd.V_alloc | apply Kd.V_drewN | apply Kd.V_drew)); exact Kd.V_mono HO_0.out (fun _ hk => hk.1)⟩, ⟨by (with_reducible repeat (first | apply Kd.V_alloc | apply Kd.V_drewN | apply Kd.V_drew)); exact Kd.V_mono HO_1.out (fun _ hk => hk.1)⟩, ⟨by (with_reducible repeat (first | apply Kd.R_alloc | apply Kd.R_drewN | apply Kd.R_drew)); exact Kd.R_mono HO_5.out (fun _ hk => trivial)⟩, ⟨hs_⟩⟩
         ·rw [if_neg c16] at H
          exact absurd H (by simp)
        ·rw [if_neg c15] at H
         exact absurd H (by simp)
       ·rw [if_neg c14] at H
        exact absurd H (by simp)
      ·rw [if_neg c13] at H
       exact absurd H (by simp)
     ·replace c12 := Bool.eq_false_iff.mpr c12
      subst c12; replace H := iN_ H; obtain rfl := Option.some.inj H; go_wp2; (try rw [Exit.noGoto_ret]); go_ret; exact ⟨_, by first | rfl | (simp [errW_none, errW_some] <;> rfl) | (simp [*, errW_none, errW_some] <;> rfl), fxR_ HO_5.out, hs_⟩
end Go.Proofs.YtjgjhekpiijniaaGreat.A
namespace Go.Proofs.YtjgjhekpiijniaaGreat.A
open Go.RowKit Go.Proofs.YtjgjhekpiijniaaGreatW.PrintWords Go.Proofs.YtjgjhekpiijniaaGreatW.PrintLast Go.Proofs.YtjgjhekpiijniaaGreatW.PrintMore
attribute [local go_sem] max2_int min2_int max_two min_two max_three min_three max_four min_four
attribute [local go_sem high] eqA23
set_option maxHeartbeats 8000000 in
set_option maxRecDepth 100000 in
theorem sets_Clip.calls (k : Nat) (A0 : Option Addr) (c0 : Nat) (l0 : List (S120)) (a1 a2 : Int) (r : List (S120)) (w : World) (hr0 : Kd.C k120 w A0 l0.length l0) (hc0 : l0.length ≤ c0) (h : sets_Clip.f k l0 a1 a2 = some r) :
  Calls Tryz.prog 90 #[.slice A0 l0.length c0, .int .i64 a1, .int .i64 a2] w fun e w' => ∃ v0_ : Value, e = .returned (v0_) ∧ Kd.R k120 120 w' w.heap.size (fun _ => True) v0_ r ∧ Below w.heap.size w w' := by
 have hu120 := Tryz.underlying120; have HR0 := A_ hr0; have HC0 := A_ hc0; clear hr0 hc0; have HB := A_ (Below.refl w.heap.size w); have H : ((sets_Meet.f k l0 (([(⟨a1, a2⟩ : S120)] : List (S120)))).bind fun t128 => (some t128)) = some r := h; clear h; obtain ⟨y125, hy125⟩ : ∃ y_ : List (S120), y_ = (([(⟨a1, a2⟩ : S120)] : List (S120))) := ⟨_, rfl⟩; (replace H : ((sets_Meet.f k l0 y125).bind fun t128 => (some t128)) = some r := hy_ hy125 H); have Ny125 := A_ hy125; clear hy125; obtain ⟨t128, A4, H⟩ := bi_ H; obtain rfl := Option.some.inj H; go_enter Tryz.func90, Tryz.ntmps90; go_wp2_with (first | (refine gD 11 ?_; refine Kd.R_lit k120 _ 120 ?hg (N := 11) ?hd (xs := ([(⟨a1, a2⟩ : S120)] : List (S120))) (inner := [.int .i64 a1, .int .i64 a2]) (ok := fun _ => True) (okp := fun _ => True) ?hr ?hp (fun _ hk => hk) trivial (Below.refl _ _) (Nat.le_refl _) (by simp) ?_; (case hd => rfl); (case hg => rfl); (case hr => first | (go_simp; done) | (go_simp; rfl)); (case hp => exact (Reps.c2 (show Kd.M k120 _ _ _ (⟨a1, a2⟩ : S120) [.int .i64 a1, .int .i64 a2] from (k120_mkM _ _ _ (⟨a1, a2⟩ : S120) )) (Reps.none _ _))); intro v126 w5 ho6 hb hg_ hnew_; clear hg_ hnew_; (first | rw [← Ny125.out] at ho6 | (simp only [Int.reduceToNat] at ho6; rw [← Ny125.out] at ho6)); have HO127 := A_ (Kd.R_lower ho6 (below_size hs_)); replace HB := bs_ hb; clear hb ho6; obtain ⟨Ao7, co7, eo7⟩ := Kd.R_slice HO127.out; subst eo7) | (refine gC 96 ?_; refine gL 12 Tryz.func96 #[.slice A0 l0.length c0, .slice Ao7 y125.length co7] ?_; (with_reducible refine (sets_Meet.calls k _ _ l0 _ _ y125 t128 _ ?side1 ?side2 ?side3 ?side4 A4.out).mono ?_); (case side1 => exact cb_ HR0); (case side2 => exact HC0.out); (case side3 => exact cr_ (Kd.R_reads' HO127.out).2.2); (case side4 => exact (Kd.R_reads' HO127.out).2.1); rintro e w8 ⟨v129, rfl, ho0, hb⟩; refine ⟨_, rfl, ?_⟩; have HO130 := A_ (Kd.R_lower (Kd.R_new' ho0 (Kd.R_lt (hrR_ HO127.out))) (below_size hs_)); replace HO127 := A_ (Kd.R_elder' (hrR_ HO127.out) (Kd.R_base ho0) hb); replace HB := bs_ hb; (try clear hb); (try clear ho0))); go_ret; exact ⟨_, by first | rfl | (simp [errW_none, errW_some] <;> rfl) | (simp [*, errW_none, errW_some] <;> rfl), by (with_reducible repeat (first | apply Kd.R_alloc | apply Kd.R_drewN | apply Kd.R_drew)); exact Kd.R_mono HO130.out (fun _ hk => trivial), hs_⟩
end Go.Proofs.YtjgjhekpiijniaaGreat.A
namespace Go.Proofs.YtjgjhekpiijniaaGreat.A
open Go.RowKit Go.Proofs.YtjgjhekpiijniaaGreatW.PrintWords Go.Proofs.YtjgjhekpiijniaaGreatW.PrintLast Go.Proofs.YtjgjhekpiijniaaGreatW.PrintMore
attribute [local go_sem] max2_int min2_int max_two min_two max_three min_three max_four min_four
attribute [local go_sem high] eqA23
attribute [local go_sem] isSome_setCell
set_option maxHeartbeats 8000000 in
set_option maxRecDepth 100000 in
theorem point_numbers.calls (k : Nat) (a0 : ByteArray) (a1 : Int) (r : List Int) (w : World) (h : point_numbers.f k a0 a1 = some r) :
  Calls Tryz.prog 85 #[.string a0, .int .i64 a1] w fun e w' => ∃ v0_ : Value, e = .returned (v0_) ∧ Kd.R (Kd.int .i64) 3 w' w.heap.size (fun _ => True) v0_ r ∧ Below w.heap.size w w' := by
 have hu120 := Tryz.underlying120; have HB := A_ (Below.refl w.heap.size w); have H : ((mask_Set.f a0).bind fun t131 => ((sets_Clip.f k t131 1 a1).bind fun t134 => (point_numbers.l0 k ([] : List Int) t134 (t134.length : Int) 0))) = some r := h; clear h; obtain ⟨t131, A3, H⟩ := bi_ H; obtain ⟨t134, A4, H⟩ := bi_ H; have H' := A_ H; clear H; go_enter Tryz.func85, Tryz.ntmps85; go_wp2_with (first | (refine gC 91 ?_; refine gL 10 Tryz.func91 #[.string a0] ?_; (with_reducible refine (mask_Set.calls a0 t131 _ A3.out).mono ?_); rintro e w5 ⟨v132, rfl, ho0, hb⟩; refine ⟨_, rfl, ?_⟩; have HO133 := A_ (Kd.R_lower ho0 (below_size hs_)); replace HB := bs_ hb; (try clear hb); (try clear ho0); obtain ⟨Ao6, co6, eo6⟩ := Kd.R_slice HO133.out; subst eo6) | (refine gC 90 ?_; refine gL 12 Tryz.func90 #[.slice Ao6 t131.length co6, .int .i64 1, .int .i64 a1] ?_; (with_reducible refine (sets_Clip.calls k _ _ t131 1 a1 t134 _ ?side1 ?side2 A4.out).mono ?_); (case side1 => exact cr_ (Kd.R_reads' HO133.out).2.2); (case side2 => exact (Kd.R_reads' HO133.out).2.1); rintro e w7 ⟨v135, rfl, ho0, hb⟩; refine ⟨_, rfl, ?_⟩; have HO136 := A_ (Kd.R_lower (Kd.R_new' ho0 (Kd.R_lt (hrR_ HO133.out))) (below_size hs_)); replace HO133 := A_ (Kd.R_elder' (hrR_ HO133.out) (Kd.R_base ho0) hb); replace HB := bs_ hb; (try clear hb); (try clear ho0); obtain ⟨Ao8, co8, eo8⟩ := Kd.R_slice HO136.out; subst eo8)); go_loopg [5, 14] k (fun kq v5 v14 w' => ∃ (x5_1 : List Int) (x14_1 : Int), v14 = .int .i64 x14_1 ∧ Aside0 (point_numbers.l0 kq x5_1 t134 (t134.length : Int) x14_1 = some r) ∧ Aside0 (kq ≤ k) ∧ Aside0 (Kd.R (Kd.int .i64) 3 w' w.heap.size (fun _ => True) v5 x5_1) ∧ Aside0 (Kd.R k120 120 w' w.heap.size (fun _ => True) (.slice Ao8 t134.length co8) t134) ∧ Aside0 (Below w.heap.size w w'))
 case atStart => exact ⟨(([] : List Int)), (0), rf_, H', ⟨Nat.le_refl _⟩, ⟨by first | exact Kd.R_nil _ _ _ _ _ | exact Kd.N_nil _ _ _ _ _ | exact Kd.V_nil _ _ _ _ _ | exact Kd.Q_nil _ _ _ _ _ | exact Kd.S_nil _ _ _ _ _⟩, ⟨by (with_reducible repeat (first | apply Kd.R_alloc | apply Kd.R_drewN | apply Kd.R_drew)); exact Kd.R_mono HO136.out (fun _ hk => trivial)⟩, ⟨hs_⟩⟩
 case round =>
  clear H'; (try clear p2); (try clear c7); (try clear c8); obtain ⟨x5_1, x14_1, rfl, HA, HK1, HO_5, HO_12, HB⟩ := hrel
  cases gk with
  | zero => exact absurd HA.out (by simp [point_numbers.l0])
  | succ k1 =>
   have H := HA.out; clear HA; simp only [point_numbers.l0] at H
   by_cases c9 : x14_1 < (t134.length : Int)
   ·rw [if_pos c9] at H
    have c9b0 := decide_eq_true c9; clear c9
    by_cases c10 : 0 ≤ x14_1
    ·rw [if_pos c10] at H
     have c10b0 := decide_eq_true c10; clear c10
     by_cases c11 : x14_1 < (t134.length : Int)
     ·rw [if_pos c11] at H
      have c11b0 := decide_eq_true c11; clear c11; have H' := A_ H; clear H; have p137 : 0 ≤ (x14_1 : Int) := od_; have q137 : x14_1 < (t134.length : Int) := od_; obtain ⟨ad137, e137, hx137_0, hx137_1⟩ := at_T120 (Kd.R_reads' HO_12.out).2.2 x14_1 p137 q137
      cases e137
      replace p137 := eq_true p137; replace q137 := eq_true q137; go_wp2_with (first | (refine gD 7 ?_; refine bxe_ 7 #[.int .i64 0, .int .i64 0] 120 ?_; intro gb138 hg w12 hbox hb; replace HO_5 := A_ (Kd.R_below (hrR_ HO_5.out) hb); replace HO_12 := A_ (Kd.R_below (Kd.R_elderB (hrR_ HO_12.out) gb138 (Nat.le_of_eq hg.symm)) hb); have BK138 := A_ (hbox); have GW138 := gs_ w hg; have GE138 := gs_ w hg; replace HB := bs_ hb; clear hb hbox hg; have Z13 := bz2_ BK138)); go_loopg [5, 8] k1 (fun kq v5 v8 w' => ∃ (x5_2 : List Int) (x8_2 : Int), v8 = .int .i64 x8_2 ∧ Aside0 (point_numbers.l1 kq x5_2 x8_2 t134 (t134.length : Int) x14_1 ((rd_T120 t134 x14_1).f0) ((rd_T120 t134 x14_1).f1) = some r) ∧ Aside0 (kq ≤ k1) ∧ Aside0 (Kd.R (Kd.int .i64) 3 w' w.heap.size (fun _ => True) v5 x5_2) ∧ Aside0 (Kd.R k120 120 w' w.heap.size (fun k_ => k_ ≠ gb138) (.slice (some ad137) t134.length co8) t134) ∧ Aside0 (w'.heap[gb138]? = some (.cells #[.int .i64 ((rd_T120 t134 x14_1).f0), .int .i64 ((rd_T120 t134 x14_1).f1)] 120 (0, 0))) ∧ Aside0 (Below w.heap.size w w'))
      case atStart => exact ⟨(x5_1), ((rd_T120 t134 x14_1).f0), rf_, H', ⟨Nat.le_refl _⟩, ⟨by (with_reducible repeat (first | apply Kd.R_alloc | apply Kd.R_drewN | apply Kd.R_drew)); exact Kd.R_mono (Kd.R_far (p := ⟨gb138, 1, none⟩) (Kd.R_far (p := ⟨gb138, 0, none⟩) (Kd.R_types HO_5.out BK138.out (by decide)) (fun _ hk => hk.2) (.int .i64 ((rd_T120 t134 x14_1).f0))) (fun _ hk => hk.2) (.int .i64 ((rd_T120 t134 x14_1).f1))) (fun _ hk => trivial)⟩, ⟨fpR_ HO_12.out⟩, ⟨pb_ BK138.out⟩, ⟨hs_⟩⟩
      case round =>
       clear H'; (try clear c1); (try clear p1); (try clear q1); (try clear hx1); (try clear p2); (try clear c7); (try clear c8); (try clear c9); (try clear c9b0); (try clear c10); (try clear c10b0); (try clear c11); (try clear c11b0); (try clear p13); (try clear q13); (try clear hx13); (try clear Z13); (try clear hx137_0); (try clear hx137_1); (try clear p137); (try clear p2); (try clear q137); obtain ⟨x5_2, x8_2, rfl, HA, HK2, HO_5, HO_12, BK138, HB⟩ := hrel
       cases gk with
       | zero => exact absurd HA.out (by simp [point_numbers.l1])
       | succ k2 =>
        have H := HA.out; clear HA; simp only [point_numbers.l1] at H
        by_cases c14 : x8_2 ≤ ((rd_T120 t134 x14_1).f1)
        ·rw [if_pos c14] at H
         have c14b0 := decide_eq_true c14; clear c14
         by_cases c15 : x5_2.length < 17592186044416
         ·rw [if_pos c15] at H
          have LMc15 := A_ c15; clear c15; obtain ⟨y139, hy139⟩ : ∃ y_ : List Int, y_ = (x5_2 ++ [x8_2]) := ⟨_, rfl⟩; (replace H : (point_numbers.l1 k2 y139 (wrap64 (x8_2 + 1)) t134 (t134.length : Int) x14_1 ((rd_T120 t134 x14_1).f0) ((rd_T120 t134 x14_1).f1)) = some r := hy_ hy139 H); have Ny139 := A_ hy139; clear hy139; have H' := A_ H; clear H; have Z16 := bz2_ BK138; go_wp2_with (first | ((with_reducible refine gate_builtin (b := .append) (xs := #[.tmp 26, .tmp 28]) rfl ?_); at_builtin; refine Kd.R_append (Kd.int .i64) (w0 := w) w.heap.size rfl (.tmp 26) (.tmp 28) 103 3 (.int .i64 0) 8 rfl Tryz.underlying103 info3 rfl (by decide) (by omega) u5 x5_2 x8_2 [.int .i64 x8_2] (fun _ => True) (fun _ => False) rfl rfl ?aP (fun _ hk => hk.elim) ?aF ?aO ?aB ?aS ?aL ?_; (case aP => exact rfl); (case aB => exact hs_); (case aF => exact (fun _ _ => trivial)); (case aO => exact (hrR_ HO_5.out)); (case aS => exact (below_size hs_)); (case aL => have := LMc15.out; omega); intro v140 w17 ho hb hg hat; rw [← Ny139.out] at ho; replace HO_12 := A_ (Kd.R_over' (hrR_ HO_12.out) (Kd.R_typed (hrR_ HO_5.out)) (by decide) hg); replace BK138 := A_ (blk_grown (g := gb138) (o := .cells #[.int .i64 ((rd_T120 t134 x14_1).f0), .int .i64 ((rd_T120 t134 x14_1).f1)] 120 (0, 0)) (bl_ BK138.out) hg (Kd.R_ne HO_5.out BK138.out (by decide))); replace HB := A_ (hb); have HO141 := A_ (ho); clear HO_5; clear ho hb hg hat)); go_roundg k2
          case measure => have := HK1.out; have := HK2.out; omega
          case rel => exact ⟨(y139), (wrap64 (x8_2 + 1)), rf_, H', ⟨by have := HK1.out; have := HK2.out; omega⟩, ⟨fxR_ HO141.out⟩, ⟨fxR_ HO_12.out⟩, ⟨bl_ BK138.out⟩, ⟨hs_⟩⟩
         ·rw [if_neg c15] at H
          exact absurd H (by simp)
        ·rw [if_neg c14] at H
         have c14b0 := decide_eq_false c14; clear c14; have H' := A_ H; clear H; have Z18 := bz2_ BK138; go_wp2; go_roundg k2
         case measure => have := HK1.out; have := HK2.out; omega
         case rel => exact ⟨(x5_2), (wrap64 (x14_1 + 1)), rf_, H', ⟨by have := HK1.out; have := HK2.out; omega⟩, ⟨fxR_ HO_5.out⟩, ⟨by (with_reducible repeat (first | apply Kd.R_alloc | apply Kd.R_drewN | apply Kd.R_drew)); exact Kd.R_mono HO_12.out (fun _ hk => trivial)⟩, ⟨hs_⟩⟩
     ·rw [if_neg c11] at H
      exact absurd H (by simp)
    ·rw [if_neg c10] at H
     exact absurd H (by simp)
   ·rw [if_neg c9] at H
    have c9b0 := decide_eq_false c9; clear c9; obtain rfl := Option.some.inj H; go_wp2; go_ret; exact ⟨_, by first | rfl | (simp [errW_none, errW_some] <;> rfl) | (simp [*, errW_none, errW_some] <;> rfl), fxR_ HO_5.out, hs_⟩
set_option maxHeartbeats 8000000 in
set_option maxRecDepth 100000 in
theorem point_some.calls (k : Nat) (a0 : ByteArray) (a1 a2 : Int) (r : Bool) (w : World) (h : point_some.f k a0 a1 a2 = some r) :
  Calls Tryz.prog 76 #[.string a0, .int .i64 a1, .int .i64 a2] w fun e w' => e = .returned (.bool r) ∧ Below w.heap.size w w' := by
 have HB := A_ (Below.refl w.heap.size w); have H : (if (a0.size : Int) = a1 then ((point_numbers.f k a0 a2).bind fun t142 => (some (decide ((t142.length : Int) > 0)))) else (some false)) = some r := h; clear h
 by_cases c4 : (a0.size : Int) = a1
 ·rw [if_pos c4] at H
  have c4b0 : ((a0.size : Int) == a1) = true := beq_iff_eq.mpr c4; have c4b1 : ((a0.size : Int) != a1) = false := bne_eq_false_iff_eq.mpr c4; clear c4; obtain ⟨t142, A5, H⟩ := bi_ H; obtain rfl := Option.some.inj H; go_enter Tryz.func76, Tryz.ntmps76; go_wp2_with (first | (go_at_call 85; (with_reducible refine (point_numbers.calls k a0 a2 t142 _ A5.out).mono ?_); rintro e w6 ⟨v143, rfl, ho0, hb⟩; have HO144 := A_ (Kd.R_lower ho0 (below_size hs_)); replace HB := bs_ hb; (try clear hb); (try clear ho0); obtain ⟨Ao7, co7, eo7⟩ := Kd.R_slice HO144.out; subst eo7)); go_ret; exact ⟨re_, hs_⟩
 ·rw [if_neg c4] at H
  have c4b0 : ((a0.size : Int) == a1) = false := beq_eq_false_iff_ne.mpr c4; have c4b1 : ((a0.size : Int) != a1) = true := bne_iff_ne.mpr c4; obtain rfl := Option.some.inj H; go_enter Tryz.func76, Tryz.ntmps76; go_wp2; go_ret; exact ⟨re_, hs_⟩
set_option maxHeartbeats 8000000 in
set_option maxRecDepth 100000 in
theorem point_Sane.calls (k : Nat) (a0_0 : Int) (a0_1 a0_2 a0_3 : ByteArray) (r : Bool) (w : World) (h : point_Sane.f k a0_0 a0_1 a0_2 a0_3 = some r) :
  Calls Tryz.prog 64 #[.agg #[.int .i64 a0_0, .string a0_1, .string a0_2, .string a0_3]] w fun e w' => e = .returned (.bool r) ∧ Below w.heap.size w w' := by
 have hu24 := Tryz.underlying24; have HB := A_ (Below.refl w.heap.size w); have H : ((mask_Sane.f a0_1).bind fun t146 => (if t146 = true then (if a0_2.toList = ([] : List UInt8) then (point_Sane.j0 k (a0_3.toList == ([] : List UInt8)) a0_0 a0_1 a0_2 a0_3) else (point_Sane.j0 k false a0_0 a0_1 a0_2 a0_3)) else (some false))) = some r := h; clear h; obtain ⟨t146, A2, H⟩ := bi_ H
 by_cases c3 : t146 = true
 ·subst c3
  replace H := iP_ H; have HC4 := A_ H; clear H; go_enter Tryz.func64, Tryz.ntmps64; go_upto_region 3 with (first | (refine gx_ w 1 (n4_ a0_0 a0_1 a0_2 a0_3) 24 ?_; clear HB; intro gb145 w5 BK145 GE145 HB; have GW145 := GE145; have Z6 := bz4_ BK145) | (refine gC 75 ?_; refine gL 6 Tryz.func75 #[.string a0_1] ?_; (with_reducible refine (mask_Sane.calls a0_1 true _ A2.out).mono ?_); rintro e w7 ⟨rfl, hb⟩; refine ⟨_, rfl, ?_⟩; replace BK145 := bb_ BK145 hb; replace HB := bs_ hb; (try clear hb))); (try simp only [Act.put, List.setIfInBounds_toArray, List.set_cons_zero, List.set_cons_succ]); go_cut [3] (fun v3 wc => ∃ (kq : Nat) (x3_3 : Bool), v3 = .bool x3_3 ∧ Aside0 (point_Sane.j0 kq x3_3 a0_0 a0_1 a0_2 a0_3 = some r) ∧ Aside0 (kq ≤ k) ∧ Aside0 (wc.heap[gb145]? = some (.cells (n4_ a0_0 a0_1 a0_2 a0_3) 24 (0, 0))) ∧ Aside0 (Below w.heap.size w wc))
  case first =>
   have H := HC4.out; clear HC4
   by_cases c8 : a0_2.toList = ([] : List UInt8)
   ·rw [if_pos c8] at H
    have c8b0 : (a0_2.toList == ([] : List UInt8)) = true := beq_iff_eq.mpr c8; have c8b1 : (a0_2.toList != ([] : List UInt8)) = false := bne_eq_false_iff_eq.mpr c8; clear c8; (first | rw [c8b0] | (simp only [i64_w, i32_w]; rw [c8b0]) | skip); have H' := A_ H; clear H; have Z9 := bz4_ BK145; go_wp2; go_meet
    case rel => exact ⟨_, ((a0_3.toList == ([] : List UInt8))), rf_, H', ⟨by first | omega | exact Nat.le_refl _⟩, ⟨bl_ BK145.out⟩, ⟨hs_⟩⟩
   ·rw [if_neg c8] at H
    have c8b0 : (a0_2.toList == ([] : List UInt8)) = false := beq_eq_false_iff_ne.mpr c8; have c8b1 : (a0_2.toList != ([] : List UInt8)) = true := bne_iff_ne.mpr c8; (first | rw [c8b0] | (simp only [i64_w, i32_w]; rw [c8b0]) | skip); have H' := A_ H; clear H; have Z10 := bz4_ BK145; go_wp2; go_meet
    case rel => exact ⟨_, (false), rf_, H', ⟨by first | omega | exact Nat.le_refl _⟩, ⟨bl_ BK145.out⟩, ⟨hs_⟩⟩
  case rest =>
   clear HC4; (try clear c2); (try clear p2); (try clear c3); (try clear c5); (try clear c8); (try clear c8b0); (try clear c8b1); (try clear Z10); (try clear Z6); (try clear Z9); obtain ⟨kq, x3_3, rfl, HA, HJ3, BK145, HB⟩ := hcut
   cases kq with
   | zero => exact absurd HA.out (by simp [point_Sane.j0])
   | succ kj3 =>
    have H := HA.out; clear HA; simp only [point_Sane.j0] at H
    by_cases c11 : a0_0 = 0
    ·rw [if_pos c11] at H
     have c11b0 : (a0_0 == 0) = true := beq_iff_eq.mpr c11; have c11b1 : (a0_0 != 0) = false := bne_eq_false_iff_eq.mpr c11; clear c11
     by_cases c12 : (a0_1.size : Int) = 4
     ·rw [if_pos c12] at H
      have c12b0 : ((a0_1.size : Int) == 4) = true := beq_iff_eq.mpr c12; have c12b1 : ((a0_1.size : Int) != 4) = false := bne_eq_false_iff_eq.mpr c12; clear c12; obtain ⟨t147, A13, H⟩ := bi_ H
      by_cases c14 : t147 = true
      ·subst c14
       replace H := iP_ H; obtain ⟨t148, A15, H⟩ := bi_ H; obtain rfl := Option.some.inj H; have Z16 := bz4_ BK145; go_wp2_with (first | (go_at_call 76; (with_reducible refine (point_some.calls kj3 a0_2 2 12 true _ A13.out).mono ?_); rintro e w17 ⟨rfl, hb⟩; replace BK145 := bb_ BK145 hb; replace HB := bs_ hb; (try clear hb); have Z18 := bz4_ BK145) | (go_at_call 76; (with_reducible refine (point_some.calls kj3 a0_3 2 31 t148 _ A15.out).mono ?_); rintro e w19 ⟨rfl, hb⟩; replace BK145 := bb_ BK145 hb; replace HB := bs_ hb; (try clear hb))); go_ret; exact ⟨re_, hs_⟩
      ·replace c14 := Bool.eq_false_iff.mpr c14
       subst c14; replace H := iN_ H; obtain rfl := Option.some.inj H; have Z20 := bz4_ BK145; go_wp2_with (first | (go_at_call 76; (with_reducible refine (point_some.calls kj3 a0_2 2 12 false _ A13.out).mono ?_); rintro e w21 ⟨rfl, hb⟩; replace BK145 := bb_ BK145 hb; replace HB := bs_ hb; (try clear hb))); go_ret; exact ⟨re_, hs_⟩
     ·rw [if_neg c12] at H
      have c12b0 : ((a0_1.size : Int) == 4) = false := beq_eq_false_iff_ne.mpr c12; have c12b1 : ((a0_1.size : Int) != 4) = true := bne_iff_ne.mpr c12; obtain rfl := Option.some.inj H; have Z22 := bz4_ BK145; go_wp2; go_ret; exact ⟨re_, hs_⟩
    ·rw [if_neg c11] at H
     have c11b0 : (a0_0 == 0) = false := beq_eq_false_iff_ne.mpr c11; have c11b1 : (a0_0 != 0) = true := bne_iff_ne.mpr c11
     by_cases c23 : a0_0 = 1
     ·rw [if_pos c23] at H
      have c23b0 : (a0_0 == 1) = true := beq_iff_eq.mpr c23; have c23b1 : (a0_0 != 1) = false := bne_eq_false_iff_eq.mpr c23; clear c23
      by_cases c24 : (a0_1.size : Int) = 4
      ·rw [if_pos c24] at H
       have c24b0 : ((a0_1.size : Int) == 4) = true := beq_iff_eq.mpr c24; have c24b1 : ((a0_1.size : Int) != 4) = false := bne_eq_false_iff_eq.mpr c24; clear c24; obtain ⟨t149, A25, H⟩ := bi_ H
       by_cases c26 : t149 = true
       ·subst c26
        replace H := iP_ H; obtain rfl := Option.some.inj H; have Z27 := bz4_ BK145; go_wp2_with (first | (go_at_call 76; (with_reducible refine (point_some.calls kj3 a0_2 2 12 true _ A25.out).mono ?_); rintro e w28 ⟨rfl, hb⟩; replace BK145 := bb_ BK145 hb; replace HB := bs_ hb; (try clear hb); have Z29 := bz4_ BK145)); go_ret; exact ⟨re_, hs_⟩
       ·replace c26 := Bool.eq_false_iff.mpr c26
        subst c26; replace H := iN_ H; obtain rfl := Option.some.inj H; have Z30 := bz4_ BK145; go_wp2_with (first | (go_at_call 76; (with_reducible refine (point_some.calls kj3 a0_2 2 12 false _ A25.out).mono ?_); rintro e w31 ⟨rfl, hb⟩; replace BK145 := bb_ BK145 hb; replace HB := bs_ hb; (try clear hb))); go_ret; exact ⟨re_, hs_⟩
      ·rw [if_neg c24] at H
       have c24b0 : ((a0_1.size : Int) == 4) = false := beq_eq_false_iff_ne.mpr c24; have c24b1 : ((a0_1.size : Int) != 4) = true := bne_iff_ne.mpr c24; obtain rfl := Option.some.inj H; have Z32 := bz4_ BK145; go_wp2; go_ret; exact ⟨re_, hs_⟩
     ·rw [if_neg c23] at H
      have c23b0 : (a0_0 == 1) = false := beq_eq_false_iff_ne.mpr c23; have c23b1 : (a0_0 != 1) = true := bne_iff_ne.mpr c23
      by_cases c33 : a0_0 = 2
      ·rw [if_pos c33] at H
       have c33b0 : (a0_0 == 2) = true := beq_iff_eq.mpr c33; have c33b1 : (a0_0 != 2) = false := bne_eq_false_iff_eq.mpr c33; clear c33
       by_cases c34 : (a0_1.size : Int) = 4
       ·rw [if_pos c34] at H
        have c34b0 : ((a0_1.size : Int) == 4) = true := beq_iff_eq.mpr c34; have c34b1 : ((a0_1.size : Int) != 4) = false := bne_eq_false_iff_eq.mpr c34; clear c34; obtain ⟨t150, A35, H⟩ := bi_ H
        by_cases c36 : t150 = true
        ·subst c36
         replace H := iP_ H; obtain rfl := Option.some.inj H; have Z37 := bz4_ BK145; go_wp2_with (first | (go_at_call 76; (with_reducible refine (point_some.calls kj3 a0_2 1 4 true _ A35.out).mono ?_); rintro e w38 ⟨rfl, hb⟩; replace BK145 := bb_ BK145 hb; replace HB := bs_ hb; (try clear hb); have Z39 := bz4_ BK145)); go_ret; exact ⟨re_, hs_⟩
        ·replace c36 := Bool.eq_false_iff.mpr c36
         subst c36; replace H := iN_ H; obtain rfl := Option.some.inj H; have Z40 := bz4_ BK145; go_wp2_with (first | (go_at_call 76; (with_reducible refine (point_some.calls kj3 a0_2 1 4 false _ A35.out).mono ?_); rintro e w41 ⟨rfl, hb⟩; replace BK145 := bb_ BK145 hb; replace HB := bs_ hb; (try clear hb))); go_ret; exact ⟨re_, hs_⟩
       ·rw [if_neg c34] at H
        have c34b0 : ((a0_1.size : Int) == 4) = false := beq_eq_false_iff_ne.mpr c34; have c34b1 : ((a0_1.size : Int) != 4) = true := bne_iff_ne.mpr c34; obtain rfl := Option.some.inj H; have Z42 := bz4_ BK145; go_wp2; go_ret; exact ⟨re_, hs_⟩
      ·rw [if_neg c33] at H
       have c33b0 : (a0_0 == 2) = false := beq_eq_false_iff_ne.mpr c33; have c33b1 : (a0_0 != 2) = true := bne_iff_ne.mpr c33
       by_cases c43 : a0_0 = 3
       ·rw [if_pos c43] at H
        have c43b0 : (a0_0 == 3) = true := beq_iff_eq.mpr c43; have c43b1 : (a0_0 != 3) = false := bne_eq_false_iff_eq.mpr c43; clear c43
        by_cases c44 : (a0_1.size : Int) = 4
        ·rw [if_pos c44] at H
         have c44b0 : ((a0_1.size : Int) == 4) = true := beq_iff_eq.mpr c44; have c44b1 : ((a0_1.size : Int) != 4) = false := bne_eq_false_iff_eq.mpr c44; clear c44; obtain rfl := Option.some.inj H; have Z45 := bz4_ BK145; go_wp2; go_ret; exact ⟨re_, hs_⟩
        ·rw [if_neg c44] at H
         have c44b0 : ((a0_1.size : Int) == 4) = false := beq_eq_false_iff_ne.mpr c44; have c44b1 : ((a0_1.size : Int) != 4) = true := bne_iff_ne.mpr c44; obtain rfl := Option.some.inj H; have Z46 := bz4_ BK145; go_wp2; go_ret; exact ⟨re_, hs_⟩
       ·rw [if_neg c43] at H
        have c43b0 : (a0_0 == 3) = false := beq_eq_false_iff_ne.mpr c43; have c43b1 : (a0_0 != 3) = true := bne_iff_ne.mpr c43
        by_cases c47 : a0_0 = 4
        ·rw [if_pos c47] at H
         have c47b0 : (a0_0 == 4) = true := beq_iff_eq.mpr c47; have c47b1 : (a0_0 != 4) = false := bne_eq_false_iff_eq.mpr c47; clear c47
         by_cases c48 : (a0_1.size : Int) = 3
         ·rw [if_pos c48] at H
          have c48b0 : ((a0_1.size : Int) == 3) = true := beq_iff_eq.mpr c48; have c48b1 : ((a0_1.size : Int) != 3) = false := bne_eq_false_iff_eq.mpr c48; clear c48; obtain rfl := Option.some.inj H; have Z49 := bz4_ BK145; go_wp2; go_ret; exact ⟨re_, hs_⟩
         ·rw [if_neg c48] at H
          have c48b0 : ((a0_1.size : Int) == 3) = false := beq_eq_false_iff_ne.mpr c48; have c48b1 : ((a0_1.size : Int) != 3) = true := bne_iff_ne.mpr c48; obtain rfl := Option.some.inj H; have Z50 := bz4_ BK145; go_wp2; go_ret; exact ⟨re_, hs_⟩
        ·rw [if_neg c47] at H
         have c47b0 : (a0_0 == 4) = false := beq_eq_false_iff_ne.mpr c47; have c47b1 : (a0_0 != 4) = true := bne_iff_ne.mpr c47
         by_cases c51 : a0_0 = 5
         ·rw [if_pos c51] at H
          have c51b0 : (a0_0 == 5) = true := beq_iff_eq.mpr c51; have c51b1 : (a0_0 != 5) = false := bne_eq_false_iff_eq.mpr c51; clear c51
          by_cases c52 : (a0_1.size : Int) = 2
          ·rw [if_pos c52] at H
           have c52b0 : ((a0_1.size : Int) == 2) = true := beq_iff_eq.mpr c52; have c52b1 : ((a0_1.size : Int) != 2) = false := bne_eq_false_iff_eq.mpr c52; clear c52; obtain rfl := Option.some.inj H; have Z53 := bz4_ BK145; go_wp2; go_ret; exact ⟨re_, hs_⟩
          ·rw [if_neg c52] at H
           have c52b0 : ((a0_1.size : Int) == 2) = false := beq_eq_false_iff_ne.mpr c52; have c52b1 : ((a0_1.size : Int) != 2) = true := bne_iff_ne.mpr c52; obtain rfl := Option.some.inj H; have Z54 := bz4_ BK145; go_wp2; go_ret; exact ⟨re_, hs_⟩
         ·rw [if_neg c51] at H
          have c51b0 : (a0_0 == 5) = false := beq_eq_false_iff_ne.mpr c51; have c51b1 : (a0_0 != 5) = true := bne_iff_ne.mpr c51; obtain rfl := Option.some.inj H; have Z55 := bz4_ BK145; go_wp2; go_ret; exact ⟨re_, hs_⟩
 ·replace c3 := Bool.eq_false_iff.mpr c3
  subst c3; replace H := iN_ H; obtain rfl := Option.some.inj H; go_enter Tryz.func64, Tryz.ntmps64; go_wp2_with (first | (refine gx_ w 1 (n4_ a0_0 a0_1 a0_2 a0_3) 24 ?_; clear HB; intro gb145 w56 BK145 GE145 HB; have GW145 := GE145; have Z57 := bz4_ BK145) | (refine gC 75 ?_; refine gL 6 Tryz.func75 #[.string a0_1] ?_; (with_reducible refine (mask_Sane.calls a0_1 false _ A2.out).mono ?_); rintro e w58 ⟨rfl, hb⟩; refine ⟨_, rfl, ?_⟩; replace BK145 := bb_ BK145 hb; replace HB := bs_ hb; (try clear hb))); go_ret; exact ⟨re_, hs_⟩
set_option maxHeartbeats 8000000 in
set_option maxRecDepth 100000 in
theorem tree_bare.calls (a0_0 a0_1 : Int) (a0_2 a0_3 a0_4 : ByteArray) (a0_5 a0_6 : Bool) (A0_7 : Option Addr) (c0_7 : Nat) (l0_7 : List (S27)) (r : Bool) (w : World) (hr0_7 : Kd.C k27 w A0_7 l0_7.length l0_7) (hc0_7 : l0_7.length ≤ c0_7) (h : tree_bare.f a0_0 a0_1 a0_2 a0_3 a0_4 a0_5 a0_6 l0_7 = some r) :
  Calls Tryz.prog 46 #[.agg #[.int .i64 a0_0, .int .i64 a0_1, .string a0_2, .string a0_3, .string a0_4, .bool a0_5, .bool a0_6, .slice A0_7 l0_7.length c0_7]] w fun e w' => e = .returned (.bool r) ∧ Below w.heap.size w w' := by
 have hu27 := Tryz.underlying27; have hu24 := Tryz.underlying24; have HR0_7 := A_ hr0_7; have HC0_7 := A_ hc0_7; clear hr0_7 hc0_7; have HB := A_ (Below.refl w.heap.size w); have H : (if (a0_1 == 0 && (a0_2.toList == ([] : List UInt8) && (a0_3.toList == ([] : List UInt8) && (a0_4.toList == ([] : List UInt8))))) = true then (if a0_5 = true then (some false) else (some (!a0_6))) else (some false)) = some r := h; clear h
 by_cases c2 : (a0_1 == 0 && (a0_2.toList == ([] : List UInt8) && (a0_3.toList == ([] : List UInt8) && (a0_4.toList == ([] : List UInt8))))) = true
 ·rw [if_pos c2] at H
  have c2b0 : (a0_1 == 0 && (a0_2.toList == ([] : List UInt8) && (a0_3.toList == ([] : List UInt8) && (a0_4.toList == ([] : List UInt8))))) = true := c2; (try (have c2b9 : (a0_1 == 0 && (a0_2.toList.isEmpty && (a0_3.toList.isEmpty && (a0_4.toList.isEmpty)))) = true := by simpa using c2b0)); (try (have c2b1 : decide (a0_1 = 0 && (a0_2.toList == ([] : List UInt8) && (a0_3.toList == ([] : List UInt8) && (a0_4.toList == ([] : List UInt8))))) = true := by simpa using c2)); (try (have c2b2 : (a0_1 == 0 && (a0_2.toList == ([] : List UInt8) && (a0_3.toList == ([] : List UInt8) && (a0_4.toList == ([] : List UInt8))))) = true := by simpa using c2)); clear c2
  by_cases c3 : a0_5 = true
  ·subst c3
   replace H := iP_ H; obtain rfl := Option.some.inj H; go_enter Tryz.func46, Tryz.ntmps46; go_wp2_with (first | (refine gx_ w 1 (n8_ a0_0 a0_1 a0_2 a0_3 a0_4 true a0_6 (.slice A0_7 l0_7.length c0_7)) 27 ?_; clear HB; intro gb151 w4 BK151 GE151 HB; have GW151 := GE151; have Z5 := bz8_ BK151)); go_ret; exact ⟨re_, hs_⟩
  ·replace c3 := Bool.eq_false_iff.mpr c3
   subst c3; replace H := iN_ H; obtain rfl := Option.some.inj H; go_enter Tryz.func46, Tryz.ntmps46; go_wp2_with (first | (refine gx_ w 1 (n8_ a0_0 a0_1 a0_2 a0_3 a0_4 false a0_6 (.slice A0_7 l0_7.length c0_7)) 27 ?_; clear HB; intro gb151 w6 BK151 GE151 HB; have GW151 := GE151; have Z7 := bz8_ BK151)); go_ret; exact ⟨re_, hs_⟩
 ·rw [if_neg c2] at H
  (have c2b0 : (a0_1 == 0 && (a0_2.toList == ([] : List UInt8) && (a0_3.toList == ([] : List UInt8) && (a0_4.toList == ([] : List UInt8))))) = false := by simpa using c2); (try (have c2b9 : (a0_1 == 0 && (a0_2.toList.isEmpty && (a0_3.toList.isEmpty && (a0_4.toList.isEmpty)))) = false := by simpa using c2b0)); (try (have c2b1 : decide (a0_1 = 0 && (a0_2.toList == ([] : List UInt8) && (a0_3.toList == ([] : List UInt8) && (a0_4.toList == ([] : List UInt8))))) = false := by simpa using c2)); (try (have c2b2 : (a0_1 == 0 && (a0_2.toList == ([] : List UInt8) && (a0_3.toList == ([] : List UInt8) && (a0_4.toList == ([] : List UInt8))))) = false := by simpa using c2)); (try (have c2b3 : ¬ (a0_1 = 0 && (a0_2.toList == ([] : List UInt8) && (a0_3.toList == ([] : List UInt8) && (a0_4.toList == ([] : List UInt8))))) := by simpa using c2)); clear c2; obtain rfl := Option.some.inj H; go_enter Tryz.func46, Tryz.ntmps46; go_wp2_with (first | (refine gx_ w 1 (n8_ a0_0 a0_1 a0_2 a0_3 a0_4 a0_5 a0_6 (.slice A0_7 l0_7.length c0_7)) 27 ?_; clear HB; intro gb151 w8 BK151 GE151 HB; have GW151 := GE151; have Z9 := bz8_ BK151)); go_ret; exact ⟨re_, hs_⟩
set_option maxHeartbeats 8000000 in
set_option maxRecDepth 100000 in
theorem tree_End.calls (k : Nat) (a0_0 a0_1 : Int) (a0_2 a0_3 a0_4 : ByteArray) (a0_5 a0_6 : Bool) (A0_7 : Option Addr) (c0_7 : Nat) (l0_7 : List (S27)) (r : Bool) (w : World) (hr0_7 : Kd.C k27 w A0_7 l0_7.length l0_7) (hc0_7 : l0_7.length ≤ c0_7) (h : tree_End.f k a0_0 a0_1 a0_2 a0_3 a0_4 a0_5 a0_6 l0_7 = some r) :
  Calls Tryz.prog 45 #[.agg #[.int .i64 a0_0, .int .i64 a0_1, .string a0_2, .string a0_3, .string a0_4, .bool a0_5, .bool a0_6, .slice A0_7 l0_7.length c0_7]] w fun e w' => e = .returned (.bool r) ∧ Below w.heap.size w w' := by
 have hu27 := Tryz.underlying27; have hu24 := Tryz.underlying24; have HR0_7 := A_ hr0_7; have HC0_7 := A_ hc0_7; clear hr0_7 hc0_7; have HB := A_ (Below.refl w.heap.size w); have H : (if a0_0 = 0 then (if (l0_7.length : Int) = 0 then ((point_Sane.f k a0_1 a0_2 a0_3 a0_4).bind fun t153 => (some t153)) else (some false)) else (if a0_0 = 3 then (if (l0_7.length : Int) = 0 then ((tree_bare.f a0_0 a0_1 a0_2 a0_3 a0_4 a0_5 a0_6 l0_7).bind fun t154 => (some t154)) else (some false)) else (if a0_0 = 4 then (if (l0_7.length : Int) = 0 then ((tree_bare.f a0_0 a0_1 a0_2 a0_3 a0_4 a0_5 a0_6 l0_7).bind fun t155 => (some t155)) else (some false)) else (some false)))) = some r := h; clear h
 by_cases c2 : a0_0 = 0
 ·rw [if_pos c2] at H
  have c2b0 : (a0_0 == 0) = true := beq_iff_eq.mpr c2; have c2b1 : (a0_0 != 0) = false := bne_eq_false_iff_eq.mpr c2; clear c2
  by_cases c3 : (l0_7.length : Int) = 0
  ·rw [if_pos c3] at H
   have c3b0 : ((l0_7.length : Int) == 0) = true := beq_iff_eq.mpr c3; have c3b1 : ((l0_7.length : Int) != 0) = false := bne_eq_false_iff_eq.mpr c3; clear c3; obtain ⟨t153, A4, H⟩ := bi_ H; obtain rfl := Option.some.inj H; go_enter Tryz.func45, Tryz.ntmps45; go_wp2_with (first | (refine gx_ w 1 (n8_ a0_0 a0_1 a0_2 a0_3 a0_4 a0_5 a0_6 (.slice A0_7 l0_7.length c0_7)) 27 ?_; clear HB; intro gb152 w5 BK152 GE152 HB; have GW152 := GE152; have Z6 := bz8_ BK152) | (go_at_call 64; (with_reducible refine (point_Sane.calls k a0_1 a0_2 a0_3 a0_4 t153 _ A4.out).mono ?_); rintro e w7 ⟨rfl, hb⟩; replace BK152 := bb_ BK152 hb; replace HB := bs_ hb; (try clear hb))); go_ret; exact ⟨re_, hs_⟩
  ·rw [if_neg c3] at H
   have c3b0 : ((l0_7.length : Int) == 0) = false := beq_eq_false_iff_ne.mpr c3; have c3b1 : ((l0_7.length : Int) != 0) = true := bne_iff_ne.mpr c3; (have c3b2 : ¬ (l0_7 = []) := fun h_ => c3 (by rw [h_]; rfl)); obtain rfl := Option.some.inj H; go_enter Tryz.func45, Tryz.ntmps45; go_wp2_with (first | (refine gx_ w 1 (n8_ a0_0 a0_1 a0_2 a0_3 a0_4 a0_5 a0_6 (.slice A0_7 l0_7.length c0_7)) 27 ?_; clear HB; intro gb152 w8 BK152 GE152 HB; have GW152 := GE152; have Z9 := bz8_ BK152)); go_ret; exact ⟨re_, hs_⟩
 ·rw [if_neg c2] at H
  have c2b0 : (a0_0 == 0) = false := beq_eq_false_iff_ne.mpr c2; have c2b1 : (a0_0 != 0) = true := bne_iff_ne.mpr c2
  by_cases c10 : a0_0 = 3
  ·rw [if_pos c10] at H
   have c10b0 : (a0_0 == 3) = true := beq_iff_eq.mpr c10; have c10b1 : (a0_0 != 3) = false := bne_eq_false_iff_eq.mpr c10; clear c10
   by_cases c11 : (l0_7.length : Int) = 0
   ·rw [if_pos c11] at H
    have c11b0 : ((l0_7.length : Int) == 0) = true := beq_iff_eq.mpr c11; have c11b1 : ((l0_7.length : Int) != 0) = false := bne_eq_false_iff_eq.mpr c11; clear c11; obtain ⟨t154, A12, H⟩ := bi_ H; obtain rfl := Option.some.inj H; go_enter Tryz.func45, Tryz.ntmps45; go_wp2_with (first | (refine gx_ w 1 (n8_ a0_0 a0_1 a0_2 a0_3 a0_4 a0_5 a0_6 (.slice A0_7 l0_7.length c0_7)) 27 ?_; clear HB; intro gb152 w13 BK152 GE152 HB; have GW152 := GE152; have Z14 := bz8_ BK152) | (go_at_call 46; (with_reducible refine (tree_bare.calls a0_0 a0_1 a0_2 a0_3 a0_4 a0_5 a0_6 _ _ l0_7 t154 _ ?side1 ?side2 A12.out).mono ?_); (case side1 => exact cb_ HR0_7); (case side2 => exact HC0_7.out); rintro e w15 ⟨rfl, hb⟩; replace BK152 := bb_ BK152 hb; replace HB := bs_ hb; (try clear hb))); go_ret; exact ⟨re_, hs_⟩
   ·rw [if_neg c11] at H
    have c11b0 : ((l0_7.length : Int) == 0) = false := beq_eq_false_iff_ne.mpr c11; have c11b1 : ((l0_7.length : Int) != 0) = true := bne_iff_ne.mpr c11; (have c11b2 : ¬ (l0_7 = []) := fun h_ => c11 (by rw [h_]; rfl)); obtain rfl := Option.some.inj H; go_enter Tryz.func45, Tryz.ntmps45; go_wp2_with (first | (refine gx_ w 1 (n8_ a0_0 a0_1 a0_2 a0_3 a0_4 a0_5 a0_6 (.slice A0_7 l0_7.length c0_7)) 27 ?_; clear HB; intro gb152 w16 BK152 GE152 HB; have GW152 := GE152; have Z17 := bz8_ BK152)); go_ret; exact ⟨re_, hs_⟩
  ·rw [if_neg c10] at H
   have c10b0 : (a0_0 == 3) = false := beq_eq_false_iff_ne.mpr c10; have c10b1 : (a0_0 != 3) = true := bne_iff_ne.mpr c10
   by_cases c18 : a0_0 = 4
   ·rw [if_pos c18] at H
    have c18b0 : (a0_0 == 4) = true := beq_iff_eq.mpr c18; have c18b1 : (a0_0 != 4) = false := bne_eq_false_iff_eq.mpr c18; clear c18
    by_cases c19 : (l0_7.length : Int) = 0
    ·rw [if_pos c19] at H
     have c19b0 : ((l0_7.length : Int) == 0) = true := beq_iff_eq.mpr c19; have c19b1 : ((l0_7.length : Int) != 0) = false := bne_eq_false_iff_eq.mpr c19; clear c19; obtain ⟨t155, A20, H⟩ := bi_ H; obtain rfl := Option.some.inj H; go_enter Tryz.func45, Tryz.ntmps45; go_wp2_with (first | (refine gx_ w 1 (n8_ a0_0 a0_1 a0_2 a0_3 a0_4 a0_5 a0_6 (.slice A0_7 l0_7.length c0_7)) 27 ?_; clear HB; intro gb152 w21 BK152 GE152 HB; have GW152 := GE152; have Z22 := bz8_ BK152) | (go_at_call 46; (with_reducible refine (tree_bare.calls a0_0 a0_1 a0_2 a0_3 a0_4 a0_5 a0_6 _ _ l0_7 t155 _ ?side1 ?side2 A20.out).mono ?_); (case side1 => exact cb_ HR0_7); (case side2 => exact HC0_7.out); rintro e w23 ⟨rfl, hb⟩; replace BK152 := bb_ BK152 hb; replace HB := bs_ hb; (try clear hb))); go_ret; exact ⟨re_, hs_⟩
    ·rw [if_neg c19] at H
     have c19b0 : ((l0_7.length : Int) == 0) = false := beq_eq_false_iff_ne.mpr c19; have c19b1 : ((l0_7.length : Int) != 0) = true := bne_iff_ne.mpr c19; (have c19b2 : ¬ (l0_7 = []) := fun h_ => c19 (by rw [h_]; rfl)); obtain rfl := Option.some.inj H; go_enter Tryz.func45, Tryz.ntmps45; go_wp2_with (first | (refine gx_ w 1 (n8_ a0_0 a0_1 a0_2 a0_3 a0_4 a0_5 a0_6 (.slice A0_7 l0_7.length c0_7)) 27 ?_; clear HB; intro gb152 w24 BK152 GE152 HB; have GW152 := GE152; have Z25 := bz8_ BK152)); go_ret; exact ⟨re_, hs_⟩
   ·rw [if_neg c18] at H
    have c18b0 : (a0_0 == 4) = false := beq_eq_false_iff_ne.mpr c18; have c18b1 : (a0_0 != 4) = true := bne_iff_ne.mpr c18; obtain rfl := Option.some.inj H; go_enter Tryz.func45, Tryz.ntmps45; go_wp2_with (first | (refine gx_ w 1 (n8_ a0_0 a0_1 a0_2 a0_3 a0_4 a0_5 a0_6 (.slice A0_7 l0_7.length c0_7)) 27 ?_; clear HB; intro gb152 w26 BK152 GE152 HB; have GW152 := GE152; have Z27 := bz8_ BK152)); go_ret; exact ⟨re_, hs_⟩
end Go.Proofs.YtjgjhekpiijniaaGreat.A
namespace Go.Proofs.YtjgjhekpiijniaaGreat.A
open Go.RowKit Go.Proofs.YtjgjhekpiijniaaGreatW.PrintWords Go.Proofs.YtjgjhekpiijniaaGreatW.PrintLast Go.Proofs.YtjgjhekpiijniaaGreatW.PrintMore
attribute [local go_sem] max2_int min2_int max_two min_two max_three min_three max_four min_four isSome_setCell
abbrev RightAt (k : Nat) : Prop := ∀ (a0_0 a0_1 : Int) (a0_2 a0_3 a0_4 : ByteArray) (a0_5 a0_6 : Bool) (A0_7 : Option Addr) (c0_7 : Nat) (l0_7 : List (S27)) (r : Bool) (w : World) (hr0_7 : Kd.C k27 w A0_7 l0_7.length l0_7) (hc0_7 : l0_7.length ≤ c0_7) (h : tree_right.f k a0_0 a0_1 a0_2 a0_3 a0_4 a0_5 a0_6 l0_7 = some r),
    Calls Tryz.prog 29 #[.agg #[.int .i64 a0_0, .int .i64 a0_1, .string a0_2, .string a0_3, .string a0_4, .bool a0_5, .bool a0_6, .slice A0_7 l0_7.length c0_7]] w fun e w' => e = .returned (.bool r) ∧ Below w.heap.size w w'
set_option maxHeartbeats 8000000 in
set_option maxRecDepth 100000 in
theorem tree_right_1.calls (k : Nat) (ihk : RightAt k) (a0_0 a0_1 : Int) (a0_2 a0_3 a0_4 : ByteArray) (a0_5 a0_6 : Bool) (A0_7 : Option Addr) (c0_7 : Nat) (l0_7 : List (S27)) (r : Bool) (w : World) (hr0_7 : Kd.C k27 w A0_7 l0_7.length l0_7) (hc0_7 : l0_7.length ≤ c0_7) (h : tree_right_1.f k a0_0 a0_1 a0_2 a0_3 a0_4 a0_5 a0_6 l0_7 = some r) :
  Calls Tryz.prog 48 #[.agg #[.int .i64 a0_0, .int .i64 a0_1, .string a0_2, .string a0_3, .string a0_4, .bool a0_5, .bool a0_6, .slice A0_7 l0_7.length c0_7]] w fun e w' => e = .returned (.bool r) ∧ Below w.heap.size w w' := by
 have hu27 := Tryz.underlying27; have HR0_7 := A_ hr0_7; have HC0_7 := A_ hc0_7; clear hr0_7 hc0_7; have HB := A_ (Below.refl w.heap.size w); have H : ((tree_right.f k a0_0 a0_1 a0_2 a0_3 a0_4 a0_5 a0_6 l0_7).bind fun t102 => (some (!t102))) = some r := h; clear h; obtain ⟨t102, A2, H⟩ := bi_ H; obtain rfl := Option.some.inj H; go_enter Tryz.func48, Tryz.ntmps48; go_wp2_with (first | (refine gx_ w 1 (n8_ a0_0 a0_1 a0_2 a0_3 a0_4 a0_5 a0_6 (.slice A0_7 l0_7.length c0_7)) 27 ?_; clear HB; intro gb101 w3 BK101 GE101 HB; have GW101 := GE101; have Z4 := bz8_ BK101) | (refine gC 29 ?_; refine gL 4 Tryz.func29 #[.agg (n8_ a0_0 a0_1 a0_2 a0_3 a0_4 a0_5 a0_6 (.slice A0_7 l0_7.length c0_7))] ?_; (with_reducible refine (ihk a0_0 a0_1 a0_2 a0_3 a0_4 a0_5 a0_6 _ _ l0_7 t102 _ ?side1 ?side2 A2.out).mono ?_); (case side1 => exact cb_ HR0_7); (case side2 => exact HC0_7.out); rintro e w5 ⟨rfl, hb⟩; refine ⟨_, rfl, ?_⟩; replace BK101 := bb_ BK101 hb; replace HB := bs_ hb; (try clear hb))); go_ret; exact ⟨re_, hs_⟩
set_option maxHeartbeats 8000000 in
set_option maxRecDepth 100000 in
theorem slices_IndexFunc.calls (k : Nat) (ihS : ∀ j, j < k → RightAt j) (A0 : Option Addr) (c0 : Nat) (l0 : List (S27))  (r : Int) (w : World) (hr0 : Kd.C k27 w A0 l0.length l0) (hc0 : l0.length ≤ c0) (h : slices_IndexFunc.f k l0 = some r) :
  Calls Tryz.prog 65 #[.slice A0 l0.length c0, .func (.func 48) #[] #[]] w fun e w' => e = .returned (.int .i64 r) ∧ Below w.heap.size w w' := by
 have hu27 := Tryz.underlying27; have HR0 := A_ hr0; have HC0 := A_ hc0; clear hr0 hc0; have HB := A_ (Below.refl w.heap.size w); have H : (slices_IndexFunc.l0 k l0 (l0.length : Int) 0) = some r := h; clear h; have H' := A_ H; clear H; go_enter Tryz.func65, Tryz.ntmps65; go_wp2; go_loopg [8] k (fun kq v8 w' => ∃ (x8_1 : Int), v8 = .int .i64 x8_1 ∧ Aside0 (slices_IndexFunc.l0 kq l0 (l0.length : Int) x8_1 = some r) ∧ Aside0 (kq ≤ k) ∧ Aside0 (Below w.heap.size w w'))
 case atStart => exact ⟨(0), rf_, H', ⟨Nat.le_refl _⟩, ⟨hs_⟩⟩
 case round =>
  clear H'; (try clear p2); obtain ⟨x8_1, rfl, HA, HK1, HB⟩ := hrel
  cases gk with
  | zero => exact absurd HA.out (by simp [slices_IndexFunc.l0])
  | succ k1 =>
   have H := HA.out; clear HA; rw [slices_IndexFunc.l0_succ] at H
   by_cases c3 : x8_1 < (l0.length : Int)
   ·rw [if_pos c3] at H
    have c3b0 := decide_eq_true c3; clear c3
    by_cases c4 : 0 ≤ x8_1
    ·rw [if_pos c4] at H
     have c4b0 := decide_eq_true c4; clear c4
     by_cases c5 : x8_1 < (l0.length : Int)
     ·rw [if_pos c5] at H
      have c5b0 := decide_eq_true c5; clear c5; obtain ⟨t102, A6, H⟩ := bi_ H
      by_cases c7 : t102 = true
      ·subst c7
       replace H := iP_ H; obtain rfl := Option.some.inj H; have p101 : 0 ≤ (x8_1 : Int) := od_; have q101 : x8_1 < (l0.length : Int) := od_; obtain ⟨ad101, A101_7, c101_7, e101, hx101_0, hx101_1, hx101_2, hx101_3, hx101_4, hx101_5, hx101_6, hx101_7, hl101_7, hi101_7⟩ := at_T27 HR0.out x8_1 p101 q101
       cases e101
       replace hx101_0 := cl_ HB hx101_0; replace hx101_1 := cl_ HB hx101_1; replace hx101_2 := cl_ HB hx101_2; replace hx101_3 := cl_ HB hx101_3; replace hx101_4 := cl_ HB hx101_4; replace hx101_5 := cl_ HB hx101_5; replace hx101_6 := cl_ HB hx101_6; replace hx101_7 := cl_ HB hx101_7; have HR101_7 := A_ hi101_7; have HC101_7 := A_ hl101_7; clear hi101_7 hl101_7; replace p101 := eq_true p101; replace q101 := eq_true q101; go_wp2_with (first | (go_at_call 48; (refine (tree_right_1.calls k1 (ihS k1 (by have := HK1.out; omega)) ((rd_T27 l0 x8_1).f0) ((rd_T27 l0 x8_1).f1.f0) ((rd_T27 l0 x8_1).f1.f1) ((rd_T27 l0 x8_1).f1.f2) ((rd_T27 l0 x8_1).f1.f3) ((rd_T27 l0 x8_1).f2) ((rd_T27 l0 x8_1).f3) _ _ ((rd_T27 l0 x8_1).f4) true _ ?side1 ?side2 A6.out).mono ?_); (case side1 => exact cb_ HR101_7); (case side2 => exact HC101_7.out); rintro e w8 ⟨rfl, hb⟩; replace HB := bs_ hb; (try clear hb))); go_ret; exact ⟨re_, hs_⟩
      ·replace c7 := Bool.eq_false_iff.mpr c7
       subst c7; replace H := iN_ H; have H' := A_ H; clear H; have p101 : 0 ≤ (x8_1 : Int) := od_; have q101 : x8_1 < (l0.length : Int) := od_; obtain ⟨ad101, A101_7, c101_7, e101, hx101_0, hx101_1, hx101_2, hx101_3, hx101_4, hx101_5, hx101_6, hx101_7, hl101_7, hi101_7⟩ := at_T27 HR0.out x8_1 p101 q101
       cases e101
       replace hx101_0 := cl_ HB hx101_0; replace hx101_1 := cl_ HB hx101_1; replace hx101_2 := cl_ HB hx101_2; replace hx101_3 := cl_ HB hx101_3; replace hx101_4 := cl_ HB hx101_4; replace hx101_5 := cl_ HB hx101_5; replace hx101_6 := cl_ HB hx101_6; replace hx101_7 := cl_ HB hx101_7; have HR101_7 := A_ hi101_7; have HC101_7 := A_ hl101_7; clear hi101_7 hl101_7; replace p101 := eq_true p101; replace q101 := eq_true q101; go_wp2_with (first | (go_at_call 48; (refine (tree_right_1.calls k1 (ihS k1 (by have := HK1.out; omega)) ((rd_T27 l0 x8_1).f0) ((rd_T27 l0 x8_1).f1.f0) ((rd_T27 l0 x8_1).f1.f1) ((rd_T27 l0 x8_1).f1.f2) ((rd_T27 l0 x8_1).f1.f3) ((rd_T27 l0 x8_1).f2) ((rd_T27 l0 x8_1).f3) _ _ ((rd_T27 l0 x8_1).f4) false _ ?side1 ?side2 A6.out).mono ?_); (case side1 => exact cb_ HR101_7); (case side2 => exact HC101_7.out); rintro e w9 ⟨rfl, hb⟩; replace HB := bs_ hb; (try clear hb))); go_roundg k1
       case measure => have := HK1.out; omega
       case rel => exact ⟨(wrap64 (x8_1 + 1)), rf_, H', ⟨by have := HK1.out; omega⟩, ⟨hs_⟩⟩
     ·rw [if_neg c5] at H
      exact absurd H (by simp)
    ·rw [if_neg c4] at H
     exact absurd H (by simp)
   ·rw [if_neg c3] at H
    have c3b0 := decide_eq_false c3; clear c3; obtain rfl := Option.some.inj H; go_wp2; go_ret; exact ⟨re_, hs_⟩
set_option maxHeartbeats 8000000 in
set_option maxRecDepth 100000 in
theorem slices_ContainsFunc.calls (k : Nat) (ihS : ∀ j, j < k → RightAt j) (A0 : Option Addr) (c0 : Nat) (l0 : List (S27))  (r : Bool) (w : World) (hr0 : Kd.C k27 w A0 l0.length l0) (hc0 : l0.length ≤ c0) (h : slices_ContainsFunc.f k l0 = some r) :
  Calls Tryz.prog 47 #[.slice A0 l0.length c0, .func (.func 48) #[] #[]] w fun e w' => e = .returned (.bool r) ∧ Below w.heap.size w w' := by
 have HR0 := A_ hr0; have HC0 := A_ hc0; clear hr0 hc0; have HB := A_ (Below.refl w.heap.size w); have H : ((slices_IndexFunc.f k l0).bind fun t103 => (some (decide (t103 ≥ 0)))) = some r := h; clear h; obtain ⟨t103, A3, H⟩ := bi_ H; obtain rfl := Option.some.inj H; go_enter Tryz.func47, Tryz.ntmps47; go_wp2_with (first | (refine gC 65 ?_; refine gL 7 Tryz.func65 #[.slice A0 l0.length c0, .func (.func 48) #[] #[]] ?_; (with_reducible refine (slices_IndexFunc.calls k ihS _ _ l0  t103 _ ?side1 ?side2 A3.out).mono ?_); (case side1 => exact cr_ HR0.out); (case side2 => exact HC0.out); rintro e w4 ⟨rfl, hb⟩; refine ⟨_, rfl, ?_⟩; replace HB := bs_ hb; (try clear hb))); go_ret; exact ⟨re_, hs_⟩
set_option maxHeartbeats 8000000 in
set_option maxRecDepth 100000 in
theorem tree_rightR.calls (k : Nat) (ihS : ∀ j, j < k → RightAt j) (a0_0 a0_1 : Int) (a0_2 a0_3 a0_4 : ByteArray) (a0_5 a0_6 : Bool) (A0_7 : Option Addr) (c0_7 : Nat) (l0_7 : List (S27)) (r : Bool) (w : World) (hr0_7 : Kd.C k27 w A0_7 l0_7.length l0_7) (hc0_7 : l0_7.length ≤ c0_7) (h : tree_rightR.f k a0_0 a0_1 a0_2 a0_3 a0_4 a0_5 a0_6 l0_7 = some r) :
  Calls Tryz.prog 29 #[.agg #[.int .i64 a0_0, .int .i64 a0_1, .string a0_2, .string a0_3, .string a0_4, .bool a0_5, .bool a0_6, .slice A0_7 l0_7.length c0_7]] w fun e w' => e = .returned (.bool r) ∧ Below w.heap.size w w' := by
 have hu27 := Tryz.underlying27; have HR0_7 := A_ hr0_7; have HC0_7 := A_ hc0_7; clear hr0_7 hc0_7; have HB := A_ (Below.refl w.heap.size w); have H : (if a0_0 = 0 then ((tree_End.f k a0_0 a0_1 a0_2 a0_3 a0_4 a0_5 a0_6 l0_7).bind fun t105 => (some t105)) else (if a0_0 = 1 then ((tree_bare.f a0_0 a0_1 a0_2 a0_3 a0_4 a0_5 a0_6 l0_7).bind fun t106 => (if t106 = true then (if (l0_7.length : Int) = 2 then (if 0 < (l0_7.length : Int) then ((tree_End.f k ((rd_T27 l0_7 0).f0) ((rd_T27 l0_7 0).f1.f0) ((rd_T27 l0_7 0).f1.f1) ((rd_T27 l0_7 0).f1.f2) ((rd_T27 l0_7 0).f1.f3) ((rd_T27 l0_7 0).f2) ((rd_T27 l0_7 0).f3) ((rd_T27 l0_7 0).f4)).bind fun t108 => (if t108 = true then (if 1 < (l0_7.length : Int) then ((tree_End.f k ((rd_T27 l0_7 1).f0) ((rd_T27 l0_7 1).f1.f0) ((rd_T27 l0_7 1).f1.f1) ((rd_T27 l0_7 1).f1.f2) ((rd_T27 l0_7 1).f1.f3) ((rd_T27 l0_7 1).f2) ((rd_T27 l0_7 1).f3) ((rd_T27 l0_7 1).f4)).bind fun t110 => (some t110)) else (none)) else (some false))) else (none)) else (some false)) else (some false))) else (if a0_0 = 2 then ((tree_bare.f a0_0 a0_1 a0_2 a0_3 a0_4 a0_5 a0_6 l0_7).bind fun t111 => (if t111 = true then (if (l0_7.length : Int) > 0 then ((slices_ContainsFunc.f k l0_7).bind fun t112 => (some (!t112))) else (some false)) else (some false))) else (some false)))) = some r := h; clear h
 by_cases c2 : a0_0 = 0
 ·rw [if_pos c2] at H
  have c2b0 : (a0_0 == 0) = true := beq_iff_eq.mpr c2; have c2b1 : (a0_0 != 0) = false := bne_eq_false_iff_eq.mpr c2; clear c2; obtain ⟨t105, A3, H⟩ := bi_ H; obtain rfl := Option.some.inj H; go_enter Tryz.func29, Tryz.ntmps29; go_wp2_with (first | (refine gD 1 ?_; (try (refine gate_guard (by rfl) ?_; dsimp only)); refine bxe_ 1 (n8_ a0_0 a0_1 a0_2 a0_3 a0_4 a0_5 a0_6 (.slice A0_7 l0_7.length c0_7)) 27 ?_; intro gb104 hg w4 hbox hb; have BK104 := A_ (hbox); have GW104 := gs_ w hg; have GE104 := gs_ w hg; replace HB := bs_ hb; clear hb hbox hg; have Z5 := bz8_ BK104) | (refine gC 45 ?_; refine gL 8 Tryz.func45 #[.agg (n8_ a0_0 a0_1 a0_2 a0_3 a0_4 a0_5 a0_6 (.slice A0_7 l0_7.length c0_7))] ?_; (with_reducible refine (tree_End.calls k a0_0 a0_1 a0_2 a0_3 a0_4 a0_5 a0_6 _ _ l0_7 t105 _ ?side1 ?side2 A3.out).mono ?_); (case side1 => exact cb_ HR0_7); (case side2 => exact HC0_7.out); rintro e w6 ⟨rfl, hb⟩; refine ⟨_, rfl, ?_⟩; replace BK104 := bb_ BK104 hb; replace HB := bs_ hb; (try clear hb))); go_ret; exact ⟨re_, hs_⟩
 ·rw [if_neg c2] at H
  have c2b0 : (a0_0 == 0) = false := beq_eq_false_iff_ne.mpr c2; have c2b1 : (a0_0 != 0) = true := bne_iff_ne.mpr c2
  by_cases c7 : a0_0 = 1
  ·rw [if_pos c7] at H
   have c7b0 : (a0_0 == 1) = true := beq_iff_eq.mpr c7; have c7b1 : (a0_0 != 1) = false := bne_eq_false_iff_eq.mpr c7; clear c7; obtain ⟨t106, A8, H⟩ := bi_ H
   by_cases c9 : t106 = true
   ·subst c9
    replace H := iP_ H
    by_cases c10 : (l0_7.length : Int) = 2
    ·rw [if_pos c10] at H
     have c10b0 : ((l0_7.length : Int) == 2) = true := beq_iff_eq.mpr c10; have c10b1 : ((l0_7.length : Int) != 2) = false := bne_eq_false_iff_eq.mpr c10; clear c10
     by_cases c11 : 0 < (l0_7.length : Int)
     ·rw [if_pos c11] at H
      have c11b0 := decide_eq_true c11; have c11b1 : decide (0 < l0_7.length) = true := decide_eq_true (by omega); clear c11; obtain ⟨t108, A12, H⟩ := bi_ H
      by_cases c13 : t108 = true
      ·subst c13
       replace H := iP_ H
       by_cases c14 : 1 < (l0_7.length : Int)
       ·rw [if_pos c14] at H
        have c14b0 := decide_eq_true c14; have c14b1 : decide (1 < l0_7.length) = true := decide_eq_true (by omega); clear c14; obtain ⟨t110, A15, H⟩ := bi_ H; obtain rfl := Option.some.inj H; go_enter Tryz.func29, Tryz.ntmps29; go_wp2_with (first | (refine gD 1 ?_; (try (refine gate_guard (by rfl) ?_; dsimp only)); refine bxe_ 1 (n8_ a0_0 a0_1 a0_2 a0_3 a0_4 a0_5 a0_6 (.slice A0_7 l0_7.length c0_7)) 27 ?_; intro gb104 hg w16 hbox hb; have BK104 := A_ (hbox); have GW104 := gs_ w hg; have GE104 := gs_ w hg; replace HB := bs_ hb; clear hb hbox hg; have Z17 := bz8_ BK104) | (refine gC 46 ?_; refine gL 12 Tryz.func46 #[.agg (n8_ a0_0 a0_1 a0_2 a0_3 a0_4 a0_5 a0_6 (.slice A0_7 l0_7.length c0_7))] ?_; (with_reducible refine (tree_bare.calls a0_0 a0_1 a0_2 a0_3 a0_4 a0_5 a0_6 _ _ l0_7 true _ ?side1 ?side2 A8.out).mono ?_); (case side1 => exact cb_ HR0_7); (case side2 => exact HC0_7.out); rintro e w18 ⟨rfl, hb⟩; refine ⟨_, rfl, ?_⟩; replace BK104 := bb_ BK104 hb; replace HB := bs_ hb; (try clear hb); have Z19 := bz8_ BK104; have p107 : 0 ≤ (0 : Int) := (by omega); have q107 : 0 < (l0_7.length : Int) := od_; obtain ⟨ad107, A107_7, c107_7, e107, hx107_0, hx107_1, hx107_2, hx107_3, hx107_4, hx107_5, hx107_6, hx107_7, hl107_7, hi107_7⟩ := at_T27 HR0_7.out 0 p107 q107; cases e107; have qi107 : (0 < l0_7.length) = True := eq_true (by omega); replace hx107_0 := ai_ hx107_0; replace hx107_1 := ai_ hx107_1; replace hx107_2 := ai_ hx107_2; replace hx107_3 := ai_ hx107_3; replace hx107_4 := ai_ hx107_4; replace hx107_5 := ai_ hx107_5; replace hx107_6 := ai_ hx107_6; replace hx107_7 := ai_ hx107_7; replace hx107_0 := cl_ HB hx107_0; replace hx107_1 := cl_ HB hx107_1; replace hx107_2 := cl_ HB hx107_2; replace hx107_3 := cl_ HB hx107_3; replace hx107_4 := cl_ HB hx107_4; replace hx107_5 := cl_ HB hx107_5; replace hx107_6 := cl_ HB hx107_6; replace hx107_7 := cl_ HB hx107_7; have HR107_7 := A_ hi107_7; have HC107_7 := A_ hl107_7; clear hi107_7 hl107_7; replace p107 := eq_true p107; replace q107 := eq_true q107) | (go_at_call 45; (with_reducible refine (tree_End.calls k ((rd_T27 l0_7 0).f0) ((rd_T27 l0_7 0).f1.f0) ((rd_T27 l0_7 0).f1.f1) ((rd_T27 l0_7 0).f1.f2) ((rd_T27 l0_7 0).f1.f3) ((rd_T27 l0_7 0).f2) ((rd_T27 l0_7 0).f3) _ _ ((rd_T27 l0_7 0).f4) true _ ?side1 ?side2 A12.out).mono ?_); (case side1 => exact cb_ HR107_7); (case side2 => exact HC107_7.out); rintro e w20 ⟨rfl, hb⟩; replace BK104 := bb_ BK104 hb; replace HB := bs_ hb; (try clear hb); have Z21 := bz8_ BK104; have p109 : 0 ≤ (1 : Int) := (by omega); have q109 : 1 < (l0_7.length : Int) := od_; obtain ⟨ad109, A109_7, c109_7, e109, hx109_0, hx109_1, hx109_2, hx109_3, hx109_4, hx109_5, hx109_6, hx109_7, hl109_7, hi109_7⟩ := at_T27 HR0_7.out 1 p109 q109; obtain rfl : ad107 = ad109 := (by injection e109); replace hx109_0 := aj_ hx109_0; replace hx109_1 := aj_ hx109_1; replace hx109_2 := aj_ hx109_2; replace hx109_3 := aj_ hx109_3; replace hx109_4 := aj_ hx109_4; replace hx109_5 := aj_ hx109_5; replace hx109_6 := aj_ hx109_6; replace hx109_7 := aj_ hx109_7; have qi109 : (1 < l0_7.length) = True := eq_true (by omega); (try rw [show ((1 : Int)).toNat = 1 from rfl] at hx109_0); (try rw [show 1 * 8 = 8 from rfl] at hx109_0); (try rw [show ((1 : Int)).toNat = 1 from rfl] at hx109_1); (try rw [show 1 * 8 = 8 from rfl] at hx109_1); (try rw [show ((1 : Int)).toNat = 1 from rfl] at hx109_2); (try rw [show 1 * 8 = 8 from rfl] at hx109_2); (try rw [show ((1 : Int)).toNat = 1 from rfl] at hx109_3); (try rw [show 1 * 8 = 8 from rfl] at hx109_3); (try rw [show ((1 : Int)).toNat = 1 from rfl] at hx109_4); (try rw [show 1 * 8 = 8 from rfl] at hx109_4); (try rw [show ((1 : Int)).toNat = 1 from rfl] at hx109_5); (try rw [show 1 * 8 = 8 from rfl] at hx109_5); (try rw [show ((1 : Int)).toNat = 1 from rfl] at hx109_6); (try rw [show 1 * 8 = 8 from rfl] at hx109_6); (try rw [show ((1 : Int)).toNat = 1 from rfl] at hx109_7); (try rw [show 1 * 8 = 8 from rfl] at hx109_7); replace hx109_0 := cl_ HB hx109_0; replace hx109_1 := cl_ HB hx109_1; replace hx109_2 := cl_ HB hx109_2; replace hx109_3 := cl_ HB hx109_3; replace hx109_4 := cl_ HB hx109_4; replace hx109_5 := cl_ HB hx109_5; replace hx109_6 := cl_ HB hx109_6; replace hx109_7 := cl_ HB hx109_7; have HR109_7 := A_ hi109_7; have HC109_7 := A_ hl109_7; clear hi109_7 hl109_7; replace p109 := eq_true p109; replace q109 := eq_true q109) | (go_at_call 45; (with_reducible refine (tree_End.calls k ((rd_T27 l0_7 1).f0) ((rd_T27 l0_7 1).f1.f0) ((rd_T27 l0_7 1).f1.f1) ((rd_T27 l0_7 1).f1.f2) ((rd_T27 l0_7 1).f1.f3) ((rd_T27 l0_7 1).f2) ((rd_T27 l0_7 1).f3) _ _ ((rd_T27 l0_7 1).f4) t110 _ ?side1 ?side2 A15.out).mono ?_); (case side1 => exact cb_ HR109_7); (case side2 => exact HC109_7.out); rintro e w22 ⟨rfl, hb⟩; replace BK104 := bb_ BK104 hb; replace HB := bs_ hb; (try clear hb)))
        go_ret; exact ⟨re_, hs_⟩
       ·rw [if_neg c14] at H
        exact absurd H (by simp)
      ·replace c13 := Bool.eq_false_iff.mpr c13
       subst c13; replace H := iN_ H; obtain rfl := Option.some.inj H; go_enter Tryz.func29, Tryz.ntmps29; go_wp2_with (first | (refine gD 1 ?_; (try (refine gate_guard (by rfl) ?_; dsimp only)); refine bxe_ 1 (n8_ a0_0 a0_1 a0_2 a0_3 a0_4 a0_5 a0_6 (.slice A0_7 l0_7.length c0_7)) 27 ?_; intro gb104 hg w23 hbox hb; have BK104 := A_ (hbox); have GW104 := gs_ w hg; have GE104 := gs_ w hg; replace HB := bs_ hb; clear hb hbox hg; have Z24 := bz8_ BK104) | (refine gC 46 ?_; refine gL 12 Tryz.func46 #[.agg (n8_ a0_0 a0_1 a0_2 a0_3 a0_4 a0_5 a0_6 (.slice A0_7 l0_7.length c0_7))] ?_; (with_reducible refine (tree_bare.calls a0_0 a0_1 a0_2 a0_3 a0_4 a0_5 a0_6 _ _ l0_7 true _ ?side1 ?side2 A8.out).mono ?_); (case side1 => exact cb_ HR0_7); (case side2 => exact HC0_7.out); rintro e w25 ⟨rfl, hb⟩; refine ⟨_, rfl, ?_⟩; replace BK104 := bb_ BK104 hb; replace HB := bs_ hb; (try clear hb); have Z26 := bz8_ BK104; have p107 : 0 ≤ (0 : Int) := (by omega); have q107 : 0 < (l0_7.length : Int) := od_; obtain ⟨ad107, A107_7, c107_7, e107, hx107_0, hx107_1, hx107_2, hx107_3, hx107_4, hx107_5, hx107_6, hx107_7, hl107_7, hi107_7⟩ := at_T27 HR0_7.out 0 p107 q107; cases e107; have qi107 : (0 < l0_7.length) = True := eq_true (by omega); replace hx107_0 := ai_ hx107_0; replace hx107_1 := ai_ hx107_1; replace hx107_2 := ai_ hx107_2; replace hx107_3 := ai_ hx107_3; replace hx107_4 := ai_ hx107_4; replace hx107_5 := ai_ hx107_5; replace hx107_6 := ai_ hx107_6; replace hx107_7 := ai_ hx107_7; replace hx107_0 := cl_ HB hx107_0; replace hx107_1 := cl_ HB hx107_1; replace hx107_2 := cl_ HB hx107_2; replace hx107_3 := cl_ HB hx107_3; replace hx107_4 := cl_ HB hx107_4; replace hx107_5 := cl_ HB hx107_5; replace hx107_6 := cl_ HB hx107_6; replace hx107_7 := cl_ HB hx107_7; have HR107_7 := A_ hi107_7; have HC107_7 := A_ hl107_7; clear hi107_7 hl107_7; replace p107 := eq_true p107; replace q107 := eq_true q107) | (go_at_call 45; (with_reducible refine (tree_End.calls k ((rd_T27 l0_7 0).f0) ((rd_T27 l0_7 0).f1.f0) ((rd_T27 l0_7 0).f1.f1) ((rd_T27 l0_7 0).f1.f2) ((rd_T27 l0_7 0).f1.f3) ((rd_T27 l0_7 0).f2) ((rd_T27 l0_7 0).f3) _ _ ((rd_T27 l0_7 0).f4) false _ ?side1 ?side2 A12.out).mono ?_); (case side1 => exact cb_ HR107_7); (case side2 => exact HC107_7.out); rintro e w27 ⟨rfl, hb⟩; replace BK104 := bb_ BK104 hb; replace HB := bs_ hb; (try clear hb)))
       go_ret; exact ⟨re_, hs_⟩
     ·rw [if_neg c11] at H
      exact absurd H (by simp)
    ·rw [if_neg c10] at H
     have c10b0 : ((l0_7.length : Int) == 2) = false := beq_eq_false_iff_ne.mpr c10; have c10b1 : ((l0_7.length : Int) != 2) = true := bne_iff_ne.mpr c10; obtain rfl := Option.some.inj H; go_enter Tryz.func29, Tryz.ntmps29; go_wp2_with (first | (refine gD 1 ?_; (try (refine gate_guard (by rfl) ?_; dsimp only)); refine bxe_ 1 (n8_ a0_0 a0_1 a0_2 a0_3 a0_4 a0_5 a0_6 (.slice A0_7 l0_7.length c0_7)) 27 ?_; intro gb104 hg w28 hbox hb; have BK104 := A_ (hbox); have GW104 := gs_ w hg; have GE104 := gs_ w hg; replace HB := bs_ hb; clear hb hbox hg; have Z29 := bz8_ BK104) | (refine gC 46 ?_; refine gL 12 Tryz.func46 #[.agg (n8_ a0_0 a0_1 a0_2 a0_3 a0_4 a0_5 a0_6 (.slice A0_7 l0_7.length c0_7))] ?_; (with_reducible refine (tree_bare.calls a0_0 a0_1 a0_2 a0_3 a0_4 a0_5 a0_6 _ _ l0_7 true _ ?side1 ?side2 A8.out).mono ?_); (case side1 => exact cb_ HR0_7); (case side2 => exact HC0_7.out); rintro e w30 ⟨rfl, hb⟩; refine ⟨_, rfl, ?_⟩; replace BK104 := bb_ BK104 hb; replace HB := bs_ hb; (try clear hb); have Z31 := bz8_ BK104))
     go_ret; exact ⟨re_, hs_⟩
   ·replace c9 := Bool.eq_false_iff.mpr c9
    subst c9; replace H := iN_ H; obtain rfl := Option.some.inj H; go_enter Tryz.func29, Tryz.ntmps29; go_wp2_with (first | (refine gD 1 ?_; (try (refine gate_guard (by rfl) ?_; dsimp only)); refine bxe_ 1 (n8_ a0_0 a0_1 a0_2 a0_3 a0_4 a0_5 a0_6 (.slice A0_7 l0_7.length c0_7)) 27 ?_; intro gb104 hg w32 hbox hb; have BK104 := A_ (hbox); have GW104 := gs_ w hg; have GE104 := gs_ w hg; replace HB := bs_ hb; clear hb hbox hg; have Z33 := bz8_ BK104) | (refine gC 46 ?_; refine gL 12 Tryz.func46 #[.agg (n8_ a0_0 a0_1 a0_2 a0_3 a0_4 a0_5 a0_6 (.slice A0_7 l0_7.length c0_7))] ?_; (with_reducible refine (tree_bare.calls a0_0 a0_1 a0_2 a0_3 a0_4 a0_5 a0_6 _ _ l0_7 false _ ?side1 ?side2 A8.out).mono ?_); (case side1 => exact cb_ HR0_7); (case side2 => exact HC0_7.out); rintro e w34 ⟨rfl, hb⟩; refine ⟨_, rfl, ?_⟩; replace BK104 := bb_ BK104 hb; replace HB := bs_ hb; (try clear hb))); go_ret; exact ⟨re_, hs_⟩
  ·rw [if_neg c7] at H
   have c7b0 : (a0_0 == 1) = false := beq_eq_false_iff_ne.mpr c7; have c7b1 : (a0_0 != 1) = true := bne_iff_ne.mpr c7
   by_cases c35 : a0_0 = 2
   ·rw [if_pos c35] at H
    have c35b0 : (a0_0 == 2) = true := beq_iff_eq.mpr c35; have c35b1 : (a0_0 != 2) = false := bne_eq_false_iff_eq.mpr c35; clear c35; obtain ⟨t111, A36, H⟩ := bi_ H
    by_cases c37 : t111 = true
    ·subst c37
     replace H := iP_ H
     by_cases c38 : (l0_7.length : Int) > 0
     ·rw [if_pos c38] at H
      have c38b0 := decide_eq_true c38; have c38b1 : decide (0 < l0_7.length) = true := decide_eq_true (by omega); clear c38; obtain ⟨t112, A39, H⟩ := bi_ H; obtain rfl := Option.some.inj H; go_enter Tryz.func29, Tryz.ntmps29; go_wp2_with (first | (refine gD 1 ?_; (try (refine gate_guard (by rfl) ?_; dsimp only)); refine bxe_ 1 (n8_ a0_0 a0_1 a0_2 a0_3 a0_4 a0_5 a0_6 (.slice A0_7 l0_7.length c0_7)) 27 ?_; intro gb104 hg w40 hbox hb; have BK104 := A_ (hbox); have GW104 := gs_ w hg; have GE104 := gs_ w hg; replace HB := bs_ hb; clear hb hbox hg; have Z41 := bz8_ BK104) | (refine gC 46 ?_; refine gL 36 Tryz.func46 #[.agg (n8_ a0_0 a0_1 a0_2 a0_3 a0_4 a0_5 a0_6 (.slice A0_7 l0_7.length c0_7))] ?_; (with_reducible refine (tree_bare.calls a0_0 a0_1 a0_2 a0_3 a0_4 a0_5 a0_6 _ _ l0_7 true _ ?side1 ?side2 A36.out).mono ?_); (case side1 => exact cb_ HR0_7); (case side2 => exact HC0_7.out); rintro e w42 ⟨rfl, hb⟩; refine ⟨_, rfl, ?_⟩; replace BK104 := bb_ BK104 hb; replace HB := bs_ hb; (try clear hb); have Z43 := bz8_ BK104) | (go_at_call 47; (with_reducible refine (slices_ContainsFunc.calls k ihS _ _ l0_7  t112 _ ?side1 ?side2 A39.out).mono ?_); (case side1 => exact cb_ HR0_7); (case side2 => exact HC0_7.out); rintro e w44 ⟨rfl, hb⟩; replace BK104 := bb_ BK104 hb; replace HB := bs_ hb; (try clear hb)))
      go_ret; exact ⟨re_, hs_⟩
     ·rw [if_neg c38] at H
      have c38b0 := decide_eq_false c38; have c38b1 : decide (0 < l0_7.length) = false := decide_eq_false (by omega); clear c38; obtain rfl := Option.some.inj H; go_enter Tryz.func29, Tryz.ntmps29; go_wp2_with (first | (refine gD 1 ?_; (try (refine gate_guard (by rfl) ?_; dsimp only)); refine bxe_ 1 (n8_ a0_0 a0_1 a0_2 a0_3 a0_4 a0_5 a0_6 (.slice A0_7 l0_7.length c0_7)) 27 ?_; intro gb104 hg w45 hbox hb; have BK104 := A_ (hbox); have GW104 := gs_ w hg; have GE104 := gs_ w hg; replace HB := bs_ hb; clear hb hbox hg; have Z46 := bz8_ BK104) | (refine gC 46 ?_; refine gL 36 Tryz.func46 #[.agg (n8_ a0_0 a0_1 a0_2 a0_3 a0_4 a0_5 a0_6 (.slice A0_7 l0_7.length c0_7))] ?_; (with_reducible refine (tree_bare.calls a0_0 a0_1 a0_2 a0_3 a0_4 a0_5 a0_6 _ _ l0_7 true _ ?side1 ?side2 A36.out).mono ?_); (case side1 => exact cb_ HR0_7); (case side2 => exact HC0_7.out); rintro e w47 ⟨rfl, hb⟩; refine ⟨_, rfl, ?_⟩; replace BK104 := bb_ BK104 hb; replace HB := bs_ hb; (try clear hb); have Z48 := bz8_ BK104))
      go_ret; exact ⟨re_, hs_⟩
    ·replace c37 := Bool.eq_false_iff.mpr c37
     subst c37; replace H := iN_ H; obtain rfl := Option.some.inj H; go_enter Tryz.func29, Tryz.ntmps29; go_wp2_with (first | (refine gD 1 ?_; (try (refine gate_guard (by rfl) ?_; dsimp only)); refine bxe_ 1 (n8_ a0_0 a0_1 a0_2 a0_3 a0_4 a0_5 a0_6 (.slice A0_7 l0_7.length c0_7)) 27 ?_; intro gb104 hg w49 hbox hb; have BK104 := A_ (hbox); have GW104 := gs_ w hg; have GE104 := gs_ w hg; replace HB := bs_ hb; clear hb hbox hg; have Z50 := bz8_ BK104) | (refine gC 46 ?_; refine gL 36 Tryz.func46 #[.agg (n8_ a0_0 a0_1 a0_2 a0_3 a0_4 a0_5 a0_6 (.slice A0_7 l0_7.length c0_7))] ?_; (with_reducible refine (tree_bare.calls a0_0 a0_1 a0_2 a0_3 a0_4 a0_5 a0_6 _ _ l0_7 false _ ?side1 ?side2 A36.out).mono ?_); (case side1 => exact cb_ HR0_7); (case side2 => exact HC0_7.out); rintro e w51 ⟨rfl, hb⟩; refine ⟨_, rfl, ?_⟩; replace BK104 := bb_ BK104 hb; replace HB := bs_ hb; (try clear hb))); go_ret; exact ⟨re_, hs_⟩
   ·rw [if_neg c35] at H
    have c35b0 : (a0_0 == 2) = false := beq_eq_false_iff_ne.mpr c35; have c35b1 : (a0_0 != 2) = true := bne_iff_ne.mpr c35; obtain rfl := Option.some.inj H; go_enter Tryz.func29, Tryz.ntmps29; go_wp2_with (first | (refine gD 1 ?_; (try (refine gate_guard (by rfl) ?_; dsimp only)); refine bxe_ 1 (n8_ a0_0 a0_1 a0_2 a0_3 a0_4 a0_5 a0_6 (.slice A0_7 l0_7.length c0_7)) 27 ?_; intro gb104 hg w52 hbox hb; have BK104 := A_ (hbox); have GW104 := gs_ w hg; have GE104 := gs_ w hg; replace HB := bs_ hb; clear hb hbox hg; have Z53 := bz8_ BK104)); go_ret; exact ⟨re_, hs_⟩
theorem tree_right.calls (k : Nat) : ∀ (a0_0 a0_1 : Int) (a0_2 a0_3 a0_4 : ByteArray) (a0_5 a0_6 : Bool) (A0_7 : Option Addr) (c0_7 : Nat) (l0_7 : List (S27)) (r : Bool) (w : World) (hr0_7 : Kd.C k27 w A0_7 l0_7.length l0_7) (hc0_7 : l0_7.length ≤ c0_7) (h : tree_right.f k a0_0 a0_1 a0_2 a0_3 a0_4 a0_5 a0_6 l0_7 = some r),
  Calls Tryz.prog 29 #[.agg #[.int .i64 a0_0, .int .i64 a0_1, .string a0_2, .string a0_3, .string a0_4, .bool a0_5, .bool a0_6, .slice A0_7 l0_7.length c0_7]] w fun e w' => e = .returned (.bool r) ∧ Below w.heap.size w w' := by
 induction k using Nat.strongRecOn with
 | _ k ih =>
 intro a0_0 a0_1 a0_2 a0_3 a0_4 a0_5 a0_6 A0_7 c0_7 l0_7 r w hr0_7 hc0_7 h
 cases k with
 | zero => exact absurd h (by simp [tree_right.f])
 | succ k =>
 rw [tree_right.f_succ] at h; exact tree_rightR.calls k (fun j hj => ih j (Nat.lt_succ_of_lt hj)) _ _ _ _ _ _ _ _ _ _ _ _ hr0_7 hc0_7 h
end Go.Proofs.YtjgjhekpiijniaaGreat.A
namespace Go.Proofs.YtjgjhekpiijniaaGreat.A
open Go.RowKit Go.Proofs.YtjgjhekpiijniaaGreatW.PrintWords Go.Proofs.YtjgjhekpiijniaaGreatW.PrintLast Go.Proofs.YtjgjhekpiijniaaGreatW.PrintMore
attribute [local go_sem] max2_int min2_int max_two min_two max_three min_three max_four min_four isSome_setCell run_store_func_
set_option maxHeartbeats 8000000 in
set_option maxRecDepth 100000 in
theorem tree_Count_1.calls (w0 : World) (gq gf : Nat) (hgk : w0.heap.size ≤ gq) (hgc : w0.heap.size ≤ gf) (hne : gq ≠ gf) (k : Nat) : ∀ (a0_0 a0_1 : Int) (a0_2 a0_3 a0_4 : ByteArray) (a0_5 a0_6 : Bool) (A0_7 : Option Addr) (c0_7 : Nat) (l0_7 : List (S27)) (a1 r : Int) (w : World) (hr0_7 : Kd.C k27 w0 A0_7 l0_7.length l0_7) (hc0_7 : l0_7.length ≤ c0_7)
    (hB : Below w0.heap.size w0 w) (hK : w.heap[gq]? = some (.cells #[.int .i64 a1] 3 (0, 0))) (hC : w.heap[gf]? = some (.cells #[.func (.func 43) #[] #[.pointer (some ⟨gq, 0, none⟩), .pointer (some ⟨gf, 0, none⟩)]] 73 (0, 0)))
    (h : tree_Count_1.f k a0_0 a0_1 a0_2 a0_3 a0_4 a0_5 a0_6 l0_7 a1 = some r),
    Calls Tryz.prog 43 #[.agg #[.int .i64 a0_0, .int .i64 a0_1, .string a0_2, .string a0_3, .string a0_4, .bool a0_5, .bool a0_6, .slice A0_7 l0_7.length c0_7], .pointer (some ⟨gq, 0, none⟩), .pointer (some ⟨gf, 0, none⟩)] w fun e w' => (∃ v, e = .returned v) ∧ Below w0.heap.size w0 w' ∧ w'.heap[gq]? = some (.cells #[.int .i64 r] 3 (0, 0)) ∧ w'.heap[gf]? = some (.cells #[.func (.func 43) #[] #[.pointer (some ⟨gq, 0, none⟩), .pointer (some ⟨gf, 0, none⟩)]] 73 (0, 0)) := by
  induction k using Nat.strongRecOn with
  | _ k ih =>
  intro a0_0 a0_1 a0_2 a0_3 a0_4 a0_5 a0_6 A0_7 c0_7 l0_7 a1 r w hr0_7 hc0_7 hB hK hC h
  cases k with
  | zero => exact absurd h (by simp [tree_Count_1.f])
  | succ k =>
  simp only [tree_Count_1.f] at h
  have hu27 := Tryz.underlying27
  have HR0_7 := A_ hr0_7
  have HC0_7 := A_ hc0_7
  clear hr0_7 hc0_7
  have HB := A_ hB
  have HK := A_ hK
  have HC := A_ hC
  have HGK := A_ hgk
  have HGC := A_ hgc
  have hne2 := Ne.symm hne
  clear hB hK hC hgk hgc
  have H : (tree_Count_1.l0 k (wrap64 (a1 + 1)) l0_7 (l0_7.length : Int) 0) = some r := h
  clear h
  have H' := A_ H
  clear H
  go_enter Tryz.func43, Tryz.ntmps43
  go_wp2_with (first | (refine gD 3 ?_; refine bxe_ 3 (n8_ a0_0 a0_1 a0_2 a0_3 a0_4 a0_5 a0_6 (.slice A0_7 l0_7.length c0_7)) 27 ?_; intro gb101 hg w3 hbox hb; have n0_ := A_ (below_step HB.out hb); have n1_ := A_ (blk_below HK.out hb); have n2_ := A_ (blk_below HC.out hb); have NB1 : gq ≠ gb101 := Nat.ne_of_lt (Nat.lt_of_lt_of_le (blk_lt HK.out) (Nat.le_of_eq hg.symm)); have NB2 : gb101 ≠ gq := Ne.symm NB1; clear HB HK HC; have HB := n0_; have HK := n1_; have HC := n2_; clear n0_ n1_ n2_; have hcz4_7 : w3.cell? ⟨gb101, 7, none⟩ = some (.slice A0_7 l0_7.length c0_7) := (blk_cell hbox 7).trans rfl; have hfz4_7 := blk_frozen hbox 7; have hkz : w3.cell? ⟨gq, 0, none⟩ = some (.int .i64 a1) := bq_ HK 0; have hkf := blk_frozen HK.out 0; clear hb hbox hg))
  go_loopg [11] k (fun kq v11 w' => ∃ (x1_1 : Int) (x11_1 : Int), v11 = .int .i64 x11_1 ∧ Aside0 (tree_Count_1.l0 kq x1_1 l0_7 (l0_7.length : Int) x11_1 = some r) ∧ Aside0 (kq ≤ k) ∧ Aside0 (w'.heap[gq]? = some (.cells #[.int .i64 x1_1] 3 (0, 0))) ∧ Aside0 (w'.heap[gf]? = some (.cells #[.func (.func 43) #[] #[.pointer (some ⟨gq, 0, none⟩), .pointer (some ⟨gf, 0, none⟩)]] 73 (0, 0))) ∧ Aside0 (Below w0.heap.size w0 w'))
  case atStart => exact ⟨(wrap64 (a1 + 1)), (0), (by first | rfl | (simp; done) | (simp [*]; done)), H', ⟨Nat.le_refl _⟩, ⟨blk_put HK.out 0 _ rfl⟩, ⟨blk_far HC.out hne2 _⟩, ⟨below_set HB.out HGK.out⟩⟩
  case round =>
    clear H' HB HK HC hkz hkf hcz4_7 hfz4_7 NB1 NB2
    obtain ⟨x1_1, x11_1, rfl, HA, HK1, HK, HC, HB⟩ := hrel
    cases gk with
    | zero => exact absurd HA.out (by simp [tree_Count_1.l0])
    | succ k1 =>
      have H := HA.out
      clear HA
      simp only [tree_Count_1.l0] at H
      by_cases c5 : x11_1 < (l0_7.length : Int)
      · rw [if_pos c5] at H
        have c5b0 := decide_eq_true c5
        clear c5
        by_cases c6 : 0 ≤ x11_1
        · rw [if_pos c6] at H
          have c6b0 := decide_eq_true c6
          clear c6
          by_cases c7 : x11_1 < (l0_7.length : Int)
          · rw [if_pos c7] at H
            have c7b0 := decide_eq_true c7
            clear c7
            replace H := Option.bind_eq_some_iff.mp H
            obtain ⟨t104, A80, H⟩ := H
            replace H : (tree_Count_1.l0 k1 t104 l0_7 (l0_7.length : Int) (wrap64 (x11_1 + 1))) = some r := H
            have A8 := A_ A80
            clear A80
            have H' := A_ H
            clear H
            have p102 : 0 ≤ (x11_1 : Int) := of_decide_eq_true (by first | (with_reducible assumption) | assumption)
            have q102 : x11_1 < (l0_7.length : Int) := of_decide_eq_true (by first | (with_reducible assumption) | assumption)
            obtain ⟨ad102, A102_7, c102_7, e102, hx102_0, hx102_1, hx102_2, hx102_3, hx102_4, hx102_5, hx102_6, hx102_7, hl102_7, hi102_7⟩ := at_T27 HR0_7.out x11_1 p102 q102
            cases e102
            replace hx102_0 := cl_ HB hx102_0
            replace hx102_1 := cl_ HB hx102_1
            replace hx102_2 := cl_ HB hx102_2
            replace hx102_3 := cl_ HB hx102_3
            replace hx102_4 := cl_ HB hx102_4
            replace hx102_5 := cl_ HB hx102_5
            replace hx102_6 := cl_ HB hx102_6
            replace hx102_7 := cl_ HB hx102_7
            have HR102_7 := A_ hi102_7
            have HC102_7 := A_ hl102_7
            clear hi102_7 hl102_7
            replace p102 := eq_true p102
            replace q102 := eq_true q102
            go_wp2_with (first | (refine gD 5 ?_; refine bxe_ 5 z8_ 27 ?_; intro gb103 hg w9 hbox hb; have n0_ := A_ (below_step HB.out hb); have n1_ := A_ (blk_below HK.out hb); have n2_ := A_ (blk_below HC.out hb); have NB1 := A_ (Nat.ne_of_lt (Nat.lt_of_lt_of_le (blk_lt HK.out) (Nat.le_of_eq hg.symm)) : gq ≠ gb103); have NB3 := A_ (Nat.ne_of_lt (Nat.lt_of_lt_of_le (blk_lt HC.out) (Nat.le_of_eq hg.symm)) : gf ≠ gb103); have GE103 := A_ (Nat.le_trans HB.out.size (Nat.le_of_eq hg.symm) : w0.heap.size ≤ gb103); clear HB HK HC; have HB := n0_; have HK := n1_; have HC := n2_; clear n0_ n1_ n2_; have nb1 := NB1.out; have nb2 := Ne.symm nb1; have nb3 := NB3.out; have nb4 := Ne.symm nb3; have hcz11_0 : w9.cell? ⟨gb103, 0, none⟩ = some (.int .i64 0) := (blk_cell hbox 0).trans rfl; have hfz11_0 := blk_frozen hbox 0; have hcz11_1 : w9.cell? ⟨gb103, 1, none⟩ = some (.int .i64 0) := (blk_cell hbox 1).trans rfl; have hfz11_1 := blk_frozen hbox 1; have hcz11_2 : w9.cell? ⟨gb103, 2, none⟩ = some (.string ⟨#[]⟩) := (blk_cell hbox 2).trans rfl; have hfz11_2 := blk_frozen hbox 2; have hcz11_3 : w9.cell? ⟨gb103, 3, none⟩ = some (.string ⟨#[]⟩) := (blk_cell hbox 3).trans rfl; have hfz11_3 := blk_frozen hbox 3; have hcz11_4 : w9.cell? ⟨gb103, 4, none⟩ = some (.string ⟨#[]⟩) := (blk_cell hbox 4).trans rfl; have hfz11_4 := blk_frozen hbox 4; have hcz11_5 : w9.cell? ⟨gb103, 5, none⟩ = some (.bool false) := (blk_cell hbox 5).trans rfl; have hfz11_5 := blk_frozen hbox 5; have hcz11_6 : w9.cell? ⟨gb103, 6, none⟩ = some (.bool false) := (blk_cell hbox 6).trans rfl; have hfz11_6 := blk_frozen hbox 6; have hcz11_7 : w9.cell? ⟨gb103, 7, none⟩ = some (.slice none 0 0) := (blk_cell hbox 7).trans rfl; have hfz11_7 := blk_frozen hbox 7; have hcf : w9.cell? ⟨gf, 0, none⟩ = some (.func (.func 43) #[] #[.pointer (some ⟨gq, 0, none⟩), .pointer (some ⟨gf, 0, none⟩)]) := bq_ HC 0; have hff := blk_frozen HC.out 0; clear hb hbox hg) | ((with_reducible refine gate_held rfl ?_); refine goesF_ (some 17) rfl rfl #[.pointer (some ⟨gq, 0, none⟩), .pointer (some ⟨gf, 0, none⟩)] Tryz.func43 (by kernel_rfl) rfl #[.agg #[.int .i64 ((rd_T27 l0_7 x11_1).f0), .int .i64 ((rd_T27 l0_7 x11_1).f1.f0), .string ((rd_T27 l0_7 x11_1).f1.f1), .string ((rd_T27 l0_7 x11_1).f1.f2), .string ((rd_T27 l0_7 x11_1).f1.f3), .bool ((rd_T27 l0_7 x11_1).f2), .bool ((rd_T27 l0_7 x11_1).f3), .slice A102_7 ((rd_T27 l0_7 x11_1).f4).length c102_7], .pointer (some ⟨gq, 0, none⟩), .pointer (some ⟨gf, 0, none⟩)] rfl rfl (by (simp only [List.map_toArray, List.map_cons, List.map_nil, List.append_toArray, List.cons_append, List.nil_append]); rfl) ?_; (refine (ih k1 (Nat.lt_succ_of_lt HK1.out) ((rd_T27 l0_7 x11_1).f0) ((rd_T27 l0_7 x11_1).f1.f0) ((rd_T27 l0_7 x11_1).f1.f1) ((rd_T27 l0_7 x11_1).f1.f2) ((rd_T27 l0_7 x11_1).f1.f3) ((rd_T27 l0_7 x11_1).f2) ((rd_T27 l0_7 x11_1).f3) _ _ ((rd_T27 l0_7 x11_1).f4) x1_1 t104 _ HR102_7.out HC102_7.out ?sb ?sk ?sc A8.out).mono ?_); (case sb => exact (below_set (below_set (below_set (below_set (below_set (below_set (below_set (below_set HB.out GE103.out) GE103.out) GE103.out) GE103.out) GE103.out) GE103.out) GE103.out) GE103.out)); (case sk => exact (blk_far (blk_far (blk_far (blk_far (blk_far (blk_far (blk_far (blk_far HK.out NB1.out _) NB1.out _) NB1.out _) NB1.out _) NB1.out _) NB1.out _) NB1.out _) NB1.out _)); (case sc => exact (blk_far (blk_far (blk_far (blk_far (blk_far (blk_far (blk_far (blk_far HC.out NB3.out _) NB3.out _) NB3.out _) NB3.out _) NB3.out _) NB3.out _) NB3.out _) NB3.out _)); rintro e w12 ⟨⟨v_, rfl⟩, hb, hk, hc⟩; refine ⟨_, rfl, ?_⟩; clear HB HK HC; have HB := A_ hb; have HK := A_ hk; have HC := A_ hc; clear hb hk hc))
            go_roundg k1
            case measure => have := HK1.out; omega
            case rel => exact ⟨(t104), (wrap64 (x11_1 + 1)), (by first | rfl | (simp; done) | (simp [*]; done)), H', ⟨by have := HK1.out; omega⟩, HK, HC, HB⟩
          · rw [if_neg c7] at H
            exact absurd H (by simp)
        · rw [if_neg c6] at H
          exact absurd H (by simp)
      · rw [if_neg c5] at H
        have c5b0 := decide_eq_false c5
        clear c5
        obtain rfl := Option.some.inj H
        go_wp2
        refine bodyPost_end (results_none rfl _ _ _) rfl ⟨⟨_, rfl⟩, HB.out, HK.out, HC.out⟩
set_option maxHeartbeats 8000000 in
set_option maxRecDepth 100000 in
theorem tree_Count.calls (k : Nat) (a0_0 a0_1 : Int) (a0_2 a0_3 a0_4 : ByteArray) (a0_5 a0_6 : Bool) (A0_7 : Option Addr) (c0_7 : Nat) (l0_7 : List (S27)) (r : Int) (w : World) (hr0_7 : Kd.C k27 w A0_7 l0_7.length l0_7) (hc0_7 : l0_7.length ≤ c0_7) (h : tree_Count.f k a0_0 a0_1 a0_2 a0_3 a0_4 a0_5 a0_6 l0_7 = some r) :
    Calls Tryz.prog 27 #[.agg #[.int .i64 a0_0, .int .i64 a0_1, .string a0_2, .string a0_3, .string a0_4, .bool a0_5, .bool a0_6, .slice A0_7 l0_7.length c0_7]] w fun e w' => e = .returned (.int .i64 r) ∧ Below w.heap.size w w' := by
  have hu27 := Tryz.underlying27
  have HR0_7 := A_ hr0_7
  have HC0_7 := A_ hc0_7
  have H' := A_ (show tree_Count_1.f k a0_0 a0_1 a0_2 a0_3 a0_4 a0_5 a0_6 l0_7 0 = some r from h)
  have HB := A_ (Below.refl w.heap.size w)
  clear hr0_7 hc0_7 h
  go_enter Tryz.func27, Tryz.ntmps27
  go_wp2_with (first | (refine gD 1 ?_; refine bxe_ 1 (n8_ a0_0 a0_1 a0_2 a0_3 a0_4 a0_5 a0_6 (.slice A0_7 l0_7.length c0_7)) 27 ?_; intro gn hg w1 hbox hb; replace HB := A_ (below_step HB.out hb); have HN := A_ hbox; clear hbox; clear hb hg) | (refine gD 3 ?_; refine bxe_ 3 #[.int .i64 0] 3 ?_; intro gq hg w2 hbox hb; have NE1 := A_ (Nat.ne_of_lt (Nat.lt_of_lt_of_le (blk_lt HN.out) (Nat.le_of_eq hg.symm)) : gn ≠ gq); have n0_ := A_ (below_step HB.out hb); have n1_ := A_ (blk_below HN.out hb); have GQ := A_ (Nat.le_trans HB.out.size (Nat.le_of_eq hg.symm) : w.heap.size ≤ gq); clear HB HN; have HB := n0_; have HN := n1_; clear n0_ n1_; have hq0 : w2.cell? ⟨gq, 0, none⟩ = some (.int .i64 0) := (blk_cell hbox 0).trans rfl; have hq1 := blk_frozen hbox 0; have HQ := A_ hbox; clear hbox; clear hb hg) | (refine gD 4 ?_; refine bxe_ 4 #[.nilFunc] 73 ?_; intro gf hg w3 hbox hb; have HQ2 := A_ (blk_put (cs' := #[.int .i64 0]) HQ.out 0 (.int .i64 0) rfl); have HN2 := A_ (blk_far HN.out NE1.out (p := ⟨gq, 0, none⟩) (.int .i64 0)); have HB2 := A_ (below_set (j := 0) (v := .int .i64 0) HB.out GQ.out); clear HQ HN HB hq0 hq1; have NE2 := A_ (Nat.ne_of_lt (Nat.lt_of_lt_of_le (blk_lt HN2.out) (Nat.le_of_eq hg.symm)) : gn ≠ gf); have NE3 := A_ (Nat.ne_of_lt (Nat.lt_of_lt_of_le (blk_lt HQ2.out) (Nat.le_of_eq hg.symm)) : gq ≠ gf); have HB := A_ (below_step HB2.out hb); have HN := A_ (blk_below HN2.out hb); have HQ := A_ (blk_below HQ2.out hb); have GF := A_ (Nat.le_trans HB2.out.size (Nat.le_of_eq hg.symm) : w.heap.size ≤ gf); clear HB2 HN2 HQ2; have hf0 : w3.cell? ⟨gf, 0, none⟩ = some .nilFunc := (blk_cell hbox 0).trans rfl; have hf1 := blk_frozen hbox 0; have hn0 : w3.cell? ⟨gn, 0, none⟩ = some (.int .i64 a0_0) := bq_ HN 0; have hm0 := blk_frozen HN.out 0; have hn1 : w3.cell? ⟨gn, 1, none⟩ = some (.int .i64 a0_1) := bq_ HN 1; have hm1 := blk_frozen HN.out 1; have hn2 : w3.cell? ⟨gn, 2, none⟩ = some (.string a0_2) := bq_ HN 2; have hm2 := blk_frozen HN.out 2; have hn3 : w3.cell? ⟨gn, 3, none⟩ = some (.string a0_3) := bq_ HN 3; have hm3 := blk_frozen HN.out 3; have hn4 : w3.cell? ⟨gn, 4, none⟩ = some (.string a0_4) := bq_ HN 4; have hm4 := blk_frozen HN.out 4; have hn5 : w3.cell? ⟨gn, 5, none⟩ = some (.bool a0_5) := bq_ HN 5; have hm5 := blk_frozen HN.out 5; have hn6 : w3.cell? ⟨gn, 6, none⟩ = some (.bool a0_6) := bq_ HN 6; have hm6 := blk_frozen HN.out 6; have hn7 : w3.cell? ⟨gn, 7, none⟩ = some (.slice A0_7 l0_7.length c0_7) := bq_ HN 7; have hm7 := blk_frozen HN.out 7; have e1 := NE2.out; have e2 := Ne.symm e1; have HF := A_ hbox; clear hbox; clear hb hg) | ((with_reducible refine gate_held rfl ?_); refine goesF_ (some 8) rfl rfl #[.pointer (some ⟨gq, 0, none⟩), .pointer (some ⟨gf, 0, none⟩)] Tryz.func43 (by kernel_rfl) rfl #[.agg #[.int .i64 a0_0, .int .i64 a0_1, .string a0_2, .string a0_3, .string a0_4, .bool a0_5, .bool a0_6, .slice A0_7 l0_7.length c0_7], .pointer (some ⟨gq, 0, none⟩), .pointer (some ⟨gf, 0, none⟩)] rfl rfl (by (simp only [List.map_toArray, List.map_cons, List.map_nil, List.append_toArray, List.cons_append, List.nil_append]); rfl) ?_; (refine (tree_Count_1.calls w gq gf GQ.out GF.out NE3.out k a0_0 a0_1 a0_2 a0_3 a0_4 a0_5 a0_6 _ _ l0_7 0 r _ HR0_7.out HC0_7.out (below_set HB.out GF.out) (blk_far HQ.out NE3.out _) (blk_put HF.out 0 _ rfl) H'.out).mono ?_); rintro e w5 ⟨⟨v_, rfl⟩, hb, hk, hc⟩; refine ⟨_, rfl, ?_⟩; have hk0 : w5.cell? ⟨gq, 0, none⟩ = some (.int .i64 r) := (blk_cell hk 0).trans rfl; have hk1 := blk_frozen hk 0; have HB5 := A_ hb; clear hb hk hc))
  go_ret
  exact ⟨rfl, HB5.out⟩
set_option maxHeartbeats 8000000 in
set_option maxRecDepth 100000 in
theorem tree_Deep_1.calls (w0 : World) (gq gf : Nat) (hgq : w0.heap.size ≤ gq) (hgf : w0.heap.size ≤ gf) (hne : gq ≠ gf) (k : Nat) : ∀ (a0_0 a0_1 : Int) (a0_2 a0_3 a0_4 : ByteArray) (a0_5 a0_6 : Bool) (A0_7 : Option Addr) (c0_7 : Nat) (l0_7 : List (S27)) (a1 a2 r : Int) (w : World) (hr0_7 : Kd.C k27 w0 A0_7 l0_7.length l0_7) (hc0_7 : l0_7.length ≤ c0_7)
    (hB : Below w0.heap.size w0 w) (hK : w.heap[gq]? = some (.cells #[.int .i64 a2] 3 (0, 0))) (hC : w.heap[gf]? = some (.cells #[.func (.func 44) #[] #[.pointer (some ⟨gq, 0, none⟩), .pointer (some ⟨gf, 0, none⟩)]] 74 (0, 0)))
    (h : tree_Deep_1.f k a0_0 a0_1 a0_2 a0_3 a0_4 a0_5 a0_6 l0_7 a1 a2 = some r),
    Calls Tryz.prog 44 #[.agg #[.int .i64 a0_0, .int .i64 a0_1, .string a0_2, .string a0_3, .string a0_4, .bool a0_5, .bool a0_6, .slice A0_7 l0_7.length c0_7], .int .i64 a1, .pointer (some ⟨gq, 0, none⟩), .pointer (some ⟨gf, 0, none⟩)] w fun e w' => (∃ v, e = .returned v) ∧ Below w0.heap.size w0 w' ∧ w'.heap[gq]? = some (.cells #[.int .i64 r] 3 (0, 0)) ∧ w'.heap[gf]? = some (.cells #[.func (.func 44) #[] #[.pointer (some ⟨gq, 0, none⟩), .pointer (some ⟨gf, 0, none⟩)]] 74 (0, 0)) := by
  induction k using Nat.strongRecOn with
  | _ k ih =>
  intro a0_0 a0_1 a0_2 a0_3 a0_4 a0_5 a0_6 A0_7 c0_7 l0_7 a1 a2 r w hr0_7 hc0_7 hB hK hC h
  cases k with
  | zero => exact absurd h (by simp [tree_Deep_1.f])
  | succ k =>
  simp only [tree_Deep_1.f] at h
  have hu27 := Tryz.underlying27
  have HR0_7 := A_ hr0_7
  have HC0_7 := A_ hc0_7
  clear hr0_7 hc0_7
  have HB := A_ hB
  have HK := A_ hK
  have HC := A_ hC
  have HGK := A_ hgq
  have HGC := A_ hgf
  have hne2 := Ne.symm hne
  clear hB hK hC hgq hgf
  have HC4 := A_ h
  clear h
  go_enter Tryz.func44, Tryz.ntmps44
  go_upto_if 10 with (first | (refine gD 4 ?_; refine bxe_ 4 (n8_ a0_0 a0_1 a0_2 a0_3 a0_4 a0_5 a0_6 (.slice A0_7 l0_7.length c0_7)) 27 ?_; intro gb105 hg w3 hbox hb; have n0_ := A_ (below_step HB.out hb); have n1_ := A_ (blk_below HK.out hb); have n2_ := A_ (blk_below HC.out hb); have NB1 := A_ (Nat.ne_of_lt (Nat.lt_of_lt_of_le (blk_lt HK.out) (Nat.le_of_eq hg.symm)) : gq ≠ gb105); clear HB HK HC; have HB := n0_; have HK := n1_; have HC := n2_; clear n0_ n1_ n2_; have BK105 := A_ hbox; have hcz4_0 : w3.cell? ⟨gb105, 0, none⟩ = some (.int .i64 a0_0) := (blk_cell hbox 0).trans rfl; have hfz4_0 := blk_frozen hbox 0; clear hb hbox hg))
  (try simp only [Act.put, List.setIfInBounds_toArray, List.set_cons_zero, List.set_cons_succ])
  go_cut [1] (fun v1 wc => ∃ (kq : Nat) (x1_3 : Int), v1 = .int .i64 x1_3 ∧ Aside0 (tree_Deep_1.j0 kq x1_3 a2 a0_0 a0_1 a0_2 a0_3 a0_4 a0_5 a0_6 l0_7 = some r) ∧ Aside0 (kq ≤ k) ∧ Aside0 (wc.heap[gb105]? = some (.cells (n8_ a0_0 a0_1 a0_2 a0_3 a0_4 a0_5 a0_6 (.slice A0_7 l0_7.length c0_7)) 27 (0, 0))) ∧ Aside0 (wc.heap[gq]? = some (.cells #[.int .i64 a2] 3 (0, 0))) ∧ Aside0 (wc.heap[gf]? = some (.cells #[.func (.func 44) #[] #[.pointer (some ⟨gq, 0, none⟩), .pointer (some ⟨gf, 0, none⟩)]] 74 (0, 0))) ∧ Aside0 (Below w0.heap.size w0 wc))
  case first =>
    have H := HC4.out
    clear HC4
    by_cases c7 : a0_0 = 2
    · rw [if_pos c7] at H
      have c7b0 : (a0_0 == 2) = true := beq_iff_eq.mpr c7
      have c7b1 : (a0_0 != 2) = false := bne_eq_false_iff_eq.mpr c7
      clear c7
      (first | rw [c7b0] | (simp only [i64_w, i32_w]; rw [c7b0]) | skip)
      have H' := A_ H
      clear H
      go_wp2
      go_meet
      case rel => exact ⟨_, (wrap64 (a1 + 1)), (by first | rfl | (simp; done) | (simp [*]; done)), H', ⟨by first | omega | exact Nat.le_refl _⟩, BK105, HK, HC, HB⟩
    · rw [if_neg c7] at H
      have c7b0 : (a0_0 == 2) = false := beq_eq_false_iff_ne.mpr c7
      have c7b1 : (a0_0 != 2) = true := bne_iff_ne.mpr c7
      (first | rw [c7b0] | (simp only [i64_w, i32_w]; rw [c7b0]) | skip)
      have H' := A_ H
      clear H
      go_wp2
      go_meet
      case rel => exact ⟨_, (a1), (by first | rfl | (simp; done) | (simp [*]; done)), H', ⟨by first | omega | exact Nat.le_refl _⟩, BK105, HK, HC, HB⟩
  case rest =>
    clear HC4 HB HK HC BK105
    obtain ⟨kq, x1_3, rfl, HA, HJ3, BK105, HK, HC, HB⟩ := hcut
    cases kq with
    | zero => exact absurd HA.out (by simp [tree_Deep_1.j0])
    | succ kj3 =>
      have H' := A_ (show (tree_Deep_1.l0 kj3 x1_3 (mx a2 x1_3) l0_7 (l0_7.length : Int) 0) = some r by have H := HA.out; simp only [tree_Deep_1.j0] at H; exact H)
      clear HA
      obtain ⟨ji8, hji8⟩ : ∃ j_ : Int, (mx a2 x1_3) = j_ := ⟨_, rfl⟩
      rw [hji8] at H'
      have hji8_ : (if a2 < x1_3 then x1_3 else a2) = ji8 := hji8
      have nb1 := NB1.out
      have nb2 := Ne.symm nb1
      have hkz : wc.cell? ⟨gq, 0, none⟩ = some (.int .i64 a2) := bq_ HK 0
      have hkf := blk_frozen HK.out 0
      have hbz : wc.cell? ⟨gb105, 7, none⟩ = some (.slice A0_7 l0_7.length c0_7) := bq_ BK105 7
      have hbf := blk_frozen BK105.out 7
      go_wp2
      go_loopg [19] kj3 (fun kq v19 w' => ∃ (x1_1 : Int) (x11_1 : Int), v19 = .int .i64 x11_1 ∧ Aside0 (tree_Deep_1.l0 kq x1_3 x1_1 l0_7 (l0_7.length : Int) x11_1 = some r) ∧ Aside0 (kq ≤ kj3) ∧ Aside0 (w'.heap[gq]? = some (.cells #[.int .i64 x1_1] 3 (0, 0))) ∧ Aside0 (w'.heap[gf]? = some (.cells #[.func (.func 44) #[] #[.pointer (some ⟨gq, 0, none⟩), .pointer (some ⟨gf, 0, none⟩)]] 74 (0, 0))) ∧ Aside0 (Below w0.heap.size w0 w'))
      case atStart => exact ⟨ji8, 0, (by first | rfl | (simp; done) | (simp [*]; done)), H', ⟨Nat.le_refl _⟩, ⟨blk_put HK.out 0 _ rfl⟩, ⟨blk_far HC.out hne2 _⟩, ⟨below_set HB.out HGK.out⟩⟩
      case round =>
        clear H' HB HK HC hkz hkf hbz hbf nb1 nb2 NB1 BK105
        obtain ⟨x1_1, x11_1, rfl, HA, HK1, HK, HC, HB⟩ := hrel
        cases gk with
        | zero => exact absurd HA.out (by simp [tree_Deep_1.l0])
        | succ k1 =>
          have H := HA.out
          clear HA
          simp only [tree_Deep_1.l0] at H
          by_cases c5 : x11_1 < (l0_7.length : Int)
          · rw [if_pos c5] at H
            have c5b0 := decide_eq_true c5
            clear c5
            by_cases c6 : 0 ≤ x11_1
            · rw [if_pos c6] at H
              have c6b0 := decide_eq_true c6
              clear c6
              by_cases c7 : x11_1 < (l0_7.length : Int)
              · rw [if_pos c7] at H
                have c7b0 := decide_eq_true c7
                clear c7
                replace H := Option.bind_eq_some_iff.mp H
                obtain ⟨t104, A80, H⟩ := H
                have A8 := A_ A80
                clear A80
                have H' := A_ (show (tree_Deep_1.l0 k1 x1_3 t104 l0_7 (l0_7.length : Int) (wrap64 (x11_1 + 1))) = some r from H)
                clear H
                have p102 : 0 ≤ (x11_1 : Int) := of_decide_eq_true (by first | (with_reducible assumption) | assumption)
                have q102 : x11_1 < (l0_7.length : Int) := of_decide_eq_true (by first | (with_reducible assumption) | assumption)
                obtain ⟨ad102, A102_7, c102_7, e102, hx102_0, hx102_1, hx102_2, hx102_3, hx102_4, hx102_5, hx102_6, hx102_7, hl102_7, hi102_7⟩ := at_T27 HR0_7.out x11_1 p102 q102
                cases e102
                replace hx102_0 := cl_ HB hx102_0
                replace hx102_1 := cl_ HB hx102_1
                replace hx102_2 := cl_ HB hx102_2
                replace hx102_3 := cl_ HB hx102_3
                replace hx102_4 := cl_ HB hx102_4
                replace hx102_5 := cl_ HB hx102_5
                replace hx102_6 := cl_ HB hx102_6
                replace hx102_7 := cl_ HB hx102_7
                have HR102_7 := A_ hi102_7
                have HC102_7 := A_ hl102_7
                clear hi102_7 hl102_7
                replace p102 := eq_true p102
                replace q102 := eq_true q102
                have HLT := A_ (show k1 < k + 1 from Nat.lt_succ_of_lt (Nat.lt_of_lt_of_le (Nat.lt_of_lt_of_le (Nat.lt_succ_self k1) HK1.out) (Nat.le_trans (Nat.le_succ _) HJ3.out)))
                go_wp2_with (first | (refine gD 7 ?_; refine bxe_ 7 z8_ 27 ?_; intro gb103 hg w9 hbox hb; have n0_ := A_ (below_step HB.out hb); have n1_ := A_ (blk_below HK.out hb); have n2_ := A_ (blk_below HC.out hb); have NB1 := A_ (Nat.ne_of_lt (Nat.lt_of_lt_of_le (blk_lt HK.out) (Nat.le_of_eq hg.symm)) : gq ≠ gb103); have NB3 := A_ (Nat.ne_of_lt (Nat.lt_of_lt_of_le (blk_lt HC.out) (Nat.le_of_eq hg.symm)) : gf ≠ gb103); have GE103 := A_ (Nat.le_trans HB.out.size (Nat.le_of_eq hg.symm) : w0.heap.size ≤ gb103); clear HB HK HC; have HB := n0_; have HK := n1_; have HC := n2_; clear n0_ n1_ n2_; have nb1 := NB1.out; have nb2 := Ne.symm nb1; have nb3 := NB3.out; have nb4 := Ne.symm nb3; have hcz11_0 : w9.cell? ⟨gb103, 0, none⟩ = some (.int .i64 0) := (blk_cell hbox 0).trans rfl; have hfz11_0 := blk_frozen hbox 0; have hcz11_1 : w9.cell? ⟨gb103, 1, none⟩ = some (.int .i64 0) := (blk_cell hbox 1).trans rfl; have hfz11_1 := blk_frozen hbox 1; have hcz11_2 : w9.cell? ⟨gb103, 2, none⟩ = some (.string ⟨#[]⟩) := (blk_cell hbox 2).trans rfl; have hfz11_2 := blk_frozen hbox 2; have hcz11_3 : w9.cell? ⟨gb103, 3, none⟩ = some (.string ⟨#[]⟩) := (blk_cell hbox 3).trans rfl; have hfz11_3 := blk_frozen hbox 3; have hcz11_4 : w9.cell? ⟨gb103, 4, none⟩ = some (.string ⟨#[]⟩) := (blk_cell hbox 4).trans rfl; have hfz11_4 := blk_frozen hbox 4; have hcz11_5 : w9.cell? ⟨gb103, 5, none⟩ = some (.bool false) := (blk_cell hbox 5).trans rfl; have hfz11_5 := blk_frozen hbox 5; have hcz11_6 : w9.cell? ⟨gb103, 6, none⟩ = some (.bool false) := (blk_cell hbox 6).trans rfl; have hfz11_6 := blk_frozen hbox 6; have hcz11_7 : w9.cell? ⟨gb103, 7, none⟩ = some (.slice none 0 0) := (blk_cell hbox 7).trans rfl; have hfz11_7 := blk_frozen hbox 7; have hcf : w9.cell? ⟨gf, 0, none⟩ = some (.func (.func 44) #[] #[.pointer (some ⟨gq, 0, none⟩), .pointer (some ⟨gf, 0, none⟩)]) := bq_ HC 0; have hff := blk_frozen HC.out 0; clear hb hbox hg) | ((with_reducible refine gate_held rfl ?_); refine goesF_ (some 26) rfl rfl #[.pointer (some ⟨gq, 0, none⟩), .pointer (some ⟨gf, 0, none⟩)] Tryz.func44 (by kernel_rfl) rfl #[.agg #[.int .i64 ((rd_T27 l0_7 x11_1).f0), .int .i64 ((rd_T27 l0_7 x11_1).f1.f0), .string ((rd_T27 l0_7 x11_1).f1.f1), .string ((rd_T27 l0_7 x11_1).f1.f2), .string ((rd_T27 l0_7 x11_1).f1.f3), .bool ((rd_T27 l0_7 x11_1).f2), .bool ((rd_T27 l0_7 x11_1).f3), .slice A102_7 ((rd_T27 l0_7 x11_1).f4).length c102_7], .int .i64 x1_3, .pointer (some ⟨gq, 0, none⟩), .pointer (some ⟨gf, 0, none⟩)] rfl rfl (by (simp only [List.map_toArray, List.map_cons, List.map_nil, List.append_toArray, List.cons_append, List.nil_append]); rfl) ?_; (refine (ih k1 HLT.out ((rd_T27 l0_7 x11_1).f0) ((rd_T27 l0_7 x11_1).f1.f0) ((rd_T27 l0_7 x11_1).f1.f1) ((rd_T27 l0_7 x11_1).f1.f2) ((rd_T27 l0_7 x11_1).f1.f3) ((rd_T27 l0_7 x11_1).f2) ((rd_T27 l0_7 x11_1).f3) _ _ ((rd_T27 l0_7 x11_1).f4) x1_3 x1_1 t104 _ HR102_7.out HC102_7.out (below_set (below_set (below_set (below_set (below_set (below_set (below_set (below_set HB.out GE103.out) GE103.out) GE103.out) GE103.out) GE103.out) GE103.out) GE103.out) GE103.out) (blk_far (blk_far (blk_far (blk_far (blk_far (blk_far (blk_far (blk_far HK.out NB1.out _) NB1.out _) NB1.out _) NB1.out _) NB1.out _) NB1.out _) NB1.out _) NB1.out _) (blk_far (blk_far (blk_far (blk_far (blk_far (blk_far (blk_far (blk_far HC.out NB3.out _) NB3.out _) NB3.out _) NB3.out _) NB3.out _) NB3.out _) NB3.out _) NB3.out _) A8.out).mono ?_); rintro e w12 ⟨⟨v_, rfl⟩, hb, hk, hc⟩; refine ⟨_, rfl, ?_⟩; clear HB HK HC; have HB := A_ hb; have HK := A_ hk; have HC := A_ hc; clear hb hk hc))
                go_roundg k1
                case measure => have := HK1.out; omega
                case rel => exact ⟨(t104), (wrap64 (x11_1 + 1)), (by first | rfl | (simp; done) | (simp [*]; done)), H', ⟨by have := HK1.out; omega⟩, HK, HC, HB⟩
              · rw [if_neg c7] at H
                exact absurd H (by simp)
            · rw [if_neg c6] at H
              exact absurd H (by simp)
          · rw [if_neg c5] at H
            have c5b0 := decide_eq_false c5
            clear c5
            obtain rfl := Option.some.inj H
            go_wp2
            refine bodyPost_end (results_none rfl _ _ _) rfl ⟨⟨_, rfl⟩, HB.out, HK.out, HC.out⟩
set_option maxHeartbeats 8000000 in
set_option maxRecDepth 100000 in
theorem tree_Deep.calls (k : Nat) (a0_0 a0_1 : Int) (a0_2 a0_3 a0_4 : ByteArray) (a0_5 a0_6 : Bool) (A0_7 : Option Addr) (c0_7 : Nat) (l0_7 : List (S27)) (r : Int) (w : World) (hr0_7 : Kd.C k27 w A0_7 l0_7.length l0_7) (hc0_7 : l0_7.length ≤ c0_7) (h : tree_Deep.f k a0_0 a0_1 a0_2 a0_3 a0_4 a0_5 a0_6 l0_7 = some r) :
    Calls Tryz.prog 28 #[.agg #[.int .i64 a0_0, .int .i64 a0_1, .string a0_2, .string a0_3, .string a0_4, .bool a0_5, .bool a0_6, .slice A0_7 l0_7.length c0_7]] w fun e w' => e = .returned (.int .i64 r) ∧ Below w.heap.size w w' := by
  have hu27 := Tryz.underlying27
  have HR0_7 := A_ hr0_7
  have HC0_7 := A_ hc0_7
  have H' := A_ (show tree_Deep_1.f k a0_0 a0_1 a0_2 a0_3 a0_4 a0_5 a0_6 l0_7 0 0 = some r from h)
  have HB := A_ (Below.refl w.heap.size w)
  clear hr0_7 hc0_7 h
  go_enter Tryz.func28, Tryz.ntmps28
  go_wp2_with (first | (refine gD 1 ?_; refine bxe_ 1 (n8_ a0_0 a0_1 a0_2 a0_3 a0_4 a0_5 a0_6 (.slice A0_7 l0_7.length c0_7)) 27 ?_; intro gn hg w1 hbox hb; replace HB := A_ (below_step HB.out hb); have HN := A_ hbox; clear hbox; clear hb hg) | (refine gD 3 ?_; refine bxe_ 3 #[.int .i64 0] 3 ?_; intro gq hg w2 hbox hb; have NE1 := A_ (Nat.ne_of_lt (Nat.lt_of_lt_of_le (blk_lt HN.out) (Nat.le_of_eq hg.symm)) : gn ≠ gq); have n0_ := A_ (below_step HB.out hb); have n1_ := A_ (blk_below HN.out hb); have GQ := A_ (Nat.le_trans HB.out.size (Nat.le_of_eq hg.symm) : w.heap.size ≤ gq); clear HB HN; have HB := n0_; have HN := n1_; clear n0_ n1_; have hq0 : w2.cell? ⟨gq, 0, none⟩ = some (.int .i64 0) := (blk_cell hbox 0).trans rfl; have hq1 := blk_frozen hbox 0; have HQ := A_ hbox; clear hbox; clear hb hg) | (refine gD 4 ?_; refine bxe_ 4 #[.nilFunc] 74 ?_; intro gf hg w3 hbox hb; have HQ2 := A_ (blk_put (cs' := #[.int .i64 0]) HQ.out 0 (.int .i64 0) rfl); have HN2 := A_ (blk_far HN.out NE1.out (p := ⟨gq, 0, none⟩) (.int .i64 0)); have HB2 := A_ (below_set (j := 0) (v := .int .i64 0) HB.out GQ.out); clear HQ HN HB hq0 hq1; have NE2 := A_ (Nat.ne_of_lt (Nat.lt_of_lt_of_le (blk_lt HN2.out) (Nat.le_of_eq hg.symm)) : gn ≠ gf); have NE3 := A_ (Nat.ne_of_lt (Nat.lt_of_lt_of_le (blk_lt HQ2.out) (Nat.le_of_eq hg.symm)) : gq ≠ gf); have HB := A_ (below_step HB2.out hb); have HN := A_ (blk_below HN2.out hb); have HQ := A_ (blk_below HQ2.out hb); have GF := A_ (Nat.le_trans HB2.out.size (Nat.le_of_eq hg.symm) : w.heap.size ≤ gf); clear HB2 HN2 HQ2; have hf0 : w3.cell? ⟨gf, 0, none⟩ = some .nilFunc := (blk_cell hbox 0).trans rfl; have hf1 := blk_frozen hbox 0; have hn0 : w3.cell? ⟨gn, 0, none⟩ = some (.int .i64 a0_0) := bq_ HN 0; have hm0 := blk_frozen HN.out 0; have hn1 : w3.cell? ⟨gn, 1, none⟩ = some (.int .i64 a0_1) := bq_ HN 1; have hm1 := blk_frozen HN.out 1; have hn2 : w3.cell? ⟨gn, 2, none⟩ = some (.string a0_2) := bq_ HN 2; have hm2 := blk_frozen HN.out 2; have hn3 : w3.cell? ⟨gn, 3, none⟩ = some (.string a0_3) := bq_ HN 3; have hm3 := blk_frozen HN.out 3; have hn4 : w3.cell? ⟨gn, 4, none⟩ = some (.string a0_4) := bq_ HN 4; have hm4 := blk_frozen HN.out 4; have hn5 : w3.cell? ⟨gn, 5, none⟩ = some (.bool a0_5) := bq_ HN 5; have hm5 := blk_frozen HN.out 5; have hn6 : w3.cell? ⟨gn, 6, none⟩ = some (.bool a0_6) := bq_ HN 6; have hm6 := blk_frozen HN.out 6; have hn7 : w3.cell? ⟨gn, 7, none⟩ = some (.slice A0_7 l0_7.length c0_7) := bq_ HN 7; have hm7 := blk_frozen HN.out 7; have e1 := NE2.out; have e2 := Ne.symm e1; have HF := A_ hbox; clear hbox; clear hb hg) | ((with_reducible refine gate_held rfl ?_); refine goesF_ (some 8) rfl rfl #[.pointer (some ⟨gq, 0, none⟩), .pointer (some ⟨gf, 0, none⟩)] Tryz.func44 (by kernel_rfl) rfl #[.agg #[.int .i64 a0_0, .int .i64 a0_1, .string a0_2, .string a0_3, .string a0_4, .bool a0_5, .bool a0_6, .slice A0_7 l0_7.length c0_7], .int .i64 0, .pointer (some ⟨gq, 0, none⟩), .pointer (some ⟨gf, 0, none⟩)] rfl rfl (by (simp only [List.map_toArray, List.map_cons, List.map_nil, List.append_toArray, List.cons_append, List.nil_append]); rfl) ?_; (refine (tree_Deep_1.calls w gq gf GQ.out GF.out NE3.out k a0_0 a0_1 a0_2 a0_3 a0_4 a0_5 a0_6 _ _ l0_7 0 0 r _ HR0_7.out HC0_7.out (below_set HB.out GF.out) (blk_far HQ.out NE3.out _) (blk_put HF.out 0 _ rfl) H'.out).mono ?_); rintro e w5 ⟨⟨v_, rfl⟩, hb, hk, hc⟩; refine ⟨_, rfl, ?_⟩; have hk0 : w5.cell? ⟨gq, 0, none⟩ = some (.int .i64 r) := (blk_cell hk 0).trans rfl; have hk1 := blk_frozen hk 0; have HB5 := A_ hb; clear hb hk hc))
  go_ret
  exact ⟨rfl, HB5.out⟩
end Go.Proofs.YtjgjhekpiijniaaGreat.A
namespace Go.Proofs.YtjgjhekpiijniaaGreat.A
open Go.RowKit Go.Proofs.YtjgjhekpiijniaaGreatW.PrintWords Go.Proofs.YtjgjhekpiijniaaGreatW.PrintLast Go.Proofs.YtjgjhekpiijniaaGreatW.PrintMore
attribute [local go_sem] max2_int min2_int max_two min_two max_three min_three max_four min_four
attribute [local go_sem] isSome_setCell
set_option maxHeartbeats 8000000 in
set_option maxRecDepth 100000 in
theorem tree_Sane.calls (k : Nat) (a0_0 a0_1 : Int) (a0_2 a0_3 a0_4 : ByteArray) (a0_5 a0_6 : Bool) (A0_7 : Option Addr) (c0_7 : Nat) (l0_7 : List (S27)) (r : Bool) (w : World) (hr0_7 : Kd.C k27 w A0_7 l0_7.length l0_7) (hc0_7 : l0_7.length ≤ c0_7) (h : tree_Sane.f k a0_0 a0_1 a0_2 a0_3 a0_4 a0_5 a0_6 l0_7 = some r) :
  Calls Tryz.prog 12 #[.agg #[.int .i64 a0_0, .int .i64 a0_1, .string a0_2, .string a0_3, .string a0_4, .bool a0_5, .bool a0_6, .slice A0_7 l0_7.length c0_7]] w fun e w' => e = .returned (.bool r) ∧ Below w.heap.size w w' := by
 have hu27 := Tryz.underlying27; have HR0_7 := A_ hr0_7; have HC0_7 := A_ hc0_7; clear hr0_7 hc0_7; have HB := A_ (Below.refl w.heap.size w); have H : ((tree_Count.f k a0_0 a0_1 a0_2 a0_3 a0_4 a0_5 a0_6 l0_7).bind fun t157 => (if t157 ≤ 64 then ((tree_Deep.f k a0_0 a0_1 a0_2 a0_3 a0_4 a0_5 a0_6 l0_7).bind fun t158 => (if t158 ≤ 8 then ((tree_right.f k a0_0 a0_1 a0_2 a0_3 a0_4 a0_5 a0_6 l0_7).bind fun t159 => (some t159)) else (some false))) else (some false))) = some r := h; clear h; obtain ⟨t157, A2, H⟩ := bi_ H
 by_cases c3 : t157 ≤ 64
 ·rw [if_pos c3] at H
  have c3b0 := decide_eq_true c3; clear c3; obtain ⟨t158, A4, H⟩ := bi_ H
  by_cases c5 : t158 ≤ 8
  ·rw [if_pos c5] at H
   have c5b0 := decide_eq_true c5; clear c5; obtain ⟨t159, A6, H⟩ := bi_ H; obtain rfl := Option.some.inj H; go_enter Tryz.func12, Tryz.ntmps12; go_wp2_with (first | (refine gx_ w 1 (n8_ a0_0 a0_1 a0_2 a0_3 a0_4 a0_5 a0_6 (.slice A0_7 l0_7.length c0_7)) 27 ?_; clear HB; intro gb156 w7 BK156 GE156 HB; have GW156 := GE156; have Z8 := bz8_ BK156) | (refine gC 27 ?_; refine gL 4 Tryz.func27 #[.agg (n8_ a0_0 a0_1 a0_2 a0_3 a0_4 a0_5 a0_6 (.slice A0_7 l0_7.length c0_7))] ?_; (with_reducible refine (tree_Count.calls k a0_0 a0_1 a0_2 a0_3 a0_4 a0_5 a0_6 _ _ l0_7 t157 _ ?side1 ?side2 A2.out).mono ?_); (case side1 => exact cb_ HR0_7); (case side2 => exact HC0_7.out); rintro e w9 ⟨rfl, hb⟩; refine ⟨_, rfl, ?_⟩; replace BK156 := bb_ BK156 hb; replace HB := bs_ hb; (try clear hb); have Z10 := bz8_ BK156) | (go_at_call 28; (with_reducible refine (tree_Deep.calls k a0_0 a0_1 a0_2 a0_3 a0_4 a0_5 a0_6 _ _ l0_7 t158 _ ?side1 ?side2 A4.out).mono ?_); (case side1 => exact cb_ HR0_7); (case side2 => exact HC0_7.out); rintro e w11 ⟨rfl, hb⟩; replace BK156 := bb_ BK156 hb; replace HB := bs_ hb; (try clear hb); have Z12 := bz8_ BK156) | (go_at_call 29; (with_reducible refine (tree_right.calls k a0_0 a0_1 a0_2 a0_3 a0_4 a0_5 a0_6 _ _ l0_7 t159 _ ?side1 ?side2 A6.out).mono ?_); (case side1 => exact cb_ HR0_7); (case side2 => exact HC0_7.out); rintro e w13 ⟨rfl, hb⟩; replace BK156 := bb_ BK156 hb; replace HB := bs_ hb; (try clear hb)))
   go_ret; exact ⟨re_, hs_⟩
  ·rw [if_neg c5] at H
   have c5b0 := decide_eq_false c5; clear c5; obtain rfl := Option.some.inj H; go_enter Tryz.func12, Tryz.ntmps12; go_wp2_with (first | (refine gx_ w 1 (n8_ a0_0 a0_1 a0_2 a0_3 a0_4 a0_5 a0_6 (.slice A0_7 l0_7.length c0_7)) 27 ?_; clear HB; intro gb156 w14 BK156 GE156 HB; have GW156 := GE156; have Z15 := bz8_ BK156) | (refine gC 27 ?_; refine gL 4 Tryz.func27 #[.agg (n8_ a0_0 a0_1 a0_2 a0_3 a0_4 a0_5 a0_6 (.slice A0_7 l0_7.length c0_7))] ?_; (with_reducible refine (tree_Count.calls k a0_0 a0_1 a0_2 a0_3 a0_4 a0_5 a0_6 _ _ l0_7 t157 _ ?side1 ?side2 A2.out).mono ?_); (case side1 => exact cb_ HR0_7); (case side2 => exact HC0_7.out); rintro e w16 ⟨rfl, hb⟩; refine ⟨_, rfl, ?_⟩; replace BK156 := bb_ BK156 hb; replace HB := bs_ hb; (try clear hb); have Z17 := bz8_ BK156) | (go_at_call 28; (with_reducible refine (tree_Deep.calls k a0_0 a0_1 a0_2 a0_3 a0_4 a0_5 a0_6 _ _ l0_7 t158 _ ?side1 ?side2 A4.out).mono ?_); (case side1 => exact cb_ HR0_7); (case side2 => exact HC0_7.out); rintro e w18 ⟨rfl, hb⟩; replace BK156 := bb_ BK156 hb; replace HB := bs_ hb; (try clear hb)))
   go_ret; exact ⟨re_, hs_⟩
 ·rw [if_neg c3] at H
  have c3b0 := decide_eq_false c3; clear c3; obtain rfl := Option.some.inj H; go_enter Tryz.func12, Tryz.ntmps12; go_wp2_with (first | (refine gx_ w 1 (n8_ a0_0 a0_1 a0_2 a0_3 a0_4 a0_5 a0_6 (.slice A0_7 l0_7.length c0_7)) 27 ?_; clear HB; intro gb156 w19 BK156 GE156 HB; have GW156 := GE156; have Z20 := bz8_ BK156) | (refine gC 27 ?_; refine gL 4 Tryz.func27 #[.agg (n8_ a0_0 a0_1 a0_2 a0_3 a0_4 a0_5 a0_6 (.slice A0_7 l0_7.length c0_7))] ?_; (with_reducible refine (tree_Count.calls k a0_0 a0_1 a0_2 a0_3 a0_4 a0_5 a0_6 _ _ l0_7 t157 _ ?side1 ?side2 A2.out).mono ?_); (case side1 => exact cb_ HR0_7); (case side2 => exact HC0_7.out); rintro e w21 ⟨rfl, hb⟩; refine ⟨_, rfl, ?_⟩; replace BK156 := bb_ BK156 hb; replace HB := bs_ hb; (try clear hb))); go_ret; exact ⟨re_, hs_⟩
set_option maxHeartbeats 8000000 in
set_option maxRecDepth 100000 in
theorem point_Text.calls (k : Nat) (a0_0 : Int) (a0_1 a0_2 a0_3 r : ByteArray) (w : World) (h : point_Text.f k a0_0 a0_1 a0_2 a0_3 = some r) :
  Calls Tryz.prog 51 #[.agg #[.int .i64 a0_0, .string a0_1, .string a0_2, .string a0_3]] w fun e w' => e = .returned (.string r) ∧ Below w.heap.size w w' := by
 have hu24 := Tryz.underlying24; have HB := A_ (Below.refl w.heap.size w); have H : ((point_Sane.f k a0_0 a0_1 a0_2 a0_3).bind fun t188 => (if t188 = true then (if a0_0 = 0 then (if 1 + a0_3.size ≤ 9223372036854775807 then (if 1 + a0_2.size ≤ 9223372036854775807 then (if ((⟨#[45]⟩ : ByteArray) ++ a0_2).size + ((⟨#[45]⟩ : ByteArray) ++ a0_3).size ≤ 9223372036854775807 then (if a0_1.size + (((⟨#[45]⟩ : ByteArray) ++ a0_2) ++ ((⟨#[45]⟩ : ByteArray) ++ a0_3)).size ≤ 9223372036854775807 then (some (a0_1 ++ (((⟨#[45]⟩ : ByteArray) ++ a0_2) ++ ((⟨#[45]⟩ : ByteArray) ++ a0_3)))) else (none)) else (none)) else (none)) else (none)) else (if a0_0 = 1 then (if 1 + a0_2.size ≤ 9223372036854775807 then (if ((⟨#[45]⟩ : ByteArray) ++ a0_2).size + 0 ≤ 9223372036854775807 then (if a0_1.size + (((⟨#[45]⟩ : ByteArray) ++ a0_2) ++ (⟨#[]⟩ : ByteArray)).size ≤ 9223372036854775807 then (some (a0_1 ++ (((⟨#[45]⟩ : ByteArray) ++ a0_2) ++ (⟨#[]⟩ : ByteArray)))) else (none)) else (none)) else (none)) else (if a0_0 = 2 then (if 1 + a0_2.size ≤ 9223372036854775807 then (if a0_1.size + ((⟨#[115]⟩ : ByteArray) ++ a0_2).size ≤ 9223372036854775807 then (some (a0_1 ++ ((⟨#[115]⟩ : ByteArray) ++ a0_2))) else (none)) else (none)) else (if a0_0 = 4 then (if a0_1.size + 1 ≤ 9223372036854775807 then (some (a0_1 ++ (⟨#[100]⟩ : ByteArray))) else (none)) else (if a0_0 = 5 then (if a0_1.size + 1 ≤ 9223372036854775807 then (some (a0_1 ++ (⟨#[99]⟩ : ByteArray))) else (none)) else (if a0_1.size + 0 ≤ 9223372036854775807 then (some (a0_1 ++ (⟨#[]⟩ : ByteArray))) else (none))))))) else (some (⟨#[]⟩ : ByteArray)))) = some r := h; clear h; obtain ⟨t188, A2, H⟩ := bi_ H
 by_cases c3 : t188 = true
 ·subst c3
  replace H := iP_ H
  by_cases c4 : a0_0 = 0
  ·rw [if_pos c4] at H
   have c4b0 : (a0_0 == 0) = true := beq_iff_eq.mpr c4; have c4b1 : (a0_0 != 0) = false := bne_eq_false_iff_eq.mpr c4; clear c4
   by_cases c5 : 1 + a0_3.size ≤ 9223372036854775807
   ·rw [if_pos c5] at H
    have c5b0 := eq_true c5; have c5b1 := decide_eq_true c5; (try have c5b2 : (9223372036854775807 < 1 + a0_3.size) = False := eq_false (Nat.not_lt.2 c5))
    by_cases c6 : 1 + a0_2.size ≤ 9223372036854775807
    ·rw [if_pos c6] at H
     have c6b0 := eq_true c6; have c6b1 := decide_eq_true c6; (try have c6b2 : (9223372036854775807 < 1 + a0_2.size) = False := eq_false (Nat.not_lt.2 c6))
     by_cases c7 : ((⟨#[45]⟩ : ByteArray) ++ a0_2).size + ((⟨#[45]⟩ : ByteArray) ++ a0_3).size ≤ 9223372036854775807
     ·rw [if_pos c7] at H
      have c7b0 := eq_true c7; have c7b1 := decide_eq_true c7; (try have c7b2 : (9223372036854775807 < ((⟨#[45]⟩ : ByteArray) ++ a0_2).size + ((⟨#[45]⟩ : ByteArray) ++ a0_3).size) = False := eq_false (Nat.not_lt.2 c7)); (try have c7b3 : (9223372036854775807 < 1 + a0_2.size + (1 + a0_3.size)) = False := eq_false (Nat.not_lt.2 (by have h_ := c7; simp only [ByteArray.size_append] at h_; exact h_)))
      by_cases c8 : a0_1.size + (((⟨#[45]⟩ : ByteArray) ++ a0_2) ++ ((⟨#[45]⟩ : ByteArray) ++ a0_3)).size ≤ 9223372036854775807
      ·rw [if_pos c8] at H
       have c8b0 := eq_true c8; have c8b1 := decide_eq_true c8; (try have c8b2 : (9223372036854775807 < a0_1.size + (((⟨#[45]⟩ : ByteArray) ++ a0_2) ++ ((⟨#[45]⟩ : ByteArray) ++ a0_3)).size) = False := eq_false (Nat.not_lt.2 c8)); (try have c8b3 : (9223372036854775807 < a0_1.size + (1 + a0_2.size + (1 + a0_3.size))) = False := eq_false (Nat.not_lt.2 (by have h_ := c8; simp only [ByteArray.size_append] at h_; exact h_))); obtain rfl := Option.some.inj H; go_enter Tryz.func51, Tryz.ntmps51; go_wp2_with (first | (refine gx_ w 1 (n4_ a0_0 a0_1 a0_2 a0_3) 24 ?_; clear HB; intro gb187 w9 BK187 GE187 HB; have GW187 := GE187; have Z10 := bz4_ BK187) | (refine gC 64 ?_; refine gL 5 Tryz.func64 #[.agg (n4_ a0_0 a0_1 a0_2 a0_3)] ?_; (with_reducible refine (point_Sane.calls k a0_0 a0_1 a0_2 a0_3 true _ A2.out).mono ?_); rintro e w11 ⟨rfl, hb⟩; refine ⟨_, rfl, ?_⟩; replace BK187 := bb_ BK187 hb; replace HB := bs_ hb; (try clear hb); have Z12 := bz4_ BK187)); go_ret; exact ⟨re_, hs_⟩
      ·rw [if_neg c8] at H
       exact absurd H (by simp)
     ·rw [if_neg c7] at H
      exact absurd H (by simp)
    ·rw [if_neg c6] at H
     exact absurd H (by simp)
   ·rw [if_neg c5] at H
    exact absurd H (by simp)
  ·rw [if_neg c4] at H
   have c4b0 : (a0_0 == 0) = false := beq_eq_false_iff_ne.mpr c4; have c4b1 : (a0_0 != 0) = true := bne_iff_ne.mpr c4
   by_cases c13 : a0_0 = 1
   ·rw [if_pos c13] at H
    have c13b0 : (a0_0 == 1) = true := beq_iff_eq.mpr c13; have c13b1 : (a0_0 != 1) = false := bne_eq_false_iff_eq.mpr c13; clear c13
    by_cases c14 : 1 + a0_2.size ≤ 9223372036854775807
    ·rw [if_pos c14] at H
     have c14b0 := eq_true c14; have c14b1 := decide_eq_true c14; (try have c14b2 : (9223372036854775807 < 1 + a0_2.size) = False := eq_false (Nat.not_lt.2 c14))
     by_cases c15 : ((⟨#[45]⟩ : ByteArray) ++ a0_2).size + 0 ≤ 9223372036854775807
     ·rw [if_pos c15] at H
      have c15b0 := eq_true c15; have c15b1 := decide_eq_true c15; (try have c15b2 : (9223372036854775807 < ((⟨#[45]⟩ : ByteArray) ++ a0_2).size + 0) = False := eq_false (Nat.not_lt.2 c15)); (try have c15b3 : (9223372036854775807 < 1 + a0_2.size + 0) = False := eq_false (Nat.not_lt.2 (by have h_ := c15; simp only [ByteArray.size_append] at h_; exact h_)))
      by_cases c16 : a0_1.size + (((⟨#[45]⟩ : ByteArray) ++ a0_2) ++ (⟨#[]⟩ : ByteArray)).size ≤ 9223372036854775807
      ·rw [if_pos c16] at H
       have c16b0 := eq_true c16; have c16b1 := decide_eq_true c16; (try have c16b2 : (9223372036854775807 < a0_1.size + (((⟨#[45]⟩ : ByteArray) ++ a0_2) ++ (⟨#[]⟩ : ByteArray)).size) = False := eq_false (Nat.not_lt.2 c16)); (try have c16b3 : (9223372036854775807 < a0_1.size + (1 + a0_2.size + 0)) = False := eq_false (Nat.not_lt.2 (by have h_ := c16; simp only [ByteArray.size_append] at h_; exact h_))); obtain rfl := Option.some.inj H; go_enter Tryz.func51, Tryz.ntmps51; go_wp2_with (first | (refine gx_ w 1 (n4_ a0_0 a0_1 a0_2 a0_3) 24 ?_; clear HB; intro gb187 w17 BK187 GE187 HB; have GW187 := GE187; have Z18 := bz4_ BK187) | (refine gC 64 ?_; refine gL 5 Tryz.func64 #[.agg (n4_ a0_0 a0_1 a0_2 a0_3)] ?_; (with_reducible refine (point_Sane.calls k a0_0 a0_1 a0_2 a0_3 true _ A2.out).mono ?_); rintro e w19 ⟨rfl, hb⟩; refine ⟨_, rfl, ?_⟩; replace BK187 := bb_ BK187 hb; replace HB := bs_ hb; (try clear hb); have Z20 := bz4_ BK187)); go_ret; exact ⟨re_, hs_⟩
      ·rw [if_neg c16] at H
       exact absurd H (by simp)
     ·rw [if_neg c15] at H
      exact absurd H (by simp)
    ·rw [if_neg c14] at H
     exact absurd H (by simp)
   ·rw [if_neg c13] at H
    have c13b0 : (a0_0 == 1) = false := beq_eq_false_iff_ne.mpr c13; have c13b1 : (a0_0 != 1) = true := bne_iff_ne.mpr c13
    by_cases c21 : a0_0 = 2
    ·rw [if_pos c21] at H
     have c21b0 : (a0_0 == 2) = true := beq_iff_eq.mpr c21; have c21b1 : (a0_0 != 2) = false := bne_eq_false_iff_eq.mpr c21; clear c21
     by_cases c22 : 1 + a0_2.size ≤ 9223372036854775807
     ·rw [if_pos c22] at H
      have c22b0 := eq_true c22; have c22b1 := decide_eq_true c22; (try have c22b2 : (9223372036854775807 < 1 + a0_2.size) = False := eq_false (Nat.not_lt.2 c22))
      by_cases c23 : a0_1.size + ((⟨#[115]⟩ : ByteArray) ++ a0_2).size ≤ 9223372036854775807
      ·rw [if_pos c23] at H
       have c23b0 := eq_true c23; have c23b1 := decide_eq_true c23; (try have c23b2 : (9223372036854775807 < a0_1.size + ((⟨#[115]⟩ : ByteArray) ++ a0_2).size) = False := eq_false (Nat.not_lt.2 c23)); (try have c23b3 : (9223372036854775807 < a0_1.size + (1 + a0_2.size)) = False := eq_false (Nat.not_lt.2 (by have h_ := c23; simp only [ByteArray.size_append] at h_; exact h_))); obtain rfl := Option.some.inj H; go_enter Tryz.func51, Tryz.ntmps51; go_wp2_with (first | (refine gx_ w 1 (n4_ a0_0 a0_1 a0_2 a0_3) 24 ?_; clear HB; intro gb187 w24 BK187 GE187 HB; have GW187 := GE187; have Z25 := bz4_ BK187) | (refine gC 64 ?_; refine gL 5 Tryz.func64 #[.agg (n4_ a0_0 a0_1 a0_2 a0_3)] ?_; (with_reducible refine (point_Sane.calls k a0_0 a0_1 a0_2 a0_3 true _ A2.out).mono ?_); rintro e w26 ⟨rfl, hb⟩; refine ⟨_, rfl, ?_⟩; replace BK187 := bb_ BK187 hb; replace HB := bs_ hb; (try clear hb); have Z27 := bz4_ BK187)); go_ret; exact ⟨re_, hs_⟩
      ·rw [if_neg c23] at H
       exact absurd H (by simp)
     ·rw [if_neg c22] at H
      exact absurd H (by simp)
    ·rw [if_neg c21] at H
     have c21b0 : (a0_0 == 2) = false := beq_eq_false_iff_ne.mpr c21; have c21b1 : (a0_0 != 2) = true := bne_iff_ne.mpr c21
     by_cases c28 : a0_0 = 4
     ·rw [if_pos c28] at H
      have c28b0 : (a0_0 == 4) = true := beq_iff_eq.mpr c28; have c28b1 : (a0_0 != 4) = false := bne_eq_false_iff_eq.mpr c28; clear c28
      by_cases c29 : a0_1.size + 1 ≤ 9223372036854775807
      ·rw [if_pos c29] at H
       have c29b0 := eq_true c29; have c29b1 := decide_eq_true c29; (try have c29b2 : (9223372036854775807 < a0_1.size + 1) = False := eq_false (Nat.not_lt.2 c29)); obtain rfl := Option.some.inj H; go_enter Tryz.func51, Tryz.ntmps51; go_wp2_with (first | (refine gx_ w 1 (n4_ a0_0 a0_1 a0_2 a0_3) 24 ?_; clear HB; intro gb187 w30 BK187 GE187 HB; have GW187 := GE187; have Z31 := bz4_ BK187) | (refine gC 64 ?_; refine gL 5 Tryz.func64 #[.agg (n4_ a0_0 a0_1 a0_2 a0_3)] ?_; (with_reducible refine (point_Sane.calls k a0_0 a0_1 a0_2 a0_3 true _ A2.out).mono ?_); rintro e w32 ⟨rfl, hb⟩; refine ⟨_, rfl, ?_⟩; replace BK187 := bb_ BK187 hb; replace HB := bs_ hb; (try clear hb); have Z33 := bz4_ BK187)); go_ret; exact ⟨re_, hs_⟩
      ·rw [if_neg c29] at H
       exact absurd H (by simp)
     ·rw [if_neg c28] at H
      have c28b0 : (a0_0 == 4) = false := beq_eq_false_iff_ne.mpr c28; have c28b1 : (a0_0 != 4) = true := bne_iff_ne.mpr c28
      by_cases c34 : a0_0 = 5
      ·rw [if_pos c34] at H
       have c34b0 : (a0_0 == 5) = true := beq_iff_eq.mpr c34; have c34b1 : (a0_0 != 5) = false := bne_eq_false_iff_eq.mpr c34; clear c34
       by_cases c35 : a0_1.size + 1 ≤ 9223372036854775807
       ·rw [if_pos c35] at H
        have c35b0 := eq_true c35; have c35b1 := decide_eq_true c35; (try have c35b2 : (9223372036854775807 < a0_1.size + 1) = False := eq_false (Nat.not_lt.2 c35)); obtain rfl := Option.some.inj H; go_enter Tryz.func51, Tryz.ntmps51; go_wp2_with (first | (refine gx_ w 1 (n4_ a0_0 a0_1 a0_2 a0_3) 24 ?_; clear HB; intro gb187 w36 BK187 GE187 HB; have GW187 := GE187; have Z37 := bz4_ BK187) | (refine gC 64 ?_; refine gL 5 Tryz.func64 #[.agg (n4_ a0_0 a0_1 a0_2 a0_3)] ?_; (with_reducible refine (point_Sane.calls k a0_0 a0_1 a0_2 a0_3 true _ A2.out).mono ?_); rintro e w38 ⟨rfl, hb⟩; refine ⟨_, rfl, ?_⟩; replace BK187 := bb_ BK187 hb; replace HB := bs_ hb; (try clear hb); have Z39 := bz4_ BK187)); go_ret; exact ⟨re_, hs_⟩
       ·rw [if_neg c35] at H
        exact absurd H (by simp)
      ·rw [if_neg c34] at H
       have c34b0 : (a0_0 == 5) = false := beq_eq_false_iff_ne.mpr c34; have c34b1 : (a0_0 != 5) = true := bne_iff_ne.mpr c34
       by_cases c40 : a0_1.size + 0 ≤ 9223372036854775807
       ·rw [if_pos c40] at H
        have c40b0 := eq_true c40; have c40b1 := decide_eq_true c40; (try have c40b2 : (9223372036854775807 < a0_1.size + 0) = False := eq_false (Nat.not_lt.2 c40)); obtain rfl := Option.some.inj H; go_enter Tryz.func51, Tryz.ntmps51; go_wp2_with (first | (refine gx_ w 1 (n4_ a0_0 a0_1 a0_2 a0_3) 24 ?_; clear HB; intro gb187 w41 BK187 GE187 HB; have GW187 := GE187; have Z42 := bz4_ BK187) | (refine gC 64 ?_; refine gL 5 Tryz.func64 #[.agg (n4_ a0_0 a0_1 a0_2 a0_3)] ?_; (with_reducible refine (point_Sane.calls k a0_0 a0_1 a0_2 a0_3 true _ A2.out).mono ?_); rintro e w43 ⟨rfl, hb⟩; refine ⟨_, rfl, ?_⟩; replace BK187 := bb_ BK187 hb; replace HB := bs_ hb; (try clear hb); have Z44 := bz4_ BK187)); go_ret; exact ⟨re_, hs_⟩
       ·rw [if_neg c40] at H
        exact absurd H (by simp)
 ·replace c3 := Bool.eq_false_iff.mpr c3
  subst c3; replace H := iN_ H; obtain rfl := Option.some.inj H; go_enter Tryz.func51, Tryz.ntmps51; go_wp2_with (first | (refine gx_ w 1 (n4_ a0_0 a0_1 a0_2 a0_3) 24 ?_; clear HB; intro gb187 w45 BK187 GE187 HB; have GW187 := GE187; have Z46 := bz4_ BK187) | (refine gC 64 ?_; refine gL 5 Tryz.func64 #[.agg (n4_ a0_0 a0_1 a0_2 a0_3)] ?_; (with_reducible refine (point_Sane.calls k a0_0 a0_1 a0_2 a0_3 false _ A2.out).mono ?_); rintro e w47 ⟨rfl, hb⟩; refine ⟨_, rfl, ?_⟩; replace BK187 := bb_ BK187 hb; replace HB := bs_ hb; (try clear hb))); go_ret; exact ⟨re_, hs_⟩
theorem spot_none {w : World} {a : Addr} {v : Value} (h : w.cell? a = some v) : a = ⟨a.block, a.off, none⟩ := by
  obtain ⟨b, o, s⟩ := a
  cases s with
  | none => rfl
  | some s =>
    exfalso
    unfold World.cell? at h
    simp only at h
    split at h
    · simp at h
    · simp at h
theorem strings_Join.calls (A0 : Option Addr) (c0 : Nat) (l0 : List ByteArray) (a1 r : ByteArray) (w : World) (hr0 : Kd.C Kd.string w A0 l0.length l0) (hc0 : l0.length ≤ c0) (h : strings_Join.f l0 a1 = some r) :
    Calls Tryz.prog 50 #[.slice A0 l0.length c0, .string a1] w fun e w' => e = .returned (.string r) ∧ Below w.heap.size w w' := by
  unfold strings_Join.f at h
  by_cases c1 : l0.length ≤ 140737488355328
  · rw [if_pos c1] at h
    by_cases c2 : (Lib.join (l0.map (·.data.toList)) a1.data.toList).length ≤ 140737488355328
    · rw [if_pos c2] at h
      obtain rfl := Option.some.inj h
      by_cases c3 : l0 = []
      · subst c3
        refine (Tryz.strings_Join_none A0 c0 a1 w).mono fun e w' ⟨he, hw⟩ => ⟨?_, hw ▸ Below.refl _ _⟩
        rw [he]; rfl
      · have hp : 0 < l0.length := List.length_pos_iff.2 c3
        obtain ⟨ad, rfl, h0⟩ := Kd.at_string hr0 0 (by omega) (by omega)
        have hs : ad = ⟨ad.block, ad.off, none⟩ := spot_none h0
        have hcells : ∀ (j : Nat) x, l0[j]? = some x → w.cell? ⟨ad.block, ad.off + j, none⟩ = some (.string x) := fun j x hj => by
          have hlt := (List.getElem?_eq_some_iff.1 hj).1
          obtain ⟨ad', e', h1⟩ := Kd.at_string hr0 (j : Int) (by omega) (by omega)
          obtain rfl := Option.some.inj e'
          have hg : rdOf ByteArray.empty l0 (j : Int) = x := by
            unfold rdOf
            rw [List.getD_eq_getElem?_getD, Int.toNat_natCast, hj]; rfl
          rw [hg, Int.toNat_natCast] at h1
          rw [hs] at h1
          unfold Addr.add at h1
          by_cases hj0 : j = 0
          · subst hj0
            simpa using h1
          · simpa [hj0] using h1
        have hb : ad.block < w.heap.size := World.block_lt_of_cell? w _ h0
        have := Tryz.strings_Join ad.block ad.off c0 l0 a1 w hcells hb c1 hc0 c2
        rw [← hs] at this
        exact this
    · rw [if_neg c2] at h; cases h
  · rw [if_neg c1] at h; cases h
set_option maxHeartbeats 8000000 in
set_option maxRecDepth 100000 in
theorem print_join.calls (A0 : Option Addr) (c0 : Nat) (l0 : List ByteArray) (r : ByteArray) (w : World) (hr0 : Kd.C Kd.string w A0 l0.length l0) (hc0 : l0.length ≤ c0) (h : print_join.f l0 = some r) :
  Calls Tryz.prog 49 #[.slice A0 l0.length c0] w fun e w' => e = .returned (.string r) ∧ Below w.heap.size w w' := by
 have HR0 := A_ hr0; have HC0 := A_ hc0; clear hr0 hc0; have HB := A_ (Below.refl w.heap.size w); have H : ((strings_Join.f l0 (⟨#[]⟩ : ByteArray)).bind fun t189 => (some t189)) = some r := h; clear h; obtain ⟨t189, A2, H⟩ := bi_ H; obtain rfl := Option.some.inj H; go_enter Tryz.func49, Tryz.ntmps49; go_wp2_with (first | (refine gC 50 ?_; refine gL 4 Tryz.func50 #[.slice A0 l0.length c0, .string ⟨#[]⟩] ?_; (with_reducible refine (strings_Join.calls _ _ l0 (⟨#[]⟩ : ByteArray) t189 _ ?side1 ?side2 A2.out).mono ?_); (case side1 => exact cr_ HR0.out); (case side2 => exact HC0.out); rintro e w3 ⟨rfl, hb⟩; refine ⟨_, rfl, ?_⟩; replace HB := bs_ hb; (try clear hb))); go_ret; exact ⟨re_, hs_⟩
set_option maxHeartbeats 8000000 in
set_option maxRecDepth 100000 in
theorem print_mark.calls (a0 : Bool) (a1 r : ByteArray) (w : World) (h : print_mark.f a0 a1 = some r) :
  Calls Tryz.prog 52 #[.bool a0, .string a1] w fun e w' => e = .returned (.string r) ∧ Drawn0 w w' := by
 have H : (if a0 = true then (some a1) else (some (⟨#[]⟩ : ByteArray))) = some r := h; clear h
 by_cases c3 : a0 = true
 ·subst c3
  replace H := iP_ H; obtain rfl := Option.some.inj H; go_enter Tryz.func52, Tryz.ntmps52; go_wp2; go_ret; exact ⟨by first | rfl | (simp; done) | (simp [*]; done), by repeat (first | exact Drawn0.refl _ | apply Drawn0.step)⟩
 ·replace c3 := Bool.eq_false_iff.mpr c3
  subst c3; replace H := iN_ H; obtain rfl := Option.some.inj H; go_enter Tryz.func52, Tryz.ntmps52; go_wp2; go_ret; exact ⟨by first | rfl | (simp; done) | (simp [*]; done), by repeat (first | exact Drawn0.refl _ | apply Drawn0.step)⟩
theorem info9_printtext : (Tryz.prog.info? 9).map (fun i => (i.zero, i.size, i.bytes)) = some (some (.string ⟨#[]⟩), 1, 16) := by kernel_rfl
def print_text.T3 : Bool × List (List Nat × List Nat) := (true, [([], []), ([0], [0]), ([1], [1]), ([2], [2]), ([3], [3]), ([], []), ([5], [5]), ([6], [6]), ([7], [7]), ([8, 4], [8]), ([4, 9], [4, 9]), ([10, 9], [10]), ([11, 11, 0, 1, 2, 3, 4, 5, 6, 7, 8, 9, 10, 11], [11])])
def print_text.B3 : List Nat := [0, 1, 3, 7, 15, 0, 32, 96, 224, 511, 1023, 2047, 4095]
theorem print_text.tab3 : rtab .any (opsOf Tryz.f30 3) = print_text.T3 := by kernel_rfl
theorem print_text.bits3 : waitsOk print_text.T3.2 print_text.B3 = true := by kernel_rfl
def print_text.T16 : Bool × List (List Nat × List Nat) := (true, [([], []), ([0], [0]), ([1], [1]), ([], []), ([3], [3]), ([4, 2], [4]), ([], []), ([6], [6]), ([7, 5], [7]), ([2, 5, 8], [2, 5, 8]), ([9, 8], [9]), ([10, 10, 0, 1, 2, 3, 4, 5, 6, 7, 8, 9, 10], [10])])
def print_text.B16 : List Nat := [0, 1, 3, 0, 8, 31, 0, 64, 255, 511, 1023, 2047]
theorem print_text.tab16 : rtab .any (opsOf Tryz.f30 16) = print_text.T16 := by kernel_rfl
theorem print_text.bits16 : waitsOk print_text.T16.2 print_text.B16 = true := by kernel_rfl
set_option maxHeartbeats 8000000 in
set_option maxRecDepth 100000 in
theorem print_text.calls (k : Nat) : ∀ (a0_0 a0_1 : Int) (a0_2 a0_3 a0_4 : ByteArray) (a0_5 a0_6 : Bool) (A0_7 : Option Addr) (c0_7 : Nat) (l0_7 : List (S27)) (r : ByteArray) (w : World) (hr0_7 : Kd.C k27 w A0_7 l0_7.length l0_7) (hc0_7 : l0_7.length ≤ c0_7) (h : print_text.f k a0_0 a0_1 a0_2 a0_3 a0_4 a0_5 a0_6 l0_7 = some r),
  Calls Tryz.prog 30 #[.agg #[.int .i64 a0_0, .int .i64 a0_1, .string a0_2, .string a0_3, .string a0_4, .bool a0_5, .bool a0_6, .slice A0_7 l0_7.length c0_7]] w fun e w' => e = .returned (.string r) ∧ Below w.heap.size w w' := by
 induction k using Nat.strongRecOn with
 | _ k ih =>
 intro a0_0 a0_1 a0_2 a0_3 a0_4 a0_5 a0_6 A0_7 c0_7 l0_7 r w hr0_7 hc0_7 h
 cases k with
 | zero => exact absurd h (by simp [print_text.f])
 | succ k =>
 simp only [print_text.f] at h; have hu27 := Tryz.underlying27; have hu24 := Tryz.underlying24; have HR0_7 := A_ hr0_7; have HC0_7 := A_ hc0_7; clear hr0_7 hc0_7; have HB := A_ (Below.refl w.heap.size w); have H : (if a0_0 = 1 then (if 0 < (l0_7.length : Int) then ((print_text.f k ((rd_T27 l0_7 0).f0) ((rd_T27 l0_7 0).f1.f0) ((rd_T27 l0_7 0).f1.f1) ((rd_T27 l0_7 0).f1.f2) ((rd_T27 l0_7 0).f1.f3) ((rd_T27 l0_7 0).f2) ((rd_T27 l0_7 0).f3) ((rd_T27 l0_7 0).f4)).bind fun t192 => (if 1 < (l0_7.length : Int) then ((print_text.f k ((rd_T27 l0_7 1).f0) ((rd_T27 l0_7 1).f1.f0) ((rd_T27 l0_7 1).f1.f1) ((rd_T27 l0_7 1).f1.f2) ((rd_T27 l0_7 1).f1.f3) ((rd_T27 l0_7 1).f2) ((rd_T27 l0_7 1).f3) ((rd_T27 l0_7 1).f4)).bind fun t194 => ((print_join.f (([t192, (⟨#[47]⟩ : ByteArray), t194] : List ByteArray))).bind fun t198 => (some t198))) else (none))) else (none)) else (if a0_0 = 2 then (print_text.l0 k ([] : List ByteArray) l0_7 (l0_7.length : Int) 0) else (if a0_0 = 3 then (some (⟨#[46, 46]⟩ : ByteArray)) else (if a0_0 = 4 then (some (⟨#[42]⟩ : ByteArray)) else ((point_Text.f k a0_1 a0_2 a0_3 a0_4).bind fun t210 => ((print_mark.f a0_5 (⟨#[63]⟩ : ByteArray)).bind fun t211 => ((print_mark.f a0_6 (⟨#[126]⟩ : ByteArray)).bind fun t212 => ((print_join.f (([t210, t211, t212] : List ByteArray))).bind fun t216 => (some t216))))))))) = some r := h; clear h
 by_cases c2 : a0_0 = 1
 ·rw [if_pos c2] at H
  have c2b0 : (a0_0 == 1) = true := beq_iff_eq.mpr c2; have c2b1 : (a0_0 != 1) = false := bne_eq_false_iff_eq.mpr c2; clear c2
  by_cases c3 : 0 < (l0_7.length : Int)
  ·rw [if_pos c3] at H
   have c3b0 := decide_eq_true c3; have c3b1 : decide (0 < l0_7.length) = true := decide_eq_true (by omega); clear c3; obtain ⟨t192, A4, H⟩ := bi_ H
   by_cases c5 : 1 < (l0_7.length : Int)
   ·rw [if_pos c5] at H
    have c5b0 := decide_eq_true c5; have c5b1 : decide (1 < l0_7.length) = true := decide_eq_true (by omega); clear c5; obtain ⟨t194, A6, H⟩ := bi_ H; obtain ⟨y195, hy195⟩ : ∃ y_ : List ByteArray, y_ = (([t192, (⟨#[47]⟩ : ByteArray), t194] : List ByteArray)) := ⟨_, rfl⟩; (replace H : ((print_join.f y195).bind fun t198 => (some t198)) = some r := hy_ hy195 H); have Ny195 := A_ hy195; clear hy195; obtain ⟨t198, A7, H⟩ := bi_ H; obtain rfl := Option.some.inj H; go_enter Tryz.func30, Tryz.ntmps30; (try go_wp2_with (first | (refine gx_ w 1 (n8_ a0_0 a0_1 a0_2 a0_3 a0_4 a0_5 a0_6 (.slice A0_7 l0_7.length c0_7)) 27 ?_; clear HB; intro gb190 w8 BK190 GE190 HB; have GW190 := GE190; have Z9 := bz8_ BK190))); replace BK190 := A_ (blk_drew BK190.out); replace HB := A_ (below_drew1 HB.out); have p191 : 0 ≤ (0 : Int) := (by omega); have q191 : 0 < (l0_7.length : Int) := od_; obtain ⟨ad191, A191_7, c191_7, e191, hx191_0, hx191_1, hx191_2, hx191_3, hx191_4, hx191_5, hx191_6, hx191_7, hl191_7, hi191_7⟩ := at_T27 HR0_7.out 0 p191 q191; have hw191_7 := ai_ hx191_7; have hw191_6 := ai_ hx191_6; have hw191_5 := ai_ hx191_5; have hw191_4 := ai_ hx191_4
    have hw191_3 := ai_ hx191_3; have hw191_2 := ai_ hx191_2; have hw191_1 := ai_ hx191_1; have hw191_0 := ai_ hx191_0
    cases e191
    have qi191 : (0 < l0_7.length) = True := eq_true (by omega); replace hx191_0 := ai_ hx191_0; replace hx191_1 := ai_ hx191_1; replace hx191_2 := ai_ hx191_2; replace hx191_3 := ai_ hx191_3; replace hx191_4 := ai_ hx191_4; replace hx191_5 := ai_ hx191_5; replace hx191_6 := ai_ hx191_6; replace hx191_7 := ai_ hx191_7; replace hx191_0 := cl_ HB hx191_0; replace hx191_1 := cl_ HB hx191_1; replace hx191_2 := cl_ HB hx191_2; replace hx191_3 := cl_ HB hx191_3; replace hx191_4 := cl_ HB hx191_4; replace hx191_5 := cl_ HB hx191_5; replace hx191_6 := cl_ HB hx191_6; replace hx191_7 := cl_ HB hx191_7; have HR191_7 := A_ hi191_7; have HC191_7 := A_ hl191_7; clear hi191_7 hl191_7; replace p191 := eq_true p191; replace q191 := eq_true q191; have p193 : 0 ≤ (1 : Int) := (by omega); have q193 : 1 < (l0_7.length : Int) := od_; obtain ⟨ad193, A193_7, c193_7, e193, hx193_0, hx193_1, hx193_2, hx193_3, hx193_4, hx193_5, hx193_6, hx193_7, hl193_7, hi193_7⟩ := at_T27 HR0_7.out 1 p193 q193; have hw193_7 := aj_ hx193_7; have hw193_6 := aj_ hx193_6; have hw193_5 := aj_ hx193_5; have hw193_4 := aj_ hx193_4; have hw193_3 := aj_ hx193_3; have hw193_2 := aj_ hx193_2; have hw193_1 := aj_ hx193_1; have hw193_0 := aj_ hx193_0
    obtain rfl : ad191 = ad193 := (by injection e193); replace hx193_0 := aj_ hx193_0; replace hx193_1 := aj_ hx193_1; replace hx193_2 := aj_ hx193_2; replace hx193_3 := aj_ hx193_3; replace hx193_4 := aj_ hx193_4; replace hx193_5 := aj_ hx193_5; replace hx193_6 := aj_ hx193_6; replace hx193_7 := aj_ hx193_7; have qi193 : (1 < l0_7.length) = True := eq_true (by omega); (try rw [show ((1 : Int)).toNat = 1 from rfl] at hx193_0); (try rw [show 1 * 8 = 8 from rfl] at hx193_0); (try rw [show ((1 : Int)).toNat = 1 from rfl] at hx193_1); (try rw [show 1 * 8 = 8 from rfl] at hx193_1); (try rw [show ((1 : Int)).toNat = 1 from rfl] at hx193_2); (try rw [show 1 * 8 = 8 from rfl] at hx193_2); (try rw [show ((1 : Int)).toNat = 1 from rfl] at hx193_3); (try rw [show 1 * 8 = 8 from rfl] at hx193_3); (try rw [show ((1 : Int)).toNat = 1 from rfl] at hx193_4); (try rw [show 1 * 8 = 8 from rfl] at hx193_4); (try rw [show ((1 : Int)).toNat = 1 from rfl] at hx193_5); (try rw [show 1 * 8 = 8 from rfl] at hx193_5); (try rw [show ((1 : Int)).toNat = 1 from rfl] at hx193_6); (try rw [show 1 * 8 = 8 from rfl] at hx193_6); (try rw [show ((1 : Int)).toNat = 1 from rfl] at hx193_7); (try rw [show 1 * 8 = 8 from rfl] at hx193_7); replace hx193_0 := cl_ HB hx193_0; replace hx193_1 := cl_ HB hx193_1; replace hx193_2 := cl_ HB hx193_2; replace hx193_3 := cl_ HB hx193_3; replace hx193_4 := cl_ HB hx193_4; replace hx193_5 := cl_ HB hx193_5; replace hx193_6 := cl_ HB hx193_6; replace hx193_7 := cl_ HB hx193_7; have HR193_7 := A_ hi193_7; have HC193_7 := A_ hl193_7; clear hi193_7 hl193_7; replace p193 := eq_true p193; replace q193 := eq_true q193; refine start_ (n := 13) (S := fun w' => K8 w' gb190 (.int .i64 a0_0) (.int .i64 a0_1) (.string a0_2) (.string a0_3) (.string a0_4) (.bool a0_5) (.bool a0_6) (.slice (some ad191) l0_7.length c0_7) (w'.cell? ad191 = some (.int .i64 ((rd_T27 l0_7 0).f0)) ∧ w'.cell? ⟨ad191.block, ad191.off + 1, none⟩ = some (.int .i64 ((rd_T27 l0_7 0).f1.f0)) ∧ w'.cell? ⟨ad191.block, ad191.off + 2, none⟩ = some (.string ((rd_T27 l0_7 0).f1.f1)) ∧ w'.cell? ⟨ad191.block, ad191.off + 3, none⟩ = some (.string ((rd_T27 l0_7 0).f1.f2)) ∧ w'.cell? ⟨ad191.block, ad191.off + 4, none⟩ = some (.string ((rd_T27 l0_7 0).f1.f3)) ∧ w'.cell? ⟨ad191.block, ad191.off + 5, none⟩ = some (.bool ((rd_T27 l0_7 0).f2)) ∧ w'.cell? ⟨ad191.block, ad191.off + 6, none⟩ = some (.bool ((rd_T27 l0_7 0).f3)) ∧ w'.cell? ⟨ad191.block, ad191.off + 7, none⟩ = some (.slice A191_7 ((rd_T27 l0_7 0).f4).length c191_7) ∧ w'.cell? ⟨ad191.block, ad191.off + 8, none⟩ = some (.int .i64 ((rd_T27 l0_7 1).f0)) ∧ w'.cell? ⟨ad191.block, ad191.off + 8 + 1, none⟩ = some (.int .i64 ((rd_T27 l0_7 1).f1.f0)) ∧ w'.cell? ⟨ad191.block, ad191.off + 8 + 2, none⟩ = some (.string ((rd_T27 l0_7 1).f1.f1)) ∧ w'.cell? ⟨ad191.block, ad191.off + 8 + 3, none⟩ = some (.string ((rd_T27 l0_7 1).f1.f2)) ∧ w'.cell? ⟨ad191.block, ad191.off + 8 + 4, none⟩ = some (.string ((rd_T27 l0_7 1).f1.f3)) ∧ w'.cell? ⟨ad191.block, ad191.off + 8 + 5, none⟩ = some (.bool ((rd_T27 l0_7 1).f2)) ∧ w'.cell? ⟨ad191.block, ad191.off + 8 + 6, none⟩ = some (.bool ((rd_T27 l0_7 1).f3)) ∧ w'.cell? ⟨ad191.block, ad191.off + 8 + 7, none⟩ = some (.slice A193_7 ((rd_T27 l0_7 1).f4).length c193_7))) (ds := []) (ab 13 0) (by kernel_rfl) rfl rfl (kq8_ BK190 (⟨(cl_ HB hw191_0), (cl_ HB hw191_1), (cl_ HB hw191_2), (cl_ HB hw191_3), (cl_ HB hw191_4), (cl_ HB hw191_5), (cl_ HB hw191_6), (cl_ HB hw191_7), (cl_ HB hw193_0), (cl_ HB hw193_1), (cl_ HB hw193_2), (cl_ HB hw193_3), (cl_ HB hw193_4), (cl_ HB hw193_5), (cl_ HB hw193_6), (cl_ HB hw193_7)⟩)) (fun hHeld => ?_); refine with_tabW print_text.tab3 print_text.bits3 (fun HT_ HW_ => ?_)
    generalize w8.drew = w10 at BK190 HB HR191_7 HR193_7 hx191_0 hx191_1 hx191_2 hx191_3 hx191_4 hx191_5 hx191_6 hx191_7 hx193_0 hx193_1 hx193_2 hx193_3 hx193_4 hx193_5 hx193_6 hx193_7 hHeld ⊢; refine pA 0 10 13 1 ?_; refine pA 5 15 13 33 ?_; refine tB 1 11 13 35 ?_; refine pA 2 12 13 39 ?_; refine tB 3 13 13 47 ?_; refine tB 6 16 13 111 ?_; refine pA 7 17 13 239 ?_; refine tB 8 18 13 495 ?_; refine oA 4 (some 14) 13 511 fun K hK => ?_; refine gS Tryz.func30 #[.agg #[.int .i64 ((rd_T27 l0_7 0).f0), .int .i64 ((rd_T27 l0_7 0).f1.f0), .string ((rd_T27 l0_7 0).f1.f1), .string ((rd_T27 l0_7 0).f1.f2), .string ((rd_T27 l0_7 0).f1.f3), .bool ((rd_T27 l0_7 0).f2), .bool ((rd_T27 l0_7 0).f3), .slice A191_7 ((rd_T27 l0_7 0).f4).length c191_7]] ?_; (with_reducible refine (ih k (by omega) ((rd_T27 l0_7 0).f0) ((rd_T27 l0_7 0).f1.f0) ((rd_T27 l0_7 0).f1.f1) ((rd_T27 l0_7 0).f1.f2) ((rd_T27 l0_7 0).f1.f3) ((rd_T27 l0_7 0).f2) ((rd_T27 l0_7 0).f3) _ _ ((rd_T27 l0_7 0).f4) t192 _ ?side1 ?side2 A4.out).mono ?_)
    (case side1 => exact cb_ HR191_7)
    (case side2 => exact HC191_7.out)
    rintro e w11 ⟨rfl, hb⟩; refine ⟨_, rfl, ?_⟩; replace BK190 := bb_ BK190 hb; replace HB := bs_ hb; (try clear hb); refine hK.out _ _ (kq8_ BK190 (⟨(cl_ HB hw191_0), (cl_ HB hw191_1), (cl_ HB hw191_2), (cl_ HB hw191_3), (cl_ HB hw191_4), (cl_ HB hw191_5), (cl_ HB hw191_6), (cl_ HB hw191_7), (cl_ HB hw193_0), (cl_ HB hw193_1), (cl_ HB hw193_2), (cl_ HB hw193_3), (cl_ HB hw193_4), (cl_ HB hw193_5), (cl_ HB hw193_6), (cl_ HB hw193_7)⟩)) (fun hHeld => ?_); clear hK K; refine nA ?_; refine oA 9 (some 19) 13 1023 fun K hK => ?_; refine gS Tryz.func30 #[.agg #[.int .i64 ((rd_T27 l0_7 1).f0), .int .i64 ((rd_T27 l0_7 1).f1.f0), .string ((rd_T27 l0_7 1).f1.f1), .string ((rd_T27 l0_7 1).f1.f2), .string ((rd_T27 l0_7 1).f1.f3), .bool ((rd_T27 l0_7 1).f2), .bool ((rd_T27 l0_7 1).f3), .slice A193_7 ((rd_T27 l0_7 1).f4).length c193_7]] ?_; (with_reducible refine (ih k (by omega) ((rd_T27 l0_7 1).f0) ((rd_T27 l0_7 1).f1.f0) ((rd_T27 l0_7 1).f1.f1) ((rd_T27 l0_7 1).f1.f2) ((rd_T27 l0_7 1).f1.f3) ((rd_T27 l0_7 1).f2) ((rd_T27 l0_7 1).f3) _ _ ((rd_T27 l0_7 1).f4) t194 _ ?side1 ?side2 A6.out).mono ?_)
    (case side1 => exact cb_ HR193_7)
    (case side2 => exact HC193_7.out)
    rintro e w12 ⟨rfl, hb⟩; refine ⟨_, rfl, ?_⟩; replace BK190 := bb_ BK190 hb; replace HB := bs_ hb; (try clear hb); refine hK.out _ _ (kq8_ BK190 (⟨(cl_ HB hw191_0), (cl_ HB hw191_1), (cl_ HB hw191_2), (cl_ HB hw191_3), (cl_ HB hw191_4), (cl_ HB hw191_5), (cl_ HB hw191_6), (cl_ HB hw191_7), (cl_ HB hw193_0), (cl_ HB hw193_1), (cl_ HB hw193_2), (cl_ HB hw193_3), (cl_ HB hw193_4), (cl_ HB hw193_5), (cl_ HB hw193_6), (cl_ HB hw193_7)⟩)) (fun hHeld => ?_); clear hK K; refine nA ?_; refine oA 10 (some 20) 13 2047 fun K hK => ?_; refine Kd.R_lit_step Kd.string _ 9 ?hg (N := 20) ?hd (xs := ([t192, (⟨#[47]⟩ : ByteArray), t194] : List ByteArray)) (inner := [.string t192, .string ⟨#[47]⟩, .string t194]) (ok := fun _ => True) (okp := fun _ => True) ?hr ?hp (fun _ hk => hk) trivial (Below.refl _ _) (Nat.le_refl _) (by simp) ?_; (case hd => rfl); (case hg => rfl); (case hr => first | (go_simp; done) | (go_simp; rfl)); (case hp => exact (Reps.one (show Kd.M Kd.string _ _ _ t192 [.string t192] from rfl) (Reps.one (show Kd.M Kd.string _ _ _ (⟨#[47]⟩ : ByteArray) [.string ⟨#[47]⟩] from rfl) (Reps.one (show Kd.M Kd.string _ _ _ t194 [.string t194] from rfl) (Reps.none _ _))))); intro v196 w13 ho14 hb hg_ hnew_; clear hg_ hnew_; (first | rw [← Ny195.out] at ho14 | (simp only [Int.reduceToNat] at ho14; rw [← Ny195.out] at ho14)); have HO197 := A_ (Kd.R_lower ho14 (below_size hs_)); replace BK190 := bb_ BK190 hb; replace HB := bs_ hb; clear hb ho14; obtain ⟨Ao15, co15, eo15⟩ := Kd.R_slice HO197.out; (first | subst eo15 | (injection eo15 with f1_ f2_ f3_; have f4_ := f1_.symm; have f5_ := f3_.symm; clear f1_ f2_ f3_; subst f4_; subst f5_))
    refine hK.out _ _ (kq8_ BK190 (⟨(cl_ HB hw191_0), (cl_ HB hw191_1), (cl_ HB hw191_2), (cl_ HB hw191_3), (cl_ HB hw191_4), (cl_ HB hw191_5), (cl_ HB hw191_6), (cl_ HB hw191_7), (cl_ HB hw193_0), (cl_ HB hw193_1), (cl_ HB hw193_2), (cl_ HB hw193_3), (cl_ HB hw193_4), (cl_ HB hw193_5), (cl_ HB hw193_6), (cl_ HB hw193_7)⟩)) (fun hHeld => ?_); clear hK K; refine nA ?_; refine oA 11 (some 21) 13 4095 fun K hK => ?_; refine gS Tryz.func49 #[.slice Ao15 y195.length co15] ?_; (with_reducible refine (print_join.calls _ _ y195 t198 _ ?side1 ?side2 A7.out).mono ?_)
    (case side1 => exact cr_ (Kd.R_reads' HO197.out).2.2)
    (case side2 => exact (Kd.R_reads' HO197.out).2.1)
    rintro e w16 ⟨rfl, hb⟩; refine ⟨_, rfl, ?_⟩; replace HO197 := A_ (Kd.R_below (hrR_ HO197.out) hb); replace BK190 := bb_ BK190 hb; replace HB := bs_ hb; (try clear hb); refine hK.out _ _ (kq8_ BK190 (⟨(cl_ HB hw191_0), (cl_ HB hw191_1), (cl_ HB hw191_2), (cl_ HB hw191_3), (cl_ HB hw191_4), (cl_ HB hw191_5), (cl_ HB hw191_6), (cl_ HB hw191_7), (cl_ HB hw193_0), (cl_ HB hw193_1), (cl_ HB hw193_2), (cl_ HB hw193_3), (cl_ HB hw193_4), (cl_ HB hw193_5), (cl_ HB hw193_6), (cl_ HB hw193_7)⟩)) (fun hHeld => ?_); clear hK K; refine nA ?_; refine pA 12 2 13 8191 ?_; refine done_ (done_of HT_.out (by kernel_rfl)) ?_; (try go_wp2); go_ret; exact ⟨re_, hs_⟩
   ·rw [if_neg c5] at H
    exact absurd H (by simp)
  ·rw [if_neg c3] at H
   exact absurd H (by simp)
 ·rw [if_neg c2] at H
  have c2b0 : (a0_0 == 1) = false := beq_eq_false_iff_ne.mpr c2; have c2b1 : (a0_0 != 1) = true := bne_iff_ne.mpr c2
  by_cases c17 : a0_0 = 2
  ·rw [if_pos c17] at H
   have c17b0 : (a0_0 == 2) = true := beq_iff_eq.mpr c17; have c17b1 : (a0_0 != 2) = false := bne_eq_false_iff_eq.mpr c17; clear c17; have H' := A_ H; clear H; go_enter Tryz.func30, Tryz.ntmps30; go_wp2_with (first | (refine gx_ w 1 (n8_ a0_0 a0_1 a0_2 a0_3 a0_4 a0_5 a0_6 (.slice A0_7 l0_7.length c0_7)) 27 ?_; clear HB; intro gb190 w18 BK190 GE190 HB; have GW190 := GE190; have Z19 := bz8_ BK190)); go_loopg [3, 27] k (fun kq v3 v27 w' => ∃ (x3_1 : List ByteArray) (x27_1 : Int), v27 = .int .i64 x27_1 ∧ Aside0 (print_text.l0 kq x3_1 l0_7 (l0_7.length : Int) x27_1 = some r) ∧ Aside0 (kq ≤ k) ∧ Aside0 (Kd.R Kd.string 9 w' w.heap.size (fun _ => True) v3 x3_1) ∧ Aside0 (w'.heap[gb190]? = some (.cells #[.int .i64 a0_0, .int .i64 a0_1, .string a0_2, .string a0_3, .string a0_4, .bool a0_5, .bool a0_6, (.slice A0_7 l0_7.length c0_7)] 27 (0, 0))) ∧ Aside0 (Below w.heap.size w w'))
   case atStart => exact ⟨(([] : List ByteArray)), (0), rf_, H', ⟨Nat.le_refl _⟩, ⟨by first | exact Kd.R_nil _ _ _ _ _ | exact Kd.N_nil _ _ _ _ _ | exact Kd.V_nil _ _ _ _ _ | exact Kd.Q_nil _ _ _ _ _ | exact Kd.S_nil _ _ _ _ _⟩, ⟨bl_ BK190.out⟩, ⟨hs_⟩⟩
   case round =>
    clear H'; (try clear c1); (try clear p1); (try clear q1); (try clear hx1); (try clear qi1); (try clear c2); (try clear c2b0); (try clear c2b1); (try clear p2); (try clear c3); (try clear c3b0); (try clear c3b1); (try clear c5); (try clear c5b0); (try clear c5b1); (try clear c7); (try clear c17); (try clear c17b0); (try clear c17b1); (try clear c19); (try clear p19); (try clear q19); (try clear hx19); (try clear qi19); (try clear Z19); (try clear Z9); (try clear hx191_0); (try clear hx191_1); (try clear hx191_2); (try clear hx191_3); (try clear hx191_4); (try clear hx191_5); (try clear hx191_6); (try clear hx191_7); (try clear hx193_0); (try clear hx193_1); (try clear hx193_2); (try clear hx193_3); (try clear hx193_4); (try clear hx193_5); (try clear hx193_6); (try clear hx193_7); (try clear p191); (try clear p193); (try clear q191); (try clear q193); obtain ⟨x3_1, x27_1, rfl, HA, HK1, HO_3, BK190, HB⟩ := hrel
    cases gk with
    | zero => exact absurd HA.out (by simp [print_text.l0])
    | succ k1 =>
     have H := HA.out; clear HA; simp only [print_text.l0] at H
     by_cases c20 : x27_1 < (l0_7.length : Int)
     ·rw [if_pos c20] at H
      have c20b0 := decide_eq_true c20; clear c20
      by_cases c21 : 0 ≤ x27_1
      ·rw [if_pos c21] at H
       have c21b0 := decide_eq_true c21; clear c21
       by_cases c22 : x27_1 < (l0_7.length : Int)
       ·rw [if_pos c22] at H
        have c22b0 := decide_eq_true c22; clear c22; obtain ⟨t201, A23, H⟩ := bi_ H
        by_cases c24 : x3_1.length < 8796093022208
        ·rw [if_pos c24] at H
         have LMc24 := A_ c24; clear c24; obtain ⟨y202, hy202⟩ : ∃ y_ : List ByteArray, y_ = (x3_1 ++ [t201]) := ⟨_, rfl⟩; (replace H : (print_text.l0 k1 y202 l0_7 (l0_7.length : Int) (wrap64 (x27_1 + 1))) = some r := hy_ hy202 H); have Ny202 := A_ hy202; clear hy202; have H' := A_ H; clear H; have p199 : 0 ≤ (x27_1 : Int) := od_; have q199 : x27_1 < (l0_7.length : Int) := od_; obtain ⟨ad199, A199_7, c199_7, e199, hx199_0, hx199_1, hx199_2, hx199_3, hx199_4, hx199_5, hx199_6, hx199_7, hl199_7, hi199_7⟩ := at_T27 HR0_7.out x27_1 p199 q199
         cases e199
         replace hx199_0 := cl_ HB hx199_0; replace hx199_1 := cl_ HB hx199_1; replace hx199_2 := cl_ HB hx199_2; replace hx199_3 := cl_ HB hx199_3; replace hx199_4 := cl_ HB hx199_4; replace hx199_5 := cl_ HB hx199_5; replace hx199_6 := cl_ HB hx199_6; replace hx199_7 := cl_ HB hx199_7; have HR199_7 := A_ hi199_7; have HC199_7 := A_ hl199_7; clear hi199_7 hl199_7; replace p199 := eq_true p199; replace q199 := eq_true q199; go_wp2_with (first | (refine gD 5 ?_; refine bxe_ 5 z8_ 27 ?_; intro gb200 hg w25 hbox hb; replace HO_3 := A_ (Kd.R_below (hrR_ HO_3.out) hb); have BK200 := A_ (hbox); have GW200 := gs_ w hg; have GE200 := gs_ w hg; replace HB := bs_ hb; have NB190_200 := nl_ BK190 hg; have NB200_190 := ng_ BK190 hg; replace BK190 := bb_ BK190 hb; clear hb hbox hg; have hnb26 := NB200_190.out; have hnc26 := NB190_200.out; have Z27 := bz8_ BK200) | (refine gC 30 ?_; refine gL 33 Tryz.func30 #[.agg #[.int .i64 ((rd_T27 l0_7 x27_1).f0), .int .i64 ((rd_T27 l0_7 x27_1).f1.f0), .string ((rd_T27 l0_7 x27_1).f1.f1), .string ((rd_T27 l0_7 x27_1).f1.f2), .string ((rd_T27 l0_7 x27_1).f1.f3), .bool ((rd_T27 l0_7 x27_1).f2), .bool ((rd_T27 l0_7 x27_1).f3), .slice A199_7 ((rd_T27 l0_7 x27_1).f4).length c199_7]] ?_; (with_reducible refine (ih k1 (by have := HK1.out; omega) ((rd_T27 l0_7 x27_1).f0) ((rd_T27 l0_7 x27_1).f1.f0) ((rd_T27 l0_7 x27_1).f1.f1) ((rd_T27 l0_7 x27_1).f1.f2) ((rd_T27 l0_7 x27_1).f1.f3) ((rd_T27 l0_7 x27_1).f2) ((rd_T27 l0_7 x27_1).f3) _ _ ((rd_T27 l0_7 x27_1).f4) t201 _ ?side1 ?side2 A23.out).mono ?_); (case side1 => exact Kd.C_below HR199_7.out hs_); (case side2 => exact HC199_7.out); rintro e w28 ⟨rfl, hb⟩; refine ⟨_, rfl, ?_⟩; replace HO_3 := A_ (Kd.R_below (by (with_reducible repeat (first | apply Kd.R_alloc | apply Kd.R_drewN | apply Kd.R_drew)); exact (Kd.R_mono (Kd.R_far (p := ⟨gb200, 7, none⟩) (Kd.R_far (p := ⟨gb200, 6, none⟩) (Kd.R_far (p := ⟨gb200, 5, none⟩) (Kd.R_far (p := ⟨gb200, 4, none⟩) (Kd.R_far (p := ⟨gb200, 3, none⟩) (Kd.R_far (p := ⟨gb200, 2, none⟩) (Kd.R_far (p := ⟨gb200, 1, none⟩) (Kd.R_far (p := ⟨gb200, 0, none⟩) (Kd.R_types HO_3.out BK200.out (by decide)) (fun _ hk => hk.2) (.int .i64 ((rd_T27 l0_7 x27_1).f0))) (fun _ hk => hk.2) (.int .i64 ((rd_T27 l0_7 x27_1).f1.f0))) (fun _ hk => hk.2) (.string ((rd_T27 l0_7 x27_1).f1.f1))) (fun _ hk => hk.2) (.string ((rd_T27 l0_7 x27_1).f1.f2))) (fun _ hk => hk.2) (.string ((rd_T27 l0_7 x27_1).f1.f3))) (fun _ hk => hk.2) (.bool ((rd_T27 l0_7 x27_1).f2))) (fun _ hk => hk.2) (.bool ((rd_T27 l0_7 x27_1).f3))) (fun _ hk => hk.2) (.slice A199_7 ((rd_T27 l0_7 x27_1).f4).length c199_7)) (fun _ h_ => h_.1))) hb); replace BK190 := A_ (blk_below (g := gb190) (o := .cells (n8_ a0_0 a0_1 a0_2 a0_3 a0_4 a0_5 a0_6 (.slice (some ad199) l0_7.length c0_7)) 27 (0, 0)) (pf_ NB190_200 BK190) hb); replace BK200 := bp_ BK200 (.cells #[.int .i64 ((rd_T27 l0_7 x27_1).f0), .int .i64 ((rd_T27 l0_7 x27_1).f1.f0), .string ((rd_T27 l0_7 x27_1).f1.f1), .string ((rd_T27 l0_7 x27_1).f1.f2), .string ((rd_T27 l0_7 x27_1).f1.f3), .bool ((rd_T27 l0_7 x27_1).f2), .bool ((rd_T27 l0_7 x27_1).f3), .slice A199_7 ((rd_T27 l0_7 x27_1).f4).length c199_7] 27 (0, 0)) hb; replace HB := bs_ hb; (try clear hb); (try clear hk)) | ((with_reducible refine gate_builtin (b := .append) (xs := #[.tmp 31, .tmp 34]) rfl ?_); at_builtin; refine Kd.R_append Kd.string (w0 := w) w.heap.size rfl (.tmp 31) (.tmp 34) 77 9 (.string ⟨#[]⟩) 16 rfl Tryz.underlying77 info9_printtext rfl (by decide) (by omega) u3 x3_1 t201 [.string t201] (fun _ => True) (fun _ => False) rfl rfl ?aP (fun _ hk => hk.elim) ?aF ?aO ?aB ?aS ?aL ?_; (case aP => exact rfl); (case aB => exact hs_); (case aF => exact (fun _ _ => trivial)); (case aO => exact (hrR_ HO_3.out)); (case aS => exact (below_size hs_)); (case aL => have := LMc24.out; omega); intro v203 w29 ho hb hg hat; rw [← Ny202.out] at ho; replace BK190 := A_ (blk_grown (g := gb190) (o := .cells (n8_ a0_0 a0_1 a0_2 a0_3 a0_4 a0_5 a0_6 (.slice (some ad199) l0_7.length c0_7)) 27 (0, 0)) (bl_ BK190.out) hg (Kd.R_ne HO_3.out BK190.out (by decide))); replace BK200 := A_ (blk_grown (g := gb200) (o := .cells #[.int .i64 ((rd_T27 l0_7 x27_1).f0), .int .i64 ((rd_T27 l0_7 x27_1).f1.f0), .string ((rd_T27 l0_7 x27_1).f1.f1), .string ((rd_T27 l0_7 x27_1).f1.f2), .string ((rd_T27 l0_7 x27_1).f1.f3), .bool ((rd_T27 l0_7 x27_1).f2), .bool ((rd_T27 l0_7 x27_1).f3), .slice A199_7 ((rd_T27 l0_7 x27_1).f4).length c199_7] 27 (0, 0)) (bl_ BK200.out) hg (Kd.R_ne HO_3.out BK200.out (by decide))); replace HB := A_ (hb); have HO204 := A_ (ho); clear HO_3; clear ho hb hg hat))
         go_roundg k1
         case measure => have := HK1.out; omega
         case rel => exact ⟨(y202), (wrap64 (x27_1 + 1)), rf_, H', ⟨by have := HK1.out; omega⟩, ⟨fxR_ HO204.out⟩, ⟨bl_ BK190.out⟩, ⟨hs_⟩⟩
        ·rw [if_neg c24] at H
         exact absurd H (by simp)
       ·rw [if_neg c22] at H
        exact absurd H (by simp)
      ·rw [if_neg c21] at H
       exact absurd H (by simp)
     ·rw [if_neg c20] at H
      have c20b0 := decide_eq_false c20; have c20b9 := c20b0; (try simp only [hl191_7] at c20b9); (try simp only [hl193_7] at c20b9); (try simp only [hl199_7] at c20b9); clear c20; obtain ⟨t205, A30, H⟩ := bi_ H; obtain ⟨y206, hy206⟩ : ∃ y_ : List ByteArray, y_ = (([(⟨#[91]⟩ : ByteArray), t205, (⟨#[93]⟩ : ByteArray)] : List ByteArray)) := ⟨_, rfl⟩; (replace H : ((print_join.f y206).bind fun t209 => (some t209)) = some r := hy_ hy206 H); have Ny206 := A_ hy206; clear hy206; obtain ⟨t209, A31, H⟩ := bi_ H; obtain rfl := Option.some.inj H; obtain ⟨Ao32, co32, eo32⟩ := Kd.R_slice HO_3.out; subst eo32; go_wp2_with (first | (refine gC 50 ?_; refine gL 38 Tryz.func50 #[.slice Ao32 x3_1.length co32, .string ⟨#[44, 32]⟩] ?_; (with_reducible refine (strings_Join.calls _ _ x3_1 (⟨#[44, 32]⟩ : ByteArray) t205 _ ?side1 ?side2 A30.out).mono ?_); (case side1 => exact cr_ (Kd.R_reads' HO_3.out).2.2); (case side2 => exact (Kd.R_reads' HO_3.out).2.1); rintro e w33 ⟨rfl, hb⟩; refine ⟨_, rfl, ?_⟩; replace HO_3 := A_ (Kd.R_below (hrR_ HO_3.out) hb); replace BK190 := bb_ BK190 hb; replace HB := bs_ hb; (try clear hb)) | (refine gD 39 ?_; refine Kd.R_lit Kd.string _ 9 ?hg (N := 39) ?hd (xs := ([(⟨#[91]⟩ : ByteArray), t205, (⟨#[93]⟩ : ByteArray)] : List ByteArray)) (inner := [.string ⟨#[91]⟩, .string t205, .string ⟨#[93]⟩]) (ok := fun _ => True) (okp := fun _ => True) ?hr ?hp (fun _ hk => hk) trivial (Below.refl _ _) (Nat.le_refl _) (by simp) ?_; (case hd => rfl); (case hg => rfl); (case hr => first | (go_simp; done) | (go_simp; rfl)); (case hp => exact (Reps.one (show Kd.M Kd.string _ _ _ (⟨#[91]⟩ : ByteArray) [.string ⟨#[91]⟩] from rfl) (Reps.one (show Kd.M Kd.string _ _ _ t205 [.string t205] from rfl) (Reps.one (show Kd.M Kd.string _ _ _ (⟨#[93]⟩ : ByteArray) [.string ⟨#[93]⟩] from rfl) (Reps.none _ _))))); intro v207 w34 ho35 hb hg_ hnew_; clear hg_ hnew_; (first | rw [← Ny206.out] at ho35 | (simp only [Int.reduceToNat] at ho35; rw [← Ny206.out] at ho35)); have HO208 := A_ (Kd.R_lower (Kd.R_new' ho35 (Kd.R_lt (hrR_ HO_3.out))) (below_size hs_)); replace HO_3 := A_ (Kd.R_elder' (hrR_ HO_3.out) (Kd.R_base ho35) hb); replace BK190 := bb_ BK190 hb; replace HB := bs_ hb; clear hb ho35; obtain ⟨Ao36, co36, eo36⟩ := Kd.R_slice HO208.out; subst eo36) | (refine gC 49 ?_; refine gL 40 Tryz.func49 #[.slice Ao36 y206.length co36] ?_; (with_reducible refine (print_join.calls _ _ y206 t209 _ ?side1 ?side2 A31.out).mono ?_); (case side1 => exact cr_ (Kd.R_reads' HO208.out).2.2); (case side2 => exact (Kd.R_reads' HO208.out).2.1); rintro e w37 ⟨rfl, hb⟩; refine ⟨_, rfl, ?_⟩; replace HO_3 := A_ (Kd.R_below (hrR_ HO_3.out) hb); replace HO208 := A_ (Kd.R_below (hrR_ HO208.out) hb); replace BK190 := bb_ BK190 hb; replace HB := bs_ hb; (try clear hb)))
      go_ret; exact ⟨re_, hs_⟩
  ·rw [if_neg c17] at H
   have c17b0 : (a0_0 == 2) = false := beq_eq_false_iff_ne.mpr c17; have c17b1 : (a0_0 != 2) = true := bne_iff_ne.mpr c17
   by_cases c38 : a0_0 = 3
   ·rw [if_pos c38] at H
    have c38b0 : (a0_0 == 3) = true := beq_iff_eq.mpr c38; have c38b1 : (a0_0 != 3) = false := bne_eq_false_iff_eq.mpr c38; clear c38; obtain rfl := Option.some.inj H; go_enter Tryz.func30, Tryz.ntmps30; go_wp2_with (first | (refine gx_ w 1 (n8_ a0_0 a0_1 a0_2 a0_3 a0_4 a0_5 a0_6 (.slice A0_7 l0_7.length c0_7)) 27 ?_; clear HB; intro gb190 w39 BK190 GE190 HB; have GW190 := GE190; have Z40 := bz8_ BK190)); go_ret; exact ⟨re_, hs_⟩
   ·rw [if_neg c38] at H
    have c38b0 : (a0_0 == 3) = false := beq_eq_false_iff_ne.mpr c38; have c38b1 : (a0_0 != 3) = true := bne_iff_ne.mpr c38
    by_cases c41 : a0_0 = 4
    ·rw [if_pos c41] at H
     have c41b0 : (a0_0 == 4) = true := beq_iff_eq.mpr c41; have c41b1 : (a0_0 != 4) = false := bne_eq_false_iff_eq.mpr c41; clear c41; obtain rfl := Option.some.inj H; go_enter Tryz.func30, Tryz.ntmps30; go_wp2_with (first | (refine gx_ w 1 (n8_ a0_0 a0_1 a0_2 a0_3 a0_4 a0_5 a0_6 (.slice A0_7 l0_7.length c0_7)) 27 ?_; clear HB; intro gb190 w42 BK190 GE190 HB; have GW190 := GE190; have Z43 := bz8_ BK190)); go_ret; exact ⟨re_, hs_⟩
    ·rw [if_neg c41] at H
     have c41b0 : (a0_0 == 4) = false := beq_eq_false_iff_ne.mpr c41; have c41b1 : (a0_0 != 4) = true := bne_iff_ne.mpr c41; obtain ⟨t210, A44, H⟩ := bi_ H; obtain ⟨t211, A45, H⟩ := bi_ H; obtain ⟨t212, A46, H⟩ := bi_ H; obtain ⟨y213, hy213⟩ : ∃ y_ : List ByteArray, y_ = (([t210, t211, t212] : List ByteArray)) := ⟨_, rfl⟩; (replace H : ((print_join.f y213).bind fun t216 => (some t216)) = some r := hy_ hy213 H); have Ny213 := A_ hy213; clear hy213; obtain ⟨t216, A47, H⟩ := bi_ H; obtain rfl := Option.some.inj H; go_enter Tryz.func30, Tryz.ntmps30; (try go_wp2_with (first | (refine gx_ w 1 (n8_ a0_0 a0_1 a0_2 a0_3 a0_4 a0_5 a0_6 (.slice A0_7 l0_7.length c0_7)) 27 ?_; clear HB; intro gb190 w48 BK190 GE190 HB; have GW190 := GE190; have Z49 := bz8_ BK190))); replace BK190 := A_ (blk_drew BK190.out); replace HB := A_ (below_drew1 HB.out); refine start_ (n := 12) (S := fun w' => C8 w' gb190 (.int .i64 a0_0) (.int .i64 a0_1) (.string a0_2) (.string a0_3) (.string a0_4) (.bool a0_5) (.bool a0_6) (.slice A0_7 l0_7.length c0_7)) (ds := []) (ab 12 0) (by kernel_rfl) rfl rfl (cq8_ BK190) (fun hHeld => ?_); refine with_tabW print_text.tab16 print_text.bits16 (fun HT_ HW_ => ?_)
     generalize w48.drew = w50 at BK190 HB hHeld ⊢; refine pA 0 45 12 1 ?_; refine pA 3 48 12 9 ?_; refine pA 6 51 12 73 ?_; refine tB 1 46 12 75 ?_; refine tB 4 49 12 91 ?_; refine tB 7 52 12 219 ?_; refine oA 2 (some 47) 12 223 fun K hK => ?_; refine gS Tryz.func51 #[.agg (n4_ a0_1 a0_2 a0_3 a0_4)] ?_; (with_reducible refine (point_Text.calls k a0_1 a0_2 a0_3 a0_4 t210 _ A44.out).mono ?_); rintro e w51 ⟨rfl, hb⟩; refine ⟨_, rfl, ?_⟩; replace BK190 := bb_ BK190 hb; replace HB := bs_ hb; (try clear hb); refine hK.out _ _ (cq8_ BK190) (fun hHeld => ?_); clear hK K; refine nA ?_; refine oA 5 (some 50) 12 255 fun K hK => ?_; refine gS Tryz.func52 #[.bool a0_5, .string ⟨#[63]⟩] ?_; (with_reducible refine (print_mark.calls a0_5 (⟨#[63]⟩ : ByteArray) t211 _ A45.out).mono ?_); rintro e w' ⟨rfl, ⟨nd, rfl⟩⟩; refine ⟨_, rfl, ?_⟩; refine hK.out _ _ (cq8_ BK190) (fun hHeld => ?_); clear hK K; refine nA ?_; refine oA 8 (some 53) 12 511 fun K hK => ?_; refine gS Tryz.func52 #[.bool a0_6, .string ⟨#[126]⟩] ?_; (with_reducible refine (print_mark.calls a0_6 (⟨#[126]⟩ : ByteArray) t212 _ A46.out).mono ?_); rintro e w' ⟨rfl, ⟨nd, rfl⟩⟩; refine ⟨_, rfl, ?_⟩; refine hK.out _ _ (cq8_ BK190) (fun hHeld => ?_); clear hK K; refine nA ?_; refine oA 9 (some 54) 12 1023 fun K hK => ?_; refine Kd.R_lit_step Kd.string _ 9 ?hg (N := 54) ?hd (xs := ([t210, t211, t212] : List ByteArray)) (inner := [.string t210, .string t211, .string t212]) (ok := fun _ => True) (okp := fun _ => True) ?hr ?hp (fun _ hk => hk) trivial (Below.refl _ _) (Nat.le_refl _) (by simp) ?_; (case hd => rfl); (case hg => rfl); (case hr => first | (go_simp; done) | (go_simp; rfl)); (case hp => exact (Reps.one (show Kd.M Kd.string _ _ _ t210 [.string t210] from rfl) (Reps.one (show Kd.M Kd.string _ _ _ t211 [.string t211] from rfl) (Reps.one (show Kd.M Kd.string _ _ _ t212 [.string t212] from rfl) (Reps.none _ _)))))
     intro v214 w52 ho53 hb hg_ hnew_; clear hg_ hnew_; (first | rw [← Ny213.out] at ho53 | (simp only [Int.reduceToNat] at ho53; rw [← Ny213.out] at ho53)); have HO215 := A_ (Kd.R_lower ho53 (below_size hs_)); replace BK190 := bb_ BK190 hb; replace HB := bs_ hb; clear hb ho53; obtain ⟨Ao54, co54, eo54⟩ := Kd.R_slice HO215.out; (first | subst eo54 | (injection eo54 with f1_ f2_ f3_; have f4_ := f1_.symm; have f5_ := f3_.symm; clear f1_ f2_ f3_; subst f4_; subst f5_)); refine hK.out _ _ (cq8_ BK190) (fun hHeld => ?_); clear hK K; refine nA ?_; refine oA 10 (some 55) 12 2047 fun K hK => ?_; refine gS Tryz.func49 #[.slice Ao54 y213.length co54] ?_; (with_reducible refine (print_join.calls _ _ y213 t216 _ ?side1 ?side2 A47.out).mono ?_)
     (case side1 => exact cr_ (Kd.R_reads' HO215.out).2.2)
     (case side2 => exact (Kd.R_reads' HO215.out).2.1)
     rintro e w55 ⟨rfl, hb⟩; refine ⟨_, rfl, ?_⟩; replace HO215 := A_ (Kd.R_below (hrR_ HO215.out) hb); replace BK190 := bb_ BK190 hb; replace HB := bs_ hb; (try clear hb); refine hK.out _ _ (cq8_ BK190) (fun hHeld => ?_); clear hK K; refine nA ?_; refine pA 11 2 12 4095 ?_; refine done_ (done_of HT_.out (by kernel_rfl)) ?_; (try go_wp2); go_ret; exact ⟨re_, hs_⟩
set_option maxHeartbeats 8000000 in
set_option maxRecDepth 100000 in
theorem print_Text.calls (k : Nat) (a0_0 a0_1 : Int) (a0_2 a0_3 a0_4 : ByteArray) (a0_5 a0_6 : Bool) (A0_7 : Option Addr) (c0_7 : Nat) (l0_7 : List (S27)) (r : ByteArray) (w : World) (hr0_7 : Kd.C k27 w A0_7 l0_7.length l0_7) (hc0_7 : l0_7.length ≤ c0_7) (h : print_Text.f k a0_0 a0_1 a0_2 a0_3 a0_4 a0_5 a0_6 l0_7 = some r) :
  Calls Tryz.prog 13 #[.agg #[.int .i64 a0_0, .int .i64 a0_1, .string a0_2, .string a0_3, .string a0_4, .bool a0_5, .bool a0_6, .slice A0_7 l0_7.length c0_7]] w fun e w' => e = .returned (.string r) ∧ Below w.heap.size w w' := by
 have hu27 := Tryz.underlying27; have HR0_7 := A_ hr0_7; have HC0_7 := A_ hc0_7; clear hr0_7 hc0_7; have HB := A_ (Below.refl w.heap.size w); have H : ((tree_Sane.f k a0_0 a0_1 a0_2 a0_3 a0_4 a0_5 a0_6 l0_7).bind fun t218 => (if t218 = true then ((print_text.f k a0_0 a0_1 a0_2 a0_3 a0_4 a0_5 a0_6 l0_7).bind fun t219 => (some t219)) else (some (⟨#[]⟩ : ByteArray)))) = some r := h; clear h; obtain ⟨t218, A2, H⟩ := bi_ H
 by_cases c3 : t218 = true
 ·subst c3
  replace H := iP_ H; obtain ⟨t219, A4, H⟩ := bi_ H; obtain rfl := Option.some.inj H; go_enter Tryz.func13, Tryz.ntmps13; go_wp2_with (first | (refine gx_ w 1 (n8_ a0_0 a0_1 a0_2 a0_3 a0_4 a0_5 a0_6 (.slice A0_7 l0_7.length c0_7)) 27 ?_; clear HB; intro gb217 w5 BK217 GE217 HB; have GW217 := GE217; have Z6 := bz8_ BK217) | (refine gC 12 ?_; refine gL 4 Tryz.func12 #[.agg (n8_ a0_0 a0_1 a0_2 a0_3 a0_4 a0_5 a0_6 (.slice A0_7 l0_7.length c0_7))] ?_; (with_reducible refine (tree_Sane.calls k a0_0 a0_1 a0_2 a0_3 a0_4 a0_5 a0_6 _ _ l0_7 true _ ?side1 ?side2 A2.out).mono ?_); (case side1 => exact cb_ HR0_7); (case side2 => exact HC0_7.out); rintro e w7 ⟨rfl, hb⟩; refine ⟨_, rfl, ?_⟩; replace BK217 := bb_ BK217 hb; replace HB := bs_ hb; (try clear hb); have Z8 := bz8_ BK217) | (refine gC 30 ?_; refine gL 7 Tryz.func30 #[.agg (n8_ a0_0 a0_1 a0_2 a0_3 a0_4 a0_5 a0_6 (.slice A0_7 l0_7.length c0_7))] ?_; (with_reducible refine (print_text.calls k a0_0 a0_1 a0_2 a0_3 a0_4 a0_5 a0_6 _ _ l0_7 t219 _ ?side1 ?side2 A4.out).mono ?_); (case side1 => exact cb_ HR0_7); (case side2 => exact HC0_7.out); rintro e w9 ⟨rfl, hb⟩; refine ⟨_, rfl, ?_⟩; replace BK217 := bb_ BK217 hb; replace HB := bs_ hb; (try clear hb)))
  go_ret; exact ⟨re_, hs_⟩
 ·replace c3 := Bool.eq_false_iff.mpr c3
  subst c3; replace H := iN_ H; obtain rfl := Option.some.inj H; go_enter Tryz.func13, Tryz.ntmps13; go_wp2_with (first | (refine gx_ w 1 (n8_ a0_0 a0_1 a0_2 a0_3 a0_4 a0_5 a0_6 (.slice A0_7 l0_7.length c0_7)) 27 ?_; clear HB; intro gb217 w10 BK217 GE217 HB; have GW217 := GE217; have Z11 := bz8_ BK217) | (refine gC 12 ?_; refine gL 4 Tryz.func12 #[.agg (n8_ a0_0 a0_1 a0_2 a0_3 a0_4 a0_5 a0_6 (.slice A0_7 l0_7.length c0_7))] ?_; (with_reducible refine (tree_Sane.calls k a0_0 a0_1 a0_2 a0_3 a0_4 a0_5 a0_6 _ _ l0_7 false _ ?side1 ?side2 A2.out).mono ?_); (case side1 => exact cb_ HR0_7); (case side2 => exact HC0_7.out); rintro e w12 ⟨rfl, hb⟩; refine ⟨_, rfl, ?_⟩; replace BK217 := bb_ BK217 hb; replace HB := bs_ hb; (try clear hb))); go_ret; exact ⟨re_, hs_⟩
set_option maxHeartbeats 8000000 in
set_option maxRecDepth 100000 in
theorem stringslite_HasSuffix.calls (a0 a1 : ByteArray) (r : Bool) (w : World) (h : stringslite_HasSuffix.f a0 a1 = some r) :
  Calls Tryz.prog 101 #[.string a0, .string a1] w fun e w' => e = .returned (.bool r) ∧ Drawn0 w w' := by
 have H : (if (a0.size : Int) ≥ (a1.size : Int) then (if 0 ≤ (wrap64 ((a0.size : Int) - (a1.size : Int))) then (if (wrap64 ((a0.size : Int) - (a1.size : Int))) ≤ (a0.size : Int) then (some ((a0.extract ((wrap64 ((a0.size : Int) - (a1.size : Int))) : Int).toNat a0.size).toList == a1.toList)) else (none)) else (none)) else (some false)) = some r := h; clear h
 by_cases c3 : (a0.size : Int) ≥ (a1.size : Int)
 ·rw [if_pos c3] at H
  have c3b0 := decide_eq_true c3; have c3b1 : decide (a1.size ≤ a0.size) = true := decide_eq_true (Int.ofNat_le.mp c3); clear c3; obtain ⟨ji4, hji4⟩ : ∃ j_ : Int, (wrap64 ((a0.size : Int) - (a1.size : Int))) = j_ := ⟨_, rfl⟩; (replace H : (if 0 ≤ (ji4) then (if (ji4) ≤ (a0.size : Int) then (some ((a0.extract ((ji4) : Int).toNat a0.size).toList == a1.toList)) else (none)) else (none)) = some r := by first | (rw [hji4] at H; exact H) | (simp only [hji4] at H ⊢; exact H)); have hji4w : (IntKind.i64.wrap ((a0.size : Int) - (a1.size : Int))) = ji4 := (i64_w _).trans hji4
  by_cases c5 : 0 ≤ (ji4)
  ·rw [if_pos c5] at H
   have c5b0 := eq_true c5; have c5b1 := decide_eq_true c5; clear c5
   by_cases c6 : (ji4) ≤ (a0.size : Int)
   ·rw [if_pos c6] at H
    have c6b0 := eq_true c6; have c6b1 := decide_eq_true c6; clear c6; obtain rfl := Option.some.inj H; go_enter Tryz.func101, Tryz.ntmps101; go_wp2; go_ret; exact ⟨by first | rfl | (simp; done) | (simp only [← hji4] <;> (first | rfl | simp)) | (simp [*]; done), by repeat (first | exact Drawn0.refl _ | apply Drawn0.step)⟩
   ·rw [if_neg c6] at H
    exact absurd H (by simp)
  ·rw [if_neg c5] at H
   exact absurd H (by simp)
 ·rw [if_neg c3] at H
  have c3b0 := decide_eq_false c3; have c3b1 : decide (a1.size ≤ a0.size) = false := decide_eq_false (fun h => c3 (Int.ofNat_le.mpr h)); clear c3; obtain rfl := Option.some.inj H; go_enter Tryz.func101, Tryz.ntmps101; go_wp2; go_ret; exact ⟨by first | rfl | (simp; done) | (simp [*]; done), by repeat (first | exact Drawn0.refl _ | apply Drawn0.step)⟩
set_option maxHeartbeats 8000000 in
set_option maxRecDepth 100000 in
theorem stringslite_CutSuffix.calls (a0 a1 r1 : ByteArray) (r2 : Bool) (w : World) (h : stringslite_CutSuffix.f a0 a1 = some (r1, r2)) :
  Calls Tryz.prog 97 #[.string a0, .string a1] w fun e w' => e = .returned (.tuple #[.string r1, .bool r2]) ∧ Drawn0 w w' := by
 have H : ((stringslite_HasSuffix.f a0 a1).bind fun t101 => (if t101 = true then (if 0 ≤ (wrap64 ((a0.size : Int) - (a1.size : Int))) then (if (wrap64 ((a0.size : Int) - (a1.size : Int))) ≤ (a0.size : Int) then (some (a0.extract 0 ((wrap64 ((a0.size : Int) - (a1.size : Int))) : Int).toNat, true)) else (none)) else (none)) else (some (a0, false)))) = some (r1, r2) := h; clear h; obtain ⟨t101, A3, H⟩ := bi_ H
 by_cases c4 : t101 = true
 ·subst c4
  (have H1 : (if 0 ≤ (wrap64 ((a0.size : Int) - (a1.size : Int))) then (if (wrap64 ((a0.size : Int) - (a1.size : Int))) ≤ (a0.size : Int) then (some (a0.extract 0 ((wrap64 ((a0.size : Int) - (a1.size : Int))) : Int).toNat, true)) else (none)) else (none)) = some (r1, r2) := by rw [if_pos rfl] at H; exact H); clear H; have H := H1; clear H1; obtain ⟨ji5, hji5⟩ : ∃ j_ : Int, (wrap64 ((a0.size : Int) - (a1.size : Int))) = j_ := ⟨_, rfl⟩; (replace H : (if 0 ≤ (ji5) then (if (ji5) ≤ (a0.size : Int) then (some (a0.extract 0 ((ji5) : Int).toNat, true)) else (none)) else (none)) = some (r1, r2) := by first | (rw [hji5] at H; exact H) | (simp only [hji5] at H ⊢; exact H)); (try rw [hji5] at A3); have hji5w : (IntKind.i64.wrap ((a0.size : Int) - (a1.size : Int))) = ji5 := (i64_w _).trans hji5
  by_cases c6 : 0 ≤ (ji5)
  ·rw [if_pos c6] at H
   have c6b0 := eq_true c6; have c6b1 := decide_eq_true c6; clear c6
   by_cases c7 : (ji5) ≤ (a0.size : Int)
   ·rw [if_pos c7] at H
    have c7b0 := eq_true c7; have c7b1 := decide_eq_true c7; clear c7; simp only [Option.some.injEq, Prod.mk.injEq] at H; obtain ⟨rfl, rfl⟩ := H; go_enter Tryz.func97, Tryz.ntmps97; go_wp2_with (first | ((with_reducible refine gC 101 ?_); refine goesL_ (some 8) rfl rfl Tryz.func101 (by kernel_rfl) rfl #[.string a0, .string a1] rfl ml_ ?_; (with_reducible refine (stringslite_HasSuffix.calls a0 a1 true _ A3.out).mono ?_); rintro e w' ⟨rfl, ⟨nd, rfl⟩⟩; refine ⟨_, rfl, ?_⟩)); go_ret2; exact ⟨by first | rfl | (simp; done) | (simp only [← hji5] <;> (first | rfl | simp)) | (simp [*]; done), by repeat (first | exact Drawn0.refl _ | apply Drawn0.step)⟩
   ·rw [if_neg c7] at H
    exact absurd H (by simp)
  ·rw [if_neg c6] at H
   exact absurd H (by simp)
 ·replace c4 := Bool.eq_false_iff.mpr c4
  subst c4; (have H1 : (some (a0, false)) = some (r1, r2) := by rw [if_neg (show ¬ (false = true) by decide)] at H; exact H); clear H; have H := H1; clear H1; simp only [Option.some.injEq, Prod.mk.injEq] at H; obtain ⟨rfl, rfl⟩ := H; go_enter Tryz.func97, Tryz.ntmps97; go_wp2_with (first | ((with_reducible refine gC 101 ?_); refine goesL_ (some 8) rfl rfl Tryz.func101 (by kernel_rfl) rfl #[.string a0, .string a1] rfl ml_ ?_; (with_reducible refine (stringslite_HasSuffix.calls a0 a1 false _ A3.out).mono ?_); rintro e w' ⟨rfl, ⟨nd, rfl⟩⟩; refine ⟨_, rfl, ?_⟩)); go_ret2; exact ⟨by first | rfl | (simp; done) | (simp [*]; done), by repeat (first | exact Drawn0.refl _ | apply Drawn0.step)⟩
set_option maxHeartbeats 8000000 in
set_option maxRecDepth 100000 in
theorem strings_CutSuffix.calls (a0 a1 r1 : ByteArray) (r2 : Bool) (w : World) (h : strings_CutSuffix.f a0 a1 = some (r1, r2)) :
  Calls Tryz.prog 92 #[.string a0, .string a1] w fun e w' => e = .returned (.tuple #[.string r1, .bool r2]) ∧ Drawn0 w w' := by
 have H : ((stringslite_CutSuffix.f a0 a1).bind fun bt102 => (some (bt102.1, bt102.2))) = some (r1, r2) := h; clear h; obtain ⟨⟨t102, t103⟩, A3, H⟩ := bi_ H; simp only [Option.some.injEq, Prod.mk.injEq] at H; obtain ⟨rfl, rfl⟩ := H; go_enter Tryz.func92, Tryz.ntmps92; go_wp2_with (first | ((with_reducible refine gC 97 ?_); refine goesL_ (some 8) rfl rfl Tryz.func97 (by kernel_rfl) rfl #[.string a0, .string a1] rfl ml_ ?_; (with_reducible refine (stringslite_CutSuffix.calls a0 a1 t102 t103 _ A3.out).mono ?_); rintro e w' ⟨rfl, ⟨nd, rfl⟩⟩; refine ⟨_, rfl, ?_⟩)); go_ret2; exact ⟨by first | rfl | (simp; done) | (simp [*]; done), by repeat (first | exact Drawn0.refl _ | apply Drawn0.step)⟩
set_option maxHeartbeats 8000000 in
set_option maxRecDepth 100000 in
theorem stringslite_Cut.calls (a0 a1 r1 r2 : ByteArray) (r3 : Bool) (w : World) (h : stringslite_Cut.f a0 a1 = some (r1, r2, r3)) :
  Calls Tryz.prog 98 #[.string a0, .string a1] w fun e w' => e = .returned (.tuple #[.string r1, .string r2, .bool r3]) ∧ Drawn0 w w' := by
 have H : ((stringslite_Index.f a0 a1).bind fun t104 => (if t104 ≥ 0 then (if 0 ≤ t104 then (if t104 ≤ (a0.size : Int) then (if 0 ≤ (wrap64 (t104 + (a1.size : Int))) then (if (wrap64 (t104 + (a1.size : Int))) ≤ (a0.size : Int) then (some (a0.extract 0 (t104 : Int).toNat, a0.extract ((wrap64 (t104 + (a1.size : Int))) : Int).toNat a0.size, true)) else (none)) else (none)) else (none)) else (none)) else (some (a0, (⟨#[]⟩ : ByteArray), false)))) = some (r1, r2, r3) := h; clear h; obtain ⟨t104, A3, H⟩ := bi_ H
 by_cases c4 : t104 ≥ 0
 ·rw [if_pos c4] at H
  have c4b0 := decide_eq_true c4; clear c4
  by_cases c5 : 0 ≤ t104
  ·rw [if_pos c5] at H
   have c5b0 := eq_true c5; have c5b1 := decide_eq_true c5; clear c5
   by_cases c6 : t104 ≤ (a0.size : Int)
   ·rw [if_pos c6] at H
    have c6b0 := eq_true c6; have c6b1 := decide_eq_true c6; clear c6; obtain ⟨ji7, hji7⟩ : ∃ j_ : Int, (wrap64 (t104 + (a1.size : Int))) = j_ := ⟨_, rfl⟩; (replace H : (if 0 ≤ (ji7) then (if (ji7) ≤ (a0.size : Int) then (some (a0.extract 0 (t104 : Int).toNat, a0.extract ((ji7) : Int).toNat a0.size, true)) else (none)) else (none)) = some (r1, r2, r3) := by first | (rw [hji7] at H; exact H) | (simp only [hji7] at H ⊢; exact H)); (try rw [hji7] at A3); have hji7w : (IntKind.i64.wrap (t104 + (a1.size : Int))) = ji7 := (i64_w _).trans hji7
    by_cases c8 : 0 ≤ (ji7)
    ·rw [if_pos c8] at H
     have c8b0 := eq_true c8; have c8b1 := decide_eq_true c8; clear c8
     by_cases c9 : (ji7) ≤ (a0.size : Int)
     ·rw [if_pos c9] at H
      have c9b0 := eq_true c9; have c9b1 := decide_eq_true c9; clear c9; simp only [Option.some.injEq, Prod.mk.injEq] at H; obtain ⟨rfl, rfl, rfl⟩ := H; go_enter Tryz.func98, Tryz.ntmps98; go_wp2_with (first | (go_at_call 102; (with_reducible refine (stringslite_Index.calls a0 a1 t104 _ A3.out).mono ?_); rintro e w' ⟨rfl, ⟨nd, rfl⟩⟩; (try first | exact ⟨rfl, _, World.drewN_drewN _ _ _⟩ | exact ⟨rfl, _, Eq.trans (World.drewN_drewN _ _ _) (congrArg (World.drewN _) (Nat.add_assoc _ _ _))⟩)))
      repeat (go_quiet (first | (go_at_call 102; (with_reducible refine (stringslite_Index.calls a0 a1 t104 _ A3.out).mono ?_); rintro e w' ⟨rfl, ⟨nd, rfl⟩⟩; (try first | exact ⟨rfl, _, World.drewN_drewN _ _ _⟩ | exact ⟨rfl, _, Eq.trans (World.drewN_drewN _ _ _) (congrArg (World.drewN _) (Nat.add_assoc _ _ _))⟩))); try go_wp2_with (first | (go_at_call 102; (with_reducible refine (stringslite_Index.calls a0 a1 t104 _ A3.out).mono ?_); rintro e w' ⟨rfl, ⟨nd, rfl⟩⟩; (try first | exact ⟨rfl, _, World.drewN_drewN _ _ _⟩ | exact ⟨rfl, _, Eq.trans (World.drewN_drewN _ _ _) (congrArg (World.drewN _) (Nat.add_assoc _ _ _))⟩))))
      go_ret3; exact ⟨by first | rfl | (simp; done) | (simp only [← hji7] <;> (first | rfl | simp)) | (simp [*]; done), by repeat (first | exact Drawn0.refl _ | apply Drawn0.step)⟩
     ·rw [if_neg c9] at H
      exact absurd H (by simp)
    ·rw [if_neg c8] at H
     exact absurd H (by simp)
   ·rw [if_neg c6] at H
    exact absurd H (by simp)
  ·rw [if_neg c5] at H
   exact absurd H (by simp)
 ·rw [if_neg c4] at H
  have c4b0 := decide_eq_false c4; clear c4; simp only [Option.some.injEq, Prod.mk.injEq] at H; obtain ⟨rfl, rfl, rfl⟩ := H; go_enter Tryz.func98, Tryz.ntmps98; go_wp2_with (first | (go_at_call 102; (with_reducible refine (stringslite_Index.calls a0 a1 t104 _ A3.out).mono ?_); rintro e w' ⟨rfl, ⟨nd, rfl⟩⟩; (try first | exact ⟨rfl, _, World.drewN_drewN _ _ _⟩ | exact ⟨rfl, _, Eq.trans (World.drewN_drewN _ _ _) (congrArg (World.drewN _) (Nat.add_assoc _ _ _))⟩)))
  repeat (go_quiet (first | (go_at_call 102; (with_reducible refine (stringslite_Index.calls a0 a1 t104 _ A3.out).mono ?_); rintro e w' ⟨rfl, ⟨nd, rfl⟩⟩; (try first | exact ⟨rfl, _, World.drewN_drewN _ _ _⟩ | exact ⟨rfl, _, Eq.trans (World.drewN_drewN _ _ _) (congrArg (World.drewN _) (Nat.add_assoc _ _ _))⟩))); try go_wp2_with (first | (go_at_call 102; (with_reducible refine (stringslite_Index.calls a0 a1 t104 _ A3.out).mono ?_); rintro e w' ⟨rfl, ⟨nd, rfl⟩⟩; (try first | exact ⟨rfl, _, World.drewN_drewN _ _ _⟩ | exact ⟨rfl, _, Eq.trans (World.drewN_drewN _ _ _) (congrArg (World.drewN _) (Nat.add_assoc _ _ _))⟩))))
  go_ret3; exact ⟨by first | rfl | (simp; done) | (simp [*]; done), by repeat (first | exact Drawn0.refl _ | apply Drawn0.step)⟩
set_option maxHeartbeats 8000000 in
set_option maxRecDepth 100000 in
theorem strings_Cut.calls (a0 a1 r1 r2 : ByteArray) (r3 : Bool) (w : World) (h : strings_Cut.f a0 a1 = some (r1, r2, r3)) :
  Calls Tryz.prog 93 #[.string a0, .string a1] w fun e w' => e = .returned (.tuple #[.string r1, .string r2, .bool r3]) ∧ Drawn0 w w' := by
 have H : ((stringslite_Cut.f a0 a1).bind fun bt105 => (some (bt105.1, bt105.2.1, bt105.2.2))) = some (r1, r2, r3) := h; clear h; obtain ⟨⟨t105, t106, t107⟩, A3, H⟩ := bi_ H; simp only [Option.some.injEq, Prod.mk.injEq] at H; obtain ⟨rfl, rfl, rfl⟩ := H; go_enter Tryz.func93, Tryz.ntmps93; go_wp2_with (first | ((with_reducible refine gC 98 ?_); refine goesL_ (some 9) rfl rfl Tryz.func98 (by kernel_rfl) rfl #[.string a0, .string a1] rfl ml_ ?_; (with_reducible refine (stringslite_Cut.calls a0 a1 t105 t106 t107 _ A3.out).mono ?_); rintro e w' ⟨rfl, ⟨nd, rfl⟩⟩; refine ⟨_, rfl, ?_⟩)); go_ret3; exact ⟨by first | rfl | (simp; done) | (simp [*]; done), by repeat (first | exact Drawn0.refl _ | apply Drawn0.step)⟩
end Go.Proofs.YtjgjhekpiijniaaGreat.A