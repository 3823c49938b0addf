/- Walks of functions, and plain facts about what they compute. No conditions. -/
import Derived.Test.YtfehdlkklfcnpaaPx2
import Derived.Maps.OwnSet
set_option linter.unusedVariables false
set_option linter.unusedSimpArgs false
namespace Go.Proofs.Ytfehdlkklfcnpaa.A
open Go.RowKit Go.Proofs.YtfehdlkklfcnpaaW.PrintWords Go.Proofs.YtfehdlkklfcnpaaW.PrintLast Go.Proofs.YtfehdlkklfcnpaaW.PrintMore
attribute [local go_sem] max2_int min2_int max_two min_two max_three min_three max_four min_four
set_option maxHeartbeats 8000000 in
set_option maxRecDepth 100000 in
theorem strings_HasPrefix.calls (a0 : ByteArray) (a1 : ByteArray) (r : Bool) (w : World) (h : strings_HasPrefix.f a0 a1 = some r) :
  Calls Try.prog 63 #[.string a0, .string a1] w fun e w' => e = .returned (.bool r) ∧ Drawn0 w w' := by
 have H : ((stringslite_HasPrefix.f a0 a1).bind fun t268 => (some t268)) = some r := h; clear h; replace H := Option.bind_eq_some_iff.mp H; obtain ⟨t268, A30, H⟩ := H; replace H : (some t268) = some r := H; have A3 := Aside0.mk A30; clear A30; obtain rfl := Option.some.inj H; go_enter Try.func63, Try.ntmps63; go_wp2_with (first | ((with_reducible refine gate_callee (f := 78) rfl ?_); refine goesL_ (some 7) rfl rfl Try.func78 (by kernel_rfl) rfl #[.string a0, .string a1] rfl ml_ ?_; (with_reducible refine (stringslite_HasPrefix.calls a0 a1 t268 _ A3.out).mono ?_); rintro e w' ⟨rfl, ⟨nd, rfl⟩⟩; refine ⟨_, rfl, ?_⟩)); go_ret; exact ⟨by first | rfl | (simp; done) | (simp [*]; done), by repeat (first | exact Drawn0.refl _ | apply Drawn0.step)⟩
end Go.Proofs.Ytfehdlkklfcnpaa.A
namespace Go.Proofs.Ytfehdlkklfcnpaa.A
open Go.RowKit Go.Maps Go.WideShapes Go.Proofs.YtfehdlkklfcnpaaW.PrintWords Go.Proofs.YtfehdlkklfcnpaaW.PrintLast Go.Proofs.YtfehdlkklfcnpaaW.PrintMore
theorem wpList_insert_own {H : Type} {P : Program} (w : World) {ops : Array Oper} {rest : List Oper} {o : Oper} {a : Act} {Q : Exit → Act → World → Prop}
    (hg : o.guard = none) (m x v : Operand) (t : TypeId) (hop : o.op = Op.insert t m x v)
    (k e : TypeId) (K : Keyed P k) (ht : P.underlying t = some (.map k e)) (R : Value → Option (DataW H × List MemPlace)) (b n : Nat) (D : DataW H)
    (hm : a.eval m = .map (some b)) (hown : w.ownsMap P k R b n D) (hn : n < maxLen) (key val : Value) (kl : Lit) (hx : a.eval x = key) (hv : a.eval v = val) (hkey : keyOf P k key = some kl)
    (d : DataW H) (ps : List MemPlace) (hval : R val = some (d, ps))
    (hK : ∀ w', w'.ownsMap P k R b (n + 1) (D.put kl d) → w.grownBy w' (some b) → wpList P ops Q rest (a.put o.dst undef) w') :
    wpList P ops Q (o :: rest) a w := by
  refine wpList_plain hg fun K' hK' => ?_
  obtain ⟨w', hrun, r1, r2⟩ := hown.update K ht hn hkey hval
  unfold Oper.wp
  simp [execOp, hop, hm, hx, hv, hrun, Result.andThen]
  exact hK' _ _ (hK w' r1 r2)
def ent (k v : Int) : Lit × DataW Unit := (.int .u8 k, .lit (.int .i64 v))
def D7 : DataW Unit := (((((((DataW.map []).put (.int .u8 47) (.lit (.int .i64 1))).put (.int .u8 42) (.lit (.int .i64 3))).put (.int .u8 91) (.lit (.int .i64 4))).put (.int .u8 93) (.lit (.int .i64 5))).put (.int .u8 44) (.lit (.int .i64 6))).put (.int .u8 63) (.lit (.int .i64 7))).put (.int .u8 126) (.lit (.int .i64 8))
theorem D7_eq : D7 = .map [ent 42 3, ent 44 6, ent 47 1, ent 63 7, ent 91 4, ent 93 5, ent 126 8] := by kernel_rfl
def IsSigns (w : World) (g : Nat) : Prop := w.ownsMap Try.prog 5 (plainElem Try.prog 3) g 7 D7
set_option maxRecDepth 100000 in
theorem lex_signs.made (w : World) : Calls Try.prog 61 #[] w fun e w' => ∃ g, e = .returned (.map (some g)) ∧ IsSigns w' g ∧ Below w.heap.size w w' := by
  have HM := Aside0.mk (World.ownsMap_made (H := Unit) w Try.prog 5 (plainElem Try.prog 3))
  have HB := Aside0.mk ((Below.refl w.heap.size w).alloc (Nat.le_refl _) (.map #[] 0))
  have hmm := @run_makeMap Try.prog
  go_enter Try.func61, Try.ntmps61
  go_wp2_with (first | (refine wpList_insert_own _ rfl _ _ _ 55 rfl 5 3 (int_keyed Try.underlying5) Try.underlying55 (plainElem Try.prog 3) _ _ _ rfl HM.out (by unfold maxLen; omega) _ _ _ rfl rfl (keyOf_int_mk Try.underlying5 (by decide)) _ [] (plainElem_int Try.underlying3 (by decide)) ?_; intro w1 ho hg; have n0_ := Aside0.mk ho; have n1_ := Aside0.mk (HB.out.grown hg (HB.out.size) (fun k hk => by injection hk with hk; omega)); clear HM HB ho hg; have HM := n0_; have HB := n1_; clear n0_ n1_))
  go_ret
  exact ⟨_, rfl, HM.out, HB.out⟩
theorem sig_below {w w1 : World} {g : Nat} (h : IsSigns w g) (hb : Below w.heap.size w w1) : IsSigns w1 g := by
  obtain ⟨es, clock, h1, h2⟩ := h
  have hlt : g < w.heap.size := by
    rcases Nat.lt_or_ge g w.heap.size with h | h
    · exact h
    · rw [Array.getElem?_eq_none h] at h1; cases h1
  exact ⟨es, clock, (hb.block g hlt).trans h1, h2⟩
theorem sign_at (c : Int) : D7.atKey (.int .u8 c) (.lit (.int .i64 0)) = .lit (.int .i64 (signK c)) ∧ has D7 (.int .u8 c) = signB c := by
  have hk : ∀ n : Int, (Lit.int .u8 n).sameKey (.int .u8 c) = decide (n = c) := fun n => by simp [Lit.sameKey]
  rw [D7_eq]
  unfold signK signB
  by_cases h1 : c = 47
  · subst h1; constructor <;> rfl
  by_cases h2 : c = 42
  · subst h2; constructor <;> rfl
  by_cases h3 : c = 91
  · subst h3; constructor <;> rfl
  by_cases h4 : c = 93
  · subst h4; constructor <;> rfl
  by_cases h5 : c = 44
  · subst h5; constructor <;> rfl
  by_cases h6 : c = 63
  · subst h6; constructor <;> rfl
  by_cases h7 : c = 126
  · subst h7; constructor <;> rfl
  have e : ∀ n : Int, n ≠ c → decide (n = c) = false := fun n h => decide_eq_false h
  constructor
  · simp [DataW.atKey, ent, hk, Ne.symm h1, Ne.symm h2, Ne.symm h3, Ne.symm h4, Ne.symm h5, Ne.symm h6, Ne.symm h7, h1, h2, h3, h4, h5, h6, h7]
  · simp [has, ent, hk, Ne.symm h1, Ne.symm h2, Ne.symm h3, Ne.symm h4, Ne.symm h5, Ne.symm h6, Ne.symm h7, h1, h2, h3, h4, h5, h6, h7]
theorem wf_u8 {c : Int} (h : 0 ≤ c ∧ c ≤ 255) : (Lit.int .u8 c).wf = true := by
  have e1 : IntKind.min .u8 = 0 := by kernel_rfl
  have e2 : IntKind.max .u8 = 255 := by kernel_rfl
  simp only [Lit.wf, e1, e2, Bool.and_eq_true, decide_eq_true_eq]
  omega
theorem look_sign (w : World) {ops : Array Oper} {rest : List Oper} {o : Oper} {a : Act} {Q : Exit → Act → World → Prop} (hg : o.guard = none) (m x : Operand) (hop : o.op = Op.lookup 55 m x true) (g : Nat) (hm : a.eval m = .map (some g)) (hs : IsSigns w g) (c k : Int) (b : Bool) (hx : a.eval x = .int .u8 c) (h0 : 0 ≤ c ∧ c ≤ 255) (hf : lex_signs.f c = some (k, b))
    (hK : wpList Try.prog ops Q rest (a.put o.dst (.tuple #[.int .i64 k, .bool b])) w) : wpList Try.prog ops Q (o :: rest) a w := by
  refine wpList_lookup_own_ok_int w hg m x 55 hop 5 3 .i64 (int_keyed Try.underlying5) Try.underlying55 Try.underlying3 (Try.zeroValue3 w) g 7 D7 hm hs (.int .u8 c) (.int .u8 c) hx (keyOf_int_mk Try.underlying5 (wf_u8 h0)) ?_
  intro c' hat _
  obtain ⟨h1, h2⟩ := sign_at c
  rw [h1] at hat
  rw [h2]
  injection hat with hat
  injection hat with _ hat
  injection hf with hf
  injection hf with hf1 hf2
  rw [← hat, hf1, hf2]
  exact hK
end Go.Proofs.Ytfehdlkklfcnpaa.A
namespace Go.Proofs.Ytfehdlkklfcnpaa.A
open Go.RowKit Go.Proofs.YtfehdlkklfcnpaaW.PrintWords Go.Proofs.YtfehdlkklfcnpaaW.PrintLast Go.Proofs.YtfehdlkklfcnpaaW.PrintMore
attribute [local go_sem] max2_int min2_int max_two min_two max_three min_three max_four min_four
set_option maxHeartbeats 8000000 in
set_option maxRecDepth 100000 in
theorem lex_All.callsK (k : Nat) (a0 : ByteArray) (r1 : List (S42)) (r2 : Int) (r3 : Int) (w0_ : World) (K : Ending → World → Prop) (hK : ∀ w1 : World, Below w0_.heap.size w0_ w1 → ∀ e w', (∃ v0_ : Value, e = .returned (.tuple #[v0_, .int .i64 r2, .int .i64 r3]) ∧ Kd.R k42 42 w' w1.heap.size (fun _ => True) v0_ r1 ∧ Below w1.heap.size w1 w') → K e w') (h : lex_All.f k a0 = some (r1, r2, r3)) :
  Calls Try.prog 36 #[.string a0] w0_ K := by
 have hu42 := Try.underlying42; have HKK := Aside0.mk hK; clear hK; have HB := Aside0.mk (Below.refl w0_.heap.size w0_); have H : (if (a0.size : Int) > 2000 then (some (([] : List (S42)), 2000, 7)) else (lex_All.l0 k a0 ([] : List (S42)) 0)) = some (r1, r2, r3) := h; clear h
 by_cases c2 : (a0.size : Int) > 2000
 ·rw [if_pos c2] at H
  have c2b0 : decide (2000 < (a0.size : Int)) = true := decide_eq_true c2; have c2b1 : decide (2000 < a0.size) = true := decide_eq_true (by omega); clear c2; simp only [Option.some.injEq, Prod.mk.injEq] at H; obtain ⟨rfl, rfl, rfl⟩ := H; go_enter Try.func36, Try.ntmps36; go_wp2; go_ret3; exact HKK.out w0_ (Below.refl _ _) _ _ ⟨_, by first | rfl | (simp [errW_none, errW_some] <;> rfl) | (simp [*, errW_none, errW_some] <;> rfl), by first | exact Kd.R_nil _ _ _ _ _ | exact Kd.N_nil _ _ _ _ _ | exact Kd.V_nil _ _ _ _ _ | exact Kd.Q_nil _ _ _ _ _ | exact Kd.S_nil _ _ _ _ _, hb_⟩
 ·rw [if_neg c2] at H
  have c2b0 : decide (2000 < (a0.size : Int)) = false := decide_eq_false c2; have c2b1 : decide (2000 < a0.size) = false := decide_eq_false (by omega); clear c2; have H' := Aside0.mk H; clear H; go_enter Try.func36, Try.ntmps36; go_wp2_with (first | (go_at_call 61; refine (lex_signs.made _).mono ?_; rintro e w ⟨gm, rfl, hm_, hb⟩; have HMS := Aside0.mk hm_; have HB3 := Aside0.mk hb; clear hm_ hb HB; have HB := Aside0.mk (Below.refl w.heap.size w))); go_loopg [6, 7] k (fun kq v6 v7 w' => ∃ (x6_1 : List (S42)) (x7_1 : Int), v7 = .int .i64 x7_1 ∧ Aside0 (lex_All.l0 kq a0 x6_1 x7_1 = some (r1, r2, r3)) ∧ Aside0 (kq ≤ k) ∧ Aside0 (Kd.R k42 42 w' w.heap.size (fun _ => True) v6 x6_1) ∧ Aside0 (Below w.heap.size w w'))
  case atStart => exact ⟨(([] : List (S42))), (0), rf_, H', ⟨Nat.le_refl _⟩, ⟨by first | exact Kd.R_nil _ _ _ _ _ | exact Kd.N_nil _ _ _ _ _ | exact Kd.V_nil _ _ _ _ _ | exact Kd.Q_nil _ _ _ _ _ | exact Kd.S_nil _ _ _ _ _⟩, ⟨hb_⟩⟩
  case round =>
   clear H'; (try clear c2); (try clear c2b0); (try clear c2b1); (try clear p2); obtain ⟨x6_1, x7_1, rfl, HA, HK1, HO_6, HB⟩ := hrel
   cases gk with
   | zero => exact absurd HA.out (by simp [lex_All.l0])
   | succ k1 =>
    have H := HA.out; clear HA; simp only [lex_All.l0] at H
    by_cases c3 : x7_1 < (a0.size : Int)
    ·rw [if_pos c3] at H
     have c3b0 : decide (x7_1 < (a0.size : Int)) = true := decide_eq_true c3; clear c3
     by_cases c4 : 0 ≤ x7_1
     ·rw [if_pos c4] at H
      have c4b0 : decide (0 ≤ x7_1) = true := decide_eq_true c4; clear c4; replace H := Option.bind_eq_some_iff.mp H; obtain ⟨⟨t272, t273⟩, A60, H⟩ := H; replace H : (if x7_1 ≤ (a0.size : Int) then ((lex_word.f k1 (a0.extract (x7_1 : Int).toNat a0.size)).bind fun t274 => (if t274 > 0 then (if x7_1 ≤ (wrap64 (x7_1 + t274)) then (if (wrap64 (x7_1 + t274)) ≤ (a0.size : Int) then (if x6_1.length < 4398046511104 then (lex_All.l0 k1 a0 (x6_1 ++ [(⟨0, x7_1, a0.extract (x7_1 : Int).toNat ((wrap64 (x7_1 + t274)) : Int).toNat⟩ : S42)]) (wrap64 (x7_1 + t274))) else (none)) else (none)) else (none)) else (if t273 = true then (if x6_1.length < 4398046511104 then (lex_All.l0 k1 a0 (x6_1 ++ [(⟨t272, x7_1, (⟨#[]⟩ : ByteArray)⟩ : S42)]) (wrap64 (x7_1 + 1))) else (none)) else ((strings_HasPrefix.f (a0.extract (x7_1 : Int).toNat a0.size) (⟨#[46, 46]⟩ : ByteArray)).bind fun t281 => (if t281 = true then (if x6_1.length < 4398046511104 then (lex_All.l0 k1 a0 (x6_1 ++ [(⟨2, x7_1, (⟨#[]⟩ : ByteArray)⟩ : S42)]) (wrap64 (x7_1 + 2))) else (none)) else (if (bt a0 x7_1) = 32 then (lex_All.l0 k1 a0 x6_1 (wrap64 (x7_1 + 1))) else (some (([] : List (S42)), x7_1, 1)))))))) else (none)) = some (r1, r2, r3) := H; have A6 := Aside0.mk A60; clear A60; have c7b0 := eq_true (od_ : 0 ≤ x7_1)
      by_cases c8 : x7_1 ≤ (a0.size : Int)
      ·rw [if_pos c8] at H
       have c8b0 := eq_true c8; have c8b1 : decide (x7_1 ≤ (a0.size : Int)) = true := decide_eq_true c8; clear c8; replace H := Option.bind_eq_some_iff.mp H; obtain ⟨t274, A90, H⟩ := H; replace H : (if t274 > 0 then (if x7_1 ≤ (wrap64 (x7_1 + t274)) then (if (wrap64 (x7_1 + t274)) ≤ (a0.size : Int) then (if x6_1.length < 4398046511104 then (lex_All.l0 k1 a0 (x6_1 ++ [(⟨0, x7_1, a0.extract (x7_1 : Int).toNat ((wrap64 (x7_1 + t274)) : Int).toNat⟩ : S42)]) (wrap64 (x7_1 + t274))) else (none)) else (none)) else (none)) else (if t273 = true then (if x6_1.length < 4398046511104 then (lex_All.l0 k1 a0 (x6_1 ++ [(⟨t272, x7_1, (⟨#[]⟩ : ByteArray)⟩ : S42)]) (wrap64 (x7_1 + 1))) else (none)) else ((strings_HasPrefix.f (a0.extract (x7_1 : Int).toNat a0.size) (⟨#[46, 46]⟩ : ByteArray)).bind fun t281 => (if t281 = true then (if x6_1.length < 4398046511104 then (lex_All.l0 k1 a0 (x6_1 ++ [(⟨2, x7_1, (⟨#[]⟩ : ByteArray)⟩ : S42)]) (wrap64 (x7_1 + 2))) else (none)) else (if (bt a0 x7_1) = 32 then (lex_All.l0 k1 a0 x6_1 (wrap64 (x7_1 + 1))) else (some (([] : List (S42)), x7_1, 1))))))) = some (r1, r2, r3) := H; have A9 := Aside0.mk A90; clear A90
       by_cases c10 : t274 > 0
       ·rw [if_pos c10] at H
        have c10b0 : decide (0 < t274) = true := decide_eq_true c10; clear c10; have c11b0 := eq_true (od_ : 0 ≤ x7_1)
        by_cases c12 : x7_1 ≤ (wrap64 (x7_1 + t274))
        ·rw [if_pos c12] at H
         have c12b0 := eq_true c12; have c12b1 : decide (x7_1 ≤ (wrap64 (x7_1 + t274))) = true := decide_eq_true c12
         by_cases c13 : (wrap64 (x7_1 + t274)) ≤ (a0.size : Int)
         ·rw [if_pos c13] at H
          have c13b0 := eq_true c13; have c13b1 : decide ((wrap64 (x7_1 + t274)) ≤ (a0.size : Int)) = true := decide_eq_true c13
          by_cases c14 : x6_1.length < 4398046511104
          ·rw [if_pos c14] at H
           have LMc14 := Aside0.mk c14; clear c14; obtain ⟨y275, hy275⟩ : ∃ y_ : List (S42), y_ = (x6_1 ++ [(⟨0, x7_1, a0.extract (x7_1 : Int).toNat ((wrap64 (x7_1 + t274)) : Int).toNat⟩ : S42)]) := ⟨_, rfl⟩; (replace H : (lex_All.l0 k1 a0 y275 (wrap64 (x7_1 + t274))) = some (r1, r2, r3) := by first | (rw [hy275]; with_reducible exact H) | (have H2_ := (Option.bind_some _ _).symm.trans H; rw [hy275]; with_reducible exact H2_) | (have H2_ := (Option.bind_some _ _).symm.trans H; with_reducible exact H2_) | with_reducible exact H | (rw [hy275]; exact H) | exact H); have Ny275 := Aside0.mk hy275; clear hy275; have H' := Aside0.mk H; clear H; have p5 : 0 ≤ (x7_1 : Int) := od_; have q5 : x7_1 < (a0.size : Int) := od_; have hx5 := bt_at a0 x7_1; replace p5 := eq_true p5; replace q5 := eq_true q5; go_wp2_with (first | (refine look_sign _ rfl _ _ rfl gm rfl (sig_below HMS.out hb_) (bt a0 x7_1) t272 t273 rfl (bt_range _ _) A6.out ?_) | ((with_reducible refine gate_callee (f := 62) rfl ?_); refine goesL_ (some 30) rfl rfl Try.func62 (by kernel_rfl) rfl #[.string (a0.extract (x7_1 : Int).toNat a0.size)] rfl ml_ ?_; (with_reducible refine (lex_word.calls k1 (a0.extract (x7_1 : Int).toNat a0.size) t274 _ A9.out).mono ?_); rintro e w' ⟨rfl, ⟨nd, rfl⟩⟩; refine ⟨_, rfl, ?_⟩) | ((with_reducible refine gate_builtin (b := .append) (xs := #[.tmp 35, .tmp 44]) rfl ?_); at_builtin; refine Kd.R_append k42 (w0 := w) w.heap.size rfl (.tmp 35) (.tmp 44) 37 42 (.agg #[(.int .i64 0), (.int .i64 0), (.string ⟨#[]⟩)]) 32 rfl Try.underlying37 info42 rfl (by decide) (by omega) u6 x6_1 (⟨0, x7_1, a0.extract (x7_1 : Int).toNat ((wrap64 (x7_1 + t274)) : Int).toNat⟩ : S42) [.int .i64 0, .int .i64 x7_1, .string (a0.extract (x7_1 : Int).toNat ((wrap64 (x7_1 + t274)) : Int).toNat)] (fun _ => True) (fun _ => False) rfl rfl ?aP (fun _ hk => hk.elim) ?aF ?aO ?aB ?aS ?aL ?_; (case aP => exact k42_mkM _ _ _ (⟨0, x7_1, a0.extract (x7_1 : Int).toNat ((wrap64 (x7_1 + t274)) : Int).toNat⟩ : S42)); (case aB => exact hb_); (case aF => exact (fun _ _ => trivial)); (case aO => exact (by (with_reducible repeat (first | apply Kd.R_alloc | apply Kd.R_drewN | apply Kd.R_drew)); exact HO_6.out)); (case aS => exact (below_size hb_)); (case aL => have := LMc14.out; omega); intro v276 w15 ho hb hg hat; rw [← Ny275.out] at ho; have n0_ := Aside0.mk (hb); have n1_ := Aside0.mk (ho); clear HB; clear HO_6; have HB := n0_; have HO277 := n1_; clear n0_ n1_; clear ho hb hg hat)); go_roundg k1
           case measure => have := HK1.out; omega
           case rel => exact ⟨(y275), (wrap64 (x7_1 + t274)), rf_, H', ⟨by have := HK1.out; omega⟩, ⟨by (with_reducible repeat (first | apply Kd.R_alloc | apply Kd.R_drewN | apply Kd.R_drew)); exact HO277.out⟩, ⟨hb_⟩⟩
          ·rw [if_neg c14] at H
           exact absurd H (by simp)
         ·rw [if_neg c13] at H
          exact absurd H (by simp)
        ·rw [if_neg c12] at H
         exact absurd H (by simp)
       ·rw [if_neg c10] at H
        have c10b0 : decide (0 < t274) = false := decide_eq_false c10; clear c10
        by_cases c16 : t273 = true
        ·subst c16
         (have H1 : (if x6_1.length < 4398046511104 then (lex_All.l0 k1 a0 (x6_1 ++ [(⟨t272, x7_1, (⟨#[]⟩ : ByteArray)⟩ : S42)]) (wrap64 (x7_1 + 1))) else (none)) = some (r1, r2, r3) := by rw [if_pos rfl] at H; exact H); clear H; have H := H1; clear H1
         by_cases c17 : x6_1.length < 4398046511104
         ·rw [if_pos c17] at H
          have LMc17 := Aside0.mk c17; clear c17; obtain ⟨y278, hy278⟩ : ∃ y_ : List (S42), y_ = (x6_1 ++ [(⟨t272, x7_1, (⟨#[]⟩ : ByteArray)⟩ : S42)]) := ⟨_, rfl⟩; (replace H : (lex_All.l0 k1 a0 y278 (wrap64 (x7_1 + 1))) = some (r1, r2, r3) := by first | (rw [hy278]; with_reducible exact H) | (have H2_ := (Option.bind_some _ _).symm.trans H; rw [hy278]; with_reducible exact H2_) | (have H2_ := (Option.bind_some _ _).symm.trans H; with_reducible exact H2_) | with_reducible exact H | (rw [hy278]; exact H) | exact H); have Ny278 := Aside0.mk hy278; clear hy278; have H' := Aside0.mk H; clear H; have p5 : 0 ≤ (x7_1 : Int) := od_; have q5 : x7_1 < (a0.size : Int) := od_; have hx5 := bt_at a0 x7_1; replace p5 := eq_true p5; replace q5 := eq_true q5; go_wp2_with (first | (refine look_sign _ rfl _ _ rfl gm rfl (sig_below HMS.out hb_) (bt a0 x7_1) t272 true rfl (bt_range _ _) A6.out ?_) | ((with_reducible refine gate_callee (f := 62) rfl ?_); refine goesL_ (some 30) rfl rfl Try.func62 (by kernel_rfl) rfl #[.string (a0.extract (x7_1 : Int).toNat a0.size)] rfl ml_ ?_; (with_reducible refine (lex_word.calls k1 (a0.extract (x7_1 : Int).toNat a0.size) t274 _ A9.out).mono ?_); rintro e w' ⟨rfl, ⟨nd, rfl⟩⟩; refine ⟨_, rfl, ?_⟩) | ((with_reducible refine gate_builtin (b := .append) (xs := #[.tmp 48, .tmp 52]) rfl ?_); at_builtin; refine Kd.R_append k42 (w0 := w) w.heap.size rfl (.tmp 48) (.tmp 52) 37 42 (.agg #[(.int .i64 0), (.int .i64 0), (.string ⟨#[]⟩)]) 32 rfl Try.underlying37 info42 rfl (by decide) (by omega) u6 x6_1 (⟨t272, x7_1, (⟨#[]⟩ : ByteArray)⟩ : S42) [.int .i64 t272, .int .i64 x7_1, .string (⟨#[]⟩ : ByteArray)] (fun _ => True) (fun _ => False) rfl rfl ?aP (fun _ hk => hk.elim) ?aF ?aO ?aB ?aS ?aL ?_; (case aP => exact k42_mkM _ _ _ (⟨t272, x7_1, (⟨#[]⟩ : ByteArray)⟩ : S42)); (case aB => exact hb_); (case aF => exact (fun _ _ => trivial)); (case aO => exact (by (with_reducible repeat (first | apply Kd.R_alloc | apply Kd.R_drewN | apply Kd.R_drew)); exact HO_6.out)); (case aS => exact (below_size hb_)); (case aL => have := LMc17.out; omega); intro v279 w18 ho hb hg hat; rw [← Ny278.out] at ho; have n0_ := Aside0.mk (hb); have n1_ := Aside0.mk (ho); clear HB; clear HO_6; have HB := n0_; have HO280 := n1_; clear n0_ n1_; clear ho hb hg hat)); go_roundg k1
          case measure => have := HK1.out; omega
          case rel => exact ⟨(y278), (wrap64 (x7_1 + 1)), rf_, H', ⟨by have := HK1.out; omega⟩, ⟨by (with_reducible repeat (first | apply Kd.R_alloc | apply Kd.R_drewN | apply Kd.R_drew)); exact HO280.out⟩, ⟨hb_⟩⟩
         ·rw [if_neg c17] at H
          exact absurd H (by simp)
        ·replace c16 := Bool.eq_false_iff.mpr c16
         subst c16; (have H1 : ((strings_HasPrefix.f (a0.extract (x7_1 : Int).toNat a0.size) (⟨#[46, 46]⟩ : ByteArray)).bind fun t281 => (if t281 = true then (if x6_1.length < 4398046511104 then (lex_All.l0 k1 a0 (x6_1 ++ [(⟨2, x7_1, (⟨#[]⟩ : ByteArray)⟩ : S42)]) (wrap64 (x7_1 + 2))) else (none)) else (if (bt a0 x7_1) = 32 then (lex_All.l0 k1 a0 x6_1 (wrap64 (x7_1 + 1))) else (some (([] : List (S42)), x7_1, 1))))) = some (r1, r2, r3) := by rw [if_neg (show ¬ (false = true) by decide)] at H; exact H); clear H; have H := H1; clear H1; have c19b0 := eq_true (od_ : 0 ≤ x7_1); have c20b0 := eq_true (od_ : x7_1 ≤ (a0.size : Int)); replace H := Option.bind_eq_some_iff.mp H; obtain ⟨t281, A210, H⟩ := H; replace H : (if t281 = true then (if x6_1.length < 4398046511104 then (lex_All.l0 k1 a0 (x6_1 ++ [(⟨2, x7_1, (⟨#[]⟩ : ByteArray)⟩ : S42)]) (wrap64 (x7_1 + 2))) else (none)) else (if (bt a0 x7_1) = 32 then (lex_All.l0 k1 a0 x6_1 (wrap64 (x7_1 + 1))) else (some (([] : List (S42)), x7_1, 1)))) = some (r1, r2, r3) := H; have A21 := Aside0.mk A210; clear A210
         by_cases c22 : t281 = true
         ·subst c22
          (have H1 : (if x6_1.length < 4398046511104 then (lex_All.l0 k1 a0 (x6_1 ++ [(⟨2, x7_1, (⟨#[]⟩ : ByteArray)⟩ : S42)]) (wrap64 (x7_1 + 2))) else (none)) = some (r1, r2, r3) := by rw [if_pos rfl] at H; exact H); clear H; have H := H1; clear H1
          by_cases c23 : x6_1.length < 4398046511104
          ·rw [if_pos c23] at H
           have LMc23 := Aside0.mk c23; clear c23; obtain ⟨y282, hy282⟩ : ∃ y_ : List (S42), y_ = (x6_1 ++ [(⟨2, x7_1, (⟨#[]⟩ : ByteArray)⟩ : S42)]) := ⟨_, rfl⟩; (replace H : (lex_All.l0 k1 a0 y282 (wrap64 (x7_1 + 2))) = some (r1, r2, r3) := by first | (rw [hy282]; with_reducible exact H) | (have H2_ := (Option.bind_some _ _).symm.trans H; rw [hy282]; with_reducible exact H2_) | (have H2_ := (Option.bind_some _ _).symm.trans H; with_reducible exact H2_) | with_reducible exact H | (rw [hy282]; exact H) | exact H); have Ny282 := Aside0.mk hy282; clear hy282; have H' := Aside0.mk H; clear H; have p5 : 0 ≤ (x7_1 : Int) := od_; have q5 : x7_1 < (a0.size : Int) := od_; have hx5 := bt_at a0 x7_1; replace p5 := eq_true p5; replace q5 := eq_true q5; go_wp2_with (first | (refine look_sign _ rfl _ _ rfl gm rfl (sig_below HMS.out hb_) (bt a0 x7_1) t272 false rfl (bt_range _ _) A6.out ?_) | ((with_reducible refine gate_callee (f := 62) rfl ?_); refine goesL_ (some 30) rfl rfl Try.func62 (by kernel_rfl) rfl #[.string (a0.extract (x7_1 : Int).toNat a0.size)] rfl ml_ ?_; (with_reducible refine (lex_word.calls k1 (a0.extract (x7_1 : Int).toNat a0.size) t274 _ A9.out).mono ?_); rintro e w' ⟨rfl, ⟨nd, rfl⟩⟩; refine ⟨_, rfl, ?_⟩) | ((with_reducible refine gate_callee (f := 63) rfl ?_); refine goesL_ (some 58) rfl rfl Try.func63 (by kernel_rfl) rfl #[.string (a0.extract (x7_1 : Int).toNat a0.size), .string (⟨#[46, 46]⟩ : ByteArray)] rfl ml_ ?_; (with_reducible refine (strings_HasPrefix.calls (a0.extract (x7_1 : Int).toNat a0.size) (⟨#[46, 46]⟩ : ByteArray) true _ A21.out).mono ?_); rintro e w' ⟨rfl, ⟨nd, rfl⟩⟩; refine ⟨_, rfl, ?_⟩) | ((with_reducible refine gate_builtin (b := .append) (xs := #[.tmp 59, .tmp 62]) rfl ?_); at_builtin; refine Kd.R_append k42 (w0 := w) w.heap.size rfl (.tmp 59) (.tmp 62) 37 42 (.agg #[(.int .i64 0), (.int .i64 0), (.string ⟨#[]⟩)]) 32 rfl Try.underlying37 info42 rfl (by decide) (by omega) u6 x6_1 (⟨2, x7_1, (⟨#[]⟩ : ByteArray)⟩ : S42) [.int .i64 2, .int .i64 x7_1, .string (⟨#[]⟩ : ByteArray)] (fun _ => True) (fun _ => False) rfl rfl ?aP (fun _ hk => hk.elim) ?aF ?aO ?aB ?aS ?aL ?_; (case aP => exact k42_mkM _ _ _ (⟨2, x7_1, (⟨#[]⟩ : ByteArray)⟩ : S42)); (case aB => exact hb_); (case aF => exact (fun _ _ => trivial)); (case aO => exact (by (with_reducible repeat (first | apply Kd.R_alloc | apply Kd.R_drewN | apply Kd.R_drew)); exact HO_6.out)); (case aS => exact (below_size hb_)); (case aL => have := LMc23.out; omega); intro v283 w24 ho hb hg hat; rw [← Ny282.out] at ho; have n0_ := Aside0.mk (hb); have n1_ := Aside0.mk (ho); clear HB; clear HO_6; have HB := n0_; have HO284 := n1_; clear n0_ n1_; clear ho hb hg hat)); go_roundg k1
           case measure => have := HK1.out; omega
           case rel => exact ⟨(y282), (wrap64 (x7_1 + 2)), rf_, H', ⟨by have := HK1.out; omega⟩, ⟨by (with_reducible repeat (first | apply Kd.R_alloc | apply Kd.R_drewN | apply Kd.R_drew)); exact HO284.out⟩, ⟨hb_⟩⟩
          ·rw [if_neg c23] at H
           exact absurd H (by simp)
         ·replace c22 := Bool.eq_false_iff.mpr c22
          subst c22; (have H1 : (if (bt a0 x7_1) = 32 then (lex_All.l0 k1 a0 x6_1 (wrap64 (x7_1 + 1))) else (some (([] : List (S42)), x7_1, 1))) = some (r1, r2, r3) := by rw [if_neg (show ¬ (false = true) by decide)] at H; exact H); clear H; have H := H1; clear H1
          by_cases c26 : (bt a0 x7_1) = 32
          ·rw [if_pos c26] at H
           have c26b0 : ((bt a0 x7_1) == 32) = true := beq_iff_eq.mpr c26; have c26b1 : ((bt a0 x7_1) != 32) = false := bne_eq_false_iff_eq.mpr c26; clear c26; have H' := Aside0.mk H; clear H; have p5 : 0 ≤ (x7_1 : Int) := od_; have q5 : x7_1 < (a0.size : Int) := od_; have hx5 := bt_at a0 x7_1; replace p5 := eq_true p5; replace q5 := eq_true q5; go_wp2_with (first | (refine look_sign _ rfl _ _ rfl gm rfl (sig_below HMS.out hb_) (bt a0 x7_1) t272 false rfl (bt_range _ _) A6.out ?_) | ((with_reducible refine gate_callee (f := 62) rfl ?_); refine goesL_ (some 30) rfl rfl Try.func62 (by kernel_rfl) rfl #[.string (a0.extract (x7_1 : Int).toNat a0.size)] rfl ml_ ?_; (with_reducible refine (lex_word.calls k1 (a0.extract (x7_1 : Int).toNat a0.size) t274 _ A9.out).mono ?_); rintro e w' ⟨rfl, ⟨nd, rfl⟩⟩; refine ⟨_, rfl, ?_⟩) | ((with_reducible refine gate_callee (f := 63) rfl ?_); refine goesL_ (some 58) rfl rfl Try.func63 (by kernel_rfl) rfl #[.string (a0.extract (x7_1 : Int).toNat a0.size), .string (⟨#[46, 46]⟩ : ByteArray)] rfl ml_ ?_; (with_reducible refine (strings_HasPrefix.calls (a0.extract (x7_1 : Int).toNat a0.size) (⟨#[46, 46]⟩ : ByteArray) false _ A21.out).mono ?_); rintro e w' ⟨rfl, ⟨nd, rfl⟩⟩; refine ⟨_, rfl, ?_⟩; have p25 : 0 ≤ (x7_1 : Int) := od_; have q25 : x7_1 < (a0.size : Int) := od_; have hx25 := bt_at a0 x7_1; replace p25 := eq_true p25; replace q25 := eq_true q25)); go_roundg k1
           case measure => have := HK1.out; omega
           case rel => exact ⟨(x6_1), (wrap64 (x7_1 + 1)), rf_, H', ⟨by have := HK1.out; omega⟩, ⟨by (with_reducible repeat (first | apply Kd.R_alloc | apply Kd.R_drewN | apply Kd.R_drew)); exact HO_6.out⟩, ⟨hb_⟩⟩
          ·rw [if_neg c26] at H
           have c26b0 : ((bt a0 x7_1) == 32) = false := beq_eq_false_iff_ne.mpr c26; have c26b1 : ((bt a0 x7_1) != 32) = true := bne_iff_ne.mpr c26; simp only [Option.some.injEq, Prod.mk.injEq] at H; obtain ⟨rfl, rfl, rfl⟩ := H; have p5 : 0 ≤ (x7_1 : Int) := od_; have q5 : x7_1 < (a0.size : Int) := od_; have hx5 := bt_at a0 x7_1; replace p5 := eq_true p5; replace q5 := eq_true q5; go_wp2_with (first | (refine look_sign _ rfl _ _ rfl gm rfl (sig_below HMS.out hb_) (bt a0 x7_1) t272 false rfl (bt_range _ _) A6.out ?_) | ((with_reducible refine gate_callee (f := 62) rfl ?_); refine goesL_ (some 30) rfl rfl Try.func62 (by kernel_rfl) rfl #[.string (a0.extract (x7_1 : Int).toNat a0.size)] rfl ml_ ?_; (with_reducible refine (lex_word.calls k1 (a0.extract (x7_1 : Int).toNat a0.size) t274 _ A9.out).mono ?_); rintro e w' ⟨rfl, ⟨nd, rfl⟩⟩; refine ⟨_, rfl, ?_⟩) | ((with_reducible refine gate_callee (f := 63) rfl ?_); refine goesL_ (some 58) rfl rfl Try.func63 (by kernel_rfl) rfl #[.string (a0.extract (x7_1 : Int).toNat a0.size), .string (⟨#[46, 46]⟩ : ByteArray)] rfl ml_ ?_; (with_reducible refine (strings_HasPrefix.calls (a0.extract (x7_1 : Int).toNat a0.size) (⟨#[46, 46]⟩ : ByteArray) false _ A21.out).mono ?_); rintro e w' ⟨rfl, ⟨nd, rfl⟩⟩; refine ⟨_, rfl, ?_⟩; have p25 : 0 ≤ (x7_1 : Int) := od_; have q25 : x7_1 < (a0.size : Int) := od_; have hx25 := bt_at a0 x7_1; replace p25 := eq_true p25; replace q25 := eq_true q25)); go_ret3; exact HKK.out w HB3.out _ _ ⟨_, by first | rfl | (simp [errW_none, errW_some] <;> rfl) | (simp [*, errW_none, errW_some] <;> rfl), by first | exact Kd.R_nil _ _ _ _ _ | exact Kd.N_nil _ _ _ _ _ | exact Kd.V_nil _ _ _ _ _ | exact Kd.Q_nil _ _ _ _ _ | exact Kd.S_nil _ _ _ _ _, hb_⟩
      ·rw [if_neg c8] at H
       exact absurd H (by simp)
     ·rw [if_neg c4] at H
      exact absurd H (by simp)
    ·rw [if_neg c3] at H
     have c3b0 : decide (x7_1 < (a0.size : Int)) = false := decide_eq_false c3; clear c3
     by_cases c27 : x6_1.length < 4398046511104
     ·rw [if_pos c27] at H
      have LMc27 := Aside0.mk c27; clear c27; obtain ⟨y269, hy269⟩ : ∃ y_ : List (S42), y_ = (x6_1 ++ [(⟨9, (a0.size : Int), (⟨#[]⟩ : ByteArray)⟩ : S42)]) := ⟨_, rfl⟩; (replace H : (some (y269, (a0.size : Int), 0)) = some (r1, r2, r3) := by first | (rw [hy269]; with_reducible exact H) | (have H2_ := (Option.bind_some _ _).symm.trans H; rw [hy269]; with_reducible exact H2_) | (have H2_ := (Option.bind_some _ _).symm.trans H; with_reducible exact H2_) | with_reducible exact H | (rw [hy269]; exact H) | exact H); have Ny269 := Aside0.mk hy269; clear hy269; simp only [Option.some.injEq, Prod.mk.injEq] at H; obtain ⟨rfl, rfl, rfl⟩ := H; go_wp2_with (first | ((with_reducible refine gate_builtin (b := .append) (xs := #[.tmp 72, .tmp 76]) rfl ?_); at_builtin; refine Kd.R_append k42 (w0 := w) w.heap.size rfl (.tmp 72) (.tmp 76) 37 42 (.agg #[(.int .i64 0), (.int .i64 0), (.string ⟨#[]⟩)]) 32 rfl Try.underlying37 info42 rfl (by decide) (by omega) u6 x6_1 (⟨9, (a0.size : Int), (⟨#[]⟩ : ByteArray)⟩ : S42) [.int .i64 9, .int .i64 (a0.size : Int), .string (⟨#[]⟩ : ByteArray)] (fun _ => True) (fun _ => False) rfl rfl ?aP (fun _ hk => hk.elim) ?aF ?aO ?aB ?aS ?aL ?_; (case aP => exact k42_mkM _ _ _ (⟨9, (a0.size : Int), (⟨#[]⟩ : ByteArray)⟩ : S42)); (case aB => exact hb_); (case aF => exact (fun _ _ => trivial)); (case aO => exact (by (with_reducible repeat (first | apply Kd.R_alloc | apply Kd.R_drewN | apply Kd.R_drew)); exact HO_6.out)); (case aS => exact (below_size hb_)); (case aL => have := LMc27.out; omega); intro v270 w28 ho hb hg hat; rw [← Ny269.out] at ho; have n0_ := Aside0.mk (hb); have n1_ := Aside0.mk (ho); clear HB; clear HO_6; have HB := n0_; have HO271 := n1_; clear n0_ n1_; clear ho hb hg hat)); go_ret3; exact HKK.out w HB3.out _ _ ⟨_, by first | rfl | (simp [errW_none, errW_some] <;> rfl) | (simp [*, errW_none, errW_some] <;> rfl), by (with_reducible repeat (first | apply Kd.R_alloc | apply Kd.R_drewN | apply Kd.R_drew)); exact HO271.out, hb_⟩
     ·rw [if_neg c27] at H
      exact absurd H (by simp)
theorem lex_All.calls (k : Nat) (a0 : ByteArray) (r1 : List (S42)) (r2 : Int) (r3 : Int) (w : World) (h : lex_All.f k a0 = some (r1, r2, r3)) :
    Calls Try.prog 36 #[.string a0] w fun e w' => ∃ v0_ : Value, e = .returned (.tuple #[v0_, .int .i64 r2, .int .i64 r3]) ∧ Kd.R k42 42 w' w.heap.size (fun _ => True) v0_ r1 ∧ Below w.heap.size w w' :=
  lex_All.callsK k a0 r1 r2 r3 w _ (fun w1 hb e w' ⟨v0_, he, hr, hb'⟩ => ⟨v0_, he, Kd.R_lower hr hb.size, hb.trans (hb'.mono hb.size)⟩) h
end Go.Proofs.Ytfehdlkklfcnpaa.A
namespace Go.Proofs.Ytfehdlkklfcnpaa.A
open Go.RowKit Go.Proofs.YtfehdlkklfcnpaaW.PrintWords Go.Proofs.YtfehdlkklfcnpaaW.PrintLast Go.Proofs.YtfehdlkklfcnpaaW.PrintMore
attribute [local go_sem] max2_int min2_int max_two min_two max_three min_three max_four min_four
attribute [local go_sem] isSome_setCell
set_option maxHeartbeats 8000000 in
set_option maxRecDepth 100000 in
theorem lex_Show.calls (k : Nat) (A0 : Option Addr) (c0 : Nat) (l0 : List (S42)) (r : ByteArray) (w : World) (hr0 : Kd.C k42 w A0 l0.length l0) (hc0 : l0.length ≤ c0) (h : lex_Show.f k l0 = some r) :
  Calls Try.prog 37 #[.slice A0 l0.length c0] w fun e w' => e = .returned (.string r) ∧ Below w.heap.size w w' := by
 have hu42 := Try.underlying42; have HR0 := Aside0.mk hr0; have HC0 := Aside0.mk hc0; clear hr0 hc0; have HB := Aside0.mk (Below.refl w.heap.size w); have H : (lex_Show.l0 k l0 ([] : List Int) l0 (l0.length : Int) 0) = some r := h; clear h; have H' := Aside0.mk H; clear H; go_enter Try.func37, Try.ntmps37; go_wp2; go_loopg [3, 8] k (fun kq v3 v8 w' => ∃ (x3_1 : List Int) (x8_1 : Int), v8 = .int .i64 x8_1 ∧ Aside0 (lex_Show.l0 kq l0 x3_1 l0 (l0.length : Int) x8_1 = some r) ∧ Aside0 (kq ≤ k) ∧ Aside0 (Kd.R (Kd.int .u8) 5 w' w.heap.size (fun _ => True) v3 x3_1) ∧ Aside0 (Below w.heap.size w w'))
 case atStart => exact ⟨(([] : List Int)), (0), rf_, H', ⟨Nat.le_refl _⟩, ⟨by first | exact Kd.R_nil _ _ _ _ _ | exact Kd.N_nil _ _ _ _ _ | exact Kd.V_nil _ _ _ _ _ | exact Kd.Q_nil _ _ _ _ _ | exact Kd.S_nil _ _ _ _ _⟩, ⟨hb_⟩⟩
 case round =>
  clear H'; obtain ⟨x3_1, x8_1, rfl, HA, HK1, HO_3, HB⟩ := hrel
  cases gk with
  | zero => exact absurd HA.out (by simp [lex_Show.l0])
  | succ k1 =>
   have H := HA.out; clear HA; simp only [lex_Show.l0] at H
   by_cases c2 : x8_1 < (l0.length : Int)
   ·rw [if_pos c2] at H
    have c2b0 : decide (x8_1 < (l0.length : Int)) = true := decide_eq_true c2; clear c2
    by_cases c3 : 0 ≤ x8_1
    ·rw [if_pos c3] at H
     have c3b0 : decide (0 ≤ x8_1) = true := decide_eq_true c3; clear c3
     by_cases c4 : x8_1 < (l0.length : Int)
     ·rw [if_pos c4] at H
      have c4b0 : decide (x8_1 < (l0.length : Int)) = true := decide_eq_true c4; clear c4
      by_cases c5 : ((rd_T42 l0 x8_1).f0) = 0
      ·rw [if_pos c5] at H
       have c5b0 : (((rd_T42 l0 x8_1).f0) == 0) = true := beq_iff_eq.mpr c5; have c5b1 : (((rd_T42 l0 x8_1).f0) != 0) = false := bne_eq_false_iff_eq.mpr c5; clear c5
       by_cases c6 : x8_1 > 0
       ·rw [if_pos c6] at H
        have c6b0 : decide (0 < x8_1) = true := decide_eq_true c6; clear c6; obtain ⟨ji7, hji7⟩ : ∃ j_ : Int, (wrap64 (x8_1 - 1)) = j_ := ⟨_, rfl⟩; (replace H : (if 0 ≤ (ji7) then (if (ji7) < (l0.length : Int) then (if ((rd_T42 l0 (ji7)).f0) = 0 then (if x3_1.length < 140737488355328 then ((some (x3_1 ++ [32] : List Int)).bind fun y288 => (if y288.length + ((rd_T42 l0 x8_1).f2).size < 140737488355328 then (lex_Show.l0 k1 l0 (y288 ++ bytesOf ((rd_T42 l0 x8_1).f2)) l0 (l0.length : Int) (wrap64 (x8_1 + 1))) else (none))) else (none)) else (if x3_1.length + ((rd_T42 l0 x8_1).f2).size < 140737488355328 then (lex_Show.l0 k1 l0 (x3_1 ++ bytesOf ((rd_T42 l0 x8_1).f2)) l0 (l0.length : Int) (wrap64 (x8_1 + 1))) else (none))) else (none)) else (none)) = some r := by first | (rw [hji7] at H; exact H) | (simp only [hji7] at H ⊢; exact H)); have hji7w : (IntKind.i64.wrap (x8_1 - 1)) = ji7 := (i64_w _).trans hji7
        by_cases c8 : 0 ≤ (ji7)
        ·rw [if_pos c8] at H
         have c8b0 : decide (0 ≤ (ji7)) = true := decide_eq_true c8; clear c8
         by_cases c9 : (ji7) < (l0.length : Int)
         ·rw [if_pos c9] at H
          have c9b0 : decide ((ji7) < (l0.length : Int)) = true := decide_eq_true c9; clear c9
          by_cases c10 : ((rd_T42 l0 (ji7)).f0) = 0
          ·rw [if_pos c10] at H
           have c10b0 : (((rd_T42 l0 (ji7)).f0) == 0) = true := beq_iff_eq.mpr c10; have c10b1 : (((rd_T42 l0 (ji7)).f0) != 0) = false := bne_eq_false_iff_eq.mpr c10; clear c10
           by_cases c11 : x3_1.length < 140737488355328
           ·rw [if_pos c11] at H
            have LMc11 := Aside0.mk c11; clear c11; obtain ⟨y288, hy288⟩ : ∃ y_ : List Int, y_ = (x3_1 ++ [32]) := ⟨_, rfl⟩; (replace H : (if y288.length + ((rd_T42 l0 x8_1).f2).size < 140737488355328 then (lex_Show.l0 k1 l0 (y288 ++ bytesOf ((rd_T42 l0 x8_1).f2)) l0 (l0.length : Int) (wrap64 (x8_1 + 1))) else (none)) = some r := hy_ hy288 H); have Ny288 := Aside0.mk hy288; clear hy288
            by_cases c12 : y288.length + ((rd_T42 l0 x8_1).f2).size < 140737488355328
            ·rw [if_pos c12] at H
             have LMc12 := Aside0.mk c12; clear c12; obtain ⟨y291, hy291⟩ : ∃ y_ : List Int, y_ = (y288 ++ bytesOf ((rd_T42 l0 x8_1).f2)) := ⟨_, rfl⟩; (replace H : (lex_Show.l0 k1 l0 y291 l0 (l0.length : Int) (wrap64 (x8_1 + 1))) = some r := hy_ hy291 H); have Ny291 := Aside0.mk hy291; clear hy291; have H' := Aside0.mk H; clear H; have p285 : 0 ≤ (x8_1 : Int) := od_; have q285 : x8_1 < (l0.length : Int) := od_; obtain ⟨ad285, e285, hx285_0, hx285_1, hx285_2⟩ := at_T42 HR0.out x8_1 p285 q285
             cases e285
             replace hx285_0 := (HB.out.cell (World.block_lt_of_cell? w _ hx285_0)).trans hx285_0; replace hx285_1 := (HB.out.cell (World.block_lt_of_cell? w _ hx285_1)).trans hx285_1; replace hx285_2 := (HB.out.cell (World.block_lt_of_cell? w _ hx285_2)).trans hx285_2; replace p285 := eq_true p285; replace q285 := eq_true q285; go_wp2_with (first | ((with_reducible refine gate_dst (N := 5) rfl ?_); refine box_event ?hg (N := 5) ?hd (cs := #[.int .i64 0, .int .i64 0, .string (⟨#[]⟩ : ByteArray)]) (t := 42) ?hr ?_; (case hd => rfl); (case hg => rfl); (case hr => first | (go_simp; done) | (go_simp; rfl)); intro gb286 hg w13 hbox hb; have n0_ := Aside0.mk (Kd.R_below (hrR_ HO_3.out) hb); have n1_ := Aside0.mk (below_step hb_ hb); have n2_ := Aside0.mk (hbox); have n3_ := Aside0.mk ((by rw [hg]; exact (below_size hb_) : w.heap.size ≤ gb286)); have n4_ := Aside0.mk ((by rw [hg]; exact (below_size hb_) : w.heap.size ≤ gb286)); clear HO_3; clear HB; have HO_3 := n0_; have HB := n1_; have BK286 := n2_; have GW286 := n3_; have GE286 := n4_; clear n0_ n1_ n2_ n3_ n4_; clear hb hbox hg; have hcz14_0 : w13.cell? ⟨gb286, 0, none⟩ = some (.int .i64 0) := (blk_cell BK286.out 0).trans rfl; have hcz14_1 : w13.cell? ⟨gb286, 1, none⟩ = some (.int .i64 0) := (blk_cell BK286.out 1).trans rfl; have hcz14_2 : w13.cell? ⟨gb286, 2, none⟩ = some (.string (⟨#[]⟩ : ByteArray)) := (blk_cell BK286.out 2).trans rfl; have hfz14_0 := blk_frozen BK286.out 0; have hfz14_1 := blk_frozen BK286.out 1; have hfz14_2 := blk_frozen BK286.out 2; have p287 : 0 ≤ ((ji7) : Int) := od_; have q287 : (ji7) < (l0.length : Int) := od_; obtain ⟨ad287, e287, hx287_0, hx287_1, hx287_2⟩ := at_T42 HR0.out (ji7) p287 q287; obtain rfl : ad285 = ad287 := (by injection e287); have hn287_0 : ad285.block ≠ gb286 := Nat.ne_of_lt (Nat.lt_of_lt_of_le (by have := World.block_lt_of_cell? _ _ hx287_0; first | rwa [add_block] at this | exact this) GW286.out); have hn287_1 : ad285.block ≠ gb286 := Nat.ne_of_lt (Nat.lt_of_lt_of_le (by have := World.block_lt_of_cell? _ _ hx287_0; first | rwa [add_block] at this | exact this) GW286.out); have hn287_2 : ad285.block ≠ gb286 := Nat.ne_of_lt (Nat.lt_of_lt_of_le (by have := World.block_lt_of_cell? _ _ hx287_0; first | rwa [add_block] at this | exact this) GW286.out); replace hx287_0 := (HB.out.cell (World.block_lt_of_cell? w _ hx287_0)).trans hx287_0; replace hx287_1 := (HB.out.cell (World.block_lt_of_cell? w _ hx287_1)).trans hx287_1; replace hx287_2 := (HB.out.cell (World.block_lt_of_cell? w _ hx287_2)).trans hx287_2; replace hx287_0 := (cell_far (p := ⟨gb286, 0, none⟩) (by first | (rw [add_block]; exact hn287_0) | (show (Addr.add _ _).block ≠ _; rw [add_block]; exact hn287_0) | exact hn287_0) (.int .i64 ((rd_T42 l0 x8_1).f0))).trans hx287_0; replace hx287_1 := (cell_far (p := ⟨gb286, 0, none⟩) (by first | (rw [add_block]; exact hn287_0) | (show (Addr.add _ _).block ≠ _; rw [add_block]; exact hn287_0) | exact hn287_0) (.int .i64 ((rd_T42 l0 x8_1).f0))).trans hx287_1; replace hx287_2 := (cell_far (p := ⟨gb286, 0, none⟩) (by first | (rw [add_block]; exact hn287_0) | (show (Addr.add _ _).block ≠ _; rw [add_block]; exact hn287_0) | exact hn287_0) (.int .i64 ((rd_T42 l0 x8_1).f0))).trans hx287_2; replace hx287_0 := (cell_far (p := ⟨gb286, 1, none⟩) (by first | (rw [add_block]; exact hn287_1) | (show (Addr.add _ _).block ≠ _; rw [add_block]; exact hn287_1) | exact hn287_1) (.int .i64 ((rd_T42 l0 x8_1).f1))).trans hx287_0; replace hx287_1 := (cell_far (p := ⟨gb286, 1, none⟩) (by first | (rw [add_block]; exact hn287_1) | (show (Addr.add _ _).block ≠ _; rw [add_block]; exact hn287_1) | exact hn287_1) (.int .i64 ((rd_T42 l0 x8_1).f1))).trans hx287_1; replace hx287_2 := (cell_far (p := ⟨gb286, 1, none⟩) (by first | (rw [add_block]; exact hn287_1) | (show (Addr.add _ _).block ≠ _; rw [add_block]; exact hn287_1) | exact hn287_1) (.int .i64 ((rd_T42 l0 x8_1).f1))).trans hx287_2; replace hx287_0 := (cell_far (p := ⟨gb286, 2, none⟩) (by first | (rw [add_block]; exact hn287_2) | (show (Addr.add _ _).block ≠ _; rw [add_block]; exact hn287_2) | exact hn287_2) (.string ((rd_T42 l0 x8_1).f2))).trans hx287_0; replace hx287_1 := (cell_far (p := ⟨gb286, 2, none⟩) (by first | (rw [add_block]; exact hn287_2) | (show (Addr.add _ _).block ≠ _; rw [add_block]; exact hn287_2) | exact hn287_2) (.string ((rd_T42 l0 x8_1).f2))).trans hx287_1; replace hx287_2 := (cell_far (p := ⟨gb286, 2, none⟩) (by first | (rw [add_block]; exact hn287_2) | (show (Addr.add _ _).block ≠ _; rw [add_block]; exact hn287_2) | exact hn287_2) (.string ((rd_T42 l0 x8_1).f2))).trans hx287_2; clear hn287_0; clear hn287_1; clear hn287_2; replace p287 := eq_true p287; replace q287 := eq_true q287) | ((with_reducible refine gate_builtin (b := .append) (xs := #[.tmp 28, .tmp 29]) rfl ?_); at_builtin; refine Kd.R_append (Kd.int .u8) (w0 := w) w.heap.size rfl (.tmp 28) (.tmp 29) 60 5 (.int .u8 0) 1 rfl Try.underlying60 info5 rfl (by decide) (by omega) u3 x3_1 32 [.int .u8 32] (fun _ => True) (fun _ => False) rfl (by first | (go_simp; done) | (go_simp; rfl)) ?aP (fun _ hk => hk.elim) ?aF ?aO ?aB ?aS ?aL ?_; (case aP => exact rfl); (case aB => exact (by repeat (first | (with_reducible first | exact HB.out | apply below_alloc | apply pw_below_drewN | apply below_drew1 | refine below_set ?_ GE286.out) | exact HB.out))); (case aF => exact (fun _ _ => trivial)); (case aO => exact (by (with_reducible repeat (first | apply Kd.R_alloc | apply Kd.R_drewN | apply Kd.R_drew)); exact Kd.R_mono (Kd.R_far (p := ⟨gb286, 2, none⟩) (Kd.R_far (p := ⟨gb286, 1, none⟩) (Kd.R_far (p := ⟨gb286, 0, none⟩) (Kd.R_types HO_3.out BK286.out (by decide)) (fun _ hk => hk.2) (.int .i64 ((rd_T42 l0 x8_1).f0))) (fun _ hk => hk.2) (.int .i64 ((rd_T42 l0 x8_1).f1))) (fun _ hk => hk.2) (.string ((rd_T42 l0 x8_1).f2))) (fun _ hk => trivial))); (case aS => exact (below_size (by repeat (first | (with_reducible first | exact HB.out | apply below_alloc | apply pw_below_drewN | apply below_drew1 | refine below_set ?_ GE286.out) | exact HB.out)))); (case aL => have := LMc11.out; omega); intro v289 w15 ho hb hg hat; rw [← Ny288.out] at ho; have n0_ := Aside0.mk (blk_grown (g := gb286) (o := .cells #[.int .i64 ((rd_T42 l0 x8_1).f0), .int .i64 ((rd_T42 l0 x8_1).f1), .string ((rd_T42 l0 x8_1).f2)] 42 (0, 0)) (by (with_reducible repeat (first | refine blk_drewN ?_ _ | refine blk_drew ?_ | refine blk_alloc ?_ _)); refine blk_put (cs := #[.int .i64 ((rd_T42 l0 x8_1).f0), .int .i64 ((rd_T42 l0 x8_1).f1), .string (⟨#[]⟩ : ByteArray)]) ?_ 2 _ rfl; (with_reducible repeat (first | refine blk_drewN ?_ _ | refine blk_drew ?_ | refine blk_alloc ?_ _)); refine blk_put (cs := #[.int .i64 ((rd_T42 l0 x8_1).f0), .int .i64 0, .string (⟨#[]⟩ : ByteArray)]) ?_ 1 _ rfl; (with_reducible repeat (first | refine blk_drewN ?_ _ | refine blk_drew ?_ | refine blk_alloc ?_ _)); refine blk_put (cs := #[.int .i64 0, .int .i64 0, .string (⟨#[]⟩ : ByteArray)]) ?_ 0 _ rfl; (with_reducible repeat (first | refine blk_drewN ?_ _ | refine blk_drew ?_ | refine blk_alloc ?_ _)); exact BK286.out) hg (Kd.R_ne HO_3.out BK286.out (by decide))); have n1_ := Aside0.mk (hb); have n2_ := Aside0.mk (ho); clear BK286; clear HB; clear HO_3; have BK286 := n0_; have HB := n1_; have HO290 := n2_; clear n0_ n1_ n2_; clear ho hb hg hat; have hcz16_0 : w15.cell? ⟨gb286, 0, none⟩ = some (.int .i64 ((rd_T42 l0 x8_1).f0)) := (blk_cell BK286.out 0).trans rfl; have hcz16_1 : w15.cell? ⟨gb286, 1, none⟩ = some (.int .i64 ((rd_T42 l0 x8_1).f1)) := (blk_cell BK286.out 1).trans rfl; have hcz16_2 : w15.cell? ⟨gb286, 2, none⟩ = some (.string ((rd_T42 l0 x8_1).f2)) := (blk_cell BK286.out 2).trans rfl; have hfz16_0 := blk_frozen BK286.out 0; have hfz16_1 := blk_frozen BK286.out 1; have hfz16_2 := blk_frozen BK286.out 2) | (at_builtin; refine print_append_str (w0 := w) w.heap.size rfl (.tmp 31) _ 60 9 5 rfl Try.underlying60 Try.underlying9 info5 v289 y288 ((rd_T42 l0 x8_1).f2) rfl rfl ?aO ?aB ?aS ?aL ?_; (case aB => exact (by repeat (first | (with_reducible first | exact HB.out | apply below_alloc | apply pw_below_drewN | apply below_drew1 | refine below_set ?_ GE286.out) | exact HB.out))); (case aO => exact (Kd.own_of_R (hrR_ HO290.out))); (case aS => exact (below_size (by repeat (first | (with_reducible first | exact HB.out | apply below_alloc | apply pw_below_drewN | apply below_drew1 | refine below_set ?_ GE286.out) | exact HB.out)))); (case aL => have := LMc12.out; omega); intro v292 w17 ho0 hb hg; have ho := Kd.R_of_own (h1 := fun _ => rfl) (ok := fun _ => True) ho0 (fun _ _ => trivial); clear ho0; have hat := True.intro; rw [← Ny291.out] at ho; change Kd.R (Kd.int .u8) 5 w17 w.heap.size (fun _ => True) v292 y291 at ho; have n0_ := Aside0.mk (blk_grown (g := gb286) (o := .cells #[.int .i64 ((rd_T42 l0 x8_1).f0), .int .i64 ((rd_T42 l0 x8_1).f1), .string ((rd_T42 l0 x8_1).f2)] 42 (0, 0)) (bl_ BK286.out) hg (Kd.R_ne HO290.out BK286.out (by decide))); have n1_ := Aside0.mk (hb); have n2_ := Aside0.mk (ho); clear BK286; clear HB; clear HO290; have BK286 := n0_; have HB := n1_; have HO293 := n2_; clear n0_ n1_ n2_; clear ho hb hg hat))
             go_roundg k1
             case measure => have := HK1.out; omega
             case rel => exact ⟨(y291), (wrap64 (x8_1 + 1)), rf_, H', ⟨by have := HK1.out; omega⟩, ⟨by (with_reducible repeat (first | apply Kd.R_alloc | apply Kd.R_drewN | apply Kd.R_drew)); exact HO293.out⟩, ⟨by repeat (first | (with_reducible first | exact HB.out | apply below_alloc | apply pw_below_drewN | apply below_drew1 | refine below_set ?_ GE286.out) | exact HB.out)⟩⟩
            ·rw [if_neg c12] at H
             exact absurd H (by simp)
           ·rw [if_neg c11] at H
            exact absurd H (by simp)
          ·rw [if_neg c10] at H
           have c10b0 : (((rd_T42 l0 (ji7)).f0) == 0) = false := beq_eq_false_iff_ne.mpr c10; have c10b1 : (((rd_T42 l0 (ji7)).f0) != 0) = true := bne_iff_ne.mpr c10
           by_cases c18 : x3_1.length + ((rd_T42 l0 x8_1).f2).size < 140737488355328
           ·rw [if_pos c18] at H
            have LMc18 := Aside0.mk c18; clear c18; obtain ⟨y294, hy294⟩ : ∃ y_ : List Int, y_ = (x3_1 ++ bytesOf ((rd_T42 l0 x8_1).f2)) := ⟨_, rfl⟩; (replace H : (lex_Show.l0 k1 l0 y294 l0 (l0.length : Int) (wrap64 (x8_1 + 1))) = some r := hy_ hy294 H); have Ny294 := Aside0.mk hy294; clear hy294; have H' := Aside0.mk H; clear H; have p285 : 0 ≤ (x8_1 : Int) := od_; have q285 : x8_1 < (l0.length : Int) := od_; obtain ⟨ad285, e285, hx285_0, hx285_1, hx285_2⟩ := at_T42 HR0.out x8_1 p285 q285
            cases e285
            replace hx285_0 := (HB.out.cell (World.block_lt_of_cell? w _ hx285_0)).trans hx285_0; replace hx285_1 := (HB.out.cell (World.block_lt_of_cell? w _ hx285_1)).trans hx285_1; replace hx285_2 := (HB.out.cell (World.block_lt_of_cell? w _ hx285_2)).trans hx285_2; replace p285 := eq_true p285; replace q285 := eq_true q285; go_wp2_with (first | ((with_reducible refine gate_dst (N := 5) rfl ?_); refine box_event ?hg (N := 5) ?hd (cs := #[.int .i64 0, .int .i64 0, .string (⟨#[]⟩ : ByteArray)]) (t := 42) ?hr ?_; (case hd => rfl); (case hg => rfl); (case hr => first | (go_simp; done) | (go_simp; rfl)); intro gb286 hg w19 hbox hb; have n0_ := Aside0.mk (Kd.R_below (hrR_ HO_3.out) hb); have n1_ := Aside0.mk (below_step hb_ hb); have n2_ := Aside0.mk (hbox); have n3_ := Aside0.mk ((by rw [hg]; exact (below_size hb_) : w.heap.size ≤ gb286)); have n4_ := Aside0.mk ((by rw [hg]; exact (below_size hb_) : w.heap.size ≤ gb286)); clear HO_3; clear HB; have HO_3 := n0_; have HB := n1_; have BK286 := n2_; have GW286 := n3_; have GE286 := n4_; clear n0_ n1_ n2_ n3_ n4_; clear hb hbox hg; have hcz20_0 : w19.cell? ⟨gb286, 0, none⟩ = some (.int .i64 0) := (blk_cell BK286.out 0).trans rfl; have hcz20_1 : w19.cell? ⟨gb286, 1, none⟩ = some (.int .i64 0) := (blk_cell BK286.out 1).trans rfl; have hcz20_2 : w19.cell? ⟨gb286, 2, none⟩ = some (.string (⟨#[]⟩ : ByteArray)) := (blk_cell BK286.out 2).trans rfl; have hfz20_0 := blk_frozen BK286.out 0; have hfz20_1 := blk_frozen BK286.out 1; have hfz20_2 := blk_frozen BK286.out 2; have p287 : 0 ≤ ((ji7) : Int) := od_; have q287 : (ji7) < (l0.length : Int) := od_; obtain ⟨ad287, e287, hx287_0, hx287_1, hx287_2⟩ := at_T42 HR0.out (ji7) p287 q287; obtain rfl : ad285 = ad287 := (by injection e287); have hn287_0 : ad285.block ≠ gb286 := Nat.ne_of_lt (Nat.lt_of_lt_of_le (by have := World.block_lt_of_cell? _ _ hx287_0; first | rwa [add_block] at this | exact this) GW286.out); have hn287_1 : ad285.block ≠ gb286 := Nat.ne_of_lt (Nat.lt_of_lt_of_le (by have := World.block_lt_of_cell? _ _ hx287_0; first | rwa [add_block] at this | exact this) GW286.out); have hn287_2 : ad285.block ≠ gb286 := Nat.ne_of_lt (Nat.lt_of_lt_of_le (by have := World.block_lt_of_cell? _ _ hx287_0; first | rwa [add_block] at this | exact this) GW286.out); replace hx287_0 := (HB.out.cell (World.block_lt_of_cell? w _ hx287_0)).trans hx287_0; replace hx287_1 := (HB.out.cell (World.block_lt_of_cell? w _ hx287_1)).trans hx287_1; replace hx287_2 := (HB.out.cell (World.block_lt_of_cell? w _ hx287_2)).trans hx287_2; replace hx287_0 := (cell_far (p := ⟨gb286, 0, none⟩) (by first | (rw [add_block]; exact hn287_0) | (show (Addr.add _ _).block ≠ _; rw [add_block]; exact hn287_0) | exact hn287_0) (.int .i64 ((rd_T42 l0 x8_1).f0))).trans hx287_0; replace hx287_1 := (cell_far (p := ⟨gb286, 0, none⟩) (by first | (rw [add_block]; exact hn287_0) | (show (Addr.add _ _).block ≠ _; rw [add_block]; exact hn287_0) | exact hn287_0) (.int .i64 ((rd_T42 l0 x8_1).f0))).trans hx287_1; replace hx287_2 := (cell_far (p := ⟨gb286, 0, none⟩) (by first | (rw [add_block]; exact hn287_0) | (show (Addr.add _ _).block ≠ _; rw [add_block]; exact hn287_0) | exact hn287_0) (.int .i64 ((rd_T42 l0 x8_1).f0))).trans hx287_2; replace hx287_0 := (cell_far (p := ⟨gb286, 1, none⟩) (by first | (rw [add_block]; exact hn287_1) | (show (Addr.add _ _).block ≠ _; rw [add_block]; exact hn287_1) | exact hn287_1) (.int .i64 ((rd_T42 l0 x8_1).f1))).trans hx287_0; replace hx287_1 := (cell_far (p := ⟨gb286, 1, none⟩) (by first | (rw [add_block]; exact hn287_1) | (show (Addr.add _ _).block ≠ _; rw [add_block]; exact hn287_1) | exact hn287_1) (.int .i64 ((rd_T42 l0 x8_1).f1))).trans hx287_1; replace hx287_2 := (cell_far (p := ⟨gb286, 1, none⟩) (by first | (rw [add_block]; exact hn287_1) | (show (Addr.add _ _).block ≠ _; rw [add_block]; exact hn287_1) | exact hn287_1) (.int .i64 ((rd_T42 l0 x8_1).f1))).trans hx287_2; replace hx287_0 := (cell_far (p := ⟨gb286, 2, none⟩) (by first | (rw [add_block]; exact hn287_2) | (show (Addr.add _ _).block ≠ _; rw [add_block]; exact hn287_2) | exact hn287_2) (.string ((rd_T42 l0 x8_1).f2))).trans hx287_0; replace hx287_1 := (cell_far (p := ⟨gb286, 2, none⟩) (by first | (rw [add_block]; exact hn287_2) | (show (Addr.add _ _).block ≠ _; rw [add_block]; exact hn287_2) | exact hn287_2) (.string ((rd_T42 l0 x8_1).f2))).trans hx287_1; replace hx287_2 := (cell_far (p := ⟨gb286, 2, none⟩) (by first | (rw [add_block]; exact hn287_2) | (show (Addr.add _ _).block ≠ _; rw [add_block]; exact hn287_2) | exact hn287_2) (.string ((rd_T42 l0 x8_1).f2))).trans hx287_2; clear hn287_0; clear hn287_1; clear hn287_2; replace p287 := eq_true p287; replace q287 := eq_true q287) | (at_builtin; refine print_append_str (w0 := w) w.heap.size rfl (.tmp 31) _ 60 9 5 rfl Try.underlying60 Try.underlying9 info5 u3 x3_1 ((rd_T42 l0 x8_1).f2) rfl rfl ?aO ?aB ?aS ?aL ?_; (case aB => exact (by repeat (first | (with_reducible first | exact HB.out | apply below_alloc | apply pw_below_drewN | apply below_drew1 | refine below_set ?_ GE286.out) | exact HB.out))); (case aO => exact (Kd.own_of_R (by (with_reducible repeat (first | apply Kd.R_alloc | apply Kd.R_drewN | apply Kd.R_drew)); exact Kd.R_mono (Kd.R_far (p := ⟨gb286, 2, none⟩) (Kd.R_far (p := ⟨gb286, 1, none⟩) (Kd.R_far (p := ⟨gb286, 0, none⟩) (Kd.R_types HO_3.out BK286.out (by decide)) (fun _ hk => hk.2) (.int .i64 ((rd_T42 l0 x8_1).f0))) (fun _ hk => hk.2) (.int .i64 ((rd_T42 l0 x8_1).f1))) (fun _ hk => hk.2) (.string ((rd_T42 l0 x8_1).f2))) (fun _ hk => trivial)))); (case aS => exact (below_size (by repeat (first | (with_reducible first | exact HB.out | apply below_alloc | apply pw_below_drewN | apply below_drew1 | refine below_set ?_ GE286.out) | exact HB.out)))); (case aL => have := LMc18.out; omega); intro v295 w21 ho0 hb hg; have ho := Kd.R_of_own (h1 := fun _ => rfl) (ok := fun _ => True) ho0 (fun _ _ => trivial); clear ho0; have hat := True.intro; rw [← Ny294.out] at ho; change Kd.R (Kd.int .u8) 5 w21 w.heap.size (fun _ => True) v295 y294 at ho; have n0_ := Aside0.mk (blk_grown (g := gb286) (o := .cells #[.int .i64 ((rd_T42 l0 x8_1).f0), .int .i64 ((rd_T42 l0 x8_1).f1), .string ((rd_T42 l0 x8_1).f2)] 42 (0, 0)) (by (with_reducible repeat (first | refine blk_drewN ?_ _ | refine blk_drew ?_ | refine blk_alloc ?_ _)); refine blk_put (cs := #[.int .i64 ((rd_T42 l0 x8_1).f0), .int .i64 ((rd_T42 l0 x8_1).f1), .string (⟨#[]⟩ : ByteArray)]) ?_ 2 _ rfl; (with_reducible repeat (first | refine blk_drewN ?_ _ | refine blk_drew ?_ | refine blk_alloc ?_ _)); refine blk_put (cs := #[.int .i64 ((rd_T42 l0 x8_1).f0), .int .i64 0, .string (⟨#[]⟩ : ByteArray)]) ?_ 1 _ rfl; (with_reducible repeat (first | refine blk_drewN ?_ _ | refine blk_drew ?_ | refine blk_alloc ?_ _)); refine blk_put (cs := #[.int .i64 0, .int .i64 0, .string (⟨#[]⟩ : ByteArray)]) ?_ 0 _ rfl; (with_reducible repeat (first | refine blk_drewN ?_ _ | refine blk_drew ?_ | refine blk_alloc ?_ _)); exact BK286.out) hg (Kd.R_ne HO_3.out BK286.out (by decide))); have n1_ := Aside0.mk (hb); have n2_ := Aside0.mk (ho); clear BK286; clear HB; clear HO_3; have BK286 := n0_; have HB := n1_; have HO296 := n2_; clear n0_ n1_ n2_; clear ho hb hg hat))
            go_roundg k1
            case measure => have := HK1.out; omega
            case rel => exact ⟨(y294), (wrap64 (x8_1 + 1)), rf_, H', ⟨by have := HK1.out; omega⟩, ⟨by (with_reducible repeat (first | apply Kd.R_alloc | apply Kd.R_drewN | apply Kd.R_drew)); exact HO296.out⟩, ⟨by repeat (first | (with_reducible first | exact HB.out | apply below_alloc | apply pw_below_drewN | apply below_drew1 | refine below_set ?_ GE286.out) | exact HB.out)⟩⟩
           ·rw [if_neg c18] at H
            exact absurd H (by simp)
         ·rw [if_neg c9] at H
          exact absurd H (by simp)
        ·rw [if_neg c8] at H
         exact absurd H (by simp)
       ·rw [if_neg c6] at H
        have c6b0 : decide (0 < x8_1) = false := decide_eq_false c6; clear c6
        by_cases c22 : x3_1.length + ((rd_T42 l0 x8_1).f2).size < 140737488355328
        ·rw [if_pos c22] at H
         have LMc22 := Aside0.mk c22; clear c22; obtain ⟨y297, hy297⟩ : ∃ y_ : List Int, y_ = (x3_1 ++ bytesOf ((rd_T42 l0 x8_1).f2)) := ⟨_, rfl⟩; (replace H : (lex_Show.l0 k1 l0 y297 l0 (l0.length : Int) (wrap64 (x8_1 + 1))) = some r := hy_ hy297 H); have Ny297 := Aside0.mk hy297; clear hy297; have H' := Aside0.mk H; clear H; have p285 : 0 ≤ (x8_1 : Int) := od_; have q285 : x8_1 < (l0.length : Int) := od_; obtain ⟨ad285, e285, hx285_0, hx285_1, hx285_2⟩ := at_T42 HR0.out x8_1 p285 q285
         cases e285
         replace hx285_0 := (HB.out.cell (World.block_lt_of_cell? w _ hx285_0)).trans hx285_0; replace hx285_1 := (HB.out.cell (World.block_lt_of_cell? w _ hx285_1)).trans hx285_1; replace hx285_2 := (HB.out.cell (World.block_lt_of_cell? w _ hx285_2)).trans hx285_2; replace p285 := eq_true p285; replace q285 := eq_true q285; go_wp2_with (first | ((with_reducible refine gate_dst (N := 5) rfl ?_); refine box_event ?hg (N := 5) ?hd (cs := #[.int .i64 0, .int .i64 0, .string (⟨#[]⟩ : ByteArray)]) (t := 42) ?hr ?_; (case hd => rfl); (case hg => rfl); (case hr => first | (go_simp; done) | (go_simp; rfl)); intro gb286 hg w23 hbox hb; have n0_ := Aside0.mk (Kd.R_below (hrR_ HO_3.out) hb); have n1_ := Aside0.mk (below_step hb_ hb); have n2_ := Aside0.mk (hbox); have n3_ := Aside0.mk ((by rw [hg]; exact (below_size hb_) : w.heap.size ≤ gb286)); have n4_ := Aside0.mk ((by rw [hg]; exact (below_size hb_) : w.heap.size ≤ gb286)); clear HO_3; clear HB; have HO_3 := n0_; have HB := n1_; have BK286 := n2_; have GW286 := n3_; have GE286 := n4_; clear n0_ n1_ n2_ n3_ n4_; clear hb hbox hg; have hcz24_0 : w23.cell? ⟨gb286, 0, none⟩ = some (.int .i64 0) := (blk_cell BK286.out 0).trans rfl; have hcz24_1 : w23.cell? ⟨gb286, 1, none⟩ = some (.int .i64 0) := (blk_cell BK286.out 1).trans rfl; have hcz24_2 : w23.cell? ⟨gb286, 2, none⟩ = some (.string (⟨#[]⟩ : ByteArray)) := (blk_cell BK286.out 2).trans rfl; have hfz24_0 := blk_frozen BK286.out 0; have hfz24_1 := blk_frozen BK286.out 1; have hfz24_2 := blk_frozen BK286.out 2) | (at_builtin; refine print_append_str (w0 := w) w.heap.size rfl (.tmp 31) _ 60 9 5 rfl Try.underlying60 Try.underlying9 info5 u3 x3_1 ((rd_T42 l0 x8_1).f2) rfl rfl ?aO ?aB ?aS ?aL ?_; (case aB => exact (by repeat (first | (with_reducible first | exact HB.out | apply below_alloc | apply pw_below_drewN | apply below_drew1 | refine below_set ?_ GE286.out) | exact HB.out))); (case aO => exact (Kd.own_of_R (by (with_reducible repeat (first | apply Kd.R_alloc | apply Kd.R_drewN | apply Kd.R_drew)); exact Kd.R_mono (Kd.R_far (p := ⟨gb286, 2, none⟩) (Kd.R_far (p := ⟨gb286, 1, none⟩) (Kd.R_far (p := ⟨gb286, 0, none⟩) (Kd.R_types HO_3.out BK286.out (by decide)) (fun _ hk => hk.2) (.int .i64 ((rd_T42 l0 x8_1).f0))) (fun _ hk => hk.2) (.int .i64 ((rd_T42 l0 x8_1).f1))) (fun _ hk => hk.2) (.string ((rd_T42 l0 x8_1).f2))) (fun _ hk => trivial)))); (case aS => exact (below_size (by repeat (first | (with_reducible first | exact HB.out | apply below_alloc | apply pw_below_drewN | apply below_drew1 | refine below_set ?_ GE286.out) | exact HB.out)))); (case aL => have := LMc22.out; omega); intro v298 w25 ho0 hb hg; have ho := Kd.R_of_own (h1 := fun _ => rfl) (ok := fun _ => True) ho0 (fun _ _ => trivial); clear ho0; have hat := True.intro; rw [← Ny297.out] at ho; change Kd.R (Kd.int .u8) 5 w25 w.heap.size (fun _ => True) v298 y297 at ho; have n0_ := Aside0.mk (blk_grown (g := gb286) (o := .cells #[.int .i64 ((rd_T42 l0 x8_1).f0), .int .i64 ((rd_T42 l0 x8_1).f1), .string ((rd_T42 l0 x8_1).f2)] 42 (0, 0)) (by (with_reducible repeat (first | refine blk_drewN ?_ _ | refine blk_drew ?_ | refine blk_alloc ?_ _)); refine blk_put (cs := #[.int .i64 ((rd_T42 l0 x8_1).f0), .int .i64 ((rd_T42 l0 x8_1).f1), .string (⟨#[]⟩ : ByteArray)]) ?_ 2 _ rfl; (with_reducible repeat (first | refine blk_drewN ?_ _ | refine blk_drew ?_ | refine blk_alloc ?_ _)); refine blk_put (cs := #[.int .i64 ((rd_T42 l0 x8_1).f0), .int .i64 0, .string (⟨#[]⟩ : ByteArray)]) ?_ 1 _ rfl; (with_reducible repeat (first | refine blk_drewN ?_ _ | refine blk_drew ?_ | refine blk_alloc ?_ _)); refine blk_put (cs := #[.int .i64 0, .int .i64 0, .string (⟨#[]⟩ : ByteArray)]) ?_ 0 _ rfl; (with_reducible repeat (first | refine blk_drewN ?_ _ | refine blk_drew ?_ | refine blk_alloc ?_ _)); exact BK286.out) hg (Kd.R_ne HO_3.out BK286.out (by decide))); have n1_ := Aside0.mk (hb); have n2_ := Aside0.mk (ho); clear BK286; clear HB; clear HO_3; have BK286 := n0_; have HB := n1_; have HO299 := n2_; clear n0_ n1_ n2_; clear ho hb hg hat))
         go_roundg k1
         case measure => have := HK1.out; omega
         case rel => exact ⟨(y297), (wrap64 (x8_1 + 1)), rf_, H', ⟨by have := HK1.out; omega⟩, ⟨by (with_reducible repeat (first | apply Kd.R_alloc | apply Kd.R_drewN | apply Kd.R_drew)); exact HO299.out⟩, ⟨by repeat (first | (with_reducible first | exact HB.out | apply below_alloc | apply pw_below_drewN | apply below_drew1 | refine below_set ?_ GE286.out) | exact HB.out)⟩⟩
        ·rw [if_neg c22] at H
         exact absurd H (by simp)
      ·rw [if_neg c5] at H
       have c5b0 : (((rd_T42 l0 x8_1).f0) == 0) = false := beq_eq_false_iff_ne.mpr c5; have c5b1 : (((rd_T42 l0 x8_1).f0) != 0) = true := bne_iff_ne.mpr c5
       by_cases c26 : ((rd_T42 l0 x8_1).f0) = 2
       ·rw [if_pos c26] at H
        have c26b0 : (((rd_T42 l0 x8_1).f0) == 2) = true := beq_iff_eq.mpr c26; have c26b1 : (((rd_T42 l0 x8_1).f0) != 2) = false := bne_eq_false_iff_eq.mpr c26; clear c26
        by_cases c27 : x3_1.length + 2 < 140737488355328
        ·rw [if_pos c27] at H
         have LMc27 := Aside0.mk c27; clear c27; obtain ⟨y300, hy300⟩ : ∃ y_ : List Int, y_ = (x3_1 ++ bytesOf (⟨#[46, 46]⟩ : ByteArray)) := ⟨_, rfl⟩; (replace H : (lex_Show.l0 k1 l0 y300 l0 (l0.length : Int) (wrap64 (x8_1 + 1))) = some r := hy_ hy300 H); have Ny300 := Aside0.mk hy300; clear hy300; have H' := Aside0.mk H; clear H; have p285 : 0 ≤ (x8_1 : Int) := od_; have q285 : x8_1 < (l0.length : Int) := od_; obtain ⟨ad285, e285, hx285_0, hx285_1, hx285_2⟩ := at_T42 HR0.out x8_1 p285 q285
         cases e285
         replace hx285_0 := (HB.out.cell (World.block_lt_of_cell? w _ hx285_0)).trans hx285_0; replace hx285_1 := (HB.out.cell (World.block_lt_of_cell? w _ hx285_1)).trans hx285_1; replace hx285_2 := (HB.out.cell (World.block_lt_of_cell? w _ hx285_2)).trans hx285_2; replace p285 := eq_true p285; replace q285 := eq_true q285; go_wp2_with (first | ((with_reducible refine gate_dst (N := 5) rfl ?_); refine box_event ?hg (N := 5) ?hd (cs := #[.int .i64 0, .int .i64 0, .string (⟨#[]⟩ : ByteArray)]) (t := 42) ?hr ?_; (case hd => rfl); (case hg => rfl); (case hr => first | (go_simp; done) | (go_simp; rfl)); intro gb286 hg w28 hbox hb; have n0_ := Aside0.mk (Kd.R_below (hrR_ HO_3.out) hb); have n1_ := Aside0.mk (below_step hb_ hb); have n2_ := Aside0.mk (hbox); have n3_ := Aside0.mk ((by rw [hg]; exact (below_size hb_) : w.heap.size ≤ gb286)); have n4_ := Aside0.mk ((by rw [hg]; exact (below_size hb_) : w.heap.size ≤ gb286)); clear HO_3; clear HB; have HO_3 := n0_; have HB := n1_; have BK286 := n2_; have GW286 := n3_; have GE286 := n4_; clear n0_ n1_ n2_ n3_ n4_; clear hb hbox hg; have hcz29_0 : w28.cell? ⟨gb286, 0, none⟩ = some (.int .i64 0) := (blk_cell BK286.out 0).trans rfl; have hcz29_1 : w28.cell? ⟨gb286, 1, none⟩ = some (.int .i64 0) := (blk_cell BK286.out 1).trans rfl; have hcz29_2 : w28.cell? ⟨gb286, 2, none⟩ = some (.string (⟨#[]⟩ : ByteArray)) := (blk_cell BK286.out 2).trans rfl; have hfz29_0 := blk_frozen BK286.out 0; have hfz29_1 := blk_frozen BK286.out 1; have hfz29_2 := blk_frozen BK286.out 2) | (at_builtin; refine print_append_str (w0 := w) w.heap.size rfl (.tmp 37) _ 60 9 5 rfl Try.underlying60 Try.underlying9 info5 u3 x3_1 (⟨#[46, 46]⟩ : ByteArray) rfl rfl ?aO ?aB ?aS ?aL ?_; (case aB => exact (by repeat (first | (with_reducible first | exact HB.out | apply below_alloc | apply pw_below_drewN | apply below_drew1 | refine below_set ?_ GE286.out) | exact HB.out))); (case aO => exact (Kd.own_of_R (by (with_reducible repeat (first | apply Kd.R_alloc | apply Kd.R_drewN | apply Kd.R_drew)); exact Kd.R_mono (Kd.R_far (p := ⟨gb286, 2, none⟩) (Kd.R_far (p := ⟨gb286, 1, none⟩) (Kd.R_far (p := ⟨gb286, 0, none⟩) (Kd.R_types HO_3.out BK286.out (by decide)) (fun _ hk => hk.2) (.int .i64 ((rd_T42 l0 x8_1).f0))) (fun _ hk => hk.2) (.int .i64 ((rd_T42 l0 x8_1).f1))) (fun _ hk => hk.2) (.string ((rd_T42 l0 x8_1).f2))) (fun _ hk => trivial)))); (case aS => exact (below_size (by repeat (first | (with_reducible first | exact HB.out | apply below_alloc | apply pw_below_drewN | apply below_drew1 | refine below_set ?_ GE286.out) | exact HB.out)))); (case aL => have := LMc27.out; have e_ : (⟨#[46, 46]⟩ : ByteArray).size = 2 := rfl; omega); intro v301 w30 ho0 hb hg; have ho := Kd.R_of_own (h1 := fun _ => rfl) (ok := fun _ => True) ho0 (fun _ _ => trivial); clear ho0; have hat := True.intro; rw [← Ny300.out] at ho; change Kd.R (Kd.int .u8) 5 w30 w.heap.size (fun _ => True) v301 y300 at ho; have n0_ := Aside0.mk (blk_grown (g := gb286) (o := .cells #[.int .i64 ((rd_T42 l0 x8_1).f0), .int .i64 ((rd_T42 l0 x8_1).f1), .string ((rd_T42 l0 x8_1).f2)] 42 (0, 0)) (by (with_reducible repeat (first | refine blk_drewN ?_ _ | refine blk_drew ?_ | refine blk_alloc ?_ _)); refine blk_put (cs := #[.int .i64 ((rd_T42 l0 x8_1).f0), .int .i64 ((rd_T42 l0 x8_1).f1), .string (⟨#[]⟩ : ByteArray)]) ?_ 2 _ rfl; (with_reducible repeat (first | refine blk_drewN ?_ _ | refine blk_drew ?_ | refine blk_alloc ?_ _)); refine blk_put (cs := #[.int .i64 ((rd_T42 l0 x8_1).f0), .int .i64 0, .string (⟨#[]⟩ : ByteArray)]) ?_ 1 _ rfl; (with_reducible repeat (first | refine blk_drewN ?_ _ | refine blk_drew ?_ | refine blk_alloc ?_ _)); refine blk_put (cs := #[.int .i64 0, .int .i64 0, .string (⟨#[]⟩ : ByteArray)]) ?_ 0 _ rfl; (with_reducible repeat (first | refine blk_drewN ?_ _ | refine blk_drew ?_ | refine blk_alloc ?_ _)); exact BK286.out) hg (Kd.R_ne HO_3.out BK286.out (by decide))); have n1_ := Aside0.mk (hb); have n2_ := Aside0.mk (ho); clear BK286; clear HB; clear HO_3; have BK286 := n0_; have HB := n1_; have HO302 := n2_; clear n0_ n1_ n2_; clear ho hb hg hat))
         go_roundg k1
         case measure => have := HK1.out; omega
         case rel => exact ⟨(y300), (wrap64 (x8_1 + 1)), rf_, H', ⟨by have := HK1.out; omega⟩, ⟨by (with_reducible repeat (first | apply Kd.R_alloc | apply Kd.R_drewN | apply Kd.R_drew)); exact HO302.out⟩, ⟨by repeat (first | (with_reducible first | exact HB.out | apply below_alloc | apply pw_below_drewN | apply below_drew1 | refine below_set ?_ GE286.out) | exact HB.out)⟩⟩
        ·rw [if_neg c27] at H
         exact absurd H (by simp)
       ·rw [if_neg c26] at H
        have c26b0 : (((rd_T42 l0 x8_1).f0) == 2) = false := beq_eq_false_iff_ne.mpr c26; have c26b1 : (((rd_T42 l0 x8_1).f0) != 2) = true := bne_iff_ne.mpr c26
        by_cases c31 : ((rd_T42 l0 x8_1).f0) = 1
        ·rw [if_pos c31] at H
         have c31b0 : (((rd_T42 l0 x8_1).f0) == 1) = true := beq_iff_eq.mpr c31; have c31b1 : (((rd_T42 l0 x8_1).f0) != 1) = false := bne_eq_false_iff_eq.mpr c31; clear c31; obtain ⟨ji32, hji32⟩ : ∃ j_ : Int, (wrap64 (((rd_T42 l0 x8_1).f0) - 1)) = j_ := ⟨_, rfl⟩; (replace H : (if 0 ≤ (ji32) then (if (ji32) < 8 then (if x3_1.length < 140737488355328 then (lex_Show.l0 k1 l0 (x3_1 ++ [bt (⟨#[47, 46, 42, 91, 93, 44, 63, 126]⟩ : ByteArray) (ji32)]) l0 (l0.length : Int) (wrap64 (x8_1 + 1))) else (none)) else (none)) else (none)) = some r := by first | (rw [hji32] at H; exact H) | (simp only [hji32] at H ⊢; exact H)); have hji32w : (IntKind.i64.wrap (((rd_T42 l0 x8_1).f0) - 1)) = ji32 := (i64_w _).trans hji32
         by_cases c33 : 0 ≤ (ji32)
         ·rw [if_pos c33] at H
          have c33b0 : decide (0 ≤ (ji32)) = true := decide_eq_true c33; clear c33
          by_cases c34 : (ji32) < 8
          ·rw [if_pos c34] at H
           have c34b0 : decide ((ji32) < 8) = true := decide_eq_true c34; clear c34
           by_cases c36 : x3_1.length < 140737488355328
           ·rw [if_pos c36] at H
            have LMc36 := Aside0.mk c36; clear c36; obtain ⟨y303, hy303⟩ : ∃ y_ : List Int, y_ = (x3_1 ++ [bt (⟨#[47, 46, 42, 91, 93, 44, 63, 126]⟩ : ByteArray) (ji32)]) := ⟨_, rfl⟩; (replace H : (lex_Show.l0 k1 l0 y303 l0 (l0.length : Int) (wrap64 (x8_1 + 1))) = some r := hy_ hy303 H); have Ny303 := Aside0.mk hy303; clear hy303; have H' := Aside0.mk H; clear H; have p285 : 0 ≤ (x8_1 : Int) := od_; have q285 : x8_1 < (l0.length : Int) := od_; obtain ⟨ad285, e285, hx285_0, hx285_1, hx285_2⟩ := at_T42 HR0.out x8_1 p285 q285
            cases e285
            replace hx285_0 := (HB.out.cell (World.block_lt_of_cell? w _ hx285_0)).trans hx285_0; replace hx285_1 := (HB.out.cell (World.block_lt_of_cell? w _ hx285_1)).trans hx285_1; replace hx285_2 := (HB.out.cell (World.block_lt_of_cell? w _ hx285_2)).trans hx285_2; replace p285 := eq_true p285; replace q285 := eq_true q285; go_wp2_with (first | ((with_reducible refine gate_dst (N := 5) rfl ?_); refine box_event ?hg (N := 5) ?hd (cs := #[.int .i64 0, .int .i64 0, .string (⟨#[]⟩ : ByteArray)]) (t := 42) ?hr ?_; (case hd => rfl); (case hg => rfl); (case hr => first | (go_simp; done) | (go_simp; rfl)); intro gb286 hg w37 hbox hb; have n0_ := Aside0.mk (Kd.R_below (hrR_ HO_3.out) hb); have n1_ := Aside0.mk (below_step hb_ hb); have n2_ := Aside0.mk (hbox); have n3_ := Aside0.mk ((by rw [hg]; exact (below_size hb_) : w.heap.size ≤ gb286)); have n4_ := Aside0.mk ((by rw [hg]; exact (below_size hb_) : w.heap.size ≤ gb286)); clear HO_3; clear HB; have HO_3 := n0_; have HB := n1_; have BK286 := n2_; have GW286 := n3_; have GE286 := n4_; clear n0_ n1_ n2_ n3_ n4_; clear hb hbox hg; have hcz38_0 : w37.cell? ⟨gb286, 0, none⟩ = some (.int .i64 0) := (blk_cell BK286.out 0).trans rfl; have hcz38_1 : w37.cell? ⟨gb286, 1, none⟩ = some (.int .i64 0) := (blk_cell BK286.out 1).trans rfl; have hcz38_2 : w37.cell? ⟨gb286, 2, none⟩ = some (.string (⟨#[]⟩ : ByteArray)) := (blk_cell BK286.out 2).trans rfl; have hfz38_0 := blk_frozen BK286.out 0; have hfz38_1 := blk_frozen BK286.out 1; have hfz38_2 := blk_frozen BK286.out 2; have p35 : 0 ≤ ((ji32) : Int) := od_; have q35 : (ji32) < (8 : Int) := od_; have hx35 := bt_at (⟨#[47, 46, 42, 91, 93, 44, 63, 126]⟩ : ByteArray) (ji32); replace p35 := eq_true p35; replace q35 := eq_true q35) | ((with_reducible refine gate_builtin (b := .append) (xs := #[.tmp 47, .tmp 52]) rfl ?_); at_builtin; refine Kd.R_append (Kd.int .u8) (w0 := w) w.heap.size rfl (.tmp 47) (.tmp 52) 60 5 (.int .u8 0) 1 rfl Try.underlying60 info5 rfl (by decide) (by omega) u3 x3_1 (bt (⟨#[47, 46, 42, 91, 93, 44, 63, 126]⟩ : ByteArray) (ji32)) [.int .u8 (bt (⟨#[47, 46, 42, 91, 93, 44, 63, 126]⟩ : ByteArray) (ji32))] (fun _ => True) (fun _ => False) rfl (by first | (go_simp; done) | (go_simp; rfl)) ?aP (fun _ hk => hk.elim) ?aF ?aO ?aB ?aS ?aL ?_; (case aP => exact rfl); (case aB => exact (by repeat (first | (with_reducible first | exact HB.out | apply below_alloc | apply pw_below_drewN | apply below_drew1 | refine below_set ?_ GE286.out) | exact HB.out))); (case aF => exact (fun _ _ => trivial)); (case aO => exact (by (with_reducible repeat (first | apply Kd.R_alloc | apply Kd.R_drewN | apply Kd.R_drew)); exact Kd.R_mono (Kd.R_far (p := ⟨gb286, 2, none⟩) (Kd.R_far (p := ⟨gb286, 1, none⟩) (Kd.R_far (p := ⟨gb286, 0, none⟩) (Kd.R_types HO_3.out BK286.out (by decide)) (fun _ hk => hk.2) (.int .i64 ((rd_T42 l0 x8_1).f0))) (fun _ hk => hk.2) (.int .i64 ((rd_T42 l0 x8_1).f1))) (fun _ hk => hk.2) (.string ((rd_T42 l0 x8_1).f2))) (fun _ hk => trivial))); (case aS => exact (below_size (by repeat (first | (with_reducible first | exact HB.out | apply below_alloc | apply pw_below_drewN | apply below_drew1 | refine below_set ?_ GE286.out) | exact HB.out)))); (case aL => have := LMc36.out; omega); intro v304 w39 ho hb hg hat; rw [← Ny303.out] at ho; have n0_ := Aside0.mk (blk_grown (g := gb286) (o := .cells #[.int .i64 ((rd_T42 l0 x8_1).f0), .int .i64 ((rd_T42 l0 x8_1).f1), .string ((rd_T42 l0 x8_1).f2)] 42 (0, 0)) (by (with_reducible repeat (first | refine blk_drewN ?_ _ | refine blk_drew ?_ | refine blk_alloc ?_ _)); refine blk_put (cs := #[.int .i64 ((rd_T42 l0 x8_1).f0), .int .i64 ((rd_T42 l0 x8_1).f1), .string (⟨#[]⟩ : ByteArray)]) ?_ 2 _ rfl; (with_reducible repeat (first | refine blk_drewN ?_ _ | refine blk_drew ?_ | refine blk_alloc ?_ _)); refine blk_put (cs := #[.int .i64 ((rd_T42 l0 x8_1).f0), .int .i64 0, .string (⟨#[]⟩ : ByteArray)]) ?_ 1 _ rfl; (with_reducible repeat (first | refine blk_drewN ?_ _ | refine blk_drew ?_ | refine blk_alloc ?_ _)); refine blk_put (cs := #[.int .i64 0, .int .i64 0, .string (⟨#[]⟩ : ByteArray)]) ?_ 0 _ rfl; (with_reducible repeat (first | refine blk_drewN ?_ _ | refine blk_drew ?_ | refine blk_alloc ?_ _)); exact BK286.out) hg (Kd.R_ne HO_3.out BK286.out (by decide))); have n1_ := Aside0.mk (hb); have n2_ := Aside0.mk (ho); clear BK286; clear HB; clear HO_3; have BK286 := n0_; have HB := n1_; have HO305 := n2_; clear n0_ n1_ n2_; clear ho hb hg hat))
            go_roundg k1
            case measure => have := HK1.out; omega
            case rel => exact ⟨(y303), (wrap64 (x8_1 + 1)), rf_, H', ⟨by have := HK1.out; omega⟩, ⟨by (with_reducible repeat (first | apply Kd.R_alloc | apply Kd.R_drewN | apply Kd.R_drew)); exact HO305.out⟩, ⟨by repeat (first | (with_reducible first | exact HB.out | apply below_alloc | apply pw_below_drewN | apply below_drew1 | refine below_set ?_ GE286.out) | exact HB.out)⟩⟩
           ·rw [if_neg c36] at H
            exact absurd H (by simp)
          ·rw [if_neg c34] at H
           exact absurd H (by simp)
         ·rw [if_neg c33] at H
          exact absurd H (by simp)
        ·rw [if_neg c31] at H
         have c31b0 : (((rd_T42 l0 x8_1).f0) == 1) = false := beq_eq_false_iff_ne.mpr c31; have c31b1 : (((rd_T42 l0 x8_1).f0) != 1) = true := bne_iff_ne.mpr c31
         by_cases c40 : ((rd_T42 l0 x8_1).f0) = 3
         ·rw [if_pos c40] at H
          have c40b0 : (((rd_T42 l0 x8_1).f0) == 3) = true := beq_iff_eq.mpr c40; have c40b1 : (((rd_T42 l0 x8_1).f0) != 3) = false := bne_eq_false_iff_eq.mpr c40; clear c40; obtain ⟨ji41, hji41⟩ : ∃ j_ : Int, (wrap64 (((rd_T42 l0 x8_1).f0) - 1)) = j_ := ⟨_, rfl⟩; (replace H : (if 0 ≤ (ji41) then (if (ji41) < 8 then (if x3_1.length < 140737488355328 then (lex_Show.l0 k1 l0 (x3_1 ++ [bt (⟨#[47, 46, 42, 91, 93, 44, 63, 126]⟩ : ByteArray) (ji41)]) l0 (l0.length : Int) (wrap64 (x8_1 + 1))) else (none)) else (none)) else (none)) = some r := by first | (rw [hji41] at H; exact H) | (simp only [hji41] at H ⊢; exact H)); have hji41w : (IntKind.i64.wrap (((rd_T42 l0 x8_1).f0) - 1)) = ji41 := (i64_w _).trans hji41
          by_cases c42 : 0 ≤ (ji41)
          ·rw [if_pos c42] at H
           have c42b0 : decide (0 ≤ (ji41)) = true := decide_eq_true c42; clear c42
           by_cases c43 : (ji41) < 8
           ·rw [if_pos c43] at H
            have c43b0 : decide ((ji41) < 8) = true := decide_eq_true c43; clear c43
            by_cases c45 : x3_1.length < 140737488355328
            ·rw [if_pos c45] at H
             have LMc45 := Aside0.mk c45; clear c45; obtain ⟨y306, hy306⟩ : ∃ y_ : List Int, y_ = (x3_1 ++ [bt (⟨#[47, 46, 42, 91, 93, 44, 63, 126]⟩ : ByteArray) (ji41)]) := ⟨_, rfl⟩; (replace H : (lex_Show.l0 k1 l0 y306 l0 (l0.length : Int) (wrap64 (x8_1 + 1))) = some r := hy_ hy306 H); have Ny306 := Aside0.mk hy306; clear hy306; have H' := Aside0.mk H; clear H; have p285 : 0 ≤ (x8_1 : Int) := od_; have q285 : x8_1 < (l0.length : Int) := od_; obtain ⟨ad285, e285, hx285_0, hx285_1, hx285_2⟩ := at_T42 HR0.out x8_1 p285 q285
             cases e285
             replace hx285_0 := (HB.out.cell (World.block_lt_of_cell? w _ hx285_0)).trans hx285_0; replace hx285_1 := (HB.out.cell (World.block_lt_of_cell? w _ hx285_1)).trans hx285_1; replace hx285_2 := (HB.out.cell (World.block_lt_of_cell? w _ hx285_2)).trans hx285_2; replace p285 := eq_true p285; replace q285 := eq_true q285; go_wp2_with (first | ((with_reducible refine gate_dst (N := 5) rfl ?_); refine box_event ?hg (N := 5) ?hd (cs := #[.int .i64 0, .int .i64 0, .string (⟨#[]⟩ : ByteArray)]) (t := 42) ?hr ?_; (case hd => rfl); (case hg => rfl); (case hr => first | (go_simp; done) | (go_simp; rfl)); intro gb286 hg w46 hbox hb; have n0_ := Aside0.mk (Kd.R_below (hrR_ HO_3.out) hb); have n1_ := Aside0.mk (below_step hb_ hb); have n2_ := Aside0.mk (hbox); have n3_ := Aside0.mk ((by rw [hg]; exact (below_size hb_) : w.heap.size ≤ gb286)); have n4_ := Aside0.mk ((by rw [hg]; exact (below_size hb_) : w.heap.size ≤ gb286)); clear HO_3; clear HB; have HO_3 := n0_; have HB := n1_; have BK286 := n2_; have GW286 := n3_; have GE286 := n4_; clear n0_ n1_ n2_ n3_ n4_; clear hb hbox hg; have hcz47_0 : w46.cell? ⟨gb286, 0, none⟩ = some (.int .i64 0) := (blk_cell BK286.out 0).trans rfl; have hcz47_1 : w46.cell? ⟨gb286, 1, none⟩ = some (.int .i64 0) := (blk_cell BK286.out 1).trans rfl; have hcz47_2 : w46.cell? ⟨gb286, 2, none⟩ = some (.string (⟨#[]⟩ : ByteArray)) := (blk_cell BK286.out 2).trans rfl; have hfz47_0 := blk_frozen BK286.out 0; have hfz47_1 := blk_frozen BK286.out 1; have hfz47_2 := blk_frozen BK286.out 2; have p44 : 0 ≤ ((ji41) : Int) := od_; have q44 : (ji41) < (8 : Int) := od_; have hx44 := bt_at (⟨#[47, 46, 42, 91, 93, 44, 63, 126]⟩ : ByteArray) (ji41); replace p44 := eq_true p44; replace q44 := eq_true q44) | ((with_reducible refine gate_builtin (b := .append) (xs := #[.tmp 47, .tmp 52]) rfl ?_); at_builtin; refine Kd.R_append (Kd.int .u8) (w0 := w) w.heap.size rfl (.tmp 47) (.tmp 52) 60 5 (.int .u8 0) 1 rfl Try.underlying60 info5 rfl (by decide) (by omega) u3 x3_1 (bt (⟨#[47, 46, 42, 91, 93, 44, 63, 126]⟩ : ByteArray) (ji41)) [.int .u8 (bt (⟨#[47, 46, 42, 91, 93, 44, 63, 126]⟩ : ByteArray) (ji41))] (fun _ => True) (fun _ => False) rfl (by first | (go_simp; done) | (go_simp; rfl)) ?aP (fun _ hk => hk.elim) ?aF ?aO ?aB ?aS ?aL ?_; (case aP => exact rfl); (case aB => exact (by repeat (first | (with_reducible first | exact HB.out | apply below_alloc | apply pw_below_drewN | apply below_drew1 | refine below_set ?_ GE286.out) | exact HB.out))); (case aF => exact (fun _ _ => trivial)); (case aO => exact (by (with_reducible repeat (first | apply Kd.R_alloc | apply Kd.R_drewN | apply Kd.R_drew)); exact Kd.R_mono (Kd.R_far (p := ⟨gb286, 2, none⟩) (Kd.R_far (p := ⟨gb286, 1, none⟩) (Kd.R_far (p := ⟨gb286, 0, none⟩) (Kd.R_types HO_3.out BK286.out (by decide)) (fun _ hk => hk.2) (.int .i64 ((rd_T42 l0 x8_1).f0))) (fun _ hk => hk.2) (.int .i64 ((rd_T42 l0 x8_1).f1))) (fun _ hk => hk.2) (.string ((rd_T42 l0 x8_1).f2))) (fun _ hk => trivial))); (case aS => exact (below_size (by repeat (first | (with_reducible first | exact HB.out | apply below_alloc | apply pw_below_drewN | apply below_drew1 | refine below_set ?_ GE286.out) | exact HB.out)))); (case aL => have := LMc45.out; omega); intro v307 w48 ho hb hg hat; rw [← Ny306.out] at ho; have n0_ := Aside0.mk (blk_grown (g := gb286) (o := .cells #[.int .i64 ((rd_T42 l0 x8_1).f0), .int .i64 ((rd_T42 l0 x8_1).f1), .string ((rd_T42 l0 x8_1).f2)] 42 (0, 0)) (by (with_reducible repeat (first | refine blk_drewN ?_ _ | refine blk_drew ?_ | refine blk_alloc ?_ _)); refine blk_put (cs := #[.int .i64 ((rd_T42 l0 x8_1).f0), .int .i64 ((rd_T42 l0 x8_1).f1), .string (⟨#[]⟩ : ByteArray)]) ?_ 2 _ rfl; (with_reducible repeat (first | refine blk_drewN ?_ _ | refine blk_drew ?_ | refine blk_alloc ?_ _)); refine blk_put (cs := #[.int .i64 ((rd_T42 l0 x8_1).f0), .int .i64 0, .string (⟨#[]⟩ : ByteArray)]) ?_ 1 _ rfl; (with_reducible repeat (first | refine blk_drewN ?_ _ | refine blk_drew ?_ | refine blk_alloc ?_ _)); refine blk_put (cs := #[.int .i64 0, .int .i64 0, .string (⟨#[]⟩ : ByteArray)]) ?_ 0 _ rfl; (with_reducible repeat (first | refine blk_drewN ?_ _ | refine blk_drew ?_ | refine blk_alloc ?_ _)); exact BK286.out) hg (Kd.R_ne HO_3.out BK286.out (by decide))); have n1_ := Aside0.mk (hb); have n2_ := Aside0.mk (ho); clear BK286; clear HB; clear HO_3; have BK286 := n0_; have HB := n1_; have HO308 := n2_; clear n0_ n1_ n2_; clear ho hb hg hat))
             go_roundg k1
             case measure => have := HK1.out; omega
             case rel => exact ⟨(y306), (wrap64 (x8_1 + 1)), rf_, H', ⟨by have := HK1.out; omega⟩, ⟨by (with_reducible repeat (first | apply Kd.R_alloc | apply Kd.R_drewN | apply Kd.R_drew)); exact HO308.out⟩, ⟨by repeat (first | (with_reducible first | exact HB.out | apply below_alloc | apply pw_below_drewN | apply below_drew1 | refine below_set ?_ GE286.out) | exact HB.out)⟩⟩
            ·rw [if_neg c45] at H
             exact absurd H (by simp)
           ·rw [if_neg c43] at H
            exact absurd H (by simp)
          ·rw [if_neg c42] at H
           exact absurd H (by simp)
         ·rw [if_neg c40] at H
          have c40b0 : (((rd_T42 l0 x8_1).f0) == 3) = false := beq_eq_false_iff_ne.mpr c40; have c40b1 : (((rd_T42 l0 x8_1).f0) != 3) = true := bne_iff_ne.mpr c40
          by_cases c49 : ((rd_T42 l0 x8_1).f0) = 4
          ·rw [if_pos c49] at H
           have c49b0 : (((rd_T42 l0 x8_1).f0) == 4) = true := beq_iff_eq.mpr c49; have c49b1 : (((rd_T42 l0 x8_1).f0) != 4) = false := bne_eq_false_iff_eq.mpr c49; clear c49; obtain ⟨ji50, hji50⟩ : ∃ j_ : Int, (wrap64 (((rd_T42 l0 x8_1).f0) - 1)) = j_ := ⟨_, rfl⟩; (replace H : (if 0 ≤ (ji50) then (if (ji50) < 8 then (if x3_1.length < 140737488355328 then (lex_Show.l0 k1 l0 (x3_1 ++ [bt (⟨#[47, 46, 42, 91, 93, 44, 63, 126]⟩ : ByteArray) (ji50)]) l0 (l0.length : Int) (wrap64 (x8_1 + 1))) else (none)) else (none)) else (none)) = some r := by first | (rw [hji50] at H; exact H) | (simp only [hji50] at H ⊢; exact H)); have hji50w : (IntKind.i64.wrap (((rd_T42 l0 x8_1).f0) - 1)) = ji50 := (i64_w _).trans hji50
           by_cases c51 : 0 ≤ (ji50)
           ·rw [if_pos c51] at H
            have c51b0 : decide (0 ≤ (ji50)) = true := decide_eq_true c51; clear c51
            by_cases c52 : (ji50) < 8
            ·rw [if_pos c52] at H
             have c52b0 : decide ((ji50) < 8) = true := decide_eq_true c52; clear c52
             by_cases c54 : x3_1.length < 140737488355328
             ·rw [if_pos c54] at H
              have LMc54 := Aside0.mk c54; clear c54; obtain ⟨y309, hy309⟩ : ∃ y_ : List Int, y_ = (x3_1 ++ [bt (⟨#[47, 46, 42, 91, 93, 44, 63, 126]⟩ : ByteArray) (ji50)]) := ⟨_, rfl⟩; (replace H : (lex_Show.l0 k1 l0 y309 l0 (l0.length : Int) (wrap64 (x8_1 + 1))) = some r := hy_ hy309 H); have Ny309 := Aside0.mk hy309; clear hy309; have H' := Aside0.mk H; clear H; have p285 : 0 ≤ (x8_1 : Int) := od_; have q285 : x8_1 < (l0.length : Int) := od_; obtain ⟨ad285, e285, hx285_0, hx285_1, hx285_2⟩ := at_T42 HR0.out x8_1 p285 q285
              cases e285
              replace hx285_0 := (HB.out.cell (World.block_lt_of_cell? w _ hx285_0)).trans hx285_0; replace hx285_1 := (HB.out.cell (World.block_lt_of_cell? w _ hx285_1)).trans hx285_1; replace hx285_2 := (HB.out.cell (World.block_lt_of_cell? w _ hx285_2)).trans hx285_2; replace p285 := eq_true p285; replace q285 := eq_true q285; go_wp2_with (first | ((with_reducible refine gate_dst (N := 5) rfl ?_); refine box_event ?hg (N := 5) ?hd (cs := #[.int .i64 0, .int .i64 0, .string (⟨#[]⟩ : ByteArray)]) (t := 42) ?hr ?_; (case hd => rfl); (case hg => rfl); (case hr => first | (go_simp; done) | (go_simp; rfl)); intro gb286 hg w55 hbox hb; have n0_ := Aside0.mk (Kd.R_below (hrR_ HO_3.out) hb); have n1_ := Aside0.mk (below_step hb_ hb); have n2_ := Aside0.mk (hbox); have n3_ := Aside0.mk ((by rw [hg]; exact (below_size hb_) : w.heap.size ≤ gb286)); have n4_ := Aside0.mk ((by rw [hg]; exact (below_size hb_) : w.heap.size ≤ gb286)); clear HO_3; clear HB; have HO_3 := n0_; have HB := n1_; have BK286 := n2_; have GW286 := n3_; have GE286 := n4_; clear n0_ n1_ n2_ n3_ n4_; clear hb hbox hg; have hcz56_0 : w55.cell? ⟨gb286, 0, none⟩ = some (.int .i64 0) := (blk_cell BK286.out 0).trans rfl; have hcz56_1 : w55.cell? ⟨gb286, 1, none⟩ = some (.int .i64 0) := (blk_cell BK286.out 1).trans rfl; have hcz56_2 : w55.cell? ⟨gb286, 2, none⟩ = some (.string (⟨#[]⟩ : ByteArray)) := (blk_cell BK286.out 2).trans rfl; have hfz56_0 := blk_frozen BK286.out 0; have hfz56_1 := blk_frozen BK286.out 1; have hfz56_2 := blk_frozen BK286.out 2; have p53 : 0 ≤ ((ji50) : Int) := od_; have q53 : (ji50) < (8 : Int) := od_; have hx53 := bt_at (⟨#[47, 46, 42, 91, 93, 44, 63, 126]⟩ : ByteArray) (ji50); replace p53 := eq_true p53; replace q53 := eq_true q53) | ((with_reducible refine gate_builtin (b := .append) (xs := #[.tmp 47, .tmp 52]) rfl ?_); at_builtin; refine Kd.R_append (Kd.int .u8) (w0 := w) w.heap.size rfl (.tmp 47) (.tmp 52) 60 5 (.int .u8 0) 1 rfl Try.underlying60 info5 rfl (by decide) (by omega) u3 x3_1 (bt (⟨#[47, 46, 42, 91, 93, 44, 63, 126]⟩ : ByteArray) (ji50)) [.int .u8 (bt (⟨#[47, 46, 42, 91, 93, 44, 63, 126]⟩ : ByteArray) (ji50))] (fun _ => True) (fun _ => False) rfl (by first | (go_simp; done) | (go_simp; rfl)) ?aP (fun _ hk => hk.elim) ?aF ?aO ?aB ?aS ?aL ?_; (case aP => exact rfl); (case aB => exact (by repeat (first | (with_reducible first | exact HB.out | apply below_alloc | apply pw_below_drewN | apply below_drew1 | refine below_set ?_ GE286.out) | exact HB.out))); (case aF => exact (fun _ _ => trivial)); (case aO => exact (by (with_reducible repeat (first | apply Kd.R_alloc | apply Kd.R_drewN | apply Kd.R_drew)); exact Kd.R_mono (Kd.R_far (p := ⟨gb286, 2, none⟩) (Kd.R_far (p := ⟨gb286, 1, none⟩) (Kd.R_far (p := ⟨gb286, 0, none⟩) (Kd.R_types HO_3.out BK286.out (by decide)) (fun _ hk => hk.2) (.int .i64 ((rd_T42 l0 x8_1).f0))) (fun _ hk => hk.2) (.int .i64 ((rd_T42 l0 x8_1).f1))) (fun _ hk => hk.2) (.string ((rd_T42 l0 x8_1).f2))) (fun _ hk => trivial))); (case aS => exact (below_size (by repeat (first | (with_reducible first | exact HB.out | apply below_alloc | apply pw_below_drewN | apply below_drew1 | refine below_set ?_ GE286.out) | exact HB.out)))); (case aL => have := LMc54.out; omega); intro v310 w57 ho hb hg hat; rw [← Ny309.out] at ho; have n0_ := Aside0.mk (blk_grown (g := gb286) (o := .cells #[.int .i64 ((rd_T42 l0 x8_1).f0), .int .i64 ((rd_T42 l0 x8_1).f1), .string ((rd_T42 l0 x8_1).f2)] 42 (0, 0)) (by (with_reducible repeat (first | refine blk_drewN ?_ _ | refine blk_drew ?_ | refine blk_alloc ?_ _)); refine blk_put (cs := #[.int .i64 ((rd_T42 l0 x8_1).f0), .int .i64 ((rd_T42 l0 x8_1).f1), .string (⟨#[]⟩ : ByteArray)]) ?_ 2 _ rfl; (with_reducible repeat (first | refine blk_drewN ?_ _ | refine blk_drew ?_ | refine blk_alloc ?_ _)); refine blk_put (cs := #[.int .i64 ((rd_T42 l0 x8_1).f0), .int .i64 0, .string (⟨#[]⟩ : ByteArray)]) ?_ 1 _ rfl; (with_reducible repeat (first | refine blk_drewN ?_ _ | refine blk_drew ?_ | refine blk_alloc ?_ _)); refine blk_put (cs := #[.int .i64 0, .int .i64 0, .string (⟨#[]⟩ : ByteArray)]) ?_ 0 _ rfl; (with_reducible repeat (first | refine blk_drewN ?_ _ | refine blk_drew ?_ | refine blk_alloc ?_ _)); exact BK286.out) hg (Kd.R_ne HO_3.out BK286.out (by decide))); have n1_ := Aside0.mk (hb); have n2_ := Aside0.mk (ho); clear BK286; clear HB; clear HO_3; have BK286 := n0_; have HB := n1_; have HO311 := n2_; clear n0_ n1_ n2_; clear ho hb hg hat))
              go_roundg k1
              case measure => have := HK1.out; omega
              case rel => exact ⟨(y309), (wrap64 (x8_1 + 1)), rf_, H', ⟨by have := HK1.out; omega⟩, ⟨by (with_reducible repeat (first | apply Kd.R_alloc | apply Kd.R_drewN | apply Kd.R_drew)); exact HO311.out⟩, ⟨by repeat (first | (with_reducible first | exact HB.out | apply below_alloc | apply pw_below_drewN | apply below_drew1 | refine below_set ?_ GE286.out) | exact HB.out)⟩⟩
             ·rw [if_neg c54] at H
              exact absurd H (by simp)
            ·rw [if_neg c52] at H
             exact absurd H (by simp)
           ·rw [if_neg c51] at H
            exact absurd H (by simp)
          ·rw [if_neg c49] at H
           have c49b0 : (((rd_T42 l0 x8_1).f0) == 4) = false := beq_eq_false_iff_ne.mpr c49; have c49b1 : (((rd_T42 l0 x8_1).f0) != 4) = true := bne_iff_ne.mpr c49
           by_cases c58 : ((rd_T42 l0 x8_1).f0) = 5
           ·rw [if_pos c58] at H
            have c58b0 : (((rd_T42 l0 x8_1).f0) == 5) = true := beq_iff_eq.mpr c58; have c58b1 : (((rd_T42 l0 x8_1).f0) != 5) = false := bne_eq_false_iff_eq.mpr c58; clear c58; obtain ⟨ji59, hji59⟩ : ∃ j_ : Int, (wrap64 (((rd_T42 l0 x8_1).f0) - 1)) = j_ := ⟨_, rfl⟩; (replace H : (if 0 ≤ (ji59) then (if (ji59) < 8 then (if x3_1.length < 140737488355328 then (lex_Show.l0 k1 l0 (x3_1 ++ [bt (⟨#[47, 46, 42, 91, 93, 44, 63, 126]⟩ : ByteArray) (ji59)]) l0 (l0.length : Int) (wrap64 (x8_1 + 1))) else (none)) else (none)) else (none)) = some r := by first | (rw [hji59] at H; exact H) | (simp only [hji59] at H ⊢; exact H)); have hji59w : (IntKind.i64.wrap (((rd_T42 l0 x8_1).f0) - 1)) = ji59 := (i64_w _).trans hji59
            by_cases c60 : 0 ≤ (ji59)
            ·rw [if_pos c60] at H
             have c60b0 : decide (0 ≤ (ji59)) = true := decide_eq_true c60; clear c60
             by_cases c61 : (ji59) < 8
             ·rw [if_pos c61] at H
              have c61b0 : decide ((ji59) < 8) = true := decide_eq_true c61; clear c61
              by_cases c63 : x3_1.length < 140737488355328
              ·rw [if_pos c63] at H
               have LMc63 := Aside0.mk c63; clear c63; obtain ⟨y312, hy312⟩ : ∃ y_ : List Int, y_ = (x3_1 ++ [bt (⟨#[47, 46, 42, 91, 93, 44, 63, 126]⟩ : ByteArray) (ji59)]) := ⟨_, rfl⟩; (replace H : (lex_Show.l0 k1 l0 y312 l0 (l0.length : Int) (wrap64 (x8_1 + 1))) = some r := hy_ hy312 H); have Ny312 := Aside0.mk hy312; clear hy312; have H' := Aside0.mk H; clear H; have p285 : 0 ≤ (x8_1 : Int) := od_; have q285 : x8_1 < (l0.length : Int) := od_; obtain ⟨ad285, e285, hx285_0, hx285_1, hx285_2⟩ := at_T42 HR0.out x8_1 p285 q285
               cases e285
               replace hx285_0 := (HB.out.cell (World.block_lt_of_cell? w _ hx285_0)).trans hx285_0; replace hx285_1 := (HB.out.cell (World.block_lt_of_cell? w _ hx285_1)).trans hx285_1; replace hx285_2 := (HB.out.cell (World.block_lt_of_cell? w _ hx285_2)).trans hx285_2; replace p285 := eq_true p285; replace q285 := eq_true q285; go_wp2_with (first | ((with_reducible refine gate_dst (N := 5) rfl ?_); refine box_event ?hg (N := 5) ?hd (cs := #[.int .i64 0, .int .i64 0, .string (⟨#[]⟩ : ByteArray)]) (t := 42) ?hr ?_; (case hd => rfl); (case hg => rfl); (case hr => first | (go_simp; done) | (go_simp; rfl)); intro gb286 hg w64 hbox hb; have n0_ := Aside0.mk (Kd.R_below (hrR_ HO_3.out) hb); have n1_ := Aside0.mk (below_step hb_ hb); have n2_ := Aside0.mk (hbox); have n3_ := Aside0.mk ((by rw [hg]; exact (below_size hb_) : w.heap.size ≤ gb286)); have n4_ := Aside0.mk ((by rw [hg]; exact (below_size hb_) : w.heap.size ≤ gb286)); clear HO_3; clear HB; have HO_3 := n0_; have HB := n1_; have BK286 := n2_; have GW286 := n3_; have GE286 := n4_; clear n0_ n1_ n2_ n3_ n4_; clear hb hbox hg; have hcz65_0 : w64.cell? ⟨gb286, 0, none⟩ = some (.int .i64 0) := (blk_cell BK286.out 0).trans rfl; have hcz65_1 : w64.cell? ⟨gb286, 1, none⟩ = some (.int .i64 0) := (blk_cell BK286.out 1).trans rfl; have hcz65_2 : w64.cell? ⟨gb286, 2, none⟩ = some (.string (⟨#[]⟩ : ByteArray)) := (blk_cell BK286.out 2).trans rfl; have hfz65_0 := blk_frozen BK286.out 0; have hfz65_1 := blk_frozen BK286.out 1; have hfz65_2 := blk_frozen BK286.out 2; have p62 : 0 ≤ ((ji59) : Int) := od_; have q62 : (ji59) < (8 : Int) := od_; have hx62 := bt_at (⟨#[47, 46, 42, 91, 93, 44, 63, 126]⟩ : ByteArray) (ji59); replace p62 := eq_true p62; replace q62 := eq_true q62) | ((with_reducible refine gate_builtin (b := .append) (xs := #[.tmp 47, .tmp 52]) rfl ?_); at_builtin; refine Kd.R_append (Kd.int .u8) (w0 := w) w.heap.size rfl (.tmp 47) (.tmp 52) 60 5 (.int .u8 0) 1 rfl Try.underlying60 info5 rfl (by decide) (by omega) u3 x3_1 (bt (⟨#[47, 46, 42, 91, 93, 44, 63, 126]⟩ : ByteArray) (ji59)) [.int .u8 (bt (⟨#[47, 46, 42, 91, 93, 44, 63, 126]⟩ : ByteArray) (ji59))] (fun _ => True) (fun _ => False) rfl (by first | (go_simp; done) | (go_simp; rfl)) ?aP (fun _ hk => hk.elim) ?aF ?aO ?aB ?aS ?aL ?_; (case aP => exact rfl); (case aB => exact (by repeat (first | (with_reducible first | exact HB.out | apply below_alloc | apply pw_below_drewN | apply below_drew1 | refine below_set ?_ GE286.out) | exact HB.out))); (case aF => exact (fun _ _ => trivial)); (case aO => exact (by (with_reducible repeat (first | apply Kd.R_alloc | apply Kd.R_drewN | apply Kd.R_drew)); exact Kd.R_mono (Kd.R_far (p := ⟨gb286, 2, none⟩) (Kd.R_far (p := ⟨gb286, 1, none⟩) (Kd.R_far (p := ⟨gb286, 0, none⟩) (Kd.R_types HO_3.out BK286.out (by decide)) (fun _ hk => hk.2) (.int .i64 ((rd_T42 l0 x8_1).f0))) (fun _ hk => hk.2) (.int .i64 ((rd_T42 l0 x8_1).f1))) (fun _ hk => hk.2) (.string ((rd_T42 l0 x8_1).f2))) (fun _ hk => trivial))); (case aS => exact (below_size (by repeat (first | (with_reducible first | exact HB.out | apply below_alloc | apply pw_below_drewN | apply below_drew1 | refine below_set ?_ GE286.out) | exact HB.out)))); (case aL => have := LMc63.out; omega); intro v313 w66 ho hb hg hat; rw [← Ny312.out] at ho; have n0_ := Aside0.mk (blk_grown (g := gb286) (o := .cells #[.int .i64 ((rd_T42 l0 x8_1).f0), .int .i64 ((rd_T42 l0 x8_1).f1), .string ((rd_T42 l0 x8_1).f2)] 42 (0, 0)) (by (with_reducible repeat (first | refine blk_drewN ?_ _ | refine blk_drew ?_ | refine blk_alloc ?_ _)); refine blk_put (cs := #[.int .i64 ((rd_T42 l0 x8_1).f0), .int .i64 ((rd_T42 l0 x8_1).f1), .string (⟨#[]⟩ : ByteArray)]) ?_ 2 _ rfl; (with_reducible repeat (first | refine blk_drewN ?_ _ | refine blk_drew ?_ | refine blk_alloc ?_ _)); refine blk_put (cs := #[.int .i64 ((rd_T42 l0 x8_1).f0), .int .i64 0, .string (⟨#[]⟩ : ByteArray)]) ?_ 1 _ rfl; (with_reducible repeat (first | refine blk_drewN ?_ _ | refine blk_drew ?_ | refine blk_alloc ?_ _)); refine blk_put (cs := #[.int .i64 0, .int .i64 0, .string (⟨#[]⟩ : ByteArray)]) ?_ 0 _ rfl; (with_reducible repeat (first | refine blk_drewN ?_ _ | refine blk_drew ?_ | refine blk_alloc ?_ _)); exact BK286.out) hg (Kd.R_ne HO_3.out BK286.out (by decide))); have n1_ := Aside0.mk (hb); have n2_ := Aside0.mk (ho); clear BK286; clear HB; clear HO_3; have BK286 := n0_; have HB := n1_; have HO314 := n2_; clear n0_ n1_ n2_; clear ho hb hg hat))
               go_roundg k1
               case measure => have := HK1.out; omega
               case rel => exact ⟨(y312), (wrap64 (x8_1 + 1)), rf_, H', ⟨by have := HK1.out; omega⟩, ⟨by (with_reducible repeat (first | apply Kd.R_alloc | apply Kd.R_drewN | apply Kd.R_drew)); exact HO314.out⟩, ⟨by repeat (first | (with_reducible first | exact HB.out | apply below_alloc | apply pw_below_drewN | apply below_drew1 | refine below_set ?_ GE286.out) | exact HB.out)⟩⟩
              ·rw [if_neg c63] at H
               exact absurd H (by simp)
             ·rw [if_neg c61] at H
              exact absurd H (by simp)
            ·rw [if_neg c60] at H
             exact absurd H (by simp)
           ·rw [if_neg c58] at H
            have c58b0 : (((rd_T42 l0 x8_1).f0) == 5) = false := beq_eq_false_iff_ne.mpr c58; have c58b1 : (((rd_T42 l0 x8_1).f0) != 5) = true := bne_iff_ne.mpr c58
            by_cases c67 : ((rd_T42 l0 x8_1).f0) = 6
            ·rw [if_pos c67] at H
             have c67b0 : (((rd_T42 l0 x8_1).f0) == 6) = true := beq_iff_eq.mpr c67; have c67b1 : (((rd_T42 l0 x8_1).f0) != 6) = false := bne_eq_false_iff_eq.mpr c67; clear c67; obtain ⟨ji68, hji68⟩ : ∃ j_ : Int, (wrap64 (((rd_T42 l0 x8_1).f0) - 1)) = j_ := ⟨_, rfl⟩; (replace H : (if 0 ≤ (ji68) then (if (ji68) < 8 then (if x3_1.length < 140737488355328 then (lex_Show.l0 k1 l0 (x3_1 ++ [bt (⟨#[47, 46, 42, 91, 93, 44, 63, 126]⟩ : ByteArray) (ji68)]) l0 (l0.length : Int) (wrap64 (x8_1 + 1))) else (none)) else (none)) else (none)) = some r := by first | (rw [hji68] at H; exact H) | (simp only [hji68] at H ⊢; exact H)); have hji68w : (IntKind.i64.wrap (((rd_T42 l0 x8_1).f0) - 1)) = ji68 := (i64_w _).trans hji68
             by_cases c69 : 0 ≤ (ji68)
             ·rw [if_pos c69] at H
              have c69b0 : decide (0 ≤ (ji68)) = true := decide_eq_true c69; clear c69
              by_cases c70 : (ji68) < 8
              ·rw [if_pos c70] at H
               have c70b0 : decide ((ji68) < 8) = true := decide_eq_true c70; clear c70
               by_cases c72 : x3_1.length < 140737488355328
               ·rw [if_pos c72] at H
                have LMc72 := Aside0.mk c72; clear c72; obtain ⟨y315, hy315⟩ : ∃ y_ : List Int, y_ = (x3_1 ++ [bt (⟨#[47, 46, 42, 91, 93, 44, 63, 126]⟩ : ByteArray) (ji68)]) := ⟨_, rfl⟩; (replace H : (lex_Show.l0 k1 l0 y315 l0 (l0.length : Int) (wrap64 (x8_1 + 1))) = some r := hy_ hy315 H); have Ny315 := Aside0.mk hy315; clear hy315; have H' := Aside0.mk H; clear H; have p285 : 0 ≤ (x8_1 : Int) := od_; have q285 : x8_1 < (l0.length : Int) := od_; obtain ⟨ad285, e285, hx285_0, hx285_1, hx285_2⟩ := at_T42 HR0.out x8_1 p285 q285
                cases e285
                replace hx285_0 := (HB.out.cell (World.block_lt_of_cell? w _ hx285_0)).trans hx285_0; replace hx285_1 := (HB.out.cell (World.block_lt_of_cell? w _ hx285_1)).trans hx285_1; replace hx285_2 := (HB.out.cell (World.block_lt_of_cell? w _ hx285_2)).trans hx285_2; replace p285 := eq_true p285; replace q285 := eq_true q285; go_wp2_with (first | ((with_reducible refine gate_dst (N := 5) rfl ?_); refine box_event ?hg (N := 5) ?hd (cs := #[.int .i64 0, .int .i64 0, .string (⟨#[]⟩ : ByteArray)]) (t := 42) ?hr ?_; (case hd => rfl); (case hg => rfl); (case hr => first | (go_simp; done) | (go_simp; rfl)); intro gb286 hg w73 hbox hb; have n0_ := Aside0.mk (Kd.R_below (hrR_ HO_3.out) hb); have n1_ := Aside0.mk (below_step hb_ hb); have n2_ := Aside0.mk (hbox); have n3_ := Aside0.mk ((by rw [hg]; exact (below_size hb_) : w.heap.size ≤ gb286)); have n4_ := Aside0.mk ((by rw [hg]; exact (below_size hb_) : w.heap.size ≤ gb286)); clear HO_3; clear HB; have HO_3 := n0_; have HB := n1_; have BK286 := n2_; have GW286 := n3_; have GE286 := n4_; clear n0_ n1_ n2_ n3_ n4_; clear hb hbox hg; have hcz74_0 : w73.cell? ⟨gb286, 0, none⟩ = some (.int .i64 0) := (blk_cell BK286.out 0).trans rfl; have hcz74_1 : w73.cell? ⟨gb286, 1, none⟩ = some (.int .i64 0) := (blk_cell BK286.out 1).trans rfl; have hcz74_2 : w73.cell? ⟨gb286, 2, none⟩ = some (.string (⟨#[]⟩ : ByteArray)) := (blk_cell BK286.out 2).trans rfl; have hfz74_0 := blk_frozen BK286.out 0; have hfz74_1 := blk_frozen BK286.out 1; have hfz74_2 := blk_frozen BK286.out 2; have p71 : 0 ≤ ((ji68) : Int) := od_; have q71 : (ji68) < (8 : Int) := od_; have hx71 := bt_at (⟨#[47, 46, 42, 91, 93, 44, 63, 126]⟩ : ByteArray) (ji68); replace p71 := eq_true p71; replace q71 := eq_true q71) | ((with_reducible refine gate_builtin (b := .append) (xs := #[.tmp 47, .tmp 52]) rfl ?_); at_builtin; refine Kd.R_append (Kd.int .u8) (w0 := w) w.heap.size rfl (.tmp 47) (.tmp 52) 60 5 (.int .u8 0) 1 rfl Try.underlying60 info5 rfl (by decide) (by omega) u3 x3_1 (bt (⟨#[47, 46, 42, 91, 93, 44, 63, 126]⟩ : ByteArray) (ji68)) [.int .u8 (bt (⟨#[47, 46, 42, 91, 93, 44, 63, 126]⟩ : ByteArray) (ji68))] (fun _ => True) (fun _ => False) rfl (by first | (go_simp; done) | (go_simp; rfl)) ?aP (fun _ hk => hk.elim) ?aF ?aO ?aB ?aS ?aL ?_; (case aP => exact rfl); (case aB => exact (by repeat (first | (with_reducible first | exact HB.out | apply below_alloc | apply pw_below_drewN | apply below_drew1 | refine below_set ?_ GE286.out) | exact HB.out))); (case aF => exact (fun _ _ => trivial)); (case aO => exact (by (with_reducible repeat (first | apply Kd.R_alloc | apply Kd.R_drewN | apply Kd.R_drew)); exact Kd.R_mono (Kd.R_far (p := ⟨gb286, 2, none⟩) (Kd.R_far (p := ⟨gb286, 1, none⟩) (Kd.R_far (p := ⟨gb286, 0, none⟩) (Kd.R_types HO_3.out BK286.out (by decide)) (fun _ hk => hk.2) (.int .i64 ((rd_T42 l0 x8_1).f0))) (fun _ hk => hk.2) (.int .i64 ((rd_T42 l0 x8_1).f1))) (fun _ hk => hk.2) (.string ((rd_T42 l0 x8_1).f2))) (fun _ hk => trivial))); (case aS => exact (below_size (by repeat (first | (with_reducible first | exact HB.out | apply below_alloc | apply pw_below_drewN | apply below_drew1 | refine below_set ?_ GE286.out) | exact HB.out)))); (case aL => have := LMc72.out; omega); intro v316 w75 ho hb hg hat; rw [← Ny315.out] at ho; have n0_ := Aside0.mk (blk_grown (g := gb286) (o := .cells #[.int .i64 ((rd_T42 l0 x8_1).f0), .int .i64 ((rd_T42 l0 x8_1).f1), .string ((rd_T42 l0 x8_1).f2)] 42 (0, 0)) (by (with_reducible repeat (first | refine blk_drewN ?_ _ | refine blk_drew ?_ | refine blk_alloc ?_ _)); refine blk_put (cs := #[.int .i64 ((rd_T42 l0 x8_1).f0), .int .i64 ((rd_T42 l0 x8_1).f1), .string (⟨#[]⟩ : ByteArray)]) ?_ 2 _ rfl; (with_reducible repeat (first | refine blk_drewN ?_ _ | refine blk_drew ?_ | refine blk_alloc ?_ _)); refine blk_put (cs := #[.int .i64 ((rd_T42 l0 x8_1).f0), .int .i64 0, .string (⟨#[]⟩ : ByteArray)]) ?_ 1 _ rfl; (with_reducible repeat (first | refine blk_drewN ?_ _ | refine blk_drew ?_ | refine blk_alloc ?_ _)); refine blk_put (cs := #[.int .i64 0, .int .i64 0, .string (⟨#[]⟩ : ByteArray)]) ?_ 0 _ rfl; (with_reducible repeat (first | refine blk_drewN ?_ _ | refine blk_drew ?_ | refine blk_alloc ?_ _)); exact BK286.out) hg (Kd.R_ne HO_3.out BK286.out (by decide))); have n1_ := Aside0.mk (hb); have n2_ := Aside0.mk (ho); clear BK286; clear HB; clear HO_3; have BK286 := n0_; have HB := n1_; have HO317 := n2_; clear n0_ n1_ n2_; clear ho hb hg hat))
                go_roundg k1
                case measure => have := HK1.out; omega
                case rel => exact ⟨(y315), (wrap64 (x8_1 + 1)), rf_, H', ⟨by have := HK1.out; omega⟩, ⟨by (with_reducible repeat (first | apply Kd.R_alloc | apply Kd.R_drewN | apply Kd.R_drew)); exact HO317.out⟩, ⟨by repeat (first | (with_reducible first | exact HB.out | apply below_alloc | apply pw_below_drewN | apply below_drew1 | refine below_set ?_ GE286.out) | exact HB.out)⟩⟩
               ·rw [if_neg c72] at H
                exact absurd H (by simp)
              ·rw [if_neg c70] at H
               exact absurd H (by simp)
             ·rw [if_neg c69] at H
              exact absurd H (by simp)
            ·rw [if_neg c67] at H
             have c67b0 : (((rd_T42 l0 x8_1).f0) == 6) = false := beq_eq_false_iff_ne.mpr c67; have c67b1 : (((rd_T42 l0 x8_1).f0) != 6) = true := bne_iff_ne.mpr c67
             by_cases c76 : ((rd_T42 l0 x8_1).f0) = 7
             ·rw [if_pos c76] at H
              have c76b0 : (((rd_T42 l0 x8_1).f0) == 7) = true := beq_iff_eq.mpr c76; have c76b1 : (((rd_T42 l0 x8_1).f0) != 7) = false := bne_eq_false_iff_eq.mpr c76; clear c76; obtain ⟨ji77, hji77⟩ : ∃ j_ : Int, (wrap64 (((rd_T42 l0 x8_1).f0) - 1)) = j_ := ⟨_, rfl⟩; (replace H : (if 0 ≤ (ji77) then (if (ji77) < 8 then (if x3_1.length < 140737488355328 then (lex_Show.l0 k1 l0 (x3_1 ++ [bt (⟨#[47, 46, 42, 91, 93, 44, 63, 126]⟩ : ByteArray) (ji77)]) l0 (l0.length : Int) (wrap64 (x8_1 + 1))) else (none)) else (none)) else (none)) = some r := by first | (rw [hji77] at H; exact H) | (simp only [hji77] at H ⊢; exact H)); have hji77w : (IntKind.i64.wrap (((rd_T42 l0 x8_1).f0) - 1)) = ji77 := (i64_w _).trans hji77
              by_cases c78 : 0 ≤ (ji77)
              ·rw [if_pos c78] at H
               have c78b0 : decide (0 ≤ (ji77)) = true := decide_eq_true c78; clear c78
               by_cases c79 : (ji77) < 8
               ·rw [if_pos c79] at H
                have c79b0 : decide ((ji77) < 8) = true := decide_eq_true c79; clear c79
                by_cases c81 : x3_1.length < 140737488355328
                ·rw [if_pos c81] at H
                 have LMc81 := Aside0.mk c81; clear c81; obtain ⟨y318, hy318⟩ : ∃ y_ : List Int, y_ = (x3_1 ++ [bt (⟨#[47, 46, 42, 91, 93, 44, 63, 126]⟩ : ByteArray) (ji77)]) := ⟨_, rfl⟩; (replace H : (lex_Show.l0 k1 l0 y318 l0 (l0.length : Int) (wrap64 (x8_1 + 1))) = some r := hy_ hy318 H); have Ny318 := Aside0.mk hy318; clear hy318; have H' := Aside0.mk H; clear H; have p285 : 0 ≤ (x8_1 : Int) := od_; have q285 : x8_1 < (l0.length : Int) := od_; obtain ⟨ad285, e285, hx285_0, hx285_1, hx285_2⟩ := at_T42 HR0.out x8_1 p285 q285
                 cases e285
                 replace hx285_0 := (HB.out.cell (World.block_lt_of_cell? w _ hx285_0)).trans hx285_0; replace hx285_1 := (HB.out.cell (World.block_lt_of_cell? w _ hx285_1)).trans hx285_1; replace hx285_2 := (HB.out.cell (World.block_lt_of_cell? w _ hx285_2)).trans hx285_2; replace p285 := eq_true p285; replace q285 := eq_true q285; go_wp2_with (first | ((with_reducible refine gate_dst (N := 5) rfl ?_); refine box_event ?hg (N := 5) ?hd (cs := #[.int .i64 0, .int .i64 0, .string (⟨#[]⟩ : ByteArray)]) (t := 42) ?hr ?_; (case hd => rfl); (case hg => rfl); (case hr => first | (go_simp; done) | (go_simp; rfl)); intro gb286 hg w82 hbox hb; have n0_ := Aside0.mk (Kd.R_below (hrR_ HO_3.out) hb); have n1_ := Aside0.mk (below_step hb_ hb); have n2_ := Aside0.mk (hbox); have n3_ := Aside0.mk ((by rw [hg]; exact (below_size hb_) : w.heap.size ≤ gb286)); have n4_ := Aside0.mk ((by rw [hg]; exact (below_size hb_) : w.heap.size ≤ gb286)); clear HO_3; clear HB; have HO_3 := n0_; have HB := n1_; have BK286 := n2_; have GW286 := n3_; have GE286 := n4_; clear n0_ n1_ n2_ n3_ n4_; clear hb hbox hg; have hcz83_0 : w82.cell? ⟨gb286, 0, none⟩ = some (.int .i64 0) := (blk_cell BK286.out 0).trans rfl; have hcz83_1 : w82.cell? ⟨gb286, 1, none⟩ = some (.int .i64 0) := (blk_cell BK286.out 1).trans rfl; have hcz83_2 : w82.cell? ⟨gb286, 2, none⟩ = some (.string (⟨#[]⟩ : ByteArray)) := (blk_cell BK286.out 2).trans rfl; have hfz83_0 := blk_frozen BK286.out 0; have hfz83_1 := blk_frozen BK286.out 1; have hfz83_2 := blk_frozen BK286.out 2; have p80 : 0 ≤ ((ji77) : Int) := od_; have q80 : (ji77) < (8 : Int) := od_; have hx80 := bt_at (⟨#[47, 46, 42, 91, 93, 44, 63, 126]⟩ : ByteArray) (ji77); replace p80 := eq_true p80; replace q80 := eq_true q80) | ((with_reducible refine gate_builtin (b := .append) (xs := #[.tmp 47, .tmp 52]) rfl ?_); at_builtin; refine Kd.R_append (Kd.int .u8) (w0 := w) w.heap.size rfl (.tmp 47) (.tmp 52) 60 5 (.int .u8 0) 1 rfl Try.underlying60 info5 rfl (by decide) (by omega) u3 x3_1 (bt (⟨#[47, 46, 42, 91, 93, 44, 63, 126]⟩ : ByteArray) (ji77)) [.int .u8 (bt (⟨#[47, 46, 42, 91, 93, 44, 63, 126]⟩ : ByteArray) (ji77))] (fun _ => True) (fun _ => False) rfl (by first | (go_simp; done) | (go_simp; rfl)) ?aP (fun _ hk => hk.elim) ?aF ?aO ?aB ?aS ?aL ?_; (case aP => exact rfl); (case aB => exact (by repeat (first | (with_reducible first | exact HB.out | apply below_alloc | apply pw_below_drewN | apply below_drew1 | refine below_set ?_ GE286.out) | exact HB.out))); (case aF => exact (fun _ _ => trivial)); (case aO => exact (by (with_reducible repeat (first | apply Kd.R_alloc | apply Kd.R_drewN | apply Kd.R_drew)); exact Kd.R_mono (Kd.R_far (p := ⟨gb286, 2, none⟩) (Kd.R_far (p := ⟨gb286, 1, none⟩) (Kd.R_far (p := ⟨gb286, 0, none⟩) (Kd.R_types HO_3.out BK286.out (by decide)) (fun _ hk => hk.2) (.int .i64 ((rd_T42 l0 x8_1).f0))) (fun _ hk => hk.2) (.int .i64 ((rd_T42 l0 x8_1).f1))) (fun _ hk => hk.2) (.string ((rd_T42 l0 x8_1).f2))) (fun _ hk => trivial))); (case aS => exact (below_size (by repeat (first | (with_reducible first | exact HB.out | apply below_alloc | apply pw_below_drewN | apply below_drew1 | refine below_set ?_ GE286.out) | exact HB.out)))); (case aL => have := LMc81.out; omega); intro v319 w84 ho hb hg hat; rw [← Ny318.out] at ho; have n0_ := Aside0.mk (blk_grown (g := gb286) (o := .cells #[.int .i64 ((rd_T42 l0 x8_1).f0), .int .i64 ((rd_T42 l0 x8_1).f1), .string ((rd_T42 l0 x8_1).f2)] 42 (0, 0)) (by (with_reducible repeat (first | refine blk_drewN ?_ _ | refine blk_drew ?_ | refine blk_alloc ?_ _)); refine blk_put (cs := #[.int .i64 ((rd_T42 l0 x8_1).f0), .int .i64 ((rd_T42 l0 x8_1).f1), .string (⟨#[]⟩ : ByteArray)]) ?_ 2 _ rfl; (with_reducible repeat (first | refine blk_drewN ?_ _ | refine blk_drew ?_ | refine blk_alloc ?_ _)); refine blk_put (cs := #[.int .i64 ((rd_T42 l0 x8_1).f0), .int .i64 0, .string (⟨#[]⟩ : ByteArray)]) ?_ 1 _ rfl; (with_reducible repeat (first | refine blk_drewN ?_ _ | refine blk_drew ?_ | refine blk_alloc ?_ _)); refine blk_put (cs := #[.int .i64 0, .int .i64 0, .string (⟨#[]⟩ : ByteArray)]) ?_ 0 _ rfl; (with_reducible repeat (first | refine blk_drewN ?_ _ | refine blk_drew ?_ | refine blk_alloc ?_ _)); exact BK286.out) hg (Kd.R_ne HO_3.out BK286.out (by decide))); have n1_ := Aside0.mk (hb); have n2_ := Aside0.mk (ho); clear BK286; clear HB; clear HO_3; have BK286 := n0_; have HB := n1_; have HO320 := n2_; clear n0_ n1_ n2_; clear ho hb hg hat))
                 go_roundg k1
                 case measure => have := HK1.out; omega
                 case rel => exact ⟨(y318), (wrap64 (x8_1 + 1)), rf_, H', ⟨by have := HK1.out; omega⟩, ⟨by (with_reducible repeat (first | apply Kd.R_alloc | apply Kd.R_drewN | apply Kd.R_drew)); exact HO320.out⟩, ⟨by repeat (first | (with_reducible first | exact HB.out | apply below_alloc | apply pw_below_drewN | apply below_drew1 | refine below_set ?_ GE286.out) | exact HB.out)⟩⟩
                ·rw [if_neg c81] at H
                 exact absurd H (by simp)
               ·rw [if_neg c79] at H
                exact absurd H (by simp)
              ·rw [if_neg c78] at H
               exact absurd H (by simp)
             ·rw [if_neg c76] at H
              have c76b0 : (((rd_T42 l0 x8_1).f0) == 7) = false := beq_eq_false_iff_ne.mpr c76; have c76b1 : (((rd_T42 l0 x8_1).f0) != 7) = true := bne_iff_ne.mpr c76
              by_cases c85 : ((rd_T42 l0 x8_1).f0) = 8
              ·rw [if_pos c85] at H
               have c85b0 : (((rd_T42 l0 x8_1).f0) == 8) = true := beq_iff_eq.mpr c85; have c85b1 : (((rd_T42 l0 x8_1).f0) != 8) = false := bne_eq_false_iff_eq.mpr c85; clear c85; obtain ⟨ji86, hji86⟩ : ∃ j_ : Int, (wrap64 (((rd_T42 l0 x8_1).f0) - 1)) = j_ := ⟨_, rfl⟩; (replace H : (if 0 ≤ (ji86) then (if (ji86) < 8 then (if x3_1.length < 140737488355328 then (lex_Show.l0 k1 l0 (x3_1 ++ [bt (⟨#[47, 46, 42, 91, 93, 44, 63, 126]⟩ : ByteArray) (ji86)]) l0 (l0.length : Int) (wrap64 (x8_1 + 1))) else (none)) else (none)) else (none)) = some r := by first | (rw [hji86] at H; exact H) | (simp only [hji86] at H ⊢; exact H)); have hji86w : (IntKind.i64.wrap (((rd_T42 l0 x8_1).f0) - 1)) = ji86 := (i64_w _).trans hji86
               by_cases c87 : 0 ≤ (ji86)
               ·rw [if_pos c87] at H
                have c87b0 : decide (0 ≤ (ji86)) = true := decide_eq_true c87; clear c87
                by_cases c88 : (ji86) < 8
                ·rw [if_pos c88] at H
                 have c88b0 : decide ((ji86) < 8) = true := decide_eq_true c88; clear c88
                 by_cases c90 : x3_1.length < 140737488355328
                 ·rw [if_pos c90] at H
                  have LMc90 := Aside0.mk c90; clear c90; obtain ⟨y321, hy321⟩ : ∃ y_ : List Int, y_ = (x3_1 ++ [bt (⟨#[47, 46, 42, 91, 93, 44, 63, 126]⟩ : ByteArray) (ji86)]) := ⟨_, rfl⟩; (replace H : (lex_Show.l0 k1 l0 y321 l0 (l0.length : Int) (wrap64 (x8_1 + 1))) = some r := hy_ hy321 H); have Ny321 := Aside0.mk hy321; clear hy321; have H' := Aside0.mk H; clear H; have p285 : 0 ≤ (x8_1 : Int) := od_; have q285 : x8_1 < (l0.length : Int) := od_; obtain ⟨ad285, e285, hx285_0, hx285_1, hx285_2⟩ := at_T42 HR0.out x8_1 p285 q285
                  cases e285
                  replace hx285_0 := (HB.out.cell (World.block_lt_of_cell? w _ hx285_0)).trans hx285_0; replace hx285_1 := (HB.out.cell (World.block_lt_of_cell? w _ hx285_1)).trans hx285_1; replace hx285_2 := (HB.out.cell (World.block_lt_of_cell? w _ hx285_2)).trans hx285_2; replace p285 := eq_true p285; replace q285 := eq_true q285; go_wp2_with (first | ((with_reducible refine gate_dst (N := 5) rfl ?_); refine box_event ?hg (N := 5) ?hd (cs := #[.int .i64 0, .int .i64 0, .string (⟨#[]⟩ : ByteArray)]) (t := 42) ?hr ?_; (case hd => rfl); (case hg => rfl); (case hr => first | (go_simp; done) | (go_simp; rfl)); intro gb286 hg w91 hbox hb; have n0_ := Aside0.mk (Kd.R_below (hrR_ HO_3.out) hb); have n1_ := Aside0.mk (below_step hb_ hb); have n2_ := Aside0.mk (hbox); have n3_ := Aside0.mk ((by rw [hg]; exact (below_size hb_) : w.heap.size ≤ gb286)); have n4_ := Aside0.mk ((by rw [hg]; exact (below_size hb_) : w.heap.size ≤ gb286)); clear HO_3; clear HB; have HO_3 := n0_; have HB := n1_; have BK286 := n2_; have GW286 := n3_; have GE286 := n4_; clear n0_ n1_ n2_ n3_ n4_; clear hb hbox hg; have hcz92_0 : w91.cell? ⟨gb286, 0, none⟩ = some (.int .i64 0) := (blk_cell BK286.out 0).trans rfl; have hcz92_1 : w91.cell? ⟨gb286, 1, none⟩ = some (.int .i64 0) := (blk_cell BK286.out 1).trans rfl; have hcz92_2 : w91.cell? ⟨gb286, 2, none⟩ = some (.string (⟨#[]⟩ : ByteArray)) := (blk_cell BK286.out 2).trans rfl; have hfz92_0 := blk_frozen BK286.out 0; have hfz92_1 := blk_frozen BK286.out 1; have hfz92_2 := blk_frozen BK286.out 2; have p89 : 0 ≤ ((ji86) : Int) := od_; have q89 : (ji86) < (8 : Int) := od_; have hx89 := bt_at (⟨#[47, 46, 42, 91, 93, 44, 63, 126]⟩ : ByteArray) (ji86); replace p89 := eq_true p89; replace q89 := eq_true q89) | ((with_reducible refine gate_builtin (b := .append) (xs := #[.tmp 47, .tmp 52]) rfl ?_); at_builtin; refine Kd.R_append (Kd.int .u8) (w0 := w) w.heap.size rfl (.tmp 47) (.tmp 52) 60 5 (.int .u8 0) 1 rfl Try.underlying60 info5 rfl (by decide) (by omega) u3 x3_1 (bt (⟨#[47, 46, 42, 91, 93, 44, 63, 126]⟩ : ByteArray) (ji86)) [.int .u8 (bt (⟨#[47, 46, 42, 91, 93, 44, 63, 126]⟩ : ByteArray) (ji86))] (fun _ => True) (fun _ => False) rfl (by first | (go_simp; done) | (go_simp; rfl)) ?aP (fun _ hk => hk.elim) ?aF ?aO ?aB ?aS ?aL ?_; (case aP => exact rfl); (case aB => exact (by repeat (first | (with_reducible first | exact HB.out | apply below_alloc | apply pw_below_drewN | apply below_drew1 | refine below_set ?_ GE286.out) | exact HB.out))); (case aF => exact (fun _ _ => trivial)); (case aO => exact (by (with_reducible repeat (first | apply Kd.R_alloc | apply Kd.R_drewN | apply Kd.R_drew)); exact Kd.R_mono (Kd.R_far (p := ⟨gb286, 2, none⟩) (Kd.R_far (p := ⟨gb286, 1, none⟩) (Kd.R_far (p := ⟨gb286, 0, none⟩) (Kd.R_types HO_3.out BK286.out (by decide)) (fun _ hk => hk.2) (.int .i64 ((rd_T42 l0 x8_1).f0))) (fun _ hk => hk.2) (.int .i64 ((rd_T42 l0 x8_1).f1))) (fun _ hk => hk.2) (.string ((rd_T42 l0 x8_1).f2))) (fun _ hk => trivial))); (case aS => exact (below_size (by repeat (first | (with_reducible first | exact HB.out | apply below_alloc | apply pw_below_drewN | apply below_drew1 | refine below_set ?_ GE286.out) | exact HB.out)))); (case aL => have := LMc90.out; omega); intro v322 w93 ho hb hg hat; rw [← Ny321.out] at ho; have n0_ := Aside0.mk (blk_grown (g := gb286) (o := .cells #[.int .i64 ((rd_T42 l0 x8_1).f0), .int .i64 ((rd_T42 l0 x8_1).f1), .string ((rd_T42 l0 x8_1).f2)] 42 (0, 0)) (by (with_reducible repeat (first | refine blk_drewN ?_ _ | refine blk_drew ?_ | refine blk_alloc ?_ _)); refine blk_put (cs := #[.int .i64 ((rd_T42 l0 x8_1).f0), .int .i64 ((rd_T42 l0 x8_1).f1), .string (⟨#[]⟩ : ByteArray)]) ?_ 2 _ rfl; (with_reducible repeat (first | refine blk_drewN ?_ _ | refine blk_drew ?_ | refine blk_alloc ?_ _)); refine blk_put (cs := #[.int .i64 ((rd_T42 l0 x8_1).f0), .int .i64 0, .string (⟨#[]⟩ : ByteArray)]) ?_ 1 _ rfl; (with_reducible repeat (first | refine blk_drewN ?_ _ | refine blk_drew ?_ | refine blk_alloc ?_ _)); refine blk_put (cs := #[.int .i64 0, .int .i64 0, .string (⟨#[]⟩ : ByteArray)]) ?_ 0 _ rfl; (with_reducible repeat (first | refine blk_drewN ?_ _ | refine blk_drew ?_ | refine blk_alloc ?_ _)); exact BK286.out) hg (Kd.R_ne HO_3.out BK286.out (by decide))); have n1_ := Aside0.mk (hb); have n2_ := Aside0.mk (ho); clear BK286; clear HB; clear HO_3; have BK286 := n0_; have HB := n1_; have HO323 := n2_; clear n0_ n1_ n2_; clear ho hb hg hat))
                  go_roundg k1
                  case measure => have := HK1.out; omega
                  case rel => exact ⟨(y321), (wrap64 (x8_1 + 1)), rf_, H', ⟨by have := HK1.out; omega⟩, ⟨by (with_reducible repeat (first | apply Kd.R_alloc | apply Kd.R_drewN | apply Kd.R_drew)); exact HO323.out⟩, ⟨by repeat (first | (with_reducible first | exact HB.out | apply below_alloc | apply pw_below_drewN | apply below_drew1 | refine below_set ?_ GE286.out) | exact HB.out)⟩⟩
                 ·rw [if_neg c90] at H
                  exact absurd H (by simp)
                ·rw [if_neg c88] at H
                 exact absurd H (by simp)
               ·rw [if_neg c87] at H
                exact absurd H (by simp)
              ·rw [if_neg c85] at H
               have c85b0 : (((rd_T42 l0 x8_1).f0) == 8) = false := beq_eq_false_iff_ne.mpr c85; have c85b1 : (((rd_T42 l0 x8_1).f0) != 8) = true := bne_iff_ne.mpr c85; have H' := Aside0.mk H; clear H; have p285 : 0 ≤ (x8_1 : Int) := od_; have q285 : x8_1 < (l0.length : Int) := od_; obtain ⟨ad285, e285, hx285_0, hx285_1, hx285_2⟩ := at_T42 HR0.out x8_1 p285 q285
               cases e285
               replace hx285_0 := (HB.out.cell (World.block_lt_of_cell? w _ hx285_0)).trans hx285_0; replace hx285_1 := (HB.out.cell (World.block_lt_of_cell? w _ hx285_1)).trans hx285_1; replace hx285_2 := (HB.out.cell (World.block_lt_of_cell? w _ hx285_2)).trans hx285_2; replace p285 := eq_true p285; replace q285 := eq_true q285; go_wp2_with (first | ((with_reducible refine gate_dst (N := 5) rfl ?_); refine box_event ?hg (N := 5) ?hd (cs := #[.int .i64 0, .int .i64 0, .string (⟨#[]⟩ : ByteArray)]) (t := 42) ?hr ?_; (case hd => rfl); (case hg => rfl); (case hr => first | (go_simp; done) | (go_simp; rfl)); intro gb286 hg w94 hbox hb; have n0_ := Aside0.mk (Kd.R_below (hrR_ HO_3.out) hb); have n1_ := Aside0.mk (below_step hb_ hb); have n2_ := Aside0.mk (hbox); have n3_ := Aside0.mk ((by rw [hg]; exact (below_size hb_) : w.heap.size ≤ gb286)); have n4_ := Aside0.mk ((by rw [hg]; exact (below_size hb_) : w.heap.size ≤ gb286)); clear HO_3; clear HB; have HO_3 := n0_; have HB := n1_; have BK286 := n2_; have GW286 := n3_; have GE286 := n4_; clear n0_ n1_ n2_ n3_ n4_; clear hb hbox hg; have hcz95_0 : w94.cell? ⟨gb286, 0, none⟩ = some (.int .i64 0) := (blk_cell BK286.out 0).trans rfl; have hcz95_1 : w94.cell? ⟨gb286, 1, none⟩ = some (.int .i64 0) := (blk_cell BK286.out 1).trans rfl; have hcz95_2 : w94.cell? ⟨gb286, 2, none⟩ = some (.string (⟨#[]⟩ : ByteArray)) := (blk_cell BK286.out 2).trans rfl; have hfz95_0 := blk_frozen BK286.out 0; have hfz95_1 := blk_frozen BK286.out 1; have hfz95_2 := blk_frozen BK286.out 2)); go_roundg k1
               case measure => have := HK1.out; omega
               case rel => exact ⟨(x3_1), (wrap64 (x8_1 + 1)), rf_, H', ⟨by have := HK1.out; omega⟩, ⟨by (with_reducible repeat (first | apply Kd.R_alloc | apply Kd.R_drewN | apply Kd.R_drew)); exact Kd.R_mono (Kd.R_far (p := ⟨gb286, 2, none⟩) (Kd.R_far (p := ⟨gb286, 1, none⟩) (Kd.R_far (p := ⟨gb286, 0, none⟩) (Kd.R_types HO_3.out BK286.out (by decide)) (fun _ hk => hk.2) (.int .i64 ((rd_T42 l0 x8_1).f0))) (fun _ hk => hk.2) (.int .i64 ((rd_T42 l0 x8_1).f1))) (fun _ hk => hk.2) (.string ((rd_T42 l0 x8_1).f2))) (fun _ hk => trivial)⟩, ⟨by repeat (first | (with_reducible first | exact HB.out | apply below_alloc | apply pw_below_drewN | apply below_drew1 | refine below_set ?_ GE286.out) | exact HB.out)⟩⟩
     ·rw [if_neg c4] at H
      exact absurd H (by simp)
    ·rw [if_neg c3] at H
     exact absurd H (by simp)
   ·rw [if_neg c2] at H
    have c2b0 : decide (x8_1 < (l0.length : Int)) = false := decide_eq_false c2; have c2b9 := c2b0; (try simp only [hl325_7] at c2b9); clear c2; obtain rfl := Option.some.inj H; have hcv96 := own_string (P := Try.prog) Try.underlying60 Try.underlying5 Try.underlying9 (Kd.own_of_R HO_3.out); go_wp2; go_ret; exact ⟨re_, hb_⟩
set_option maxHeartbeats 8000000 in
set_option maxRecDepth 100000 in
theorem lustrumlaw11_points.calls (k : Nat) : ∀ (a0_0 : Int) (a0_1 : Int) (a0_2 : ByteArray) (a0_3 : ByteArray) (a0_4 : ByteArray) (a0_5 : Bool) (a0_6 : Bool) (A0_7 : Option Addr) (c0_7 : Nat) (l0_7 : List (S26)) (r : Int) (w : World) (hr0_7 : Kd.C k26 w A0_7 l0_7.length l0_7) (hc0_7 : l0_7.length ≤ c0_7) (h : lustrumlaw11_points.f k a0_0 a0_1 a0_2 a0_3 a0_4 a0_5 a0_6 l0_7 = some r),
  Calls Try.prog 38 #[.agg #[.int .i64 a0_0, .int .i64 a0_1, .string a0_2, .string a0_3, .string a0_4, .bool a0_5, .bool a0_6, .slice A0_7 l0_7.length c0_7]] w fun e w' => e = .returned (.int .i64 r) ∧ Below w.heap.size w w' := by
 induction k using Nat.strongRecOn with
 | _ k ih =>
 intro a0_0 a0_1 a0_2 a0_3 a0_4 a0_5 a0_6 A0_7 c0_7 l0_7 r w hr0_7 hc0_7 h
 cases k with
 | zero => exact absurd h (by simp [lustrumlaw11_points.f])
 | succ k =>
 simp only [lustrumlaw11_points.f] at h; have hu26 := Try.underlying26; have HR0_7 := Aside0.mk hr0_7; have HC0_7 := Aside0.mk hc0_7; clear hr0_7 hc0_7; have HB := Aside0.mk (Below.refl w.heap.size w); have H : (if a0_0 = 0 then (lustrumlaw11_points.j0 k 1 a0_0 a0_1 a0_2 a0_3 a0_4 a0_5 a0_6 l0_7) else (lustrumlaw11_points.j0 k 0 a0_0 a0_1 a0_2 a0_3 a0_4 a0_5 a0_6 l0_7)) = some r := h; clear h; have HC2 := Aside0.mk H; clear H; go_enter Try.func38, Try.ntmps38; go_upto_if 7 with (first | ((with_reducible refine gate_dst (N := 1) rfl ?_); refine box_event ?hg (N := 1) ?hd (cs := #[.int .i64 a0_0, .int .i64 a0_1, .string a0_2, .string a0_3, .string a0_4, .bool a0_5, .bool a0_6, .slice A0_7 l0_7.length c0_7]) (t := 26) ?hr ?_; (case hd => rfl); (case hg => rfl); (case hr => first | (go_simp; done) | (go_simp; rfl)); intro gb324 hg w3 hbox hb; have n0_ := Aside0.mk (below_step hb_ hb); have n1_ := Aside0.mk (hbox); have n2_ := Aside0.mk ((by rw [hg]; exact (below_size hb_) : w.heap.size ≤ gb324)); have n3_ := Aside0.mk ((by rw [hg]; exact (below_size hb_) : w.heap.size ≤ gb324)); clear HB; have HB := n0_; have BK324 := n1_; have GW324 := n2_; have GE324 := n3_; clear n0_ n1_ n2_ n3_; clear hb hbox hg; have hcz4_0 : w3.cell? ⟨gb324, 0, none⟩ = some (.int .i64 a0_0) := (blk_cell BK324.out 0).trans rfl; have hcz4_1 : w3.cell? ⟨gb324, 1, none⟩ = some (.int .i64 a0_1) := (blk_cell BK324.out 1).trans rfl; have hcz4_2 : w3.cell? ⟨gb324, 2, none⟩ = some (.string a0_2) := (blk_cell BK324.out 2).trans rfl; have hcz4_3 : w3.cell? ⟨gb324, 3, none⟩ = some (.string a0_3) := (blk_cell BK324.out 3).trans rfl; have hcz4_4 : w3.cell? ⟨gb324, 4, none⟩ = some (.string a0_4) := (blk_cell BK324.out 4).trans rfl; have hcz4_5 : w3.cell? ⟨gb324, 5, none⟩ = some (.bool a0_5) := (blk_cell BK324.out 5).trans rfl; have hcz4_6 : w3.cell? ⟨gb324, 6, none⟩ = some (.bool a0_6) := (blk_cell BK324.out 6).trans rfl; have hcz4_7 : w3.cell? ⟨gb324, 7, none⟩ = some (.slice A0_7 l0_7.length c0_7) := (blk_cell BK324.out 7).trans rfl; have hfz4_0 := blk_frozen BK324.out 0; have hfz4_1 := blk_frozen BK324.out 1; have hfz4_2 := blk_frozen BK324.out 2; have hfz4_3 := blk_frozen BK324.out 3; have hfz4_4 := blk_frozen BK324.out 4; have hfz4_5 := blk_frozen BK324.out 5; have hfz4_6 := blk_frozen BK324.out 6; have hfz4_7 := blk_frozen BK324.out 7)); (try simp only [Act.put, List.setIfInBounds_toArray, List.set_cons_zero, List.set_cons_succ]); go_cut [3] (fun v3 wc => ∃ (kq : Nat) (x3_1 : Int), v3 = .int .i64 x3_1 ∧ Aside0 (lustrumlaw11_points.j0 kq x3_1 a0_0 a0_1 a0_2 a0_3 a0_4 a0_5 a0_6 l0_7 = some r) ∧ Aside0 (kq ≤ k) ∧ Aside0 (wc.heap[gb324]? = some (.cells #[.int .i64 a0_0, .int .i64 a0_1, .string a0_2, .string a0_3, .string a0_4, .bool a0_5, .bool a0_6, (.slice A0_7 l0_7.length c0_7)] 26 (0, 0))) ∧ Aside0 (Below w.heap.size w wc))
 case first =>
  have H := HC2.out; clear HC2
  by_cases c5 : a0_0 = 0
  ·rw [if_pos c5] at H
   have c5b0 : (a0_0 == 0) = true := beq_iff_eq.mpr c5; have c5b1 : (a0_0 != 0) = false := bne_eq_false_iff_eq.mpr c5; clear c5; (first | rw [c5b0] | (simp only [i64_w, i32_w]; rw [c5b0]) | skip); have H' := Aside0.mk H; clear H; go_wp2; go_meet
   case rel => exact ⟨_, (1), rf_, H', ⟨by first | omega | exact Nat.le_refl _⟩, ⟨by (with_reducible repeat (first | refine blk_drewN ?_ _ | refine blk_drew ?_ | refine blk_alloc ?_ _)); exact BK324.out⟩, ⟨by repeat (first | (with_reducible first | exact HB.out | apply below_alloc | apply pw_below_drewN | apply below_drew1 | refine below_set ?_ GE324.out) | exact HB.out)⟩⟩
  ·rw [if_neg c5] at H
   have c5b0 : (a0_0 == 0) = false := beq_eq_false_iff_ne.mpr c5; have c5b1 : (a0_0 != 0) = true := bne_iff_ne.mpr c5; (first | rw [c5b0] | (simp only [i64_w, i32_w]; rw [c5b0]) | skip); have H' := Aside0.mk H; clear H; go_wp2; go_meet
   case rel => exact ⟨_, (0), rf_, H', ⟨by first | omega | exact Nat.le_refl _⟩, ⟨by (with_reducible repeat (first | refine blk_drewN ?_ _ | refine blk_drew ?_ | refine blk_alloc ?_ _)); exact BK324.out⟩, ⟨by repeat (first | (with_reducible first | exact HB.out | apply below_alloc | apply pw_below_drewN | apply below_drew1 | refine below_set ?_ GE324.out) | exact HB.out)⟩⟩
 case rest =>
  clear HC2; (try clear p2); (try clear c3); (try clear c5); (try clear c5b0); (try clear c5b1); (try clear hcz4_0); (try clear hcz4_1); (try clear hcz4_2); (try clear hcz4_3); (try clear hcz4_4); (try clear hcz4_5); (try clear hcz4_6); (try clear hcz4_7); (try clear hfz4_0); (try clear hfz4_1); (try clear hfz4_2); (try clear hfz4_3); (try clear hfz4_4); (try clear hfz4_5); (try clear hfz4_6); (try clear hfz4_7); obtain ⟨kq, x3_1, rfl, HA, HJ1, BK324, HB⟩ := hcut
  cases kq with
  | zero => exact absurd HA.out (by simp [lustrumlaw11_points.j0])
  | succ kj1 =>
   have H := HA.out; clear HA; simp only [lustrumlaw11_points.j0] at H; have H' := Aside0.mk H; clear H; go_wp2; go_loopg [3, 4] kj1 (fun kq v3 v4 w' => ∃ (x3_2 : Int) (x4_2 : Int), v3 = .int .i64 x3_2 ∧ v4 = .int .i64 x4_2 ∧ Aside0 (lustrumlaw11_points.l0 kq x3_2 x4_2 a0_0 a0_1 a0_2 a0_3 a0_4 a0_5 a0_6 l0_7 = some r) ∧ Aside0 (kq ≤ kj1) ∧ Aside0 (w'.heap[gb324]? = some (.cells #[.int .i64 a0_0, .int .i64 a0_1, .string a0_2, .string a0_3, .string a0_4, .bool a0_5, .bool a0_6, (.slice A0_7 l0_7.length c0_7)] 26 (0, 0))) ∧ Aside0 (Below w.heap.size w w'))
   case atStart => exact ⟨(x3_1), (0), rf_, rf_, H', ⟨Nat.le_refl _⟩, ⟨by (with_reducible repeat (first | refine blk_drewN ?_ _ | refine blk_drew ?_ | refine blk_alloc ?_ _)); exact BK324.out⟩, ⟨by repeat (first | (with_reducible first | exact HB.out | apply below_alloc | apply pw_below_drewN | apply below_drew1 | refine below_set ?_ GE324.out) | exact HB.out)⟩⟩
   case round =>
    clear H'; (try clear p2); (try clear c3); (try clear c5); (try clear c5b0); (try clear c5b1); (try clear hcz4_0); (try clear hcz4_1); (try clear hcz4_2); (try clear hcz4_3); (try clear hcz4_4); (try clear hcz4_5); (try clear hcz4_6); (try clear hcz4_7); (try clear hfz4_0); (try clear hfz4_1); (try clear hfz4_2); (try clear hfz4_3); (try clear hfz4_4); (try clear hfz4_5); (try clear hfz4_6); (try clear hfz4_7); (try clear p2); obtain ⟨x3_2, x4_2, rfl, rfl, HA, HK2, BK324, HB⟩ := hrel
    cases gk with
    | zero => exact absurd HA.out (by simp [lustrumlaw11_points.l0])
    | succ k2 =>
     have H := HA.out; clear HA; simp only [lustrumlaw11_points.l0] at H
     by_cases c6 : x4_2 < (l0_7.length : Int)
     ·rw [if_pos c6] at H
      have c6b0 : decide (x4_2 < (l0_7.length : Int)) = true := decide_eq_true c6; clear c6
      by_cases c7 : 0 ≤ x4_2
      ·rw [if_pos c7] at H
       have c7b0 : decide (0 ≤ x4_2) = true := decide_eq_true c7; clear c7; replace H := Option.bind_eq_some_iff.mp H; obtain ⟨t326, A80, H⟩ := H; replace H : (lustrumlaw11_points.l0 k2 (wrap64 (x3_2 + t326)) (wrap64 (x4_2 + 1)) a0_0 a0_1 a0_2 a0_3 a0_4 a0_5 a0_6 l0_7) = some r := H; have A8 := Aside0.mk A80; clear A80; have H' := Aside0.mk H; clear H; have hcz9_0 : wr.cell? ⟨gb324, 0, none⟩ = some (.int .i64 a0_0) := (blk_cell BK324.out 0).trans rfl; have hcz9_1 : wr.cell? ⟨gb324, 1, none⟩ = some (.int .i64 a0_1) := (blk_cell BK324.out 1).trans rfl; have hcz9_2 : wr.cell? ⟨gb324, 2, none⟩ = some (.string a0_2) := (blk_cell BK324.out 2).trans rfl; have hcz9_3 : wr.cell? ⟨gb324, 3, none⟩ = some (.string a0_3) := (blk_cell BK324.out 3).trans rfl; have hcz9_4 : wr.cell? ⟨gb324, 4, none⟩ = some (.string a0_4) := (blk_cell BK324.out 4).trans rfl; have hcz9_5 : wr.cell? ⟨gb324, 5, none⟩ = some (.bool a0_5) := (blk_cell BK324.out 5).trans rfl; have hcz9_6 : wr.cell? ⟨gb324, 6, none⟩ = some (.bool a0_6) := (blk_cell BK324.out 6).trans rfl; have hcz9_7 : wr.cell? ⟨gb324, 7, none⟩ = some (.slice A0_7 l0_7.length c0_7) := (blk_cell BK324.out 7).trans rfl; have hfz9_0 := blk_frozen BK324.out 0; have hfz9_1 := blk_frozen BK324.out 1; have hfz9_2 := blk_frozen BK324.out 2; have hfz9_3 := blk_frozen BK324.out 3; have hfz9_4 := blk_frozen BK324.out 4; have hfz9_5 := blk_frozen BK324.out 5; have hfz9_6 := blk_frozen BK324.out 6; have hfz9_7 := blk_frozen BK324.out 7; have p325 : 0 ≤ (x4_2 : Int) := od_; have q325 : x4_2 < (l0_7.length : Int) := od_; obtain ⟨ad325, A325_7, c325_7, e325, hx325_0, hx325_1, hx325_2, hx325_3, hx325_4, hx325_5, hx325_6, hx325_7, hl325_7, hi325_7⟩ := at_T26 HR0_7.out x4_2 p325 q325
       cases e325
       replace hx325_0 := (HB.out.cell (World.block_lt_of_cell? w _ hx325_0)).trans hx325_0; replace hx325_1 := (HB.out.cell (World.block_lt_of_cell? w _ hx325_1)).trans hx325_1; replace hx325_2 := (HB.out.cell (World.block_lt_of_cell? w _ hx325_2)).trans hx325_2; replace hx325_3 := (HB.out.cell (World.block_lt_of_cell? w _ hx325_3)).trans hx325_3; replace hx325_4 := (HB.out.cell (World.block_lt_of_cell? w _ hx325_4)).trans hx325_4; replace hx325_5 := (HB.out.cell (World.block_lt_of_cell? w _ hx325_5)).trans hx325_5; replace hx325_6 := (HB.out.cell (World.block_lt_of_cell? w _ hx325_6)).trans hx325_6; replace hx325_7 := (HB.out.cell (World.block_lt_of_cell? w _ hx325_7)).trans hx325_7; have HR325_7 := Aside0.mk hi325_7; have HC325_7 := Aside0.mk hl325_7; clear hi325_7 hl325_7; replace p325 := eq_true p325; replace q325 := eq_true q325; go_wp2_with (first | ((with_reducible refine gate_callee (f := 38) rfl ?_); refine goesL_ (some 21) rfl rfl Try.func38 (by kernel_rfl) rfl #[.agg #[.int .i64 ((rd_T26 l0_7 x4_2).f0), .int .i64 ((rd_T26 l0_7 x4_2).f1.f0), .string ((rd_T26 l0_7 x4_2).f1.f1), .string ((rd_T26 l0_7 x4_2).f1.f2), .string ((rd_T26 l0_7 x4_2).f1.f3), .bool ((rd_T26 l0_7 x4_2).f2), .bool ((rd_T26 l0_7 x4_2).f3), .slice A325_7 ((rd_T26 l0_7 x4_2).f4).length c325_7]] rfl ml_ ?_; (with_reducible refine (ih k2 (by have := HJ1.out; have := HK2.out; omega) ((rd_T26 l0_7 x4_2).f0) ((rd_T26 l0_7 x4_2).f1.f0) ((rd_T26 l0_7 x4_2).f1.f1) ((rd_T26 l0_7 x4_2).f1.f2) ((rd_T26 l0_7 x4_2).f1.f3) ((rd_T26 l0_7 x4_2).f2) ((rd_T26 l0_7 x4_2).f3) _ _ ((rd_T26 l0_7 x4_2).f4) t326 _ ?side1 ?side2 A8.out).mono ?_); (case side1 => exact cr_ (Kd.C_below HR325_7.out HB.out)); (case side2 => exact HC325_7.out); rintro e w10 ⟨rfl, hb⟩; refine ⟨_, rfl, ?_⟩; have n0_ := Aside0.mk (blk_below (g := gb324) (o := .cells #[.int .i64 a0_0, .int .i64 a0_1, .string a0_2, .string a0_3, .string a0_4, .bool a0_5, .bool a0_6, .slice (some ad325) l0_7.length c0_7] 26 (0, 0)) (bl_ BK324.out) hb); have n1_ := Aside0.mk (below_step (by repeat (first | (with_reducible first | exact HB.out | apply below_alloc | apply pw_below_drewN | apply below_drew1 | refine below_set ?_ GE324.out) | exact HB.out)) hb); clear BK324; clear HB; have BK324 := n0_; have HB := n1_; clear n0_ n1_; (try clear hb); (try clear hb2); (try clear hk); (try clear hi))); go_roundg k2
       case measure => have := HJ1.out; have := HK2.out; omega
       case rel => exact ⟨(wrap64 (x3_2 + t326)), (wrap64 (x4_2 + 1)), rf_, rf_, H', ⟨by have := HJ1.out; have := HK2.out; omega⟩, ⟨by (with_reducible repeat (first | refine blk_drewN ?_ _ | refine blk_drew ?_ | refine blk_alloc ?_ _)); exact BK324.out⟩, ⟨by repeat (first | (with_reducible first | exact HB.out | apply below_alloc | apply pw_below_drewN | apply below_drew1 | refine below_set ?_ GE324.out) | exact HB.out)⟩⟩
      ·rw [if_neg c7] at H
       exact absurd H (by simp)
     ·rw [if_neg c6] at H
      have c6b0 : decide (x4_2 < (l0_7.length : Int)) = false := decide_eq_false c6; have c6b9 := c6b0; (try simp only [hl325_7] at c6b9); clear c6; obtain rfl := Option.some.inj H; have hcz11_0 : wr.cell? ⟨gb324, 0, none⟩ = some (.int .i64 a0_0) := (blk_cell BK324.out 0).trans rfl; have hcz11_1 : wr.cell? ⟨gb324, 1, none⟩ = some (.int .i64 a0_1) := (blk_cell BK324.out 1).trans rfl; have hcz11_2 : wr.cell? ⟨gb324, 2, none⟩ = some (.string a0_2) := (blk_cell BK324.out 2).trans rfl; have hcz11_3 : wr.cell? ⟨gb324, 3, none⟩ = some (.string a0_3) := (blk_cell BK324.out 3).trans rfl; have hcz11_4 : wr.cell? ⟨gb324, 4, none⟩ = some (.string a0_4) := (blk_cell BK324.out 4).trans rfl; have hcz11_5 : wr.cell? ⟨gb324, 5, none⟩ = some (.bool a0_5) := (blk_cell BK324.out 5).trans rfl; have hcz11_6 : wr.cell? ⟨gb324, 6, none⟩ = some (.bool a0_6) := (blk_cell BK324.out 6).trans rfl; have hcz11_7 : wr.cell? ⟨gb324, 7, none⟩ = some (.slice A0_7 l0_7.length c0_7) := (blk_cell BK324.out 7).trans rfl; have hfz11_0 := blk_frozen BK324.out 0; have hfz11_1 := blk_frozen BK324.out 1; have hfz11_2 := blk_frozen BK324.out 2; have hfz11_3 := blk_frozen BK324.out 3; have hfz11_4 := blk_frozen BK324.out 4; have hfz11_5 := blk_frozen BK324.out 5; have hfz11_6 := blk_frozen BK324.out 6; have hfz11_7 := blk_frozen BK324.out 7; go_wp2; go_ret; exact ⟨re_, by repeat (first | (with_reducible first | exact HB.out | apply below_alloc | apply pw_below_drewN | apply below_drew1 | refine below_set ?_ GE324.out) | exact HB.out)⟩
set_option maxHeartbeats 8000000 in
set_option maxRecDepth 100000 in
theorem lustrumlaw11_PrintLex.calls (k : Nat) (a0_0 : Int) (a0_1 : Int) (a0_2 : ByteArray) (a0_3 : ByteArray) (a0_4 : ByteArray) (a0_5 : Bool) (a0_6 : Bool) (A0_7 : Option Addr) (c0_7 : Nat) (l0_7 : List (S26)) (r : Bool) (w : World) (hr0_7 : Kd.C k26 w A0_7 l0_7.length l0_7) (hc0_7 : l0_7.length ≤ c0_7) (h : lustrumlaw11_PrintLex.f k a0_0 a0_1 a0_2 a0_3 a0_4 a0_5 a0_6 l0_7 = some r) :
  Calls Try.prog 10 #[.agg #[.int .i64 a0_0, .int .i64 a0_1, .string a0_2, .string a0_3, .string a0_4, .bool a0_5, .bool a0_6, .slice A0_7 l0_7.length c0_7]] w fun e w' => e = .returned (.bool r) ∧ Below w.heap.size w w' := by
 have hu26 := Try.underlying26; have HR0_7 := Aside0.mk hr0_7; have HC0_7 := Aside0.mk hc0_7; clear hr0_7 hc0_7; have HB := Aside0.mk (Below.refl w.heap.size w); have H : ((lustrumlaw11_awake.f k).bind fun t328 => ((lustrumref10_Few.f k a0_0 a0_1 a0_2 a0_3 a0_4 a0_5 a0_6 l0_7).bind fun t329 => (if t329 = true then ((tree_Sane.f k a0_0 a0_1 a0_2 a0_3 a0_4 a0_5 a0_6 l0_7).bind fun t330 => (lustrumlaw11_PrintLex.j0 k t328 (!t330) a0_0 a0_1 a0_2 a0_3 a0_4 a0_5 a0_6 l0_7)) else (lustrumlaw11_PrintLex.j0 k t328 true a0_0 a0_1 a0_2 a0_3 a0_4 a0_5 a0_6 l0_7)))) = some r := h; clear h; replace H := Option.bind_eq_some_iff.mp H; obtain ⟨t328, A20, H⟩ := H; replace H : ((lustrumref10_Few.f k a0_0 a0_1 a0_2 a0_3 a0_4 a0_5 a0_6 l0_7).bind fun t329 => (if t329 = true then ((tree_Sane.f k a0_0 a0_1 a0_2 a0_3 a0_4 a0_5 a0_6 l0_7).bind fun t330 => (lustrumlaw11_PrintLex.j0 k t328 (!t330) a0_0 a0_1 a0_2 a0_3 a0_4 a0_5 a0_6 l0_7)) else (lustrumlaw11_PrintLex.j0 k t328 true a0_0 a0_1 a0_2 a0_3 a0_4 a0_5 a0_6 l0_7))) = some r := H; have A2 := Aside0.mk A20; clear A20; have HC3 := Aside0.mk H; clear H; go_enter Try.func10, Try.ntmps10; go_upto_region 2 with (first | ((with_reducible refine gate_dst (N := 1) rfl ?_); refine box_event ?hg (N := 1) ?hd (cs := #[.int .i64 a0_0, .int .i64 a0_1, .string a0_2, .string a0_3, .string a0_4, .bool a0_5, .bool a0_6, .slice A0_7 l0_7.length c0_7]) (t := 26) ?hr ?_; (case hd => rfl); (case hg => rfl); (case hr => first | (go_simp; done) | (go_simp; rfl)); intro gb327 hg w4 hbox hb; have n0_ := Aside0.mk (below_step hb_ hb); have n1_ := Aside0.mk (hbox); have n2_ := Aside0.mk ((by rw [hg]; exact (below_size hb_) : w.heap.size ≤ gb327)); have n3_ := Aside0.mk ((by rw [hg]; exact (below_size hb_) : w.heap.size ≤ gb327)); clear HB; have HB := n0_; have BK327 := n1_; have GW327 := n2_; have GE327 := n3_; clear n0_ n1_ n2_ n3_; clear hb hbox hg) | ((with_reducible refine gate_callee (f := 32) rfl ?_); refine goesL_ (some 12) rfl rfl Try.func32 (by kernel_rfl) rfl #[] rfl ml_ ?_; (with_reducible refine (lustrumlaw11_awake.calls k  t328 _ A2.out).mono ?_); rintro e w5 ⟨rfl, hb⟩; refine ⟨_, rfl, ?_⟩; have n0_ := Aside0.mk (blk_below (g := gb327) (o := .cells #[.int .i64 a0_0, .int .i64 a0_1, .string a0_2, .string a0_3, .string a0_4, .bool a0_5, .bool a0_6, .slice A0_7 l0_7.length c0_7] 26 (0, 0)) (bl_ BK327.out) hb); have n1_ := Aside0.mk (below_step (by repeat (first | (with_reducible first | exact HB.out | apply below_alloc | apply pw_below_drewN | apply below_drew1 | refine below_set ?_ GE327.out) | exact HB.out)) hb); clear BK327; clear HB; have BK327 := n0_; have HB := n1_; clear n0_ n1_; (try clear hb); (try clear hb2); (try clear hk); (try clear hi))); (try simp only [Act.put, List.setIfInBounds_toArray, List.set_cons_zero, List.set_cons_succ]); go_cut [20] (fun v20 wc => ∃ (kq : Nat) (x20_2 : Bool), v20 = .bool x20_2 ∧ Aside0 (lustrumlaw11_PrintLex.j0 kq t328 x20_2 a0_0 a0_1 a0_2 a0_3 a0_4 a0_5 a0_6 l0_7 = some r) ∧ Aside0 (kq ≤ k) ∧ Aside0 (wc.heap[gb327]? = some (.cells #[.int .i64 a0_0, .int .i64 a0_1, .string a0_2, .string a0_3, .string a0_4, .bool a0_5, .bool a0_6, (.slice A0_7 l0_7.length c0_7)] 26 (0, 0))) ∧ Aside0 (Below w.heap.size w wc))
 case first =>
  have H := HC3.out; clear HC3; replace H := Option.bind_eq_some_iff.mp H; obtain ⟨t329, A60, H⟩ := H; replace H : (if t329 = true then ((tree_Sane.f k a0_0 a0_1 a0_2 a0_3 a0_4 a0_5 a0_6 l0_7).bind fun t330 => (lustrumlaw11_PrintLex.j0 k t328 (!t330) a0_0 a0_1 a0_2 a0_3 a0_4 a0_5 a0_6 l0_7)) else (lustrumlaw11_PrintLex.j0 k t328 true a0_0 a0_1 a0_2 a0_3 a0_4 a0_5 a0_6 l0_7)) = some r := H; have A6 := Aside0.mk A60; clear A60
  by_cases c7 : t329 = true
  ·subst c7
   (have H1 : ((tree_Sane.f k a0_0 a0_1 a0_2 a0_3 a0_4 a0_5 a0_6 l0_7).bind fun t330 => (lustrumlaw11_PrintLex.j0 k t328 (!t330) a0_0 a0_1 a0_2 a0_3 a0_4 a0_5 a0_6 l0_7)) = some r := by rw [if_pos rfl] at H; exact H); clear H; have H := H1; clear H1; replace H := Option.bind_eq_some_iff.mp H; obtain ⟨t330, A80, H⟩ := H; replace H : (lustrumlaw11_PrintLex.j0 k t328 (!t330) a0_0 a0_1 a0_2 a0_3 a0_4 a0_5 a0_6 l0_7) = some r := H; have A8 := Aside0.mk A80; clear A80; have H' := Aside0.mk H; clear H; have hcz9_0 : w5.cell? ⟨gb327, 0, none⟩ = some (.int .i64 a0_0) := (blk_cell BK327.out 0).trans rfl; have hcz9_1 : w5.cell? ⟨gb327, 1, none⟩ = some (.int .i64 a0_1) := (blk_cell BK327.out 1).trans rfl; have hcz9_2 : w5.cell? ⟨gb327, 2, none⟩ = some (.string a0_2) := (blk_cell BK327.out 2).trans rfl; have hcz9_3 : w5.cell? ⟨gb327, 3, none⟩ = some (.string a0_3) := (blk_cell BK327.out 3).trans rfl; have hcz9_4 : w5.cell? ⟨gb327, 4, none⟩ = some (.string a0_4) := (blk_cell BK327.out 4).trans rfl; have hcz9_5 : w5.cell? ⟨gb327, 5, none⟩ = some (.bool a0_5) := (blk_cell BK327.out 5).trans rfl; have hcz9_6 : w5.cell? ⟨gb327, 6, none⟩ = some (.bool a0_6) := (blk_cell BK327.out 6).trans rfl; have hcz9_7 : w5.cell? ⟨gb327, 7, none⟩ = some (.slice A0_7 l0_7.length c0_7) := (blk_cell BK327.out 7).trans rfl; have hfz9_0 := blk_frozen BK327.out 0; have hfz9_1 := blk_frozen BK327.out 1; have hfz9_2 := blk_frozen BK327.out 2; have hfz9_3 := blk_frozen BK327.out 3; have hfz9_4 := blk_frozen BK327.out 4; have hfz9_5 := blk_frozen BK327.out 5; have hfz9_6 := blk_frozen BK327.out 6; have hfz9_7 := blk_frozen BK327.out 7; go_wp2_with (first | ((with_reducible refine gate_callee (f := 17) rfl ?_); refine goesL_ (some 14) rfl rfl Try.func17 (by kernel_rfl) rfl #[.agg #[.int .i64 a0_0, .int .i64 a0_1, .string a0_2, .string a0_3, .string a0_4, .bool a0_5, .bool a0_6, .slice A0_7 l0_7.length c0_7]] rfl ml_ ?_; (with_reducible refine (lustrumref10_Few.calls k a0_0 a0_1 a0_2 a0_3 a0_4 a0_5 a0_6 _ _ l0_7 true _ ?side1 ?side2 A6.out).mono ?_); (case side1 => exact cr_ (Kd.C_below HR0_7.out HB.out)); (case side2 => exact HC0_7.out); rintro e w10 ⟨rfl, hb⟩; refine ⟨_, rfl, ?_⟩; have n0_ := Aside0.mk (blk_below (g := gb327) (o := .cells #[.int .i64 a0_0, .int .i64 a0_1, .string a0_2, .string a0_3, .string a0_4, .bool a0_5, .bool a0_6, .slice A0_7 l0_7.length c0_7] 26 (0, 0)) (bl_ BK327.out) hb); have n1_ := Aside0.mk (below_step (by repeat (first | (with_reducible first | exact HB.out | apply below_alloc | apply pw_below_drewN | apply below_drew1 | refine below_set ?_ GE327.out) | exact HB.out)) hb); clear BK327; clear HB; have BK327 := n0_; have HB := n1_; clear n0_ n1_; (try clear hb); (try clear hb2); (try clear hk); (try clear hi); have hcz11_0 : w10.cell? ⟨gb327, 0, none⟩ = some (.int .i64 a0_0) := (blk_cell BK327.out 0).trans rfl; have hcz11_1 : w10.cell? ⟨gb327, 1, none⟩ = some (.int .i64 a0_1) := (blk_cell BK327.out 1).trans rfl; have hcz11_2 : w10.cell? ⟨gb327, 2, none⟩ = some (.string a0_2) := (blk_cell BK327.out 2).trans rfl; have hcz11_3 : w10.cell? ⟨gb327, 3, none⟩ = some (.string a0_3) := (blk_cell BK327.out 3).trans rfl; have hcz11_4 : w10.cell? ⟨gb327, 4, none⟩ = some (.string a0_4) := (blk_cell BK327.out 4).trans rfl; have hcz11_5 : w10.cell? ⟨gb327, 5, none⟩ = some (.bool a0_5) := (blk_cell BK327.out 5).trans rfl; have hcz11_6 : w10.cell? ⟨gb327, 6, none⟩ = some (.bool a0_6) := (blk_cell BK327.out 6).trans rfl; have hcz11_7 : w10.cell? ⟨gb327, 7, none⟩ = some (.slice A0_7 l0_7.length c0_7) := (blk_cell BK327.out 7).trans rfl; have hfz11_0 := blk_frozen BK327.out 0; have hfz11_1 := blk_frozen BK327.out 1; have hfz11_2 := blk_frozen BK327.out 2; have hfz11_3 := blk_frozen BK327.out 3; have hfz11_4 := blk_frozen BK327.out 4; have hfz11_5 := blk_frozen BK327.out 5; have hfz11_6 := blk_frozen BK327.out 6; have hfz11_7 := blk_frozen BK327.out 7) | (go_at_call 18; (with_reducible refine (tree_Sane.calls k a0_0 a0_1 a0_2 a0_3 a0_4 a0_5 a0_6 _ _ l0_7 t330 _ ?side1 ?side2 A8.out).mono ?_); (case side1 => exact cr_ (Kd.C_below HR0_7.out HB.out)); (case side2 => exact HC0_7.out); rintro e w12 ⟨rfl, hb⟩; have n0_ := Aside0.mk (blk_below (g := gb327) (o := .cells #[.int .i64 a0_0, .int .i64 a0_1, .string a0_2, .string a0_3, .string a0_4, .bool a0_5, .bool a0_6, .slice A0_7 l0_7.length c0_7] 26 (0, 0)) (bl_ BK327.out) hb); have n1_ := Aside0.mk (below_step (by repeat (first | (with_reducible first | exact HB.out | apply below_alloc | apply pw_below_drewN | apply below_drew1 | refine below_set ?_ GE327.out) | exact HB.out)) hb); clear BK327; clear HB; have BK327 := n0_; have HB := n1_; clear n0_ n1_; (try clear hb); (try clear hb2); (try clear hk); (try clear hi)))
   go_meet
   case rel => exact ⟨_, (!t330), rf_, H', ⟨by first | omega | exact Nat.le_refl _⟩, ⟨by (with_reducible repeat (first | refine blk_drewN ?_ _ | refine blk_drew ?_ | refine blk_alloc ?_ _)); exact BK327.out⟩, ⟨by repeat (first | (with_reducible first | exact HB.out | apply below_alloc | apply pw_below_drewN | apply below_drew1 | refine below_set ?_ GE327.out) | exact HB.out)⟩⟩
  ·replace c7 := Bool.eq_false_iff.mpr c7
   subst c7; (have H1 : (lustrumlaw11_PrintLex.j0 k t328 true a0_0 a0_1 a0_2 a0_3 a0_4 a0_5 a0_6 l0_7) = some r := by rw [if_neg (show ¬ (false = true) by decide)] at H; exact H); clear H; have H := H1; clear H1; have H' := Aside0.mk H; clear H; have hcz13_0 : w5.cell? ⟨gb327, 0, none⟩ = some (.int .i64 a0_0) := (blk_cell BK327.out 0).trans rfl; have hcz13_1 : w5.cell? ⟨gb327, 1, none⟩ = some (.int .i64 a0_1) := (blk_cell BK327.out 1).trans rfl; have hcz13_2 : w5.cell? ⟨gb327, 2, none⟩ = some (.string a0_2) := (blk_cell BK327.out 2).trans rfl; have hcz13_3 : w5.cell? ⟨gb327, 3, none⟩ = some (.string a0_3) := (blk_cell BK327.out 3).trans rfl; have hcz13_4 : w5.cell? ⟨gb327, 4, none⟩ = some (.string a0_4) := (blk_cell BK327.out 4).trans rfl; have hcz13_5 : w5.cell? ⟨gb327, 5, none⟩ = some (.bool a0_5) := (blk_cell BK327.out 5).trans rfl; have hcz13_6 : w5.cell? ⟨gb327, 6, none⟩ = some (.bool a0_6) := (blk_cell BK327.out 6).trans rfl; have hcz13_7 : w5.cell? ⟨gb327, 7, none⟩ = some (.slice A0_7 l0_7.length c0_7) := (blk_cell BK327.out 7).trans rfl; have hfz13_0 := blk_frozen BK327.out 0; have hfz13_1 := blk_frozen BK327.out 1; have hfz13_2 := blk_frozen BK327.out 2; have hfz13_3 := blk_frozen BK327.out 3; have hfz13_4 := blk_frozen BK327.out 4; have hfz13_5 := blk_frozen BK327.out 5; have hfz13_6 := blk_frozen BK327.out 6; have hfz13_7 := blk_frozen BK327.out 7; go_wp2_with (first | ((with_reducible refine gate_callee (f := 17) rfl ?_); refine goesL_ (some 14) rfl rfl Try.func17 (by kernel_rfl) rfl #[.agg #[.int .i64 a0_0, .int .i64 a0_1, .string a0_2, .string a0_3, .string a0_4, .bool a0_5, .bool a0_6, .slice A0_7 l0_7.length c0_7]] rfl ml_ ?_; (with_reducible refine (lustrumref10_Few.calls k a0_0 a0_1 a0_2 a0_3 a0_4 a0_5 a0_6 _ _ l0_7 false _ ?side1 ?side2 A6.out).mono ?_); (case side1 => exact cr_ (Kd.C_below HR0_7.out HB.out)); (case side2 => exact HC0_7.out); rintro e w14 ⟨rfl, hb⟩; refine ⟨_, rfl, ?_⟩; have n0_ := Aside0.mk (blk_below (g := gb327) (o := .cells #[.int .i64 a0_0, .int .i64 a0_1, .string a0_2, .string a0_3, .string a0_4, .bool a0_5, .bool a0_6, .slice A0_7 l0_7.length c0_7] 26 (0, 0)) (bl_ BK327.out) hb); have n1_ := Aside0.mk (below_step (by repeat (first | (with_reducible first | exact HB.out | apply below_alloc | apply pw_below_drewN | apply below_drew1 | refine below_set ?_ GE327.out) | exact HB.out)) hb); clear BK327; clear HB; have BK327 := n0_; have HB := n1_; clear n0_ n1_; (try clear hb); (try clear hb2); (try clear hk); (try clear hi))); go_meet
   case rel => exact ⟨_, (true), rf_, H', ⟨by first | omega | exact Nat.le_refl _⟩, ⟨by (with_reducible repeat (first | refine blk_drewN ?_ _ | refine blk_drew ?_ | refine blk_alloc ?_ _)); exact BK327.out⟩, ⟨by repeat (first | (with_reducible first | exact HB.out | apply below_alloc | apply pw_below_drewN | apply below_drew1 | refine below_set ?_ GE327.out) | exact HB.out)⟩⟩
 case rest =>
  clear HC3; (try clear c1); (try clear p2); (try clear c3); (try clear c7); (try clear c10); (try clear hcz11_0); (try clear hcz11_1); (try clear hcz11_2); (try clear hcz11_3); (try clear hcz11_4); (try clear hcz11_5); (try clear hcz11_6); (try clear hcz11_7); (try clear hcz13_0); (try clear hcz13_1); (try clear hcz13_2); (try clear hcz13_3); (try clear hcz13_4); (try clear hcz13_5); (try clear hcz13_6); (try clear hcz13_7); (try clear hcz9_0); (try clear hcz9_1); (try clear hcz9_2); (try clear hcz9_3); (try clear hcz9_4); (try clear hcz9_5); (try clear hcz9_6); (try clear hcz9_7); (try clear hfz11_0); (try clear hfz11_1); (try clear hfz11_2); (try clear hfz11_3); (try clear hfz11_4); (try clear hfz11_5); (try clear hfz11_6); (try clear hfz11_7); (try clear hfz13_0); (try clear hfz13_1); (try clear hfz13_2); (try clear hfz13_3); (try clear hfz13_4); (try clear hfz13_5); (try clear hfz13_6); (try clear hfz13_7); (try clear hfz9_0); (try clear hfz9_1); (try clear hfz9_2); (try clear hfz9_3); (try clear hfz9_4); (try clear hfz9_5); (try clear hfz9_6); (try clear hfz9_7); obtain ⟨kq, x20_2, rfl, HA, HJ2, BK327, HB⟩ := hcut
  cases kq with
  | zero => exact absurd HA.out (by simp [lustrumlaw11_PrintLex.j0])
  | succ kj2 =>
   have H := HA.out; clear HA; simp only [lustrumlaw11_PrintLex.j0] at H
   by_cases c15 : x20_2 = true
   ·subst c15
    (have H1 : (some t328) = some r := by rw [if_pos rfl] at H; exact H); clear H; have H := H1; clear H1; obtain rfl := Option.some.inj H; go_wp2; go_ret; exact ⟨re_, by repeat (first | (with_reducible first | exact HB.out | apply below_alloc | apply pw_below_drewN | apply below_drew1 | refine below_set ?_ GE327.out) | exact HB.out)⟩
   ·replace c15 := Bool.eq_false_iff.mpr c15
    subst c15; (have H1 : ((print_Text.f kj2 a0_0 a0_1 a0_2 a0_3 a0_4 a0_5 a0_6 l0_7).bind fun t331 => ((lex_All.f kj2 t331).bind fun bt332 => (lustrumlaw11_PrintLex.l0 kj2 t328 t331 bt332.1 bt332.2.2 (⟨#[]⟩ : ByteArray) 0 a0_0 a0_1 a0_2 a0_3 a0_4 a0_5 a0_6 l0_7))) = some r := by rw [if_neg (show ¬ (false = true) by decide)] at H; exact H); clear H; have H := H1; clear H1; replace H := Option.bind_eq_some_iff.mp H; obtain ⟨t331, A160, H⟩ := H; replace H : ((lex_All.f kj2 t331).bind fun bt332 => (lustrumlaw11_PrintLex.l0 kj2 t328 t331 bt332.1 bt332.2.2 (⟨#[]⟩ : ByteArray) 0 a0_0 a0_1 a0_2 a0_3 a0_4 a0_5 a0_6 l0_7)) = some r := H; have A16 := Aside0.mk A160; clear A160; replace H := Option.bind_eq_some_iff.mp H; obtain ⟨⟨t332, t333, t334⟩, A170, H⟩ := H; replace H : (lustrumlaw11_PrintLex.l0 kj2 t328 t331 t332 t334 (⟨#[]⟩ : ByteArray) 0 a0_0 a0_1 a0_2 a0_3 a0_4 a0_5 a0_6 l0_7) = some r := H; have A17 := Aside0.mk A170; clear A170; have H' := Aside0.mk H; clear H; have hcz18_0 : wc.cell? ⟨gb327, 0, none⟩ = some (.int .i64 a0_0) := (blk_cell BK327.out 0).trans rfl; have hcz18_1 : wc.cell? ⟨gb327, 1, none⟩ = some (.int .i64 a0_1) := (blk_cell BK327.out 1).trans rfl; have hcz18_2 : wc.cell? ⟨gb327, 2, none⟩ = some (.string a0_2) := (blk_cell BK327.out 2).trans rfl; have hcz18_3 : wc.cell? ⟨gb327, 3, none⟩ = some (.string a0_3) := (blk_cell BK327.out 3).trans rfl; have hcz18_4 : wc.cell? ⟨gb327, 4, none⟩ = some (.string a0_4) := (blk_cell BK327.out 4).trans rfl; have hcz18_5 : wc.cell? ⟨gb327, 5, none⟩ = some (.bool a0_5) := (blk_cell BK327.out 5).trans rfl; have hcz18_6 : wc.cell? ⟨gb327, 6, none⟩ = some (.bool a0_6) := (blk_cell BK327.out 6).trans rfl; have hcz18_7 : wc.cell? ⟨gb327, 7, none⟩ = some (.slice A0_7 l0_7.length c0_7) := (blk_cell BK327.out 7).trans rfl; have hfz18_0 := blk_frozen BK327.out 0; have hfz18_1 := blk_frozen BK327.out 1; have hfz18_2 := blk_frozen BK327.out 2; have hfz18_3 := blk_frozen BK327.out 3; have hfz18_4 := blk_frozen BK327.out 4; have hfz18_5 := blk_frozen BK327.out 5; have hfz18_6 := blk_frozen BK327.out 6; have hfz18_7 := blk_frozen BK327.out 7; go_wp2_with (first | ((with_reducible refine gate_callee (f := 33) rfl ?_); refine goesL_ (some 23) rfl rfl Try.func33 (by kernel_rfl) rfl #[.agg #[.int .i64 a0_0, .int .i64 a0_1, .string a0_2, .string a0_3, .string a0_4, .bool a0_5, .bool a0_6, .slice A0_7 l0_7.length c0_7]] rfl ml_ ?_; (with_reducible refine (print_Text.calls kj2 a0_0 a0_1 a0_2 a0_3 a0_4 a0_5 a0_6 _ _ l0_7 t331 _ ?side1 ?side2 A16.out).mono ?_); (case side1 => exact cr_ (Kd.C_below HR0_7.out HB.out)); (case side2 => exact HC0_7.out); rintro e w19 ⟨rfl, hb⟩; refine ⟨_, rfl, ?_⟩; have n0_ := Aside0.mk (blk_below (g := gb327) (o := .cells #[.int .i64 a0_0, .int .i64 a0_1, .string a0_2, .string a0_3, .string a0_4, .bool a0_5, .bool a0_6, .slice A0_7 l0_7.length c0_7] 26 (0, 0)) (bl_ BK327.out) hb); have n1_ := Aside0.mk (below_step (by repeat (first | (with_reducible first | exact HB.out | apply below_alloc | apply pw_below_drewN | apply below_drew1 | refine below_set ?_ GE327.out) | exact HB.out)) hb); clear BK327; clear HB; have BK327 := n0_; have HB := n1_; clear n0_ n1_; (try clear hb); (try clear hb2); (try clear hk); (try clear hi)) | ((with_reducible refine gate_callee (f := 36) rfl ?_); refine goesL_ (some 26) rfl rfl Try.func36 (by kernel_rfl) rfl #[.string t331] rfl ml_ ?_; (with_reducible refine (lex_All.calls kj2 t331 t332 t333 t334 _ A17.out).mono ?_); rintro e w20 ⟨v335, rfl, ho0, hb⟩; refine ⟨_, rfl, ?_⟩; have n0_ := Aside0.mk (Kd.R_lower ho0 (below_size (by repeat (first | (with_reducible first | exact HB.out | apply below_alloc | apply pw_below_drewN | apply below_drew1 | refine below_set ?_ GE327.out) | exact HB.out)))); have n1_ := Aside0.mk (blk_below (g := gb327) (o := .cells #[.int .i64 a0_0, .int .i64 a0_1, .string a0_2, .string a0_3, .string a0_4, .bool a0_5, .bool a0_6, .slice A0_7 l0_7.length c0_7] 26 (0, 0)) (bl_ BK327.out) hb); have n2_ := Aside0.mk (below_step (by repeat (first | (with_reducible first | exact HB.out | apply below_alloc | apply pw_below_drewN | apply below_drew1 | refine below_set ?_ GE327.out) | exact HB.out)) hb); clear BK327; clear HB; have HO336 := n0_; have BK327 := n1_; have HB := n2_; clear n0_ n1_ n2_; (try clear hb); (try clear hb2); (try clear hk); (try clear hi); (try clear ho0)))
    go_loopg [8, 9] kj2 (fun kq v8 v9 w' => ∃ (x8_2 : ByteArray) (x9_2 : Int), v8 = .string x8_2 ∧ v9 = .int .i64 x9_2 ∧ Aside0 (lustrumlaw11_PrintLex.l0 kq t328 t331 t332 t334 x8_2 x9_2 a0_0 a0_1 a0_2 a0_3 a0_4 a0_5 a0_6 l0_7 = some r) ∧ Aside0 (kq ≤ kj2) ∧ Aside0 (Kd.R k42 42 w' w.heap.size (fun _ => True) v335 t332) ∧ Aside0 (w'.heap[gb327]? = some (.cells #[.int .i64 a0_0, .int .i64 a0_1, .string a0_2, .string a0_3, .string a0_4, .bool a0_5, .bool a0_6, (.slice A0_7 l0_7.length c0_7)] 26 (0, 0))) ∧ Aside0 (Below w.heap.size w w'))
    case atStart => exact ⟨((⟨#[]⟩ : ByteArray)), (0), rf_, rf_, H', ⟨Nat.le_refl _⟩, ⟨by (with_reducible repeat (first | apply Kd.R_alloc | apply Kd.R_drewN | apply Kd.R_drew)); exact HO336.out⟩, ⟨by (with_reducible repeat (first | refine blk_drewN ?_ _ | refine blk_drew ?_ | refine blk_alloc ?_ _)); exact BK327.out⟩, ⟨by repeat (first | (with_reducible first | exact HB.out | apply below_alloc | apply pw_below_drewN | apply below_drew1 | refine below_set ?_ GE327.out) | exact HB.out)⟩⟩
    case round =>
     clear H'; (try clear c1); (try clear p2); (try clear c3); (try clear c7); (try clear c10); (try clear c15); (try clear c17); (try clear hcz11_0); (try clear hcz11_1); (try clear hcz11_2); (try clear hcz11_3); (try clear hcz11_4); (try clear hcz11_5); (try clear hcz11_6); (try clear hcz11_7); (try clear hcz13_0); (try clear hcz13_1); (try clear hcz13_2); (try clear hcz13_3); (try clear hcz13_4); (try clear hcz13_5); (try clear hcz13_6); (try clear hcz13_7); (try clear hcz18_0); (try clear hcz18_1); (try clear hcz18_2); (try clear hcz18_3); (try clear hcz18_4); (try clear hcz18_5); (try clear hcz18_6); (try clear hcz18_7); (try clear hcz9_0); (try clear hcz9_1); (try clear hcz9_2); (try clear hcz9_3); (try clear hcz9_4); (try clear hcz9_5); (try clear hcz9_6); (try clear hcz9_7); (try clear hfz11_0); (try clear hfz11_1); (try clear hfz11_2); (try clear hfz11_3); (try clear hfz11_4); (try clear hfz11_5); (try clear hfz11_6); (try clear hfz11_7); (try clear hfz13_0); (try clear hfz13_1); (try clear hfz13_2); (try clear hfz13_3); (try clear hfz13_4); (try clear hfz13_5); (try clear hfz13_6); (try clear hfz13_7); (try clear hfz18_0); (try clear hfz18_1); (try clear hfz18_2); (try clear hfz18_3); (try clear hfz18_4); (try clear hfz18_5); (try clear hfz18_6); (try clear hfz18_7); (try clear hfz9_0); (try clear hfz9_1); (try clear hfz9_2); (try clear hfz9_3); (try clear hfz9_4); (try clear hfz9_5); (try clear hfz9_6); (try clear hfz9_7); (try clear p2); obtain ⟨x8_2, x9_2, rfl, rfl, HA, HK2, HO_5, BK327, HB⟩ := hrel
     cases gk with
     | zero => exact absurd HA.out (by simp [lustrumlaw11_PrintLex.l0])
     | succ k2 =>
      have H := HA.out; clear HA; simp only [lustrumlaw11_PrintLex.l0] at H
      by_cases c21 : x9_2 < (t331.size : Int)
      ·rw [if_pos c21] at H
       have c21b0 : decide (x9_2 < (t331.size : Int)) = true := decide_eq_true c21; clear c21
       by_cases c22 : 0 ≤ x9_2
       ·rw [if_pos c22] at H
        have c22b0 : decide (0 ≤ x9_2) = true := decide_eq_true c22; clear c22
        by_cases c24 : (bt t331 x9_2) = 32
        ·rw [if_pos c24] at H
         have c24b0 : ((bt t331 x9_2) == 32) = true := beq_iff_eq.mpr c24; have c24b1 : ((bt t331 x9_2) != 32) = false := bne_eq_false_iff_eq.mpr c24; clear c24; have H' := Aside0.mk H; clear H; have p23 : 0 ≤ (x9_2 : Int) := od_; have q23 : x9_2 < (t331.size : Int) := od_; have hx23 := bt_at t331 x9_2; replace p23 := eq_true p23; replace q23 := eq_true q23; go_wp2; go_roundg k2
         case measure => have := HJ2.out; have := HK2.out; omega
         case rel => exact ⟨(x8_2), (wrap64 (x9_2 + 1)), rf_, rf_, H', ⟨by have := HJ2.out; have := HK2.out; omega⟩, ⟨by (with_reducible repeat (first | apply Kd.R_alloc | apply Kd.R_drewN | apply Kd.R_drew)); exact HO_5.out⟩, ⟨by (with_reducible repeat (first | refine blk_drewN ?_ _ | refine blk_drew ?_ | refine blk_alloc ?_ _)); exact BK327.out⟩, ⟨by repeat (first | (with_reducible first | exact HB.out | apply below_alloc | apply pw_below_drewN | apply below_drew1 | refine below_set ?_ GE327.out) | exact HB.out)⟩⟩
        ·rw [if_neg c24] at H
         have c24b0 : ((bt t331 x9_2) == 32) = false := beq_eq_false_iff_ne.mpr c24; have c24b1 : ((bt t331 x9_2) != 32) = true := bne_iff_ne.mpr c24; have c25b0 := eq_true (od_ : 0 ≤ x9_2)
         by_cases c26 : x9_2 ≤ (wrap64 (x9_2 + 1))
         ·rw [if_pos c26] at H
          have c26b0 := eq_true c26; have c26b1 : decide (x9_2 ≤ (wrap64 (x9_2 + 1))) = true := decide_eq_true c26
          by_cases c27 : (wrap64 (x9_2 + 1)) ≤ (t331.size : Int)
          ·rw [if_pos c27] at H
           have c27b0 := eq_true c27; have c27b1 : decide ((wrap64 (x9_2 + 1)) ≤ (t331.size : Int)) = true := decide_eq_true c27
           by_cases c28 : x8_2.size + (t331.extract (x9_2 : Int).toNat ((wrap64 (x9_2 + 1)) : Int).toNat).size ≤ 9223372036854775807
           ·rw [if_pos c28] at H
            have c28b0 := eq_true c28; have c28b1 : decide (x8_2.size + (t331.extract (x9_2 : Int).toNat ((wrap64 (x9_2 + 1)) : Int).toNat).size ≤ 9223372036854775807) = true := decide_eq_true c28; (try have c28b2 : (9223372036854775807 < x8_2.size + (t331.extract (x9_2 : Int).toNat ((wrap64 (x9_2 + 1)) : Int).toNat).size) = False := eq_false (Nat.not_lt.2 c28)); have H' := Aside0.mk H; clear H; have p23 : 0 ≤ (x9_2 : Int) := od_; have q23 : x9_2 < (t331.size : Int) := od_; have hx23 := bt_at t331 x9_2; replace p23 := eq_true p23; replace q23 := eq_true q23; go_wp2; go_roundg k2
            case measure => have := HJ2.out; have := HK2.out; omega
            case rel => exact ⟨(x8_2 ++ (t331.extract (x9_2 : Int).toNat ((wrap64 (x9_2 + 1)) : Int).toNat)), (wrap64 (x9_2 + 1)), rf_, rf_, H', ⟨by have := HJ2.out; have := HK2.out; omega⟩, ⟨by (with_reducible repeat (first | apply Kd.R_alloc | apply Kd.R_drewN | apply Kd.R_drew)); exact HO_5.out⟩, ⟨by (with_reducible repeat (first | refine blk_drewN ?_ _ | refine blk_drew ?_ | refine blk_alloc ?_ _)); exact BK327.out⟩, ⟨by repeat (first | (with_reducible first | exact HB.out | apply below_alloc | apply pw_below_drewN | apply below_drew1 | refine below_set ?_ GE327.out) | exact HB.out)⟩⟩
           ·rw [if_neg c28] at H
            exact absurd H (by simp)
          ·rw [if_neg c27] at H
           exact absurd H (by simp)
         ·rw [if_neg c26] at H
          exact absurd H (by simp)
       ·rw [if_neg c22] at H
        exact absurd H (by simp)
      ·rw [if_neg c21] at H
       have c21b0 : decide (x9_2 < (t331.size : Int)) = false := decide_eq_false c21; clear c21; have H' := Aside0.mk H; clear H; go_wp2; go_loopg [10, 11] k2 (fun kq v10 v11 w' => ∃ (x10_3 : Int) (x11_3 : Int), v10 = .int .i64 x10_3 ∧ v11 = .int .i64 x11_3 ∧ Aside0 (lustrumlaw11_PrintLex.l1 kq t328 t332 t334 x8_2 x10_3 x11_3 a0_0 a0_1 a0_2 a0_3 a0_4 a0_5 a0_6 l0_7 = some r) ∧ Aside0 (kq ≤ k2) ∧ Aside0 (Kd.R k42 42 w' w.heap.size (fun _ => True) v335 t332) ∧ Aside0 (w'.heap[gb327]? = some (.cells #[.int .i64 a0_0, .int .i64 a0_1, .string a0_2, .string a0_3, .string a0_4, .bool a0_5, .bool a0_6, (.slice A0_7 l0_7.length c0_7)] 26 (0, 0))) ∧ Aside0 (Below w.heap.size w w'))
       case atStart => exact ⟨(0), (0), rf_, rf_, H', ⟨Nat.le_refl _⟩, ⟨by (with_reducible repeat (first | apply Kd.R_alloc | apply Kd.R_drewN | apply Kd.R_drew)); exact HO_5.out⟩, ⟨by (with_reducible repeat (first | refine blk_drewN ?_ _ | refine blk_drew ?_ | refine blk_alloc ?_ _)); exact BK327.out⟩, ⟨by repeat (first | (with_reducible first | exact HB.out | apply below_alloc | apply pw_below_drewN | apply below_drew1 | refine below_set ?_ GE327.out) | exact HB.out)⟩⟩
       case round =>
        clear H'; (try clear c1); (try clear c2); (try clear p2); (try clear q2); (try clear hx2); (try clear c3); (try clear p6); (try clear c7); (try clear c10); (try clear c15); (try clear c17); (try clear c21); (try clear c21b0); (try clear c22); (try clear c22b0); (try clear p23); (try clear q23); (try clear hx23); (try clear c24); (try clear c24b0); (try clear c24b1); (try clear c25); (try clear c25b0); (try clear c26); (try clear c26b0); (try clear c26b1); (try clear c27); (try clear c27b0); (try clear c27b1); (try clear c28); (try clear c28b0); (try clear c28b1); (try clear c28b2); (try clear hcz11_0); (try clear hcz11_1); (try clear hcz11_2); (try clear hcz11_3); (try clear hcz11_4); (try clear hcz11_5); (try clear hcz11_6); (try clear hcz11_7); (try clear hcz13_0); (try clear hcz13_1); (try clear hcz13_2); (try clear hcz13_3); (try clear hcz13_4); (try clear hcz13_5); (try clear hcz13_6); (try clear hcz13_7); (try clear hcz18_0); (try clear hcz18_1); (try clear hcz18_2); (try clear hcz18_3); (try clear hcz18_4); (try clear hcz18_5); (try clear hcz18_6); (try clear hcz18_7); (try clear hcz9_0); (try clear hcz9_1); (try clear hcz9_2); (try clear hcz9_3); (try clear hcz9_4); (try clear hcz9_5); (try clear hcz9_6); (try clear hcz9_7); (try clear hfz11_0); (try clear hfz11_1); (try clear hfz11_2); (try clear hfz11_3); (try clear hfz11_4); (try clear hfz11_5); (try clear hfz11_6); (try clear hfz11_7); (try clear hfz13_0); (try clear hfz13_1); (try clear hfz13_2); (try clear hfz13_3); (try clear hfz13_4); (try clear hfz13_5); (try clear hfz13_6); (try clear hfz13_7); (try clear hfz18_0); (try clear hfz18_1); (try clear hfz18_2); (try clear hfz18_3); (try clear hfz18_4); (try clear hfz18_5); (try clear hfz18_6); (try clear hfz18_7); (try clear hfz9_0); (try clear hfz9_1); (try clear hfz9_2); (try clear hfz9_3); (try clear hfz9_4); (try clear hfz9_5); (try clear hfz9_6); (try clear hfz9_7); (try clear p2); (try clear p23); (try clear q23); obtain ⟨x10_3, x11_3, rfl, rfl, HA, HK3, HO_5, BK327, HB⟩ := hrel
        cases gk with
        | zero => exact absurd HA.out (by simp [lustrumlaw11_PrintLex.l1])
        | succ k3 =>
         have H := HA.out; clear HA; simp only [lustrumlaw11_PrintLex.l1] at H
         by_cases c29 : x11_3 < (t332.length : Int)
         ·rw [if_pos c29] at H
          have c29b0 : decide (x11_3 < (t332.length : Int)) = true := decide_eq_true c29; clear c29
          by_cases c30 : 0 ≤ x11_3
          ·rw [if_pos c30] at H
           have c30b0 : decide (0 ≤ x11_3) = true := decide_eq_true c30; clear c30
           by_cases c31 : ((rd_T42 t332 x11_3).f0) = 0
           ·rw [if_pos c31] at H
            have c31b0 : (((rd_T42 t332 x11_3).f0) == 0) = true := beq_iff_eq.mpr c31; have c31b1 : (((rd_T42 t332 x11_3).f0) != 0) = false := bne_eq_false_iff_eq.mpr c31; clear c31; have H' := Aside0.mk H; clear H; obtain ⟨Ao32, co32, eo32⟩ := Kd.R_slice HO_5.out; subst eo32; have p337 : 0 ≤ (x11_3 : Int) := od_; have q337 : x11_3 < (t332.length : Int) := od_; obtain ⟨ad337, e337, hx337_0, hx337_1, hx337_2⟩ := at_T42 (Kd.R_reads' HO_5.out).2.2 x11_3 p337 q337
            cases e337
            replace p337 := eq_true p337; replace q337 := eq_true q337; go_wp2; go_roundg k3
            case measure => have := HJ2.out; have := HK2.out; have := HK3.out; omega
            case rel => exact ⟨(wrap64 (x10_3 + 1)), (wrap64 (x11_3 + 1)), rf_, rf_, H', ⟨by have := HJ2.out; have := HK2.out; have := HK3.out; omega⟩, ⟨by (with_reducible repeat (first | apply Kd.R_alloc | apply Kd.R_drewN | apply Kd.R_drew)); exact HO_5.out⟩, ⟨by (with_reducible repeat (first | refine blk_drewN ?_ _ | refine blk_drew ?_ | refine blk_alloc ?_ _)); exact BK327.out⟩, ⟨by repeat (first | (with_reducible first | exact HB.out | apply below_alloc | apply pw_below_drewN | apply below_drew1 | refine below_set ?_ GE327.out) | exact HB.out)⟩⟩
           ·rw [if_neg c31] at H
            have c31b0 : (((rd_T42 t332 x11_3).f0) == 0) = false := beq_eq_false_iff_ne.mpr c31; have c31b1 : (((rd_T42 t332 x11_3).f0) != 0) = true := bne_iff_ne.mpr c31; have H' := Aside0.mk H; clear H; obtain ⟨Ao33, co33, eo33⟩ := Kd.R_slice HO_5.out; subst eo33; have p337 : 0 ≤ (x11_3 : Int) := od_; have q337 : x11_3 < (t332.length : Int) := od_; obtain ⟨ad337, e337, hx337_0, hx337_1, hx337_2⟩ := at_T42 (Kd.R_reads' HO_5.out).2.2 x11_3 p337 q337
            cases e337
            replace p337 := eq_true p337; replace q337 := eq_true q337; go_wp2; go_roundg k3
            case measure => have := HJ2.out; have := HK2.out; have := HK3.out; omega
            case rel => exact ⟨(x10_3), (wrap64 (x11_3 + 1)), rf_, rf_, H', ⟨by have := HJ2.out; have := HK2.out; have := HK3.out; omega⟩, ⟨by (with_reducible repeat (first | apply Kd.R_alloc | apply Kd.R_drewN | apply Kd.R_drew)); exact HO_5.out⟩, ⟨by (with_reducible repeat (first | refine blk_drewN ?_ _ | refine blk_drew ?_ | refine blk_alloc ?_ _)); exact BK327.out⟩, ⟨by repeat (first | (with_reducible first | exact HB.out | apply below_alloc | apply pw_below_drewN | apply below_drew1 | refine below_set ?_ GE327.out) | exact HB.out)⟩⟩
          ·rw [if_neg c30] at H
           exact absurd H (by simp)
         ·rw [if_neg c29] at H
          have c29b0 : decide (x11_3 < (t332.length : Int)) = false := decide_eq_false c29; clear c29
          by_cases c34 : t328 = true
          ·subst c34
           (have H1 : (if t334 = 0 then ((lex_Show.f k3 t332).bind fun t338 => (if t338.toList = x8_2.toList then ((lustrumlaw11_points.f k3 a0_0 a0_1 a0_2 a0_3 a0_4 a0_5 a0_6 l0_7).bind fun t339 => (some (x10_3 == t339))) else (some false))) else (some false)) = some r := by rw [if_pos rfl] at H; exact H); clear H; have H := H1; clear H1
           by_cases c35 : t334 = 0
           ·rw [if_pos c35] at H
            have c35b0 : (t334 == 0) = true := beq_iff_eq.mpr c35; have c35b1 : (t334 != 0) = false := bne_eq_false_iff_eq.mpr c35; clear c35; replace H := Option.bind_eq_some_iff.mp H; obtain ⟨t338, A360, H⟩ := H; replace H : (if t338.toList = x8_2.toList then ((lustrumlaw11_points.f k3 a0_0 a0_1 a0_2 a0_3 a0_4 a0_5 a0_6 l0_7).bind fun t339 => (some (x10_3 == t339))) else (some false)) = some r := H; have A36 := Aside0.mk A360; clear A360
            by_cases c37 : t338.toList = x8_2.toList
            ·rw [if_pos c37] at H
             have c37b0 : (t338.toList == x8_2.toList) = true := beq_iff_eq.mpr c37; have c37b1 : (t338.toList != x8_2.toList) = false := bne_eq_false_iff_eq.mpr c37; clear c37; replace H := Option.bind_eq_some_iff.mp H; obtain ⟨t339, A380, H⟩ := H; replace H : (some (x10_3 == t339)) = some r := H; have A38 := Aside0.mk A380; clear A380; obtain rfl := Option.some.inj H; obtain ⟨Ao39, co39, eo39⟩ := Kd.R_slice HO_5.out; subst eo39; go_wp2_with (first | (go_at_call 37; (with_reducible refine (lex_Show.calls k3 _ _ t332 t338 _ ?side1 ?side2 A36.out).mono ?_); (case side1 => exact cr_ (Kd.R_reads' HO_5.out).2.2); (case side2 => exact (Kd.R_reads' HO_5.out).2.1); rintro e w40 ⟨rfl, hb⟩; have n0_ := Aside0.mk (Kd.R_below (hrR_ HO_5.out) hb); have n1_ := Aside0.mk (blk_below (g := gb327) (o := .cells #[.int .i64 a0_0, .int .i64 a0_1, .string a0_2, .string a0_3, .string a0_4, .bool a0_5, .bool a0_6, .slice A0_7 l0_7.length c0_7] 26 (0, 0)) (bl_ BK327.out) hb); have n2_ := Aside0.mk (below_step (by repeat (first | (with_reducible first | exact HB.out | apply below_alloc | apply pw_below_drewN | apply below_drew1 | refine below_set ?_ GE327.out) | exact HB.out)) hb); clear HO_5; clear BK327; clear HB; have HO_5 := n0_; have BK327 := n1_; have HB := n2_; clear n0_ n1_ n2_; (try clear hb); (try clear hb2); (try clear hk); (try clear hi); have hcz41_0 : w40.cell? ⟨gb327, 0, none⟩ = some (.int .i64 a0_0) := (blk_cell BK327.out 0).trans rfl; have hcz41_1 : w40.cell? ⟨gb327, 1, none⟩ = some (.int .i64 a0_1) := (blk_cell BK327.out 1).trans rfl; have hcz41_2 : w40.cell? ⟨gb327, 2, none⟩ = some (.string a0_2) := (blk_cell BK327.out 2).trans rfl; have hcz41_3 : w40.cell? ⟨gb327, 3, none⟩ = some (.string a0_3) := (blk_cell BK327.out 3).trans rfl; have hcz41_4 : w40.cell? ⟨gb327, 4, none⟩ = some (.string a0_4) := (blk_cell BK327.out 4).trans rfl; have hcz41_5 : w40.cell? ⟨gb327, 5, none⟩ = some (.bool a0_5) := (blk_cell BK327.out 5).trans rfl; have hcz41_6 : w40.cell? ⟨gb327, 6, none⟩ = some (.bool a0_6) := (blk_cell BK327.out 6).trans rfl; have hcz41_7 : w40.cell? ⟨gb327, 7, none⟩ = some (.slice A0_7 l0_7.length c0_7) := (blk_cell BK327.out 7).trans rfl; have hfz41_0 := blk_frozen BK327.out 0; have hfz41_1 := blk_frozen BK327.out 1; have hfz41_2 := blk_frozen BK327.out 2; have hfz41_3 := blk_frozen BK327.out 3; have hfz41_4 := blk_frozen BK327.out 4; have hfz41_5 := blk_frozen BK327.out 5; have hfz41_6 := blk_frozen BK327.out 6; have hfz41_7 := blk_frozen BK327.out 7) | (go_at_call 38; (with_reducible refine (lustrumlaw11_points.calls k3 a0_0 a0_1 a0_2 a0_3 a0_4 a0_5 a0_6 _ _ l0_7 t339 _ ?side1 ?side2 A38.out).mono ?_); (case side1 => exact cr_ (Kd.C_below HR0_7.out HB.out)); (case side2 => exact HC0_7.out); rintro e w42 ⟨rfl, hb⟩; have n0_ := Aside0.mk (Kd.R_below (hrR_ HO_5.out) hb); have n1_ := Aside0.mk (blk_below (g := gb327) (o := .cells #[.int .i64 a0_0, .int .i64 a0_1, .string a0_2, .string a0_3, .string a0_4, .bool a0_5, .bool a0_6, .slice A0_7 l0_7.length c0_7] 26 (0, 0)) (bl_ BK327.out) hb); have n2_ := Aside0.mk (below_step (by repeat (first | (with_reducible first | exact HB.out | apply below_alloc | apply pw_below_drewN | apply below_drew1 | refine below_set ?_ GE327.out) | exact HB.out)) hb); clear HO_5; clear BK327; clear HB; have HO_5 := n0_; have BK327 := n1_; have HB := n2_; clear n0_ n1_ n2_; (try clear hb); (try clear hb2); (try clear hk); (try clear hi)))
             go_ret; exact ⟨re_, by repeat (first | (with_reducible first | exact HB.out | apply below_alloc | apply pw_below_drewN | apply below_drew1 | refine below_set ?_ GE327.out) | exact HB.out)⟩
            ·rw [if_neg c37] at H
             have c37b0 : (t338.toList == x8_2.toList) = false := beq_eq_false_iff_ne.mpr c37; have c37b1 : (t338.toList != x8_2.toList) = true := bne_iff_ne.mpr c37; obtain rfl := Option.some.inj H; obtain ⟨Ao43, co43, eo43⟩ := Kd.R_slice HO_5.out; subst eo43; go_wp2_with (first | (go_at_call 37; (with_reducible refine (lex_Show.calls k3 _ _ t332 t338 _ ?side1 ?side2 A36.out).mono ?_); (case side1 => exact cr_ (Kd.R_reads' HO_5.out).2.2); (case side2 => exact (Kd.R_reads' HO_5.out).2.1); rintro e w44 ⟨rfl, hb⟩; have n0_ := Aside0.mk (Kd.R_below (hrR_ HO_5.out) hb); have n1_ := Aside0.mk (blk_below (g := gb327) (o := .cells #[.int .i64 a0_0, .int .i64 a0_1, .string a0_2, .string a0_3, .string a0_4, .bool a0_5, .bool a0_6, .slice A0_7 l0_7.length c0_7] 26 (0, 0)) (bl_ BK327.out) hb); have n2_ := Aside0.mk (below_step (by repeat (first | (with_reducible first | exact HB.out | apply below_alloc | apply pw_below_drewN | apply below_drew1 | refine below_set ?_ GE327.out) | exact HB.out)) hb); clear HO_5; clear BK327; clear HB; have HO_5 := n0_; have BK327 := n1_; have HB := n2_; clear n0_ n1_ n2_; (try clear hb); (try clear hb2); (try clear hk); (try clear hi))); go_ret; exact ⟨re_, by repeat (first | (with_reducible first | exact HB.out | apply below_alloc | apply pw_below_drewN | apply below_drew1 | refine below_set ?_ GE327.out) | exact HB.out)⟩
           ·rw [if_neg c35] at H
            have c35b0 : (t334 == 0) = false := beq_eq_false_iff_ne.mpr c35; have c35b1 : (t334 != 0) = true := bne_iff_ne.mpr c35; obtain rfl := Option.some.inj H; obtain ⟨Ao45, co45, eo45⟩ := Kd.R_slice HO_5.out; subst eo45; go_wp2; go_ret; exact ⟨re_, by repeat (first | (with_reducible first | exact HB.out | apply below_alloc | apply pw_below_drewN | apply below_drew1 | refine below_set ?_ GE327.out) | exact HB.out)⟩
          ·replace c34 := Bool.eq_false_iff.mpr c34
           subst c34; (have H1 : (some false) = some r := by rw [if_neg (show ¬ (false = true) by decide)] at H; exact H); clear H; have H := H1; clear H1; obtain rfl := Option.some.inj H; obtain ⟨Ao46, co46, eo46⟩ := Kd.R_slice HO_5.out; subst eo46; go_wp2; go_ret; exact ⟨re_, by repeat (first | (with_reducible first | exact HB.out | apply below_alloc | apply pw_below_drewN | apply below_drew1 | refine below_set ?_ GE327.out) | exact HB.out)⟩
theorem ptTxt_pos {p : S23} (h : ptV p = true) : 0 < (ptTxt p).length := by
  have hs : p.f1.data.toList ≠ [] := by
    unfold ptV at h
    rw [Bool.and_eq_true] at h
    exact (sane_all h.1).2.1
  have hl := List.length_pos_iff.2 hs
  unfold ptTxt
  rw [if_pos h]
  unfold ptRaw
  repeat' split
  all_goals (first | (simp only [List.length_append, List.length_cons, List.length_nil]; omega) | omega)
def isW (c : UInt8) : Bool := okB c || (c == 45 || (c == 115 || (c == 100 || c == 99)))
def noW : List UInt8 → Prop
  | [] => True
  | c :: _ => isW c = false
theorem ok_W {l : List UInt8} (h : l.all okB = true) : l.all isW = true := by
  rw [List.all_eq_true] at h ⊢
  intro x hx
  unfold isW
  rw [h x hx]; rfl
theorem any_sane {l : List UInt8} {m : Nat} {i : Int} (h : anyV l i m = true) : l.all okB = true := by
  obtain ⟨n, _, _, hn⟩ := (anyV_iff l m i).1 h
  cases hs : saneL l with
  | true => exact (sane_all hs).1
  | false => rw [refV_sane hs] at hn; cases hn
theorem pt_kinds {p : S23} (h : ptV p = true) : p.f1.data.toList.all okB = true ∧
    (p.f0 = 0 ∧ p.f1.data.toList.length = 4 ∧ p.f2.data.toList.length = 2 ∧ p.f2.data.toList.all okB = true ∧ p.f3.data.toList.length = 2 ∧ p.f3.data.toList.all okB = true
    ∨ p.f0 = 1 ∧ p.f1.data.toList.length = 4 ∧ p.f2.data.toList.length = 2 ∧ p.f2.data.toList.all okB = true ∧ p.f3.data.toList = []
    ∨ p.f0 = 2 ∧ p.f1.data.toList.length = 4 ∧ p.f2.data.toList.length = 1 ∧ p.f2.data.toList.all okB = true ∧ p.f3.data.toList = []
    ∨ p.f0 = 3 ∧ p.f1.data.toList.length = 4 ∧ p.f2.data.toList = [] ∧ p.f3.data.toList = []
    ∨ p.f0 = 4 ∧ p.f1.data.toList.length = 3 ∧ p.f2.data.toList = [] ∧ p.f3.data.toList = []
    ∨ p.f0 = 5 ∧ p.f1.data.toList.length = 2 ∧ p.f2.data.toList = [] ∧ p.f3.data.toList = []) := by
  have em : ∀ {s : ByteArray}, emptyV s = true → s.data.toList = [] := fun {s} h => by
    unfold emptyV at h
    rw [ba_toList] at h
    exact beq_iff_eq.1 h
  unfold ptV at h
  rw [Bool.and_eq_true] at h
  obtain ⟨h1, h2⟩ := h
  refine ⟨(sane_all h1).1, ?_⟩
  by_cases c0 : p.f0 = 0
  · rw [if_pos c0] at h2
    simp only [someV, Bool.and_eq_true, decide_eq_true_eq, bsize] at h2
    exact .inl ⟨c0, by omega, by omega, any_sane h2.2.1.2, by omega, any_sane h2.2.2.2⟩
  rw [if_neg c0] at h2
  by_cases c1 : p.f0 = 1
  · rw [if_pos c1] at h2
    simp only [someV, Bool.and_eq_true, decide_eq_true_eq, bsize] at h2
    exact .inr (.inl ⟨c1, by omega, by omega, any_sane h2.2.1.2, em h2.2.2⟩)
  rw [if_neg c1] at h2
  by_cases c2 : p.f0 = 2
  · rw [if_pos c2] at h2
    simp only [someV, Bool.and_eq_true, decide_eq_true_eq, bsize] at h2
    exact .inr (.inr (.inl ⟨c2, by omega, by omega, any_sane h2.2.1.2, em h2.2.2⟩))
  rw [if_neg c2] at h2
  by_cases c3 : p.f0 = 3
  · rw [if_pos c3] at h2
    simp only [Bool.and_eq_true, decide_eq_true_eq, bsize] at h2
    exact .inr (.inr (.inr (.inl ⟨c3, by omega, em h2.2.1, em h2.2.2⟩)))
  rw [if_neg c3] at h2
  by_cases c4 : p.f0 = 4
  · rw [if_pos c4] at h2
    simp only [Bool.and_eq_true, decide_eq_true_eq, bsize] at h2
    exact .inr (.inr (.inr (.inr (.inl ⟨c4, by omega, em h2.2.1, em h2.2.2⟩))))
  rw [if_neg c4] at h2
  by_cases c5 : p.f0 = 5
  · rw [if_pos c5] at h2
    simp only [Bool.and_eq_true, decide_eq_true_eq, bsize] at h2
    exact .inr (.inr (.inr (.inr (.inr ⟨c5, by omega, em h2.2.1, em h2.2.2⟩))))
  rw [if_neg c5] at h2
  cases h2
theorem raw_W {p : S23} (h : ptV p = true) : (ptRaw p).all isW = true := by
  obtain ⟨h1, hk⟩ := pt_kinds h
  have w1 := ok_W h1
  unfold ptRaw
  rcases hk with ⟨c, _, _, a, _, b⟩ | ⟨c, _, _, a, _⟩ | ⟨c, _, _, a, _⟩ | ⟨c, _⟩ | ⟨c, _⟩ | ⟨c, _⟩ <;> rw [c]
  · have wa := ok_W a
    have wb := ok_W b
    simp only [if_true, List.all_append, List.all_cons, w1, wa, wb]; decide
  · have wa := ok_W a
    simp [List.all_append, List.all_cons, w1, wa]; decide
  · have wa := ok_W a
    simp [List.all_append, List.all_cons, w1, wa]; decide
  · simpa using w1
  · simp [List.all_append, List.all_cons, w1]; decide
  · simp [List.all_append, List.all_cons, w1]; decide
theorem end_kinds {n : S26} (h : endV n = true) : n.f4 = [] ∧ (n.f0 = 0 ∧ ptV n.f1 = true ∨ n.f0 = 3 ∧ bareV n = true ∨ n.f0 = 4 ∧ bareV n = true) := by
  unfold endV at h
  rw [Bool.and_eq_true, decide_eq_true_eq] at h
  refine ⟨h.1, ?_⟩
  have h2 := h.2
  by_cases c0 : n.f0 = 0
  · rw [if_pos c0] at h2; exact .inl ⟨c0, h2⟩
  rw [if_neg c0] at h2
  by_cases c3 : n.f0 = 3 ∨ n.f0 = 4
  · rw [if_pos c3] at h2
    rcases c3 with c | c
    · exact .inr (.inl ⟨c, h2⟩)
    · exact .inr (.inr ⟨c, h2⟩)
  · rw [if_neg c3] at h2; cases h2
def sep : List UInt8 → Prop
  | [] => True
  | c :: _ => c = 47 ∨ c = 44 ∨ c = 93
theorem rt_kinds {n : S26} (h : rt n = true) : endV n = true ∧ n.f0 = 0 ∨ (n.f0 = 1 ∧ bareV n = true ∧ ∃ x y, n.f4 = [x, y] ∧ endV x = true ∧ endV y = true ∧ tx n = tx x ++ 47 :: tx y) ∨ (n.f0 = 2 ∧ bareV n = true ∧ n.f4 ≠ [] ∧ rtL n.f4 = true ∧ tx n = 91 :: (Lib.join (txL n.f4) [44, 32] ++ [93])) := by
  rw [rt_eq] at h
  by_cases c0 : n.f0 = 0
  · rw [if_pos c0] at h; exact .inl ⟨h, c0⟩
  rw [if_neg c0] at h
  by_cases c1 : n.f0 = 1
  · rw [if_pos c1, Bool.and_eq_true] at h
    obtain ⟨x, y, e, hx, hy⟩ := two_inv h.2
    exact .inr (.inl ⟨c1, h.1, x, y, e, hx, hy, by rw [tx_eq, if_pos c1, e, txL, txL, txL]; rfl⟩)
  rw [if_neg c1] at h
  by_cases c2 : n.f0 = 2
  · rw [if_pos c2] at h
    simp only [Bool.and_eq_true, decide_eq_true_eq] at h
    exact .inr (.inr ⟨c2, h.1, h.2.1, h.2.2, by rw [tx_eq, if_neg c1, if_pos c2]⟩)
  rw [if_neg c2] at h
  cases h
theorem strOf_list (l : List UInt8) : strOfNums (l.map fun b => (b.toNat : Int)) = bA l := by
  unfold strOfNums bA
  have e : ∀ l : List UInt8, (l.map fun b => (b.toNat : Int)).map (fun n => n.toNat.toUInt8) = l := fun l => by
    induction l with
    | nil => rfl
    | cons c l ih =>
      rw [List.map_cons, List.map_cons, ih]
      congr 1
      exact u8eq (by simp)
  first | rw [e] | (simp; exact e l)
def nb (l : List UInt8) : List Int := l.map fun b => (b.toNat : Int)
theorem nb_len (l : List UInt8) : (nb l).length = l.length := by unfold nb; rw [List.length_map]
theorem nb_app (l u : List UInt8) : nb (l ++ u) = nb l ++ nb u := by unfold nb; rw [List.map_append]
theorem bytesOf_nb (s : ByteArray) : bytesOf s = nb s.data.toList := rfl
theorem ext_bA (p l r : List UInt8) : (bA (p ++ (l ++ r))).extract p.length (p.length + l.length) = bA l := ba_eq (by
  rw [ByteArray.data_extract, Array.toList_extract, bA_data]
  simp [List.extract]
  rfl)
theorem ext_end (p r : List UInt8) : (bA (p ++ r)).extract p.length (bA (p ++ r)).size = bA r := ba_eq (by
  rw [ByteArray.data_extract, Array.toList_extract, bA_data, bA_size]
  simp [List.extract]
  rfl)
theorem bt_mid (p : List UInt8) (c : UInt8) (r : List UInt8) : bt (bA (p ++ c :: r)) (p.length : Int) = (c.toNat : Int) := by
  rw [bt_list _ _ (by rw [bA_data]; simp)]
  simp [bA_data]
theorem index_mem : ∀ (l : List UInt8) (c : UInt8), (Lib.indexByte l c = -1 ∨ 0 ≤ Lib.indexByte l c) ∧ (0 ≤ Lib.indexByte l c ↔ c ∈ l)
  | [], c => by simp [Lib.indexByte]
  | b :: l, c => by
    obtain ⟨h1, h2⟩ := index_mem l c
    rw [Lib.indexByte]
    by_cases e : b = c
    · subst e; simp
    · have e' : (b == c) = false := by simpa using e
      rw [e', List.mem_cons]
      simp only [Bool.false_eq_true, if_false, beq_iff_eq]
      have e2 : ¬ c = b := fun h => e h.symm
      rcases h1 with h1 | h1
      · rw [if_pos h1]
        have h3 : ¬ c ∈ l := fun hc => by have := h2.2 hc; omega
        exact ⟨.inl rfl, by simp [e2, h3]⟩
      · rw [if_neg (by omega)]
        have h3 : c ∈ l := h2.1 h1
        exact ⟨.inr (by omega), by simp [h3]; omega⟩
def lettersL : List UInt8 := [48, 49, 50, 51, 52, 53, 54, 55, 56, 57, 88, 45, 115, 100, 99]
theorem letters_W (c : UInt8) : c ∈ lettersL ↔ isW c = true := by
  have e : ∀ n : Nat, n < 256 → (UInt8.ofNat n ∈ lettersL ↔ isW (UInt8.ofNat n) = true) := by decide +kernel
  have := e c.toNat c.toNat_lt
  rwa [UInt8.ofNat_toNat] at this
theorem index_W (c : UInt8) : ∃ v, strings_IndexByte.f (⟨#[48, 49, 50, 51, 52, 53, 54, 55, 56, 57, 88, 45, 115, 100, 99]⟩ : ByteArray) (c.toNat : Int) = some v ∧ (v ≥ 0 ↔ isW c = true) := by
  refine ⟨_, rfl, ?_⟩
  have e : ((c.toNat : Int).toNat.toUInt8) = c := u8eq (by simp)
  rw [e]
  have := (index_mem lettersL c).2
  rw [letters_W] at this
  exact this
theorem word_l0 : ∀ (l p : List UInt8), (p ++ l).length ≤ 4611686018427387904 → Ev (fun k => lex_word.l0 k (bA (p ++ l)) (p.length : Int)) (((p.length + (l.takeWhile isW).length : Nat)) : Int)
  | [], p, h => Ev.step (f := fun _ => some ((p.length : Nat) : Int)) (fun k => by rw [lex_word.l0, if_neg (by rw [bA_size]; simp)]) (Ev.eq (Ev.now _) (by simp))
  | c :: l, p, h => by
    obtain ⟨v, hv, hw⟩ := index_W c
    have hlt : (p.length : Int) < ((bA (p ++ c :: l)).size : Int) := by rw [bA_size, List.length_append, List.length_cons]; omega
    refine Ev.step (f := fun k => if v ≥ 0 then lex_word.l0 k (bA (p ++ c :: l)) ((p ++ [c]).length : Int) else some (p.length : Int)) (fun k => by rw [lex_word.l0, if_pos hlt, if_pos (by omega), bt_mid, hv, Option.bind_some, at_next h]) ?_
    by_cases hc : isW c = true
    · refine Ev.ift (hw.2 hc) ?_
      have := word_l0 l (p ++ [c]) (by rw [← at_app]; exact h)
      rw [← at_app] at this
      refine Ev.eq this ?_
      rw [List.takeWhile_cons, if_pos hc, List.length_append, List.length_cons, List.length_cons, List.length_nil]
      omega
    · refine Ev.iff_ (fun h => hc (hw.1 h)) (Ev.eq (Ev.now _) ?_)
      rw [List.takeWhile_cons, if_neg hc]; simp
theorem word_f (l : List UInt8) (h : l.length ≤ 4611686018427387904) : Ev (fun k => lex_word.f k (bA l)) ((l.takeWhile isW).length : Int) := by
  have := word_l0 l [] (by simpa using h)
  rw [List.nil_append] at this
  exact Ev.eq this (by simp)
theorem prefix_f (l u : List UInt8) : strings_HasPrefix.f (bA l) (bA u) = some (u.isPrefixOf l) := by
  unfold strings_HasPrefix.f stringslite_HasPrefix.f
  rw [bA_size, bA_size]
  by_cases c : u.length ≤ l.length
  · rw [if_pos (by omega), if_pos (by omega), if_pos (by omega)]
    simp only [Option.bind_some, Option.some.injEq]
    rw [ba_toList, ByteArray.data_extract, Array.toList_extract, bA_data, bA_toList]
    simp only [Int.toNat_natCast, List.extract, Nat.sub_zero, List.drop_zero]
    rw [Bool.eq_iff_iff, beq_iff_eq, List.isPrefixOf_iff_prefix, List.prefix_iff_eq_take]
    exact ⟨fun h => h.symm, fun h => h.symm⟩
  · rw [if_neg (by omega)]
    simp only [Option.bind_some, Option.some.injEq]
    symm
    rw [Bool.eq_false_iff]
    intro h
    have := (List.isPrefixOf_iff_prefix.1 h).length_le
    omega
inductive It where
  | w (l : List UInt8)
  | s (k : Int) (c : UInt8)
  | d
  | b
def It.tx : It → List UInt8
  | .w l => l
  | .s _ c => [c]
  | .d => [46, 46]
  | .b => [32]
def flatT : List It → List UInt8
  | [] => []
  | i :: r => i.tx ++ flatT r
theorem flatT_app : ∀ l u : List It, flatT (l ++ u) = flatT l ++ flatT u
  | [], u => rfl
  | i :: l, u => by rw [List.cons_append, flatT, flatT, flatT_app l u, List.append_assoc]
def stopI : List It → Prop
  | .w _ :: _ => False
  | .b :: _ => False
  | _ => True
def okI : List It → Prop
  | [] => True
  | .w l :: r => l ≠ [] ∧ l.all isW = true ∧ stopI r ∧ okI r
  | .s k c :: r => signK (c.toNat : Int) = k ∧ signB (c.toNat : Int) = true ∧ okI r
  | .d :: r => okI r
  | .b :: r => okI r
theorem sign_noW {c : UInt8} (h : signB (c.toNat : Int) = true) : isW c = false := by
  have e : ∀ n : Nat, n < 256 → signB ((UInt8.ofNat n).toNat : Int) = true → isW (UInt8.ofNat n) = false := by decide +kernel
  have := e c.toNat c.toNat_lt
  rw [UInt8.ofNat_toNat] at this
  exact this h
theorem stop_noW : ∀ {r : List It}, stopI r → okI r → noW (flatT r)
  | [], _, _ => trivial
  | .w _ :: _, h, _ => h.elim
  | .b :: _, h, _ => h.elim
  | .s k c :: r, _, h => sign_noW h.2.1
  | .d :: r, _, _ => by show isW 46 = false; decide
theorem take_W : ∀ (l r : List UInt8), l.all isW = true → noW r → (l ++ r).takeWhile isW = l
  | [], [], _, _ => rfl
  | [], c :: r, _, h => by rw [List.nil_append, List.takeWhile_cons]; simp only [noW] at h; rw [h]; rfl
  | c :: l, r, hl, h => by
    rw [List.all_cons, Bool.and_eq_true] at hl
    rw [List.cons_append, List.takeWhile_cons, if_pos hl.1, take_W l r hl.2 h]
def e0 : ByteArray := ⟨#[]⟩
def It.tok (p : Nat) : It → List S42
  | .w l => [⟨0, (p : Int), bA l⟩]
  | .s k _ => [⟨k, (p : Int), e0⟩]
  | .d => [⟨2, (p : Int), e0⟩]
  | .b => []
def toks : Nat → List It → List S42
  | _, [] => []
  | p, i :: r => i.tok p ++ toks (p + i.tx.length) r
def endT (n : Nat) : S42 := ⟨9, (n : Int), e0⟩
theorem lex_l0 : ∀ (its : List It) (p : List UInt8) (acc : List S42), okI its → (p ++ flatT its).length ≤ 1000000 → acc.length ≤ p.length →
    Ev (fun k => lex_All.l0 k (bA (p ++ flatT its)) acc (p.length : Int)) (acc ++ toks p.length its ++ [endT (p ++ flatT its).length], ((p ++ flatT its).length : Int), 0)
  | [], p, acc, _, hn, ha => by
    refine Ev.step (f := fun _ => some (acc ++ toks p.length [] ++ [endT (p ++ flatT []).length], ((p ++ flatT []).length : Int), 0)) (fun k => ?_) (Ev.now _)
    rw [lex_All.l0, bA_size, if_neg (by simp [flatT]), if_pos (by simp [flatT] at hn; omega)]
    simp only [toks, List.append_nil]
    rfl
  | i :: r, p, acc, hok, hn, ha => by
    rw [flatT] at hn ⊢
    rw [toks]
    have hlen : p.length + i.tx.length + (flatT r).length ≤ 1000000 := by simp only [List.length_append] at hn; omega
    have hhead : ∃ c l, i.tx ++ flatT r = c :: l := by
      cases i with
      | w l => obtain ⟨h1, _⟩ := hok; cases l with
        | nil => exact absurd rfl h1
        | cons c l => exact ⟨c, _, rfl⟩
      | s k c => exact ⟨c, _, rfl⟩
      | d => exact ⟨46, _, rfl⟩
      | b => exact ⟨32, _, rfl⟩
    obtain ⟨c, l, hcl⟩ := hhead
    have hbt : bt (bA (p ++ (i.tx ++ flatT r))) (p.length : Int) = (c.toNat : Int) := by rw [hcl, bt_mid]
    have hsz : ((bA (p ++ (i.tx ++ flatT r))).size : Int) = ((p ++ (i.tx ++ flatT r)).length : Nat) := by rw [bA_size]
    have hlt : (p.length : Int) < ((bA (p ++ (i.tx ++ flatT r))).size : Int) := by rw [hsz, hcl, List.length_append, List.length_cons]; omega
    have hext : (bA (p ++ (i.tx ++ flatT r))).extract ((p.length : Int)).toNat (bA (p ++ (i.tx ++ flatT r))).size = bA (i.tx ++ flatT r) := by rw [Int.toNat_natCast]; exact ext_end p _
    have next : ∀ (its' : List It) (acc' : List S42), okI r → acc'.length ≤ p.length + i.tx.length → Ev (fun k => lex_All.l0 k (bA (p ++ (i.tx ++ flatT r))) acc' ((p.length : Int) + (i.tx.length : Int))) (acc' ++ toks (p.length + i.tx.length) r ++ [endT (p ++ (i.tx ++ flatT r)).length], ((p ++ (i.tx ++ flatT r)).length : Int), 0) := fun _ acc' hr ha' => by
      have := lex_l0 r (p ++ i.tx) acc' hr (by simp only [List.length_append]; omega) (by rw [List.length_append]; exact ha')
      have e3 : ((p ++ i.tx).length : Int) = (p.length : Int) + (i.tx.length : Int) := by rw [List.length_append]; omega
      rw [e3, List.append_assoc p, List.length_append] at this
      exact this
    have hstep : ∀ k, lex_All.l0 (k + 1) (bA (p ++ (i.tx ++ flatT r))) acc (p.length : Int) = (lex_word.f k (bA (i.tx ++ flatT r))).bind fun t274 => (if t274 > 0 then (if (p.length : Int) ≤ (wrap64 ((p.length : Int) + t274)) then (if (wrap64 ((p.length : Int) + t274)) ≤ ((bA (p ++ (i.tx ++ flatT r))).size : Int) then (if acc.length < 4398046511104 then (lex_All.l0 k (bA (p ++ (i.tx ++ flatT r))) (acc ++ [(⟨0, (p.length : Int), (bA (p ++ (i.tx ++ flatT r))).extract ((p.length : Int)).toNat ((wrap64 ((p.length : Int) + t274)) : Int).toNat⟩ : S42)]) (wrap64 ((p.length : Int) + t274))) else (none)) else (none)) else (none)) else (if signB (c.toNat : Int) = true then (if acc.length < 4398046511104 then (lex_All.l0 k (bA (p ++ (i.tx ++ flatT r))) (acc ++ [(⟨signK (c.toNat : Int), (p.length : Int), (⟨#[]⟩ : ByteArray)⟩ : S42)]) (wrap64 ((p.length : Int) + 1))) else (none)) else (if ([46, 46] : List UInt8).isPrefixOf (i.tx ++ flatT r) = true then (if acc.length < 4398046511104 then (lex_All.l0 k (bA (p ++ (i.tx ++ flatT r))) (acc ++ [(⟨2, (p.length : Int), (⟨#[]⟩ : ByteArray)⟩ : S42)]) (wrap64 ((p.length : Int) + 2))) else (none)) else (if (c.toNat : Int) = 32 then (lex_All.l0 k (bA (p ++ (i.tx ++ flatT r))) acc (wrap64 ((p.length : Int) + 1))) else (some (([] : List S42), (p.length : Int), 1)))))) := fun k => by
      have hp := prefix_f (i.tx ++ flatT r) [46, 46]
      rw [lex_All.l0, if_pos hlt, if_pos (by omega), hbt, hext]
      simp only [lex_signs.f, Option.bind_some]
      rw [if_pos (by omega)]
      have e1 : (⟨#[46, 46]⟩ : ByteArray) = bA [46, 46] := rfl
      rw [e1, hp]
      rfl
    have W : ∀ n : Nat, n ≤ 1000000 → wrap64 ((p.length : Int) + (n : Int)) = (p.length : Int) + (n : Int) := fun n h => w64 (by omega) (by omega)
    have w1 := W 1 (by omega)
    have w2 := W 2 (by omega)
    have n1 := Aside0.mk w1
    have n2 := Aside0.mk w2
    clear w1 w2
    have hword := word_f (i.tx ++ flatT r) (by rw [List.length_append]; omega)
    refine Ev.step hstep (Ev.bind hword ?_)
    cases i with
    | w u =>
      obtain ⟨h1, h2, h3, h4⟩ := hok
      have hu := List.length_pos_iff.2 h1
      have e1 : ((It.w u).tx ++ flatT r).takeWhile isW = u := take_W u _ h2 (stop_noW h3 h4)
      rw [e1]
      rw [W u.length (by simp only [It.tx] at hlen; omega)]
      refine Ev.ift (by omega) (Ev.ift (by omega) (Ev.ift (by rw [bA_size]; simp only [It.tx, List.length_append]; omega) (Ev.ift (by simp only [It.tx] at hlen; omega) ?_)))
      have e2 : (bA (p ++ ((It.w u).tx ++ flatT r))).extract ((p.length : Int)).toNat ((p.length : Int) + (u.length : Int)).toNat = bA u := by
        have : ((p.length : Int) + (u.length : Int)).toNat = p.length + u.length := by omega
        rw [Int.toNat_natCast, this]
        exact ext_bA p u _
      rw [e2]
      have := next [] (acc ++ [⟨0, (p.length : Int), bA u⟩]) h4 (by simp only [It.tx, List.length_append, List.length_cons, List.length_nil]; omega)
      simp only [List.append_assoc] at this ⊢
      exact this
    | s k d =>
      obtain ⟨h1, h2, h3⟩ := hok
      injection hcl with hc _
      subst hc
      have e1 : ((It.s k d).tx ++ flatT r).takeWhile isW = [] := take_W [] _ rfl (sign_noW h2)
      rw [e1]
      refine Ev.iff_ (by simp) (Ev.ift h2 (Ev.ift (by omega) ?_))
      rw [h1]
      rw [show wrap64 ((p.length : Int) + 1) = (p.length : Int) + 1 from n1.out]
      have := next [] (acc ++ [⟨k, (p.length : Int), e0⟩]) h3 (by simp only [It.tx, List.length_append, List.length_cons, List.length_nil]; omega)
      simp only [List.append_assoc] at this ⊢
      exact this
    | d =>
      injection hcl with hc _
      subst hc
      have e1 : (It.d.tx ++ flatT r).takeWhile isW = [] := take_W [] _ rfl (show isW 46 = false by decide)
      rw [e1]
      refine Ev.iff_ (by simp) (Ev.iff_ (by decide) (Ev.ift (by simp [It.tx, List.isPrefixOf]) (Ev.ift (by omega) ?_)))
      rw [show wrap64 ((p.length : Int) + 2) = (p.length : Int) + 2 from n2.out]
      have := next [] (acc ++ [⟨2, (p.length : Int), e0⟩]) hok (by simp only [It.tx, List.length_append, List.length_cons, List.length_nil]; omega)
      simp only [List.append_assoc] at this ⊢
      exact this
    | b =>
      injection hcl with hc _
      subst hc
      have e1 : (It.b.tx ++ flatT r).takeWhile isW = [] := take_W [] _ rfl (show isW 32 = false by decide)
      rw [e1]
      refine Ev.iff_ (by simp) (Ev.iff_ (by decide) (Ev.iff_ (by simp [It.tx, List.isPrefixOf]) (Ev.ift (by decide) ?_)))
      rw [show wrap64 ((p.length : Int) + 1) = (p.length : Int) + 1 from n1.out]
      have := next [] acc hok (by simp only [It.tx, List.length_cons, List.length_nil]; omega)
      exact this
theorem lex_f (its : List It) (h : okI its) (hn : (flatT its).length ≤ 2000) : Ev (fun k => lex_All.f k (bA (flatT its))) (toks 0 its ++ [endT (flatT its).length], ((flatT its).length : Int), 0) := by
  refine Ev.iff_ (by rw [bA_size]; omega) ?_
  have := lex_l0 its [] [] h (by simpa using Nat.le_trans hn (by omega)) (Nat.le_refl _)
  simpa using this
def spanI : List (List It) → List It
  | x :: y :: _ => x ++ .s 1 47 :: y
  | _ => []
def markI (a : Bool) (k : Int) (c : UInt8) : List It := if a = true then [.s k c] else []
def joinI : List (List It) → List It
  | [] => []
  | [x] => x
  | x :: y :: r => x ++ .s 6 44 :: .b :: joinI (y :: r)
mutual
def it : S26 → List It
  | ⟨k, p, a, t, l⟩ => if k = 1 then spanI (itL l) else if k = 2 then .s 4 91 :: (joinI (itL l) ++ [.s 5 93]) else if k = 3 then [.d] else if k = 4 then [.s 3 42] else .w (ptTxt p) :: (markI a 7 63 ++ markI t 8 126)
def itL : List S26 → List (List It)
  | [] => []
  | x :: l => it x :: itL l
end
theorem it_eq (n : S26) : it n = if n.f0 = 1 then spanI (itL n.f4) else if n.f0 = 2 then .s 4 91 :: (joinI (itL n.f4) ++ [.s 5 93]) else if n.f0 = 3 then [.d] else if n.f0 = 4 then [.s 3 42] else .w (ptTxt n.f1) :: (markI n.f2 7 63 ++ markI n.f3 8 126) := by cases n; rw [it]
theorem flat_mark (a : Bool) (k : Int) (c : UInt8) : flatT (markI a k c) = markV a c := by
  unfold markI markV
  cases a <;> rfl
theorem flat_join : ∀ xs : List (List It), flatT (joinI xs) = Lib.join (xs.map flatT) [44, 32]
  | [] => rfl
  | [x] => by rw [joinI, List.map_cons, List.map_nil, Lib.join_one]
  | x :: y :: r => by
    have h : flatT (It.s 6 44 :: It.b :: joinI (y :: r)) = 44 :: 32 :: flatT (joinI (y :: r)) := rfl
    rw [joinI, flatT_app, h, flat_join (y :: r), List.map_cons, List.map_cons, Lib.join_cons, Lib.join_cons]
    simp [Lib.joinTail]
theorem flat_it : ∀ (m : Nat) (n : S26), nd n ≤ m → flatT (it n) = tx n
  | 0, n, h => by have := nd_pos n; omega
  | m + 1, n, h => by
    have hl : ∀ l : List S26, ndL l ≤ m → (itL l).map flatT = txL l := fun l => by
      induction l with
      | nil => intro _; rw [itL, txL]; rfl
      | cons x t ih =>
        intro hh
        rw [ndL] at hh
        rw [itL, txL, List.map_cons, flat_it m x (by omega), ih (by omega)]
    have hn := nd_eq n
    have hL := hl n.f4 (by omega)
    rw [it_eq, tx_eq]
    by_cases c1 : n.f0 = 1
    · rw [if_pos c1, if_pos c1, ← hL]
      cases itL n.f4 with
      | nil => rfl
      | cons x r => cases r with
        | nil => rfl
        | cons y r =>
          show flatT (x ++ It.s 1 47 :: y) = flatT x ++ 47 :: flatT y
          rw [flatT_app]; rfl
    rw [if_neg c1, if_neg c1]
    by_cases c2 : n.f0 = 2
    · rw [if_pos c2, if_pos c2, ← hL, ← flat_join]
      show 91 :: flatT (joinI (itL n.f4) ++ [It.s 5 93]) = _
      rw [flatT_app]; rfl
    rw [if_neg c2, if_neg c2]
    by_cases c3 : n.f0 = 3
    · rw [if_pos c3, if_pos c3]; rfl
    rw [if_neg c3, if_neg c3]
    by_cases c4 : n.f0 = 4
    · rw [if_pos c4, if_pos c4]; rfl
    rw [if_neg c4, if_neg c4]
    show ptTxt n.f1 ++ flatT (markI n.f2 7 63 ++ markI n.f3 8 126) = _
    rw [flatT_app, flat_mark, flat_mark]
theorem flat_n (n : S26) : flatT (it n) = tx n := flat_it _ n (Nat.le_refl _)
theorem mark_ok (a t : Bool) {r : List It} (hs : stopI r) (hr : okI r) : okI (markI a 7 63 ++ markI t 8 126 ++ r) ∧ stopI (markI a 7 63 ++ markI t 8 126 ++ r) := by
  cases a <;> cases t
  · exact ⟨hr, hs⟩
  · exact ⟨⟨by decide, by decide, hr⟩, trivial⟩
  · exact ⟨⟨by decide, by decide, hr⟩, trivial⟩
  · exact ⟨⟨by decide, by decide, by decide, by decide, hr⟩, trivial⟩
theorem end_ok {n : S26} (h : endV n = true) {r : List It} (hs : stopI r) (hr : okI r) : okI (it n ++ r) := by
  obtain ⟨_, k⟩ := end_kinds h
  rw [it_eq]
  rcases k with ⟨c, hp⟩ | ⟨c, _⟩ | ⟨c, _⟩
  · rw [if_neg (by omega), if_neg (by omega), if_neg (by omega), if_neg (by omega), List.cons_append]
    obtain ⟨m1, m2⟩ := mark_ok n.f2 n.f3 hs hr
    refine ⟨?_, ?_, m2, m1⟩
    · have := ptTxt_pos hp
      intro e; rw [e] at this; simp at this
    · have := raw_W hp
      unfold ptTxt
      rw [if_pos hp]; exact this
  · rw [if_neg (by omega), if_neg (by omega), if_pos c]; exact hr
  · rw [if_neg (by omega), if_neg (by omega), if_neg (by omega), if_pos c]; exact ⟨by decide, by decide, hr⟩
theorem it_ok : ∀ (m : Nat) (n : S26) (r : List It), nd n ≤ m → rt n = true → stopI r → okI r → okI (it n ++ r)
  | 0, n, _, h, _, _, _ => by have := nd_pos n; omega
  | m + 1, n, r, hm, hn, hs, hr => by
    have lists : ∀ (l : List S26) (r : List It), ndL l ≤ m → rtL l = true → stopI r → okI r → okI (joinI (itL l) ++ r) := fun l => by
      induction l with
      | nil => intro r _ _ _ hr; rw [itL]; exact hr
      | cons x t ih =>
        intro r hm hl hs hr
        rw [ndL] at hm
        rw [rtL, Bool.and_eq_true] at hl
        rw [itL]
        cases t with
        | nil => rw [itL]; exact it_ok m x r (by omega) hl.1 hs hr
        | cons y t =>
          have := ih r (by omega) hl.2 hs hr
          rw [itL] at this ⊢
          rw [joinI, List.append_assoc]
          exact it_ok m x _ (by omega) hl.1 trivial ⟨by decide, by decide, this⟩
    have hN := nd_eq n
    rcases rt_kinds hn with ⟨he, _⟩ | ⟨c, _, x, y, e, hx, hy, _⟩ | ⟨c, _, _, hL, _⟩
    · exact end_ok he hs hr
    · rw [it_eq, if_pos c, e, itL, itL, itL]
      show okI ((it x ++ It.s 1 47 :: it y) ++ r)
      rw [List.append_assoc]
      exact end_ok hx trivial ⟨by decide, by decide, end_ok hy hs hr⟩
    · rw [it_eq, if_neg (by omega), if_pos c, List.cons_append, List.append_assoc]
      exact ⟨by decide, by decide, lists n.f4 _ (by omega) hL trivial ⟨by decide, by decide, hr⟩⟩
def sgn (k : Int) : List UInt8 := if k = 1 then [47] else if k = 3 then [42] else if k = 4 then [91] else if k = 5 then [93] else if k = 6 then [44] else if k = 7 then [63] else if k = 8 then [126] else []
def showR : Bool → List S42 → List UInt8
  | _, [] => []
  | b, t :: r => (if t.f0 = 0 then (if b = true then 32 :: t.f2.data.toList else t.f2.data.toList) else if t.f0 = 2 then [46, 46] else sgn t.f0) ++ showR (decide (t.f0 = 0)) r
def lastW (p : List S42) : Bool := match p.getLast? with
  | some t => decide (t.f0 = 0)
  | none => false
theorem lastW_snoc (p : List S42) (t : S42) : lastW (p ++ [t]) = decide (t.f0 = 0) := by unfold lastW; simp
theorem at_rd42 (p : List S42) (r : S42) (t : List S42) : rd_T42 (p ++ r :: t) (p.length : Int) = r := by simp [rd_T42]
theorem sgn_bt : ∀ k : Int, k = 1 ∨ k = 3 ∨ k = 4 ∨ k = 5 ∨ k = 6 ∨ k = 7 ∨ k = 8 → 0 ≤ wrap64 (k - 1) ∧ wrap64 (k - 1) < 8 ∧ [bt (⟨#[47, 46, 42, 91, 93, 44, 63, 126]⟩ : ByteArray) (wrap64 (k - 1))] = nb (sgn k) := by
  intro k h
  rcases h with rfl | rfl | rfl | rfl | rfl | rfl | rfl <;> decide +kernel
theorem Show_l0 : ∀ (r p : List S42) (out : List UInt8), (p ++ r).length ≤ 4611686018427387904 → out.length + (showR (lastW p) r).length ≤ 1000000 →
    Ev (fun k => lex_Show.l0 k (p ++ r) (nb out) (p ++ r) ((p ++ r).length : Int) (p.length : Int)) (bA (out ++ showR (lastW p) r))
  | [], p, out, hn, hl => Ev.step (f := fun _ => some (bA (out ++ showR (lastW p) []))) (fun k => by rw [lex_Show.l0, if_neg (at_end p)]; unfold nb; rw [strOf_list, showR, List.append_nil]) (Ev.now _)
  | t :: r, p, out, hn, hl => by
    rw [showR] at hl ⊢
    have next : ∀ u : List UInt8, out.length + u.length + (showR (decide (t.f0 = 0)) r).length ≤ 1000000 → Ev (fun k => lex_Show.l0 k (p ++ t :: r) (nb out ++ nb u) (p ++ t :: r) ((p ++ t :: r).length : Int) (wrap64 ((p.length : Int) + 1))) (bA (out ++ (u ++ showR (decide (t.f0 = 0)) r))) := fun u hu => by
      have := Show_l0 r (p ++ [t]) (out ++ u) (by rw [← at_app]; exact hn) (by rw [List.length_append, lastW_snoc]; omega)
      rw [← at_app, lastW_snoc, nb_app, List.append_assoc] at this
      rw [at_next hn]
      exact this
    by_cases c0 : t.f0 = 0
    · rw [if_pos c0] at hl ⊢
      by_cases cp : (p.length : Int) > 0
      · obtain ⟨q, s, rfl⟩ : ∃ q s, p = q ++ [s] := by
          have hne : p ≠ [] := by intro e; rw [e] at cp; simp at cp
          exact ⟨p.dropLast, p.getLast hne, (List.dropLast_concat_getLast hne).symm⟩
        have hw : wrap64 (((q ++ [s]).length : Int) - 1) = (q.length : Int) := by
          have : (q ++ [s]).length = q.length + 1 := by simp
          rw [this, w64 (by omega) (by simp only [List.length_append, List.length_cons] at hn; omega)]
          omega
        have hrd : rd_T42 ((q ++ [s]) ++ t :: r) (q.length : Int) = s := by rw [List.append_assoc]; exact at_rd42 q s _
        have hlt : (q.length : Int) < (((q ++ [s]) ++ t :: r).length : Int) := by simp only [List.length_append, List.length_cons]; omega
        rw [lastW_snoc] at hl ⊢
        by_cases cs : s.f0 = 0
        · rw [if_pos (decide_eq_true cs)] at hl ⊢
          have hb := bytesOf_length t.f2
          have hd := data_length t.f2
          refine Ev.step (f := fun k => lex_Show.l0 k ((q ++ [s]) ++ t :: r) (nb out ++ nb (32 :: t.f2.data.toList)) ((q ++ [s]) ++ t :: r) (((q ++ [s]) ++ t :: r).length : Int) (wrap64 (((q ++ [s]).length : Int) + 1))) (fun k => ?_) (next _ (by simp only [List.length_append] at hl; omega))
          rw [lex_Show.l0, if_pos (at_lt _ t r), if_pos (at_0 _), if_pos (at_lt _ t r), at_rd42, if_pos c0, if_pos cp, hw, if_pos (by omega), if_pos hlt, hrd, if_pos cs, if_pos (by rw [nb_len]; simp only [List.length_append] at hl; omega), Option.bind_some, if_pos (by rw [List.length_append, nb_len]; simp only [List.length_append, List.length_cons, List.length_nil] at hl ⊢; omega), bytesOf_nb]
          rw [show nb (32 :: t.f2.data.toList) = [32] ++ nb t.f2.data.toList from rfl, ← List.append_assoc (nb out)]
        · rw [if_neg (by simpa using cs)] at hl ⊢
          have hd := data_length t.f2
          refine Ev.step (f := fun k => lex_Show.l0 k ((q ++ [s]) ++ t :: r) (nb out ++ nb t.f2.data.toList) ((q ++ [s]) ++ t :: r) (((q ++ [s]) ++ t :: r).length : Int) (wrap64 (((q ++ [s]).length : Int) + 1))) (fun k => ?_) (next _ (by simp only [List.length_append] at hl; omega))
          rw [lex_Show.l0, if_pos (at_lt _ t r), if_pos (at_0 _), if_pos (at_lt _ t r), at_rd42, if_pos c0, if_pos cp, hw, if_pos (by omega), if_pos hlt, hrd, if_neg cs, if_pos (by rw [nb_len]; simp only [List.length_append] at hl; omega), bytesOf_nb]
      · have hp : p = [] := by
          cases p with
          | nil => rfl
          | cons x y => simp at cp
        have hlw : lastW p = false := by rw [hp]; rfl
        rw [hlw, if_neg (by simp)] at hl ⊢
        have hd := data_length t.f2
        refine Ev.step (f := fun k => lex_Show.l0 k (p ++ t :: r) (nb out ++ nb t.f2.data.toList) (p ++ t :: r) ((p ++ t :: r).length : Int) (wrap64 ((p.length : Int) + 1))) (fun k => ?_) (next _ (by simp only [List.length_append] at hl; omega))
        rw [lex_Show.l0, if_pos (at_lt p t r), if_pos (at_0 p), if_pos (at_lt p t r), at_rd42, if_pos c0, if_neg cp, if_pos (by rw [nb_len]; simp only [List.length_append] at hl; omega), bytesOf_nb]
    rw [if_neg c0] at hl ⊢
    by_cases c2 : t.f0 = 2
    · rw [if_pos c2] at hl ⊢
      refine Ev.step (f := fun k => lex_Show.l0 k (p ++ t :: r) (nb out ++ nb [46, 46]) (p ++ t :: r) ((p ++ t :: r).length : Int) (wrap64 ((p.length : Int) + 1))) (fun k => ?_) (next _ (by simp only [List.length_append] at hl; omega))
      rw [lex_Show.l0, if_pos (at_lt p t r), if_pos (at_0 p), if_pos (at_lt p t r), at_rd42, if_neg c0, if_pos c2, if_pos (by rw [nb_len]; simp only [List.length_append] at hl; omega), bytesOf_nb]
    rw [if_neg c2] at hl ⊢
    have sign : (t.f0 = 1 ∨ t.f0 = 3 ∨ t.f0 = 4 ∨ t.f0 = 5 ∨ t.f0 = 6 ∨ t.f0 = 7 ∨ t.f0 = 8) → Ev (fun k => if 0 ≤ wrap64 (t.f0 - 1) then (if wrap64 (t.f0 - 1) < 8 then (if (nb out).length < 140737488355328 then lex_Show.l0 k (p ++ t :: r) (nb out ++ [bt (⟨#[47, 46, 42, 91, 93, 44, 63, 126]⟩ : ByteArray) (wrap64 (t.f0 - 1))]) (p ++ t :: r) ((p ++ t :: r).length : Int) (wrap64 ((p.length : Int) + 1)) else none) else none) else none) (bA (out ++ (sgn t.f0 ++ showR (decide (t.f0 = 0)) r))) := fun h => by
      obtain ⟨h1, h2, h3⟩ := sgn_bt t.f0 h
      rw [h3]
      exact Ev.ift h1 (Ev.ift h2 (Ev.ift (by rw [nb_len]; omega) (next _ (by simp only [List.length_append] at hl; omega))))
    have head : ∀ k, lex_Show.l0 (k + 1) (p ++ t :: r) (nb out) (p ++ t :: r) ((p ++ t :: r).length : Int) (p.length : Int) = (if t.f0 = 1 then _ else _) := fun k => by
      rw [lex_Show.l0, if_pos (at_lt p t r), if_pos (at_0 p), if_pos (at_lt p t r), at_rd42, if_neg c0, if_neg c2]
    refine Ev.step head ?_
    by_cases d1 : t.f0 = 1
    · exact Ev.ift d1 (sign (by omega))
    refine Ev.iff_ d1 ?_
    by_cases d3 : t.f0 = 3
    · exact Ev.ift d3 (sign (by omega))
    refine Ev.iff_ d3 ?_
    by_cases d4 : t.f0 = 4
    · exact Ev.ift d4 (sign (by omega))
    refine Ev.iff_ d4 ?_
    by_cases d5 : t.f0 = 5
    · exact Ev.ift d5 (sign (by omega))
    refine Ev.iff_ d5 ?_
    by_cases d6 : t.f0 = 6
    · exact Ev.ift d6 (sign (by omega))
    refine Ev.iff_ d6 ?_
    by_cases d7 : t.f0 = 7
    · exact Ev.ift d7 (sign (by omega))
    refine Ev.iff_ d7 ?_
    by_cases d8 : t.f0 = 8
    · exact Ev.ift d8 (sign (by omega))
    refine Ev.iff_ d8 ?_
    have hs : sgn t.f0 = [] := by unfold sgn; rw [if_neg d1, if_neg d3, if_neg d4, if_neg d5, if_neg d6, if_neg d7, if_neg d8]
    have := next [] (by simp only [List.length_append] at hl; simp only [List.length_nil]; omega)
    rw [hs]
    have e : nb out ++ nb [] = nb out := by simp [nb]
    rw [e] at this
    exact this
def nob (l : List UInt8) : List UInt8 := l.filter fun c => c != 32
theorem nob_app (l u : List UInt8) : nob (l ++ u) = nob l ++ nob u := List.filter_append ..
theorem nob_W {l : List UInt8} (h : l.all isW = true) : nob l = l := by
  unfold nob
  rw [List.filter_eq_self]
  intro c hc
  have := List.all_eq_true.1 h c hc
  have e : c ≠ 32 := fun e => by subst e; revert this; decide
  simpa using e
theorem sign_is {c : UInt8} (h : signB (c.toNat : Int) = true) : c ≠ 32 ∧ sgn (signK (c.toNat : Int)) = [c] ∧ signK (c.toNat : Int) ≠ 0 ∧ signK (c.toNat : Int) ≠ 2 := by
  have e : ∀ n : Nat, n < 256 → signB ((UInt8.ofNat n).toNat : Int) = true → UInt8.ofNat n ≠ 32 ∧ sgn (signK ((UInt8.ofNat n).toNat : Int)) = [UInt8.ofNat n] ∧ signK ((UInt8.ofNat n).toNat : Int) ≠ 0 ∧ signK ((UInt8.ofNat n).toNat : Int) ≠ 2 := by decide +kernel
  have := e c.toNat c.toNat_lt
  rw [UInt8.ofNat_toNat] at this
  exact this h
theorem show_toks (m : Nat) : ∀ (its : List It) (p : Nat) (b : Bool), okI its → (b = false ∨ stopI its) → showR b (toks p its ++ [endT m]) = nob (flatT its)
  | [], p, b, _, _ => rfl
  | .w l :: r, p, b, h, hb => by
    have hb : b = false := hb.elim id (fun h => h.elim)
    subst hb
    obtain ⟨_, h2, h3, h4⟩ := h
    show (if (0 : Int) = 0 then _ else _) ++ showR true (toks (p + l.length) r ++ [endT m]) = nob (l ++ flatT r)
    rw [nob_app, nob_W h2, show_toks m r _ true h4 (.inr h3)]
    rfl
  | .s k c :: r, p, b, h, hb => by
    obtain ⟨h1, h2, h3⟩ := h
    obtain ⟨e1, e2, e3, e4⟩ := sign_is h2
    rw [h1] at e2 e3 e4
    show (if k = 0 then _ else if k = 2 then _ else sgn k) ++ showR (decide (k = 0)) (toks (p + 1) r ++ [endT m]) = nob (c :: flatT r)
    rw [if_neg e3, if_neg e4, e2, decide_eq_false e3, show_toks m r _ false h3 (.inl rfl)]
    show [c] ++ nob (flatT r) = nob ([c] ++ flatT r)
    rw [nob_app]
    have : nob [c] = [c] := by simp [nob, e1]
    rw [this]
  | .d :: r, p, b, h, hb => by
    show [46, 46] ++ showR false (toks (p + 2) r ++ [endT m]) = nob ([46, 46] ++ flatT r)
    rw [nob_app, show_toks m r _ false h (.inl rfl)]; rfl
  | .b :: r, p, b, h, hb => by
    have hb : b = false := hb.elim id (fun h => h.elim)
    subst hb
    show showR false (toks (p + 1) r ++ [endT m]) = nob ([32] ++ flatT r)
    rw [nob_app, show_toks m r _ false h (.inl rfl)]; rfl
def wI : List It → Nat
  | [] => 0
  | .w _ :: r => wI r + 1
  | .s _ _ :: r => wI r
  | .d :: r => wI r
  | .b :: r => wI r
theorem wI_app : ∀ l u : List It, wI (l ++ u) = wI l + wI u
  | [], u => by simp [wI]
  | .w _ :: l, u => by rw [List.cons_append, wI, wI, wI_app l u]; omega
  | .s _ _ :: l, u => by rw [List.cons_append, wI, wI, wI_app l u]
  | .d :: l, u => by rw [List.cons_append, wI, wI, wI_app l u]
  | .b :: l, u => by rw [List.cons_append, wI, wI, wI_app l u]
def cnt0 : List S42 → Nat
  | [] => 0
  | t :: r => (if t.f0 = 0 then 1 else 0) + cnt0 r
theorem cnt0_app : ∀ l u : List S42, cnt0 (l ++ u) = cnt0 l + cnt0 u
  | [], u => by simp [cnt0]
  | t :: l, u => by rw [List.cons_append, cnt0, cnt0, cnt0_app l u]; omega
theorem cnt_toks : ∀ (its : List It) (p : Nat), okI its → cnt0 (toks p its) = wI its
  | [], _, _ => rfl
  | .w l :: r, p, h => by
    show (if (0 : Int) = 0 then 1 else 0) + cnt0 (toks _ r) = wI r + 1
    rw [cnt_toks r _ h.2.2.2, if_pos rfl]; omega
  | .s k c :: r, p, h => by
    obtain ⟨h1, h2, h3⟩ := h
    obtain ⟨_, _, e3, _⟩ := sign_is h2
    rw [h1] at e3
    show (if k = 0 then 1 else 0) + cnt0 (toks _ r) = wI r
    rw [cnt_toks r _ h3, if_neg e3]; omega
  | .d :: r, p, h => by
    show (if (2 : Int) = 0 then 1 else 0) + cnt0 (toks _ r) = wI r
    rw [cnt_toks r _ h]; simp
  | .b :: r, p, h => by
    show cnt0 (toks _ r) = wI r
    rw [cnt_toks r _ h]
mutual
def pts : S26 → Nat
  | ⟨k, _, _, _, l⟩ => (if k = 0 then 1 else 0) + ptsL l
def ptsL : List S26 → Nat
  | [] => 0
  | x :: l => pts x + ptsL l
end
theorem pts_eq (n : S26) : pts n = (if n.f0 = 0 then 1 else 0) + ptsL n.f4 := by cases n; rw [pts]
theorem pts_le : ∀ (m : Nat) (n : S26), nd n ≤ m → pts n ≤ nd n
  | 0, n, h => by have := nd_pos n; omega
  | m + 1, n, h => by
    have hl : ∀ l : List S26, ndL l ≤ m → ptsL l ≤ ndL l := fun l => by
      induction l with
      | nil => intro _; exact Nat.le_refl _
      | cons x t ih =>
        intro hh
        rw [ndL] at hh ⊢
        rw [ptsL]
        have h1 := pts_le m x (by omega)
        have h2 := ih (by omega)
        omega
    have hn := nd_eq n
    have := hl n.f4 (by omega)
    rw [pts_eq]
    split <;> omega
theorem markI_w (a : Bool) (k : Int) (c : UInt8) : wI (markI a k c) = 0 := by unfold markI; cases a <;> rfl
theorem end_pts {n : S26} (h : endV n = true) : wI (it n) = pts n := by
  obtain ⟨h4, k⟩ := end_kinds h
  rw [it_eq, pts_eq, h4]
  rcases k with ⟨c, _⟩ | ⟨c, _⟩ | ⟨c, _⟩
  · rw [if_neg (by omega), if_neg (by omega), if_neg (by omega), if_neg (by omega), if_pos c, wI, wI_app, markI_w, markI_w, ptsL]
  · rw [if_neg (by omega), if_neg (by omega), if_pos c, if_neg (by omega)]; rfl
  · rw [if_neg (by omega), if_neg (by omega), if_neg (by omega), if_pos c, if_neg (by omega)]; rfl
theorem wI_join : ∀ xs : List (List It), wI (joinI xs) = (xs.map wI).sum
  | [] => rfl
  | [x] => by rw [joinI]; simp
  | x :: y :: r => by
    have h : wI (It.s 6 44 :: It.b :: joinI (y :: r)) = wI (joinI (y :: r)) := rfl
    rw [joinI, wI_app, h, wI_join (y :: r)]; simp
theorem it_pts : ∀ (m : Nat) (n : S26), nd n ≤ m → rt n = true → wI (it n) = pts n
  | 0, n, h, _ => by have := nd_pos n; omega
  | m + 1, n, hm, hn => by
    have hl : ∀ l : List S26, ndL l ≤ m → rtL l = true → ((itL l).map wI).sum = ptsL l := fun l => by
      induction l with
      | nil => intro _ _; rw [itL, ptsL]; rfl
      | cons x t ih =>
        intro hh ht
        rw [ndL] at hh
        rw [rtL, Bool.and_eq_true] at ht
        rw [itL, ptsL, List.map_cons, List.sum_cons, it_pts m x (by omega) ht.1, ih (by omega) ht.2]
    have hN := nd_eq n
    rcases rt_kinds hn with ⟨he, _⟩ | ⟨c, _, x, y, e, hx, hy, _⟩ | ⟨c, _, _, hL, _⟩
    · exact end_pts he
    · rw [it_eq, if_pos c, e, itL, itL, itL, pts_eq, if_neg (by omega), e, ptsL, ptsL, ptsL]
      show wI (it x ++ It.s 1 47 :: it y) = _
      rw [wI_app, wI, end_pts hx, end_pts hy]; omega
    · rw [it_eq, if_neg (by omega), if_pos c, pts_eq, if_neg (by omega), wI, wI_app, wI_join, hl n.f4 (by omega) hL]
      show ptsL n.f4 + 0 = _
      omega
abbrev lPts (k : Nat) (n : S26) : Option Int := lustrumlaw11_points.f k n.f0 n.f1.f0 n.f1.f1 n.f1.f2 n.f1.f3 n.f2 n.f3 n.f4
theorem pts_f : ∀ (m : Nat) (n : S26), nd n ≤ m → nd n ≤ 1048576 → Ev (fun k => lPts k n) (pts n : Int)
  | 0, n, h, _ => by have := nd_pos n; omega
  | m + 1, n, h, hb => by
    have loop : ∀ (t p : List S26) (c : Int), p ++ t = n.f4 → ndL t ≤ m → 0 ≤ c → c + ndL t ≤ 4611686018427387904 → Ev (fun k => lustrumlaw11_points.l0 k c (p.length : Int) n.f0 n.f1.f0 n.f1.f1 n.f1.f2 n.f1.f3 n.f2 n.f3 (p ++ t)) (c + ptsL t) := fun t => by
      induction t with
      | nil => exact fun p c _ _ _ _ => Ev.step (f := fun _ => some c) (fun k => by rw [lustrumlaw11_points.l0, if_neg (at_end p)]) (Ev.eq (Ev.now _) (by simp [ptsL]))
      | cons x t ih =>
        intro p c he hm hc hbc
        rw [ndL] at hm hbc
        rw [ptsL]
        have hl := len_nd n.f4
        have hn := nd_eq n
        have hp : (p ++ x :: t).length ≤ 4611686018427387904 := by rw [he]; omega
        have hx := pts_le _ x (Nat.le_refl _)
        have hxl : nd x ≤ ndL n.f4 := by rw [← he, ndL_app, ndL]; omega
        refine Ev.step (f := fun k => (lPts k x).bind fun t' => lustrumlaw11_points.l0 k (wrap64 (c + t')) ((p ++ [x]).length : Int) n.f0 n.f1.f0 n.f1.f1 n.f1.f2 n.f1.f3 n.f2 n.f3 (p ++ x :: t)) (fun k => by rw [lustrumlaw11_points.l0, if_pos (at_lt p x t), if_pos (at_0 p), at_rd26, at_next hp]) ?_
        refine Ev.bind (pts_f m x (by omega) (by omega)) ?_
        rw [w64 (by omega) (by omega)]
        have := ih (p ++ [x]) (c + pts x) (by rw [← at_app]; exact he) (by omega) (by omega) (by omega)
        rw [← at_app] at this
        exact Ev.eq this (by omega)
    have hn := nd_eq n
    have hj : ∀ c : Int, 0 ≤ c → c ≤ 1 → Ev (fun k => lustrumlaw11_points.j0 k c n.f0 n.f1.f0 n.f1.f1 n.f1.f2 n.f1.f3 n.f2 n.f3 n.f4) (c + ptsL n.f4) := fun c h0 h1 =>
      Ev.step (f := fun k => lustrumlaw11_points.l0 k c 0 n.f0 n.f1.f0 n.f1.f1 n.f1.f2 n.f1.f3 n.f2 n.f3 n.f4) (fun k => by rw [lustrumlaw11_points.j0]) (loop n.f4 [] c rfl (by omega) h0 (by omega))
    rw [pts_eq]
    by_cases c0 : n.f0 = 0
    · rw [if_pos c0]
      refine Ev.step (f := fun k => lustrumlaw11_points.j0 k 1 n.f0 n.f1.f0 n.f1.f1 n.f1.f2 n.f1.f3 n.f2 n.f3 n.f4) (fun k => by show lustrumlaw11_points.f (k + 1) _ _ _ _ _ _ _ _ = _; rw [lustrumlaw11_points.f, if_pos c0]) ?_
      exact Ev.eq (hj 1 (by omega) (by omega)) (by omega)
    · rw [if_neg c0]
      refine Ev.step (f := fun k => lustrumlaw11_points.j0 k 0 n.f0 n.f1.f0 n.f1.f1 n.f1.f2 n.f1.f3 n.f2 n.f3 n.f4) (fun k => by show lustrumlaw11_points.f (k + 1) _ _ _ _ _ _ _ _ = _; rw [lustrumlaw11_points.f, if_neg c0]) ?_
      exact Ev.eq (hj 0 (by omega) (by omega)) (by omega)
theorem PrintLex_t (n : S26) (hn : wfN n) (hb : nd n ≤ 1048576) : Ev (fun k => lustrumlaw11_PrintLex.f k n.f0 n.f1.f0 n.f1.f1 n.f1.f2 n.f1.f3 n.f2 n.f3 n.f4) true := by
  obtain ⟨b1, f1, _⟩ := rFew_f n hn
  have out : Ev (fun k => lustrumlaw11_PrintLex.j0 k true true n.f0 n.f1.f0 n.f1.f1 n.f1.f2 n.f1.f3 n.f2 n.f3 n.f4) true := Ev.step (f := fun _ => some true) (fun k => by rw [lustrumlaw11_PrintLex.j0, if_pos rfl]) (Ev.now _)
  refine Ev.bind awake11 (Ev.bind f1 ?_)
  cases b1 with
  | false => exact Ev.iff_ (by simp) out
  | true =>
    refine Ev.ift rfl (Ev.bind (tSane_f n hn (by omega)) ?_)
    cases hv : saneV n with
    | false => exact out
    | true =>
      obtain ⟨h1, h2, h3⟩ := sane_rt hv
      have hlen := tx_len _ n (Nat.le_refl _)
      have hT := pTx_f n hn hb
      rw [txV, if_pos hv] at hT
      have hok : okI (it n) := by have := it_ok _ n [] (Nat.le_refl _) h3 trivial trivial; simpa using this
      have hLex := lex_f (it n) hok (by rw [flat_n]; omega)
      rw [flat_n] at hLex
      have htk : (toks 0 (it n)).length ≤ (tx n).length := by
        have : ∀ (its : List It) (p : Nat), okI its → (toks p its).length ≤ (flatT its).length := fun its => by
          induction its with
          | nil => intro p _; exact Nat.le_refl _
          | cons i r ih =>
            intro p h
            rw [toks, flatT, List.length_append, List.length_append]
            cases i with
            | w l => have := ih (p + (It.w l).tx.length) h.2.2.2; have hl := List.length_pos_iff.2 h.1; simp only [It.tok, It.tx, List.length_cons, List.length_nil] at this ⊢; omega
            | s k c => have := ih (p + (It.s k c).tx.length) h.2.2; simp only [It.tok, It.tx, List.length_cons, List.length_nil] at this ⊢; omega
            | d => have := ih (p + It.d.tx.length) h; simp only [It.tok, It.tx, List.length_cons, List.length_nil] at this ⊢; omega
            | b => have := ih (p + It.b.tx.length) h; simp only [It.tok, It.tx, List.length_cons, List.length_nil] at this ⊢; omega
        have := this (it n) 0 hok
        rwa [flat_n] at this
      obtain ⟨T, hT0⟩ : ∃ T, T = toks 0 (it n) ++ [endT (tx n).length] := ⟨_, rfl⟩
      rw [← hT0] at hLex
      have hTl : T.length ≤ (tx n).length + 1 := by rw [hT0, List.length_append, List.length_singleton]; omega
      have hcnt : cnt0 T = pts n := by rw [hT0, cnt0_app, cnt_toks _ _ hok, it_pts _ n (Nat.le_refl _) h3]; rfl
      have hshow : showR false T = nob (tx n) := by rw [hT0, show_toks _ _ _ false hok (.inl rfl), flat_n]
      have hnl : (nob (tx n)).length ≤ (tx n).length := List.length_filter_le ..
      have hS : Ev (fun k => lex_Show.f k T) (bA (nob (tx n))) := by
        have := Show_l0 T [] [] (by simp only [List.nil_append]; omega) (by show 0 + (showR false T).length ≤ _; rw [hshow]; omega)
        have e : [] ++ showR (lastW []) T = nob (tx n) := hshow
        rw [e] at this
        exact this
      have words : ∀ (t p : List S42) (c : Nat), p ++ t = T → c + cnt0 t = pts n → Ev (fun k => lustrumlaw11_PrintLex.l1 k true T 0 (bA (nob (tx n))) (c : Int) (p.length : Int) n.f0 n.f1.f0 n.f1.f1 n.f1.f2 n.f1.f3 n.f2 n.f3 n.f4) true := fun t => by
        induction t with
        | nil =>
          intro p c he hc
          rw [List.append_nil] at he
          subst he
          rw [cnt0] at hc
          refine Ev.step (fun k => by rw [lustrumlaw11_PrintLex.l1, if_neg (by omega), if_pos rfl, if_pos rfl]) ?_
          refine Ev.bind hS (Ev.ift rfl (Ev.bind (pts_f _ n (Nat.le_refl _) hb) (Ev.eq (Ev.now _) ?_)))
          have : c = pts n := by omega
          rw [this]; simp
        | cons x t ih =>
          intro p c he hc
          rw [cnt0] at hc
          have hpl : p.length + 1 ≤ T.length := by rw [← he]; simp
          have hlt : (p.length : Int) < (T.length : Int) := by omega
          have hrd : rd_T42 T (p.length : Int) = x := by rw [← he]; exact at_rd42 p x t
          have hcn : cnt0 T ≤ nd n := by rw [hcnt]; exact pts_le _ n (Nat.le_refl _)
          have next := fun c' hc' => ih (p ++ [x]) c' (by rw [← at_app]; exact he) hc'
          have hlen1 : wrap64 ((p.length : Int) + 1) = ((p ++ [x]).length : Int) := at_next (p := p) (r := x) (t := t) (by rw [he]; omega)
          by_cases c0 : x.f0 = 0
          · rw [if_pos c0] at hc
            refine Ev.step (f := fun k => lustrumlaw11_PrintLex.l1 k true T 0 (bA (nob (tx n))) (wrap64 ((c : Int) + 1)) ((p ++ [x]).length : Int) n.f0 n.f1.f0 n.f1.f1 n.f1.f2 n.f1.f3 n.f2 n.f3 n.f4) (fun k => by rw [lustrumlaw11_PrintLex.l1, if_pos hlt, if_pos (at_0 p), hrd, if_pos c0, hlen1]) ?_
            rw [show wrap64 ((c : Int) + 1) = ((c + 1 : Nat) : Int) from by rw [w64 (by omega) (by omega)]; omega]
            exact next (c + 1) (by omega)
          · rw [if_neg c0] at hc
            exact Ev.step (f := fun k => lustrumlaw11_PrintLex.l1 k true T 0 (bA (nob (tx n))) (c : Int) ((p ++ [x]).length : Int) n.f0 n.f1.f0 n.f1.f1 n.f1.f2 n.f1.f3 n.f2 n.f3 n.f4) (fun k => by rw [lustrumlaw11_PrintLex.l1, if_pos hlt, if_pos (at_0 p), hrd, if_neg c0, hlen1]) (next c (by omega))
      have bare : ∀ (l p : List UInt8), p ++ l = tx n → Ev (fun k => lustrumlaw11_PrintLex.l0 k true (bA (tx n)) T 0 (bA (nob p)) (p.length : Int) n.f0 n.f1.f0 n.f1.f1 n.f1.f2 n.f1.f3 n.f2 n.f3 n.f4) true := fun l => by
        induction l with
        | nil =>
          intro p he
          rw [List.append_nil] at he
          refine Ev.step (f := fun k => lustrumlaw11_PrintLex.l1 k true T 0 (bA (nob (tx n))) 0 0 n.f0 n.f1.f0 n.f1.f1 n.f1.f2 n.f1.f3 n.f2 n.f3 n.f4) (fun k => by rw [lustrumlaw11_PrintLex.l0, bA_size, he, if_neg (by omega)]) ?_
          exact words T [] 0 rfl (by omega)
        | cons c l ih =>
          intro p he
          have hpl : p.length + 1 + l.length = (tx n).length := by rw [← he]; simp only [List.length_append, List.length_cons]; omega
          have hlt : (p.length : Int) < ((bA (tx n)).size : Int) := by rw [bA_size]; omega
          have hbt : bt (bA (tx n)) (p.length : Int) = (c.toNat : Int) := by rw [← he]; exact bt_mid p c l
          have hlen1 : wrap64 ((p.length : Int) + 1) = ((p ++ [c]).length : Int) := at_next (p := p) (r := c) (t := l) (by rw [he]; omega)
          have next := ih (p ++ [c]) (by rw [← at_app]; exact he)
          rw [nob_app] at next
          by_cases c32 : c = 32
          · subst c32
            have e : nob p ++ nob [32] = nob p := by simp [nob]
            rw [e] at next
            refine Ev.step (f := fun k => lustrumlaw11_PrintLex.l0 k true (bA (tx n)) T 0 (bA (nob p)) ((p ++ [32]).length : Int) n.f0 n.f1.f0 n.f1.f1 n.f1.f2 n.f1.f3 n.f2 n.f3 n.f4) (fun k => by rw [lustrumlaw11_PrintLex.l0, if_pos hlt, if_pos (by omega), hbt, if_pos (by rfl), hlen1]) next
          · have hc : ¬ (c.toNat : Int) = 32 := fun e => c32 (u8eq (by show c.toNat = 32; omega))
            have hx : (bA (tx n)).extract ((p.length : Int)).toNat (((p ++ [c]).length : Int)).toNat = bA [c] := by
              have := ext_bA p [c] l
              rw [← he]
              simpa using this
            have e : nob [c] = [c] := by simp [nob, c32]
            rw [e] at next
            have hnp : (nob p).length ≤ p.length := List.length_filter_le ..
            refine Ev.step (f := fun k => if (bA (nob p)).size + (bA [c]).size ≤ 9223372036854775807 then lustrumlaw11_PrintLex.l0 k true (bA (tx n)) T 0 (bA (nob p) ++ bA [c]) ((p ++ [c]).length : Int) n.f0 n.f1.f0 n.f1.f1 n.f1.f2 n.f1.f3 n.f2 n.f3 n.f4 else none) (fun k => by rw [lustrumlaw11_PrintLex.l0, if_pos hlt, if_pos (by omega), hbt, if_neg hc, hlen1, if_pos (by simp only [List.length_append, List.length_cons, List.length_nil]; omega), if_pos (by rw [bA_size]; simp only [List.length_append, List.length_cons, List.length_nil]; omega), hx]) ?_
            refine Ev.ift (by rw [bA_size, bA_size, List.length_singleton]; omega) ?_
            rw [bA_app]
            exact next
      refine Ev.step (fun k => by show lustrumlaw11_PrintLex.j0 (k + 1) true false _ _ _ _ _ _ _ _ = _; rw [lustrumlaw11_PrintLex.j0, if_neg (by simp)]) ?_
      exact Ev.bind hT (Ev.bind hLex (bare (tx n) [] rfl))
end Go.Proofs.Ytfehdlkklfcnpaa.A