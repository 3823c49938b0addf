/- Walks of functions, and plain facts about what they compute. No conditions. -/
import Derived.Test.YtkbcmjejfbbcpaaZs3
import Derived.Deep.Slices
import Derived.SizedLaws
import Derived.ChangeArms
import Derived.Test.YtkbcmjejfbbcpaaRows
import Derived.ChangeSame
set_option linter.unusedVariables false
set_option linter.unusedSimpArgs false
namespace Go.Proofs.Ytkbcmjejfbbcpaa.Rd
open Go.RowKit Go.Deep Go.Proofs.YtkbcmjejfbbcpaaW.PrintWords
set_option linter.unusedVariables false
def RdF {α : Type} (P : Program) (t : TypeId) (d : Kd α) (wf : α → Prop) (f : Nat) : Prop :=
  ∀ {H : Type} (enc : TypeId × Value → H) (W : World) (cs : List Value) (x : DataW H × List MemPlace),
    DataW.trod enc P W 0 (fun _ => true) true f t cs = some x → (x.1.weights P t).all (· ≤ reachBytes) = true → ∃ a, d.K W a cs ∧ wf a
def Rd {α : Type} (P : Program) (t : TypeId) (d : Kd α) (wf : α → Prop) : Prop := ∀ f, RdF P t d wf f
section
variable {P : Program} {t e : TypeId} {α : Type} {d : Kd α} {wf : α → Prop}
theorem Rd.int {k : IntKind} (ht : P.underlying t = some (.int k)) : Rd P t (Kd.int k) (fun a => (Lit.int k a).wf = true) := by
  intro f H enc W cs x h _
  obtain ⟨n, rfl, _, hw⟩ := DataW.trod_int ht h
  exact ⟨n, rfl, hw⟩
theorem Rd.bool (ht : P.underlying t = some .bool) : Rd P t Kd.bool (fun _ => True) := by
  intro f H enc W cs x h _
  obtain ⟨b, rfl, _⟩ := DataW.trod_bool ht h
  exact ⟨b, rfl, trivial⟩
theorem all_weights {H : Type} {l : List (DataW H)} (h : (DataW.weightsAll P e l).all (· ≤ reachBytes) = true) : ∀ x, x ∈ l → (x.weights P e).all (· ≤ reachBytes) = true := by
  induction l with
  | nil => intro x hx; simp at hx
  | cons y l ih =>
    simp only [DataW.weightsAll, List.all_append, Bool.and_eq_true] at h
    intro x hx
    rcases List.mem_cons.1 hx with rfl | hx
    · exact h.1
    · exact ih h.2 x hx
theorem list_of {β : Type} (Q : Nat → β → Prop) : ∀ (n : Nat), (∀ i, i < n → ∃ b, Q i b) → ∃ l : List β, l.length = n ∧ ∀ i b, l[i]? = some b → Q i b
  | 0, _ => ⟨[], rfl, fun i b h => by simp at h⟩
  | n + 1, h => by
    obtain ⟨l, hl, hq⟩ := list_of Q n (fun i hi => h i (by omega))
    obtain ⟨b, hb⟩ := h n (by omega)
    refine ⟨l ++ [b], by simp [hl], fun i c hc => ?_⟩
    rcases Nat.lt_or_ge i l.length with hi | hi
    · rw [List.getElem?_append_left hi] at hc
      exact hq i c hc
    · have hlt := (List.getElem?_eq_some_iff.1 hc).1
      rw [List.length_append, List.length_singleton] at hlt
      have : i = n := by omega
      subst this
      rw [List.getElem?_append_right hi, hl, Nat.sub_self] at hc
      simp at hc
      subst hc
      exact hb
theorem RdF.slice (ht : P.underlying t = some (.slice e)) (hc : P.cellsOf e = d.sz) {f : Nat} (hd : ∀ g, g < f → RdF P e d wf g) : RdF P t (Kd.slice e d) (fun l => l.length * P.bytesOf e ≤ 140737488351232 ∧ ∀ x, x ∈ l → wf x) f := by
  intro H enc W cs x h hw
  rcases DataW.trod_slice ht h with ⟨rfl, rfl⟩ | ⟨a, len, cap, elems, rest, n, rfl, rfl, rfl, _, hlc, hm, hlen, hel, _, _⟩
  · exact ⟨[], ⟨none, 0, rfl, Nat.le_refl _, rfl, by simp, fun h => absurd h (by simp)⟩, by simp, fun x h => by simp at h⟩
  simp only [DataW.weights, ht, List.all_cons, List.all_append, Bool.and_eq_true, decide_eq_true_eq] at hw
  obtain ⟨hb, hw1, _⟩ := hw
  rw [List.length_map, List.length_map] at hb
  obtain ⟨l, hl, hq⟩ := list_of (fun i b => ∃ c, c.length = d.sz ∧ d.K W b c ∧ wf b ∧ ∀ j u, c[j]? = some u → W.cell? (a.add (i * d.sz + j)) = some u) len fun i hi => by
    have hi' : i < elems.length := by omega
    have h1 := hel i hi
    rw [List.getElem?_eq_getElem hi'] at h1
    obtain ⟨c, hc1, hc2⟩ := Option.bind_eq_some_iff.1 h1
    obtain ⟨_, hcl, hcell⟩ := World.cells?_some hc1
    obtain ⟨b, hk, hwf⟩ := hd n (Nat.lt_succ_self n) enc W c _ hc2 (all_weights hw1 _ (List.mem_map.2 ⟨_, List.getElem_mem hi', rfl⟩))
    refine ⟨b, c, by rw [hcl, hc], hk, hwf, fun j u hj => ?_⟩
    have hjl := (List.getElem?_eq_some_iff.1 hj).1
    have h2 := hcell j (by omega)
    rw [hj, hc] at h2
    rw [← h2]
    congr 1
    exact (Deep.add_add _ _ _).symm
  refine ⟨l, ⟨some a, cap, by rw [hl], by rw [hl]; exact hlc, hl ▸ rfl, by unfold maxLen at hm; omega, fun _ => ⟨a, rfl, fun j p hj => ?_⟩⟩, ?_, fun x hx => ?_⟩
  · obtain ⟨c, h1, h2, _, h4⟩ := hq j p hj
    exact ⟨c, h1, h2, h4⟩
  · have : l.length * P.bytesOf e ≤ (elems.length + rest.length) * P.bytesOf e := Nat.mul_le_mul_right _ (by omega)
    unfold reachBytes at hb
    omega
  · obtain ⟨i, hi⟩ := List.getElem?_of_mem hx
    obtain ⟨c, _, _, h3, _⟩ := hq i x hi
    exact h3
theorem Rd.slice (ht : P.underlying t = some (.slice e)) (hc : P.cellsOf e = d.sz) (hd : Rd P e d wf) : Rd P t (Kd.slice e d) (fun l => l.length * P.bytesOf e ≤ 140737488351232 ∧ ∀ x, x ∈ l → wf x) :=
  fun f => RdF.slice ht hc (fun g _ => hd g)
theorem Rd.arg {H : Type} {enc : TypeId × Value → H} {W : World} {ts : List TypeId} {ds : List (DataW H)} {j : Nat} {v : Value} {x : DataW H} {ps : List MemPlace} (hr : Rd P t d wf) (hsz : (DataW.weightsEach P ts ds).all (· ≤ reachBytes) = true) (ht : ts[j]? = some t) (hd : ds[j]? = some x)
    (h : DataW.Trod enc P W 0 (fun _ => true) true t v x ps) : ∃ a, d.K W a v.cells.toList ∧ wf a := by
  obtain ⟨f, hf⟩ := h
  refine hr f enc W _ _ hf ?_
  rw [List.all_eq_true] at hsz ⊢
  exact fun n hn => hsz n (DataW.weights_mem_each ht hd n hn)
end
end Go.Proofs.Ytkbcmjejfbbcpaa.Rd

namespace Go.Proofs.Ytkbcmjejfbbcpaa.Rd
open Go.RowKit Go.Deep Go.Proofs.YtkbcmjejfbbcpaaW.PrintWords Go.Proofs.Ytkbcmjejfbbcpaa.A
set_option linter.unusedVariables false
def wfI (n : Int) : Prop := -9223372036854775808 ≤ n ∧ n ≤ 9223372036854775807
theorem wfI_of {n : Int} (h : (Lit.int .i64 n).wf = true) : wfI n := by
  have h1 := of_decide_eq_true (p := _ ∧ _) (by simpa [Lit.wf, IntKind.signed, IntKind.bits, Bool.and_eq_true, decide_eq_true_eq] using h)
  exact h1
theorem Rd.i64 : Rd Try.prog 3 (Kd.int .i64) wfI := by
  intro f H enc W cs x h hw
  obtain ⟨a, h1, h2⟩ := Rd.int Try.underlying3 f enc W cs x h hw
  exact ⟨a, h1, wfI_of h2⟩
theorem Rd.run : Rd Try.prog 25 k25 (fun r => wfI r.f0 ∧ wfI r.f1) := by
  intro f H enc W cs x h hw
  obtain ⟨y0, y1, n, rfl, hl, h0, h1⟩ := Go.ChangeShapes.trod_struct2 Try.underlying25 h
  obtain ⟨a, ha, _, wa⟩ := DataW.trod_int Try.underlying3 h0
  obtain ⟨b, hb, _, wb⟩ := DataW.trod_int Try.underlying3 h1
  refine ⟨⟨a, b⟩, ⟨[.int .i64 a], [.int .i64 b], ?_, rfl, rfl⟩, wfI_of wa, wfI_of wb⟩
  have e1 : Try.prog.cellsOf 25 = 2 := by kernel_rfl
  have e2 : Try.prog.cellsOf 3 = 1 := by kernel_rfl
  rw [e1] at hl
  rw [e2] at ha hb
  match cs, hl with
  | [u, v], _ =>
    simp at ha hb
    rw [ha, hb]; rfl
theorem Rd.runs : Rd Try.prog 23 (Kd.slice 25 k25) (fun l => l.length ≤ 8796093022208 ∧ ∀ r, r ∈ l → wfI r.f0 ∧ wfI r.f1) := by
  intro f H enc W cs x h hw
  obtain ⟨a, h1, h2, h3⟩ := Rd.slice Try.underlying23 (by kernel_rfl) Rd.run f enc W cs x h hw
  have e : Try.prog.bytesOf 25 = 16 := by kernel_rfl
  rw [e] at h2
  exact ⟨a, h1, by omega, h3⟩
theorem arg_slice {α : Type} {e : Nat} {d : Kd α} {W : World} {l : List α} {a : Option Addr} {n c : Nat} (h : (Kd.slice e d).K W l (Value.slice a n c).cells.toList) : n = l.length ∧ l.length ≤ c ∧ Kd.C d W a l.length l := by
  obtain ⟨A, c', e, h1, h2⟩ := h
  simp [Value.cells] at e
  obtain ⟨rfl, rfl, rfl⟩ := e
  exact ⟨rfl, h1, h2⟩
end Go.Proofs.Ytkbcmjejfbbcpaa.Rd

namespace Go.Proofs.Ytkbcmjejfbbcpaa.A
open Go.RowKit Go.Proofs.YtkbcmjejfbbcpaaW.PrintWords Go.Proofs.YtkbcmjejfbbcpaaW.PrintLast Go.Proofs.YtkbcmjejfbbcpaaW.PrintMore
attribute [local go_sem] max2_int min2_int max_two min_two max_three min_three max_four min_four
set_option linter.unusedVariables false
set_option linter.unusedSimpArgs false
def runs_Sane.l0 : Nat → Int → List (S25) → Int → Int → Option (Bool)
  | 0, _, _, _, _ => none
  | k + 1, x3, x6, x7, x8 => if x8 < x7 then (if 0 ≤ x8 then (if x8 < (x6.length : Int) then (if ((rd_T25 x6 x8).f0) > ((rd_T25 x6 x8).f1) then (some false) else (if ((rd_T25 x6 x8).f0) < (wrap64 (x3 + 2)) then (some false) else (if ((rd_T25 x6 x8).f1) > 1099511627776 then (some false) else (runs_Sane.l0 k ((rd_T25 x6 x8).f1) x6 x7 (wrap64 (x8 + 1)))))) else (none)) else (none)) else (some true)
def runs_Sane.f (k : Nat) (l0 : List (S25)) : Option (Bool) := runs_Sane.l0 k (-1099511627778) l0 (l0.length : Int) 0
theorem runs_Sane.mono_l : ∀ k, (∀ y0 y1 y2 y3, LeO (runs_Sane.l0 k y0 y1 y2 y3) (runs_Sane.l0 (k + 1) y0 y1 y2 y3))
  | 0 => fun _ _ _ _ r h => by simp [runs_Sane.l0] at h
  | k + 1 => by
    have ih0 := runs_Sane.mono_l k
    · intro y0 y1 y2 y3
      unfold runs_Sane.l0
      repeat' first
      | (with_reducible exact ih0 _ _ _ _)
      | (with_reducible exact LeO.refl _)
      | (with_reducible exact LeO.none _)
      | (with_reducible refine LeO.ite ?_ ?_)
      | (with_reducible refine LeO.bind ?_ (fun _ => ?_))
      | exact ih0 _ _ _ _
      | exact LeO.none _
      | refine LeO.ite ?_ ?_
      | refine LeO.bind ?_ (fun _ => ?_)
theorem runs_Sane.mono : ∀ a0 k, LeO (runs_Sane.f k a0) (runs_Sane.f (k + 1) a0) := by
  intro a0 k
  have ih0 := runs_Sane.mono_l k
  unfold runs_Sane.f
  repeat' first
      | (with_reducible exact ih0 _ _ _ _)
      | (with_reducible exact LeO.refl _)
      | (with_reducible exact LeO.none _)
      | (with_reducible refine LeO.ite ?_ ?_)
      | (with_reducible refine LeO.bind ?_ (fun _ => ?_))
      | exact ih0 _ _ _ _
      | exact LeO.none _
      | refine LeO.ite ?_ ?_
      | refine LeO.bind ?_ (fun _ => ?_)
def runs_known.f (k : Nat) (l0 : List (S25)) : Option ((List (S25))) := (runs_Sane.f k l0).bind fun t103 => (if t103 = true then (some l0) else ((runs_Make.f l0).bind fun t104 => (some t104)))
theorem runs_known.mono : ∀ a0 k, LeO (runs_known.f k a0) (runs_known.f (k + 1) a0) := by
  intro a0 k
  unfold runs_known.f
  repeat' first
      | (with_reducible exact runs_Sane.mono _ _)
      | (with_reducible exact LeO.refl _)
      | (with_reducible exact LeO.none _)
      | (with_reducible refine LeO.ite ?_ ?_)
      | (with_reducible refine LeO.bind ?_ (fun _ => ?_))
      | exact runs_Sane.mono _ _
      | exact LeO.none _
      | refine LeO.ite ?_ ?_
      | refine LeO.bind ?_ (fun _ => ?_)
def runs_Next.f (k : Nat) (l0 : List (S25)) (a1 : Int) : Option (Int × Bool) := (runs_known.f k l0).bind fun t107 => ((runs_at.f t107 a1).bind fun t110 => (if t110 = (t107.length : Int) then (some (0, false)) else (if 0 ≤ t110 then (if t110 < (t107.length : Int) then (some (mx a1 ((rd_T25 t107 t110).f0), true)) else (none)) else (none))))
theorem runs_Next.mono : ∀ a0 a1 k, LeO (runs_Next.f k a0 a1) (runs_Next.f (k + 1) a0 a1) := by
  intro a0 a1 k
  unfold runs_Next.f
  repeat' first
      | (with_reducible exact runs_known.mono _ _)
      | (with_reducible exact LeO.refl _)
      | (with_reducible exact LeO.none _)
      | (with_reducible refine LeO.ite ?_ ?_)
      | (with_reducible refine LeO.bind ?_ (fun _ => ?_))
      | exact runs_known.mono _ _
      | exact LeO.none _
      | refine LeO.ite ?_ ?_
      | refine LeO.bind ?_ (fun _ => ?_)
def runs_Has.f (k : Nat) (l0 : List (S25)) (a1 : Int) : Option (Bool) := (runs_Next.f k l0 a1).bind fun bt112 => (if bt112.2 = true then (some (bt112.1 == a1)) else (some false))
theorem runs_Has.mono : ∀ a0 a1 k, LeO (runs_Has.f k a0 a1) (runs_Has.f (k + 1) a0 a1) := by
  intro a0 a1 k
  unfold runs_Has.f
  repeat' first
      | (with_reducible exact runs_Next.mono _ _ _)
      | (with_reducible exact LeO.refl _)
      | (with_reducible exact LeO.none _)
      | (with_reducible refine LeO.ite ?_ ?_)
      | (with_reducible refine LeO.bind ?_ (fun _ => ?_))
      | exact runs_Next.mono _ _ _
      | exact LeO.none _
      | refine LeO.ite ?_ ?_
      | refine LeO.bind ?_ (fun _ => ?_)
end Go.Proofs.Ytkbcmjejfbbcpaa.A

namespace Go.Proofs.Ytkbcmjejfbbcpaa.A
open Go.RowKit Go.Proofs.YtkbcmjejfbbcpaaW.PrintWords Go.Proofs.YtkbcmjejfbbcpaaW.PrintLast Go.Proofs.YtkbcmjejfbbcpaaW.PrintMore
attribute [local go_sem] max2_int min2_int max_two min_two max_three min_three max_four min_four
set_option linter.unusedVariables false
set_option linter.unusedSimpArgs false
def lustrumref04_Same.l0 : Nat → List (S25) → List (S25) → Int → Option (Bool)
  | 0, _, _, _ => none
  | k + 1, x0, x1, x5 => if x5 < (x0.length : Int) then (if 0 ≤ x5 then (if x5 < (x1.length : Int) then (if (!(((rd_T25 x0 x5).f0) == ((rd_T25 x1 x5).f0)) || (!(((rd_T25 x0 x5).f1) == ((rd_T25 x1 x5).f1)))) = true then (some false) else (lustrumref04_Same.l0 k x0 x1 (wrap64 (x5 + 1)))) else (none)) else (none)) else (some true)
def lustrumref04_Same.f (k : Nat) (l0 : List (S25)) (l1 : List (S25)) : Option (Bool) := if (l0.length : Int) = (l1.length : Int) then (lustrumref04_Same.l0 k l0 l1 0) else (some false)
theorem lustrumref04_Same.mono_l : ∀ k, (∀ y0 y1 y2, LeO (lustrumref04_Same.l0 k y0 y1 y2) (lustrumref04_Same.l0 (k + 1) y0 y1 y2))
  | 0 => fun _ _ _ r h => by simp [lustrumref04_Same.l0] at h
  | k + 1 => by
    have ih0 := lustrumref04_Same.mono_l k
    · intro y0 y1 y2
      unfold lustrumref04_Same.l0
      repeat' first
      | (with_reducible exact ih0 _ _ _)
      | (with_reducible exact LeO.refl _)
      | (with_reducible exact LeO.none _)
      | (with_reducible refine LeO.ite ?_ ?_)
      | (with_reducible refine LeO.bind ?_ (fun _ => ?_))
      | exact ih0 _ _ _
      | exact LeO.none _
      | refine LeO.ite ?_ ?_
      | refine LeO.bind ?_ (fun _ => ?_)
theorem lustrumref04_Same.mono : ∀ a0 a1 k, LeO (lustrumref04_Same.f k a0 a1) (lustrumref04_Same.f (k + 1) a0 a1) := by
  intro a0 a1 k
  have ih0 := lustrumref04_Same.mono_l k
  unfold lustrumref04_Same.f
  repeat' first
      | (with_reducible exact ih0 _ _ _)
      | (with_reducible exact LeO.refl _)
      | (with_reducible exact LeO.none _)
      | (with_reducible refine LeO.ite ?_ ?_)
      | (with_reducible refine LeO.bind ?_ (fun _ => ?_))
      | exact ih0 _ _ _
      | exact LeO.none _
      | refine LeO.ite ?_ ?_
      | refine LeO.bind ?_ (fun _ => ?_)
end Go.Proofs.Ytkbcmjejfbbcpaa.A

namespace Go.Proofs.Ytkbcmjejfbbcpaa.A
open Go.RowKit Go.Proofs.YtkbcmjejfbbcpaaW.PrintWords Go.Proofs.YtkbcmjejfbbcpaaW.PrintLast Go.Proofs.YtkbcmjejfbbcpaaW.PrintMore
attribute [local go_sem] max2_int min2_int max_two min_two max_three min_three max_four min_four
set_option linter.unusedVariables false
set_option linter.unusedSimpArgs false
def sets_known.f (k : Nat) (l0 : List (S25)) : Option ((List (S25))) := (runs_Sane.f k l0).bind fun t322 => (if t322 = true then (some l0) else ((runs_Make.f l0).bind fun t323 => (some t323)))
theorem sets_known.mono : ∀ a0 k, LeO (sets_known.f k a0) (sets_known.f (k + 1) a0) := by
  intro a0 k
  unfold sets_known.f
  repeat' first
      | (with_reducible exact runs_Sane.mono _ _)
      | (with_reducible exact LeO.refl _)
      | (with_reducible exact LeO.none _)
      | (with_reducible refine LeO.ite ?_ ?_)
      | (with_reducible refine LeO.bind ?_ (fun _ => ?_))
      | exact runs_Sane.mono _ _
      | exact LeO.none _
      | refine LeO.ite ?_ ?_
      | refine LeO.bind ?_ (fun _ => ?_)
def sets_Wide.f (k : Nat) (l0 : List (S25)) : Option (Bool) := (sets_known.f k l0).bind fun t326 => (some (decide ((t326.length : Int) > 400)))
theorem sets_Wide.mono : ∀ a0 k, LeO (sets_Wide.f k a0) (sets_Wide.f (k + 1) a0) := by
  intro a0 k
  unfold sets_Wide.f
  repeat' first
      | (with_reducible exact sets_known.mono _ _)
      | (with_reducible exact LeO.refl _)
      | (with_reducible exact LeO.none _)
      | (with_reducible refine LeO.ite ?_ ?_)
      | (with_reducible refine LeO.bind ?_ (fun _ => ?_))
      | exact sets_known.mono _ _
      | exact LeO.none _
      | refine LeO.ite ?_ ?_
      | refine LeO.bind ?_ (fun _ => ?_)
end Go.Proofs.Ytkbcmjejfbbcpaa.A

namespace Go.Proofs.Ytkbcmjejfbbcpaa.A
open Go.RowKit Go.Proofs.YtkbcmjejfbbcpaaW.PrintWords Go.Proofs.YtkbcmjejfbbcpaaW.PrintLast Go.Proofs.YtkbcmjejfbbcpaaW.PrintMore
attribute [local go_sem] max2_int min2_int max_two min_two max_three min_three max_four min_four
set_option linter.unusedVariables false
set_option linter.unusedSimpArgs false
mutual
def sets_Meet.l0 : Nat → List (S25) → List (S25) → List (S25) → Int → Int → Option ((List (S25)))
  | 0, _, _, _, _, _ => none
  | k + 1, x0, x1, x5, x6, x7 => if x6 < (x0.length : Int) then (sets_Meet.j1 k x0 x1 x5 x6 x7 (decide (x7 < (x1.length : Int)))) else (sets_Meet.j1 k x0 x1 x5 x6 x7 false)
def sets_Meet.j1 : Nat → List (S25) → List (S25) → List (S25) → Int → Int → Bool → Option ((List (S25)))
  | 0, _, _, _, _, _, _ => none
  | k + 1, x0, x1, x5, x6, x7, x22 => if x22 = true then (if 0 ≤ x6 then (if x6 < (x0.length : Int) then (if 0 ≤ x7 then (if x7 < (x1.length : Int) then (if (mx ((rd_T25 x0 x6).f0) ((rd_T25 x1 x7).f0)) ≤ (mn ((rd_T25 x0 x6).f1) ((rd_T25 x1 x7).f1)) then (if x5.length < 8796093022208 then ((some (x5 ++ [(⟨mx ((rd_T25 x0 x6).f0) ((rd_T25 x1 x7).f0), mn ((rd_T25 x0 x6).f1) ((rd_T25 x1 x7).f1)⟩ : S25)] : List (S25))).bind fun y340 => (if ((rd_T25 x0 x6).f1) < ((rd_T25 x1 x7).f1) then (sets_Meet.l0 k x0 x1 y340 (wrap64 (x6 + 1)) x7) else (sets_Meet.l0 k x0 x1 y340 x6 (wrap64 (x7 + 1))))) else (none)) else (if ((rd_T25 x0 x6).f1) < ((rd_T25 x1 x7).f1) then (sets_Meet.l0 k x0 x1 x5 (wrap64 (x6 + 1)) x7) else (sets_Meet.l0 k x0 x1 x5 x6 (wrap64 (x7 + 1))))) else (none)) else (none)) else (none)) else (none)) else (some x5)
end
def sets_Meet.f (k : Nat) (l0 : List (S25)) (l1 : List (S25)) : Option ((List (S25))) := (sets_known.f k l0).bind fun t329 => ((sets_known.f k l1).bind fun t332 => (sets_Meet.l0 k t329 t332 ([] : List (S25)) 0 0))
theorem sets_Meet.mono_l : ∀ k, (∀ y0 y1 y2 y3 y4, LeO (sets_Meet.l0 k y0 y1 y2 y3 y4) (sets_Meet.l0 (k + 1) y0 y1 y2 y3 y4)) ∧ (∀ y0 y1 y2 y3 y4 y5, LeO (sets_Meet.j1 k y0 y1 y2 y3 y4 y5) (sets_Meet.j1 (k + 1) y0 y1 y2 y3 y4 y5))
  | 0 => ⟨fun _ _ _ _ _ r h => by simp [sets_Meet.l0] at h, fun _ _ _ _ _ _ r h => by simp [sets_Meet.j1] at h⟩
  | k + 1 => by
    obtain ⟨ih0, ih1⟩ := sets_Meet.mono_l k
    refine ⟨?_, ?_⟩
    · intro y0 y1 y2 y3 y4
      unfold sets_Meet.l0
      repeat' first
      | (with_reducible exact ih0 _ _ _ _ _)
      | (with_reducible exact ih1 _ _ _ _ _ _)
      | (with_reducible exact sets_known.mono _ _)
      | (with_reducible exact LeO.refl _)
      | (with_reducible exact LeO.none _)
      | (with_reducible refine LeO.ite ?_ ?_)
      | (with_reducible refine LeO.bind ?_ (fun _ => ?_))
      | exact ih0 _ _ _ _ _
      | exact ih1 _ _ _ _ _ _
      | exact sets_known.mono _ _
      | exact LeO.none _
      | refine LeO.ite ?_ ?_
      | refine LeO.bind ?_ (fun _ => ?_)
    · intro y0 y1 y2 y3 y4 y5
      unfold sets_Meet.j1
      repeat' first
      | (with_reducible exact ih0 _ _ _ _ _)
      | (with_reducible exact ih1 _ _ _ _ _ _)
      | (with_reducible exact sets_known.mono _ _)
      | (with_reducible exact LeO.refl _)
      | (with_reducible exact LeO.none _)
      | (with_reducible refine LeO.ite ?_ ?_)
      | (with_reducible refine LeO.bind ?_ (fun _ => ?_))
      | exact ih0 _ _ _ _ _
      | exact ih1 _ _ _ _ _ _
      | exact sets_known.mono _ _
      | exact LeO.none _
      | refine LeO.ite ?_ ?_
      | refine LeO.bind ?_ (fun _ => ?_)
theorem sets_Meet.mono : ∀ a0 a1 k, LeO (sets_Meet.f k a0 a1) (sets_Meet.f (k + 1) a0 a1) := by
  intro a0 a1 k
  obtain ⟨ih0, ih1⟩ := sets_Meet.mono_l k
  unfold sets_Meet.f
  repeat' first
      | (with_reducible exact ih0 _ _ _ _ _)
      | (with_reducible exact ih1 _ _ _ _ _ _)
      | (with_reducible exact sets_known.mono _ _)
      | (with_reducible exact LeO.refl _)
      | (with_reducible exact LeO.none _)
      | (with_reducible refine LeO.ite ?_ ?_)
      | (with_reducible refine LeO.bind ?_ (fun _ => ?_))
      | exact ih0 _ _ _ _ _
      | exact ih1 _ _ _ _ _ _
      | exact sets_known.mono _ _
      | exact LeO.none _
      | refine LeO.ite ?_ ?_
      | refine LeO.bind ?_ (fun _ => ?_)
end Go.Proofs.Ytkbcmjejfbbcpaa.A

namespace Go.Proofs.Ytkbcmjejfbbcpaa.A
open Go.RowKit Go.Proofs.YtkbcmjejfbbcpaaW.PrintWords Go.Proofs.YtkbcmjejfbbcpaaW.PrintLast Go.Proofs.YtkbcmjejfbbcpaaW.PrintMore
attribute [local go_sem] max2_int min2_int max_two min_two max_three min_three max_four min_four
set_option linter.unusedVariables false
set_option linter.unusedSimpArgs false
def sets_Minus.l0 : Nat → List (S25) → List (S25) → Int → List (S25) → Int → Int → Option ((List (S25)))
  | 0, _, _, _, _, _, _ => none
  | k + 1, x0, x5, x6, x10, x11, x12 => if x12 < x11 then (if 0 ≤ x12 then (if x12 < (x10.length : Int) then (if x6 < ((rd_T25 x10 x12).f0) then (if x5.length < 8796093022208 then (sets_Minus.l0 k x0 (x5 ++ [(⟨x6, wrap64 (((rd_T25 x10 x12).f0) - 1)⟩ : S25)]) (wrap64 (((rd_T25 x10 x12).f1) + 1)) x10 x11 (wrap64 (x12 + 1))) else (none)) else (sets_Minus.l0 k x0 x5 (wrap64 (((rd_T25 x10 x12).f1) + 1)) x10 x11 (wrap64 (x12 + 1)))) else (none)) else (none)) else (if x6 ≤ 1099511627776 then (if x5.length < 8796093022208 then ((sets_Meet.f k x0 (x5 ++ [(⟨x6, 1099511627776⟩ : S25)])).bind fun t358 => (some t358)) else (none)) else ((sets_Meet.f k x0 x5).bind fun t361 => (some t361)))
def sets_Minus.f (k : Nat) (l0 : List (S25)) (l1 : List (S25)) : Option ((List (S25))) := (sets_known.f k l1).bind fun t347 => (sets_Minus.l0 k l0 ([] : List (S25)) (-1099511627776) t347 (t347.length : Int) 0)
theorem sets_Minus.mono_l : ∀ k, (∀ y0 y1 y2 y3 y4 y5, LeO (sets_Minus.l0 k y0 y1 y2 y3 y4 y5) (sets_Minus.l0 (k + 1) y0 y1 y2 y3 y4 y5))
  | 0 => fun _ _ _ _ _ _ r h => by simp [sets_Minus.l0] at h
  | k + 1 => by
    have ih0 := sets_Minus.mono_l k
    · intro y0 y1 y2 y3 y4 y5
      unfold sets_Minus.l0
      repeat' first
      | (with_reducible exact ih0 _ _ _ _ _ _)
      | (with_reducible exact sets_Meet.mono _ _ _)
      | (with_reducible exact sets_known.mono _ _)
      | (with_reducible exact LeO.refl _)
      | (with_reducible exact LeO.none _)
      | (with_reducible refine LeO.ite ?_ ?_)
      | (with_reducible refine LeO.bind ?_ (fun _ => ?_))
      | exact ih0 _ _ _ _ _ _
      | exact sets_Meet.mono _ _ _
      | exact sets_known.mono _ _
      | exact LeO.none _
      | refine LeO.ite ?_ ?_
      | refine LeO.bind ?_ (fun _ => ?_)
theorem sets_Minus.mono : ∀ a0 a1 k, LeO (sets_Minus.f k a0 a1) (sets_Minus.f (k + 1) a0 a1) := by
  intro a0 a1 k
  have ih0 := sets_Minus.mono_l k
  unfold sets_Minus.f
  repeat' first
      | (with_reducible exact ih0 _ _ _ _ _ _)
      | (with_reducible exact sets_Meet.mono _ _ _)
      | (with_reducible exact sets_known.mono _ _)
      | (with_reducible exact LeO.refl _)
      | (with_reducible exact LeO.none _)
      | (with_reducible refine LeO.ite ?_ ?_)
      | (with_reducible refine LeO.bind ?_ (fun _ => ?_))
      | exact ih0 _ _ _ _ _ _
      | exact sets_Meet.mono _ _ _
      | exact sets_known.mono _ _
      | exact LeO.none _
      | refine LeO.ite ?_ ?_
      | refine LeO.bind ?_ (fun _ => ?_)
def sets_moved.l0 : Nat → Int → Int → List (S25) → List (S25) → Int → Int → Option ((List (S25)))
  | 0, _, _, _, _, _, _ => none
  | k + 1, x1, x2, x7, x11, x12, x13 => if x13 < x12 then (if 0 ≤ x13 then (if x13 < (x11.length : Int) then (if x7.length < 8796093022208 then (sets_moved.l0 k x1 x2 (x7 ++ [(⟨wrap64 (((rd_T25 x11 x13).f0) + x1), wrap64 (((rd_T25 x11 x13).f1) + x2)⟩ : S25)]) x11 x12 (wrap64 (x13 + 1))) else (none)) else (none)) else (none)) else ((runs_Make.f x7).bind fun t372 => (some t372))
def sets_moved.f (k : Nat) (l0 : List (S25)) (a1 : Int) (a2 : Int) : Option ((List (S25))) := (sets_known.f k l0).bind fun t364 => (sets_moved.l0 k a1 a2 ([] : List (S25)) t364 (t364.length : Int) 0)
theorem sets_moved.mono_l : ∀ k, (∀ y0 y1 y2 y3 y4 y5, LeO (sets_moved.l0 k y0 y1 y2 y3 y4 y5) (sets_moved.l0 (k + 1) y0 y1 y2 y3 y4 y5))
  | 0 => fun _ _ _ _ _ _ r h => by simp [sets_moved.l0] at h
  | k + 1 => by
    have ih0 := sets_moved.mono_l k
    · intro y0 y1 y2 y3 y4 y5
      unfold sets_moved.l0
      repeat' first
      | (with_reducible exact ih0 _ _ _ _ _ _)
      | (with_reducible exact sets_known.mono _ _)
      | (with_reducible exact LeO.refl _)
      | (with_reducible exact LeO.none _)
      | (with_reducible refine LeO.ite ?_ ?_)
      | (with_reducible refine LeO.bind ?_ (fun _ => ?_))
      | exact ih0 _ _ _ _ _ _
      | exact sets_known.mono _ _
      | exact LeO.none _
      | refine LeO.ite ?_ ?_
      | refine LeO.bind ?_ (fun _ => ?_)
theorem sets_moved.mono : ∀ a0 a1 a2 k, LeO (sets_moved.f k a0 a1 a2) (sets_moved.f (k + 1) a0 a1 a2) := by
  intro a0 a1 a2 k
  have ih0 := sets_moved.mono_l k
  unfold sets_moved.f
  repeat' first
      | (with_reducible exact ih0 _ _ _ _ _ _)
      | (with_reducible exact sets_known.mono _ _)
      | (with_reducible exact LeO.refl _)
      | (with_reducible exact LeO.none _)
      | (with_reducible refine LeO.ite ?_ ?_)
      | (with_reducible refine LeO.bind ?_ (fun _ => ?_))
      | exact ih0 _ _ _ _ _ _
      | exact sets_known.mono _ _
      | exact LeO.none _
      | refine LeO.ite ?_ ?_
      | refine LeO.bind ?_ (fun _ => ?_)
def sets_Grow.f (k : Nat) (l0 : List (S25)) (a1 : Int) : Option ((List (S25))) := (sets_moved.f k l0 (-(mx 0 (mn a1 2199023255552))) (mx 0 (mn a1 2199023255552))).bind fun t375 => (some t375)
theorem sets_Grow.mono : ∀ a0 a1 k, LeO (sets_Grow.f k a0 a1) (sets_Grow.f (k + 1) a0 a1) := by
  intro a0 a1 k
  unfold sets_Grow.f
  repeat' first
      | (with_reducible exact sets_moved.mono _ _ _ _)
      | (with_reducible exact LeO.refl _)
      | (with_reducible exact LeO.none _)
      | (with_reducible refine LeO.ite ?_ ?_)
      | (with_reducible refine LeO.bind ?_ (fun _ => ?_))
      | exact sets_moved.mono _ _ _ _
      | exact LeO.none _
      | refine LeO.ite ?_ ?_
      | refine LeO.bind ?_ (fun _ => ?_)
def lustrumlaw05_awake.f (k : Nat)  : Option (Bool) := (sets_Grow.f k (([(⟨3, 4⟩ : S25)] : List (S25))) 2).bind fun t381 => ((sets_Minus.f k (([(⟨1, 9⟩ : S25)] : List (S25))) (([(⟨4, 5⟩ : S25)] : List (S25)))).bind fun t390 => (if (t381.length : Int) = 1 then (if 0 < (t381.length : Int) then (if ((rd_T25 t381 0).f0) = 1 then (if ((rd_T25 t381 0).f1) = 6 then (if (t390.length : Int) = 2 then (if 0 < (t390.length : Int) then (if ((rd_T25 t390 0).f1) = 3 then (if 1 < (t390.length : Int) then (if ((rd_T25 t390 1).f0) = 6 then ((sets_Wide.f k t390).bind fun t397 => (some (!t397))) else (some false)) else (none)) else (some false)) else (none)) else (some false)) else (some false)) else (some false)) else (none)) else (some false)))
theorem lustrumlaw05_awake.mono : ∀ k, LeO (lustrumlaw05_awake.f k ) (lustrumlaw05_awake.f (k + 1) ) := by
  intro  k
  unfold lustrumlaw05_awake.f
  repeat' first
      | (with_reducible exact sets_Grow.mono _ _ _)
      | (with_reducible exact sets_Minus.mono _ _ _)
      | (with_reducible exact sets_Wide.mono _ _)
      | (with_reducible exact LeO.refl _)
      | (with_reducible exact LeO.none _)
      | (with_reducible refine LeO.ite ?_ ?_)
      | (with_reducible refine LeO.bind ?_ (fun _ => ?_))
      | exact sets_Grow.mono _ _ _
      | exact sets_Minus.mono _ _ _
      | exact sets_Wide.mono _ _
      | exact LeO.none _
      | refine LeO.ite ?_ ?_
      | refine LeO.bind ?_ (fun _ => ?_)
end Go.Proofs.Ytkbcmjejfbbcpaa.A

namespace Go.Proofs.Ytkbcmjejfbbcpaa.A
open Go.RowKit Go.Proofs.YtkbcmjejfbbcpaaW.PrintWords Go.Proofs.YtkbcmjejfbbcpaaW.PrintLast Go.Proofs.YtkbcmjejfbbcpaaW.PrintMore
attribute [local go_sem] max2_int min2_int max_two min_two max_three min_three max_four min_four
set_option linter.unusedVariables false
set_option linter.unusedSimpArgs false
def sets_Shift.f (k : Nat) (l0 : List (S25)) (a1 : Int) : Option ((List (S25))) := if a1 > 2199023255552 then (some ([] : List (S25))) else (if a1 < (-2199023255552) then (some ([] : List (S25))) else ((sets_moved.f k l0 a1 a1).bind fun t488 => (some t488)))
theorem sets_Shift.mono : ∀ a0 a1 k, LeO (sets_Shift.f k a0 a1) (sets_Shift.f (k + 1) a0 a1) := by
  intro a0 a1 k
  unfold sets_Shift.f
  repeat' first
      | (with_reducible exact sets_moved.mono _ _ _ _)
      | (with_reducible exact LeO.refl _)
      | (with_reducible exact LeO.none _)
      | (with_reducible refine LeO.ite ?_ ?_)
      | (with_reducible refine LeO.bind ?_ (fun _ => ?_))
      | exact sets_moved.mono _ _ _ _
      | exact LeO.none _
      | refine LeO.ite ?_ ?_
      | refine LeO.bind ?_ (fun _ => ?_)
end Go.Proofs.Ytkbcmjejfbbcpaa.A

namespace Go.Proofs.Ytkbcmjejfbbcpaa.A
open Go.RowKit Go.Proofs.YtkbcmjejfbbcpaaW.PrintWords Go.Proofs.YtkbcmjejfbbcpaaW.PrintLast Go.Proofs.YtkbcmjejfbbcpaaW.PrintMore
attribute [local go_sem] max2_int min2_int max_two min_two max_three min_three max_four min_four
set_option linter.unusedVariables false
set_option linter.unusedSimpArgs false
def sets_Clip.f (k : Nat) (l0 : List (S25)) (a1 : Int) (a2 : Int) : Option ((List (S25))) := (sets_Meet.f k l0 (([(⟨a1, a2⟩ : S25)] : List (S25)))).bind fun t516 => (some t516)
theorem sets_Clip.mono : ∀ a0 a1 a2 k, LeO (sets_Clip.f k a0 a1 a2) (sets_Clip.f (k + 1) a0 a1 a2) := by
  intro a0 a1 a2 k
  unfold sets_Clip.f
  repeat' first
      | (with_reducible exact sets_Meet.mono _ _ _)
      | (with_reducible exact LeO.refl _)
      | (with_reducible exact LeO.none _)
      | (with_reducible refine LeO.ite ?_ ?_)
      | (with_reducible refine LeO.bind ?_ (fun _ => ?_))
      | exact sets_Meet.mono _ _ _
      | exact LeO.none _
      | refine LeO.ite ?_ ?_
      | refine LeO.bind ?_ (fun _ => ?_)
end Go.Proofs.Ytkbcmjejfbbcpaa.A

namespace Go.Proofs.Ytkbcmjejfbbcpaa.A
open Go.RowKit Go.Proofs.YtkbcmjejfbbcpaaW.PrintWords Go.Proofs.YtkbcmjejfbbcpaaW.PrintLast Go.Proofs.YtkbcmjejfbbcpaaW.PrintMore
attribute [local go_sem] max2_int min2_int max_two min_two max_three min_three max_four min_four
set_option linter.unusedVariables false
set_option linter.unusedSimpArgs false
mutual
def lustrumlaw05_SetsShift.j0 : Nat → List (S25) → Int → Int → Bool → Bool → Option (Bool)
  | 0, _, _, _, _, _ => none
  | k + 1, x0, x1, x2, x7, x30 => if x30 = true then (some x7) else ((sets_Shift.f k x0 x1).bind fun t682 => ((runs_Has.f k t682 x2).bind fun t685 => ((runs_Has.f k x0 (wrap64 (x2 - x1))).bind fun t686 => (if (t685 != t686) = true then (lustrumlaw05_SetsShift.j1 k x0 x1 x7 t682 true) else ((runs_Sane.f k t682).bind fun t687 => (lustrumlaw05_SetsShift.j1 k x0 x1 x7 t682 (!t687)))))))
def lustrumlaw05_SetsShift.j1 : Nat → List (S25) → Int → Bool → List (S25) → Bool → Option (Bool)
  | 0, _, _, _, _, _ => none
  | k + 1, x0, x1, x7, x8, x48 => if x48 = true then (some false) else ((sets_Shift.f k x8 (wrap64 (-x1))).bind fun t688 => ((sets_Clip.f k x0 (mx (-1099511627776) (wrap64 ((-1099511627776) - x1))) (mn 1099511627776 (wrap64 (1099511627776 - x1)))).bind fun t691 => (if x7 = true then ((lustrumref04_Same.f k t688 t691).bind fun t694 => (if t694 = true then ((sets_Shift.f k x0 0).bind fun t695 => ((runs_Make.f x0).bind fun t698 => ((lustrumref04_Same.f k t695 t698).bind fun t701 => (some t701)))) else (some false))) else (some false))))
end
def lustrumlaw05_SetsShift.f (k : Nat) (l0 : List (S25)) (a1 : Int) (a2 : Int) : Option (Bool) := (lustrumlaw05_awake.f k).bind fun t681 => (if (l0.length : Int) > 40 then (lustrumlaw05_SetsShift.j0 k l0 a1 a2 t681 true) else (if a1 < (-1000000) then (lustrumlaw05_SetsShift.j0 k l0 a1 a2 t681 true) else (if a1 > 1000000 then (lustrumlaw05_SetsShift.j0 k l0 a1 a2 t681 true) else (if a2 < (-1000000) then (lustrumlaw05_SetsShift.j0 k l0 a1 a2 t681 true) else (lustrumlaw05_SetsShift.j0 k l0 a1 a2 t681 (decide (a2 > 1000000)))))))
theorem lustrumlaw05_SetsShift.mono_l : ∀ k, (∀ y0 y1 y2 y3 y4, LeO (lustrumlaw05_SetsShift.j0 k y0 y1 y2 y3 y4) (lustrumlaw05_SetsShift.j0 (k + 1) y0 y1 y2 y3 y4)) ∧ (∀ y0 y1 y2 y3 y4, LeO (lustrumlaw05_SetsShift.j1 k y0 y1 y2 y3 y4) (lustrumlaw05_SetsShift.j1 (k + 1) y0 y1 y2 y3 y4))
  | 0 => ⟨fun _ _ _ _ _ r h => by simp [lustrumlaw05_SetsShift.j0] at h, fun _ _ _ _ _ r h => by simp [lustrumlaw05_SetsShift.j1] at h⟩
  | k + 1 => by
    obtain ⟨ih0, ih1⟩ := lustrumlaw05_SetsShift.mono_l k
    refine ⟨?_, ?_⟩
    · intro y0 y1 y2 y3 y4
      unfold lustrumlaw05_SetsShift.j0
      repeat' first
      | (with_reducible exact ih0 _ _ _ _ _)
      | (with_reducible exact ih1 _ _ _ _ _)
      | (with_reducible exact lustrumlaw05_awake.mono _)
      | (with_reducible exact lustrumref04_Same.mono _ _ _)
      | (with_reducible exact runs_Has.mono _ _ _)
      | (with_reducible exact runs_Sane.mono _ _)
      | (with_reducible exact sets_Clip.mono _ _ _ _)
      | (with_reducible exact sets_Shift.mono _ _ _)
      | (with_reducible exact LeO.refl _)
      | (with_reducible exact LeO.none _)
      | (with_reducible refine LeO.ite ?_ ?_)
      | (with_reducible refine LeO.bind ?_ (fun _ => ?_))
      | exact ih0 _ _ _ _ _
      | exact ih1 _ _ _ _ _
      | exact lustrumlaw05_awake.mono _
      | exact lustrumref04_Same.mono _ _ _
      | exact runs_Has.mono _ _ _
      | exact runs_Sane.mono _ _
      | exact sets_Clip.mono _ _ _ _
      | exact sets_Shift.mono _ _ _
      | exact LeO.none _
      | refine LeO.ite ?_ ?_
      | refine LeO.bind ?_ (fun _ => ?_)
    · intro y0 y1 y2 y3 y4
      unfold lustrumlaw05_SetsShift.j1
      repeat' first
      | (with_reducible exact ih0 _ _ _ _ _)
      | (with_reducible exact ih1 _ _ _ _ _)
      | (with_reducible exact lustrumlaw05_awake.mono _)
      | (with_reducible exact lustrumref04_Same.mono _ _ _)
      | (with_reducible exact runs_Has.mono _ _ _)
      | (with_reducible exact runs_Sane.mono _ _)
      | (with_reducible exact sets_Clip.mono _ _ _ _)
      | (with_reducible exact sets_Shift.mono _ _ _)
      | (with_reducible exact LeO.refl _)
      | (with_reducible exact LeO.none _)
      | (with_reducible refine LeO.ite ?_ ?_)
      | (with_reducible refine LeO.bind ?_ (fun _ => ?_))
      | exact ih0 _ _ _ _ _
      | exact ih1 _ _ _ _ _
      | exact lustrumlaw05_awake.mono _
      | exact lustrumref04_Same.mono _ _ _
      | exact runs_Has.mono _ _ _
      | exact runs_Sane.mono _ _
      | exact sets_Clip.mono _ _ _ _
      | exact sets_Shift.mono _ _ _
      | exact LeO.none _
      | refine LeO.ite ?_ ?_
      | refine LeO.bind ?_ (fun _ => ?_)
theorem lustrumlaw05_SetsShift.mono : ∀ a0 a1 a2 k, LeO (lustrumlaw05_SetsShift.f k a0 a1 a2) (lustrumlaw05_SetsShift.f (k + 1) a0 a1 a2) := by
  intro a0 a1 a2 k
  obtain ⟨ih0, ih1⟩ := lustrumlaw05_SetsShift.mono_l k
  unfold lustrumlaw05_SetsShift.f
  repeat' first
      | (with_reducible exact ih0 _ _ _ _ _)
      | (with_reducible exact ih1 _ _ _ _ _)
      | (with_reducible exact lustrumlaw05_awake.mono _)
      | (with_reducible exact lustrumref04_Same.mono _ _ _)
      | (with_reducible exact runs_Has.mono _ _ _)
      | (with_reducible exact runs_Sane.mono _ _)
      | (with_reducible exact sets_Clip.mono _ _ _ _)
      | (with_reducible exact sets_Shift.mono _ _ _)
      | (with_reducible exact LeO.refl _)
      | (with_reducible exact LeO.none _)
      | (with_reducible refine LeO.ite ?_ ?_)
      | (with_reducible refine LeO.bind ?_ (fun _ => ?_))
      | exact ih0 _ _ _ _ _
      | exact ih1 _ _ _ _ _
      | exact lustrumlaw05_awake.mono _
      | exact lustrumref04_Same.mono _ _ _
      | exact runs_Has.mono _ _ _
      | exact runs_Sane.mono _ _
      | exact sets_Clip.mono _ _ _ _
      | exact sets_Shift.mono _ _ _
      | exact LeO.none _
      | refine LeO.ite ?_ ?_
      | refine LeO.bind ?_ (fun _ => ?_)
end Go.Proofs.Ytkbcmjejfbbcpaa.A

namespace Go.Proofs.Ytkbcmjejfbbcpaa.A.At
open Go.RowKit Go.Proofs.YtkbcmjejfbbcpaaW.PrintWords Go.Proofs.YtkbcmjejfbbcpaaW.PrintLast Go.Proofs.YtkbcmjejfbbcpaaW.PrintMore
attribute [local go_sem] max2_int min2_int max_two min_two max_three min_three max_four min_four
set_option linter.unusedVariables false
set_option linter.unusedSimpArgs false
def cmp_isNaN_int.f (a0 : Int) : Option (Bool) := some (a0 != a0)
def cmp_Compare_int.f (a0 : Int) (a1 : Int) : Option (Int) := (cmp_isNaN_int.f a0).bind fun t101 => ((cmp_isNaN_int.f a1).bind fun t102 => (if t101 = true then (if t102 = true then (some 0) else (some (-1))) else (if t102 = true then (some 1) else (if a0 < a1 then (some (-1)) else (if a0 > a1 then (some 1) else (some 0))))))
def runs_at_1.f (a0_0 : Int) (a0_1 : Int) (a1 : Int) : Option (Int) := (cmp_Compare_int.f a0_1 a1).bind fun t104 => (some t104)
def api_Run_int.l0 : Nat → List (S25) → Int → Int → Int → Int → Option (Int × Bool)
  | 0, _, _, _, _, _ => none
  | k + 1, x0, x1, x8, x9, x10 => if x9 < x10 then (if 0 ≤ (wrap64 ((IntKind.u64.wrap (wrap64 (x9 + x10))) / 2)) then (if (wrap64 ((IntKind.u64.wrap (wrap64 (x9 + x10))) / 2)) < (x0.length : Int) then ((runs_at_1.f ((rd_T25 x0 (wrap64 ((IntKind.u64.wrap (wrap64 (x9 + x10))) / 2))).f0) ((rd_T25 x0 (wrap64 ((IntKind.u64.wrap (wrap64 (x9 + x10))) / 2))).f1) x1).bind fun t106 => (if t106 < 0 then (api_Run_int.l0 k x0 x1 x8 (wrap64 ((wrap64 ((IntKind.u64.wrap (wrap64 (x9 + x10))) / 2)) + 1)) x10) else (api_Run_int.l0 k x0 x1 x8 x9 (wrap64 ((IntKind.u64.wrap (wrap64 (x9 + x10))) / 2))))) else (none)) else (none)) else (if x9 < x8 then (if 0 ≤ x9 then (if x9 < (x0.length : Int) then ((runs_at_1.f ((rd_T25 x0 x9).f0) ((rd_T25 x0 x9).f1) x1).bind fun t108 => (some (x9, (t108 == 0)))) else (none)) else (none)) else (some (x9, false)))
def api_Run_int.f (k : Nat) (l0 : List (S25)) (a1 : Int)  : Option (Int × Bool) := api_Run_int.l0 k l0 a1 (l0.length : Int) 0 (l0.length : Int)
theorem api_Run_int.mono_l : ∀ k, (∀ y0 y1 y2 y3 y4, LeO (api_Run_int.l0 k y0 y1 y2 y3 y4) (api_Run_int.l0 (k + 1) y0 y1 y2 y3 y4))
  | 0 => fun _ _ _ _ _ r h => by simp [api_Run_int.l0] at h
  | k + 1 => by
    have ih0 := api_Run_int.mono_l k
    · intro y0 y1 y2 y3 y4
      unfold api_Run_int.l0
      repeat' first
      | (with_reducible exact ih0 _ _ _ _ _)
      | (with_reducible exact LeO.refl _)
      | (with_reducible exact LeO.none _)
      | (with_reducible refine LeO.ite ?_ ?_)
      | (with_reducible refine LeO.bind ?_ (fun _ => ?_))
      | exact ih0 _ _ _ _ _
      | exact LeO.none _
      | refine LeO.ite ?_ ?_
      | refine LeO.bind ?_ (fun _ => ?_)
theorem api_Run_int.mono : ∀ a0 a1 k, LeO (api_Run_int.f k a0 a1) (api_Run_int.f (k + 1) a0 a1) := by
  intro a0 a1 k
  have ih0 := api_Run_int.mono_l k
  unfold api_Run_int.f
  repeat' first
      | (with_reducible exact ih0 _ _ _ _ _)
      | (with_reducible exact LeO.refl _)
      | (with_reducible exact LeO.none _)
      | (with_reducible refine LeO.ite ?_ ?_)
      | (with_reducible refine LeO.bind ?_ (fun _ => ?_))
      | exact ih0 _ _ _ _ _
      | exact LeO.none _
      | refine LeO.ite ?_ ?_
      | refine LeO.bind ?_ (fun _ => ?_)
def runs_at.f (k : Nat) (l0 : List (S25)) (a1 : Int) : Option (Int) := (api_Run_int.f k l0 a1).bind fun bt109 => (some bt109.1)
theorem runs_at.mono : ∀ a0 a1 k, LeO (runs_at.f k a0 a1) (runs_at.f (k + 1) a0 a1) := by
  intro a0 a1 k
  unfold runs_at.f
  repeat' first
      | (with_reducible exact api_Run_int.mono _ _ _)
      | (with_reducible exact LeO.refl _)
      | (with_reducible exact LeO.none _)
      | (with_reducible refine LeO.ite ?_ ?_)
      | (with_reducible refine LeO.bind ?_ (fun _ => ?_))
      | exact api_Run_int.mono _ _ _
      | exact LeO.none _
      | refine LeO.ite ?_ ?_
      | refine LeO.bind ?_ (fun _ => ?_)
end Go.Proofs.Ytkbcmjejfbbcpaa.A.At

namespace Go.Proofs.Ytkbcmjejfbbcpaa.A.At
open Go.RowKit Go.Proofs.YtkbcmjejfbbcpaaW.PrintWords Go.Proofs.YtkbcmjejfbbcpaaW.PrintLast Go.Proofs.YtkbcmjejfbbcpaaW.PrintMore
attribute [local go_sem] max2_int min2_int max_two min_two max_three min_three max_four min_four
set_option linter.unusedVariables false
set_option linter.unusedSimpArgs false
attribute [local go_sem] isSome_setCell
set_option maxHeartbeats 8000000 in
set_option maxRecDepth 100000 in
theorem cmp_isNaN_int.calls (a0 : Int) (r : Bool) (w : World) (h : cmp_isNaN_int.f a0 = some r) :
  Calls Try.prog 63 #[.int .i64 a0] w fun e w' => e = .returned (.bool r) ∧ Drawn0 w w' := by
 have H : (some (a0 != a0)) = some r := h; clear h; obtain rfl := Option.some.inj H; go_enter Try.func63, Try.ntmps63; go_wp2; go_ret; exact ⟨by first | rfl | (simp; done) | (simp [*]; done), by repeat (first | exact Drawn0.refl _ | apply Drawn0.step)⟩
set_option maxHeartbeats 8000000 in
set_option maxRecDepth 100000 in
theorem cmp_Compare_int.calls (a0 : Int) (a1 : Int) (r : Int) (w : World) (h : cmp_Compare_int.f a0 a1 = some r) :
  Calls Try.prog 57 #[.int .i64 a0, .int .i64 a1] w fun e w' => e = .returned (.int .i64 r) ∧ Drawn0 w w' := by
 have H : ((cmp_isNaN_int.f a0).bind fun t101 => ((cmp_isNaN_int.f a1).bind fun t102 => (if t101 = true then (if t102 = true then (some 0) else (some (-1))) else (if t102 = true then (some 1) else (if a0 < a1 then (some (-1)) else (if a0 > a1 then (some 1) else (some 0))))))) = some r := h; clear h; replace H := Option.bind_eq_some_iff.mp H; obtain ⟨t101, A30, H⟩ := H; replace H : ((cmp_isNaN_int.f a1).bind fun t102 => (if t101 = true then (if t102 = true then (some 0) else (some (-1))) else (if t102 = true then (some 1) else (if a0 < a1 then (some (-1)) else (if a0 > a1 then (some 1) else (some 0)))))) = some r := H; have A3 := Aside0.mk A30; clear A30; replace H := Option.bind_eq_some_iff.mp H; obtain ⟨t102, A40, H⟩ := H; replace H : (if t101 = true then (if t102 = true then (some 0) else (some (-1))) else (if t102 = true then (some 1) else (if a0 < a1 then (some (-1)) else (if a0 > a1 then (some 1) else (some 0))))) = some r := H; have A4 := Aside0.mk A40; clear A40
 by_cases c5 : t101 = true
 ·subst c5
  (have H1 : (if t102 = true then (some 0) else (some (-1))) = some r := by rw [if_pos rfl] at H; exact H); clear H; have H := H1; clear H1
  by_cases c6 : t102 = true
  ·subst c6
   (have H1 : (some 0) = some r := by rw [if_pos rfl] at H; exact H); clear H; have H := H1; clear H1; obtain rfl := Option.some.inj H; go_enter Try.func57, Try.ntmps57; go_wp2_with (first | ((with_reducible refine gate_callee (f := 63) rfl ?_); refine goesL_ (some 8) rfl rfl Try.func63 (by kernel_rfl) rfl #[.int .i64 a0] rfl ml_ ?_; (with_reducible refine (cmp_isNaN_int.calls a0 true _ A3.out).mono ?_); rintro e w' ⟨rfl, ⟨nd, rfl⟩⟩; refine ⟨_, rfl, ?_⟩) | ((with_reducible refine gate_callee (f := 63) rfl ?_); refine goesL_ (some 10) rfl rfl Try.func63 (by kernel_rfl) rfl #[.int .i64 a1] rfl ml_ ?_; (with_reducible refine (cmp_isNaN_int.calls a1 true _ A4.out).mono ?_); rintro e w' ⟨rfl, ⟨nd, rfl⟩⟩; refine ⟨_, rfl, ?_⟩)); go_ret; exact ⟨by first | rfl | (simp; done) | (simp [*]; done), by repeat (first | exact Drawn0.refl _ | apply Drawn0.step)⟩
  ·replace c6 := Bool.eq_false_iff.mpr c6
   subst c6; (have H1 : (some (-1)) = some r := by rw [if_neg (show ¬ (false = true) by decide)] at H; exact H); clear H; have H := H1; clear H1; obtain rfl := Option.some.inj H; go_enter Try.func57, Try.ntmps57; go_wp2_with (first | ((with_reducible refine gate_callee (f := 63) rfl ?_); refine goesL_ (some 8) rfl rfl Try.func63 (by kernel_rfl) rfl #[.int .i64 a0] rfl ml_ ?_; (with_reducible refine (cmp_isNaN_int.calls a0 true _ A3.out).mono ?_); rintro e w' ⟨rfl, ⟨nd, rfl⟩⟩; refine ⟨_, rfl, ?_⟩) | ((with_reducible refine gate_callee (f := 63) rfl ?_); refine goesL_ (some 10) rfl rfl Try.func63 (by kernel_rfl) rfl #[.int .i64 a1] rfl ml_ ?_; (with_reducible refine (cmp_isNaN_int.calls a1 false _ A4.out).mono ?_); rintro e w' ⟨rfl, ⟨nd, rfl⟩⟩; refine ⟨_, rfl, ?_⟩)); go_ret; exact ⟨by first | rfl | (simp; done) | (simp [*]; done), by repeat (first | exact Drawn0.refl _ | apply Drawn0.step)⟩
 ·replace c5 := Bool.eq_false_iff.mpr c5
  subst c5; (have H1 : (if t102 = true then (some 1) else (if a0 < a1 then (some (-1)) else (if a0 > a1 then (some 1) else (some 0)))) = some r := by rw [if_neg (show ¬ (false = true) by decide)] at H; exact H); clear H; have H := H1; clear H1
  by_cases c7 : t102 = true
  ·subst c7
   (have H1 : (some 1) = some r := by rw [if_pos rfl] at H; exact H); clear H; have H := H1; clear H1; obtain rfl := Option.some.inj H; go_enter Try.func57, Try.ntmps57; go_wp2_with (first | ((with_reducible refine gate_callee (f := 63) rfl ?_); refine goesL_ (some 8) rfl rfl Try.func63 (by kernel_rfl) rfl #[.int .i64 a0] rfl ml_ ?_; (with_reducible refine (cmp_isNaN_int.calls a0 false _ A3.out).mono ?_); rintro e w' ⟨rfl, ⟨nd, rfl⟩⟩; refine ⟨_, rfl, ?_⟩) | ((with_reducible refine gate_callee (f := 63) rfl ?_); refine goesL_ (some 10) rfl rfl Try.func63 (by kernel_rfl) rfl #[.int .i64 a1] rfl ml_ ?_; (with_reducible refine (cmp_isNaN_int.calls a1 true _ A4.out).mono ?_); rintro e w' ⟨rfl, ⟨nd, rfl⟩⟩; refine ⟨_, rfl, ?_⟩)); go_ret; exact ⟨by first | rfl | (simp; done) | (simp [*]; done), by repeat (first | exact Drawn0.refl _ | apply Drawn0.step)⟩
  ·replace c7 := Bool.eq_false_iff.mpr c7
   subst c7; (have H1 : (if a0 < a1 then (some (-1)) else (if a0 > a1 then (some 1) else (some 0))) = some r := by rw [if_neg (show ¬ (false = true) by decide)] at H; exact H); clear H; have H := H1; clear H1
   by_cases c8 : a0 < a1
   ·rw [if_pos c8] at H
    have c8b0 : decide (a0 < a1) = true := decide_eq_true c8; clear c8; obtain rfl := Option.some.inj H; go_enter Try.func57, Try.ntmps57; go_wp2_with (first | ((with_reducible refine gate_callee (f := 63) rfl ?_); refine goesL_ (some 8) rfl rfl Try.func63 (by kernel_rfl) rfl #[.int .i64 a0] rfl ml_ ?_; (with_reducible refine (cmp_isNaN_int.calls a0 false _ A3.out).mono ?_); rintro e w' ⟨rfl, ⟨nd, rfl⟩⟩; refine ⟨_, rfl, ?_⟩) | ((with_reducible refine gate_callee (f := 63) rfl ?_); refine goesL_ (some 10) rfl rfl Try.func63 (by kernel_rfl) rfl #[.int .i64 a1] rfl ml_ ?_; (with_reducible refine (cmp_isNaN_int.calls a1 false _ A4.out).mono ?_); rintro e w' ⟨rfl, ⟨nd, rfl⟩⟩; refine ⟨_, rfl, ?_⟩)); go_ret; exact ⟨by first | rfl | (simp; done) | (simp [*]; done), by repeat (first | exact Drawn0.refl _ | apply Drawn0.step)⟩
   ·rw [if_neg c8] at H
    have c8b0 : decide (a0 < a1) = false := decide_eq_false c8; clear c8
    by_cases c9 : a0 > a1
    ·rw [if_pos c9] at H
     have c9b0 : decide (a1 < a0) = true := decide_eq_true c9; clear c9; obtain rfl := Option.some.inj H; go_enter Try.func57, Try.ntmps57; go_wp2_with (first | ((with_reducible refine gate_callee (f := 63) rfl ?_); refine goesL_ (some 8) rfl rfl Try.func63 (by kernel_rfl) rfl #[.int .i64 a0] rfl ml_ ?_; (with_reducible refine (cmp_isNaN_int.calls a0 false _ A3.out).mono ?_); rintro e w' ⟨rfl, ⟨nd, rfl⟩⟩; refine ⟨_, rfl, ?_⟩) | ((with_reducible refine gate_callee (f := 63) rfl ?_); refine goesL_ (some 10) rfl rfl Try.func63 (by kernel_rfl) rfl #[.int .i64 a1] rfl ml_ ?_; (with_reducible refine (cmp_isNaN_int.calls a1 false _ A4.out).mono ?_); rintro e w' ⟨rfl, ⟨nd, rfl⟩⟩; refine ⟨_, rfl, ?_⟩)); go_ret; exact ⟨by first | rfl | (simp; done) | (simp [*]; done), by repeat (first | exact Drawn0.refl _ | apply Drawn0.step)⟩
    ·rw [if_neg c9] at H
     have c9b0 : decide (a1 < a0) = false := decide_eq_false c9; clear c9; obtain rfl := Option.some.inj H; go_enter Try.func57, Try.ntmps57; go_wp2_with (first | ((with_reducible refine gate_callee (f := 63) rfl ?_); refine goesL_ (some 8) rfl rfl Try.func63 (by kernel_rfl) rfl #[.int .i64 a0] rfl ml_ ?_; (with_reducible refine (cmp_isNaN_int.calls a0 false _ A3.out).mono ?_); rintro e w' ⟨rfl, ⟨nd, rfl⟩⟩; refine ⟨_, rfl, ?_⟩) | ((with_reducible refine gate_callee (f := 63) rfl ?_); refine goesL_ (some 10) rfl rfl Try.func63 (by kernel_rfl) rfl #[.int .i64 a1] rfl ml_ ?_; (with_reducible refine (cmp_isNaN_int.calls a1 false _ A4.out).mono ?_); rintro e w' ⟨rfl, ⟨nd, rfl⟩⟩; refine ⟨_, rfl, ?_⟩)); go_ret; exact ⟨by first | rfl | (simp; done) | (simp [*]; done), by repeat (first | exact Drawn0.refl _ | apply Drawn0.step)⟩
set_option maxHeartbeats 8000000 in
set_option maxRecDepth 100000 in
theorem runs_at_1.calls (a0_0 : Int) (a0_1 : Int) (a1 : Int) (r : Int) (w : World) (h : runs_at_1.f a0_0 a0_1 a1 = some r) :
  Calls Try.prog 61 #[.agg #[.int .i64 a0_0, .int .i64 a0_1], .int .i64 a1] w fun e w' => e = .returned (.int .i64 r) ∧ Below w.heap.size w w' := by
 have hu25 := Try.underlying25; have HB := Aside0.mk (Below.refl w.heap.size w); have H : ((cmp_Compare_int.f a0_1 a1).bind fun t104 => (some t104)) = some r := h; clear h; replace H := Option.bind_eq_some_iff.mp H; obtain ⟨t104, A30, H⟩ := H; replace H : (some t104) = some r := H; have A3 := Aside0.mk A30; clear A30; obtain rfl := Option.some.inj H; go_enter Try.func61, Try.ntmps61; go_wp2_with (first | ((with_reducible refine gate_dst (N := 2) rfl ?_); refine box_event ?hg (N := 2) ?hd (cs := #[.int .i64 a0_0, .int .i64 a0_1]) (t := 25) ?hr ?_; (case hd => rfl); (case hg => rfl); (case hr => first | (go_simp; done) | (go_simp; rfl)); intro gb103 hg w4 hbox hb; have n0_ := Aside0.mk (below_step hb_ hb); have n1_ := Aside0.mk (hbox); have n2_ := Aside0.mk ((by rw [hg]; exact (below_size hb_) : w.heap.size ≤ gb103)); have n3_ := Aside0.mk ((by rw [hg]; exact (below_size hb_) : w.heap.size ≤ gb103)); clear HB; have HB := n0_; have BK103 := n1_; have GW103 := n2_; have GE103 := n3_; clear n0_ n1_ n2_ n3_; clear hb hbox hg; have hcz5_0 : w4.cell? ⟨gb103, 0, none⟩ = some (.int .i64 a0_0) := (blk_cell BK103.out 0).trans rfl; have hcz5_1 : w4.cell? ⟨gb103, 1, none⟩ = some (.int .i64 a0_1) := (blk_cell BK103.out 1).trans rfl; have hfz5_0 := blk_frozen BK103.out 0; have hfz5_1 := blk_frozen BK103.out 1) | ((with_reducible refine gate_callee (f := 57) rfl ?_); refine goesL_ (some 8) rfl rfl Try.func57 (by kernel_rfl) rfl #[.int .i64 a0_1, .int .i64 a1] rfl ml_ ?_; (with_reducible refine (cmp_Compare_int.calls a0_1 a1 t104 _ A3.out).mono ?_); rintro e w' ⟨rfl, ⟨nd, rfl⟩⟩; refine ⟨_, rfl, ?_⟩)); go_ret; exact ⟨re_, by repeat (first | (with_reducible first | exact HB.out | apply below_alloc | apply pw_below_drewN | apply below_drew1 | refine below_set ?_ GE103.out) | exact HB.out)⟩
set_option maxHeartbeats 8000000 in
set_option maxRecDepth 100000 in
theorem api_Run_int.calls (k : Nat) (A0 : Option Addr) (c0 : Nat) (l0 : List (S25)) (a1 : Int)  (r1 : Int) (r2 : Bool) (w : World) (hr0 : Kd.C k25 w A0 l0.length l0) (hc0 : l0.length ≤ c0) (h : api_Run_int.f k l0 a1 = some (r1, r2)) :
  Calls Try.prog 60 #[.slice A0 l0.length c0, .int .i64 a1, .func (.func 61) #[] #[]] w fun e w' => e = .returned (.tuple #[.int .i64 r1, .bool r2]) ∧ Below w.heap.size w w' := by
 have hu25 := Try.underlying25; have HR0 := Aside0.mk hr0; have HC0 := Aside0.mk hc0; clear hr0 hc0; have HB := Aside0.mk (Below.refl w.heap.size w); have H : (api_Run_int.l0 k l0 a1 (l0.length : Int) 0 (l0.length : Int)) = some (r1, r2) := h; clear h; have H' := Aside0.mk H; clear H; go_enter Try.func60, Try.ntmps60; go_wp2; go_loopg [9, 10] k (fun kq v9 v10 w' => ∃ (x9_1 : Int) (x10_1 : Int), v9 = .int .i64 x9_1 ∧ v10 = .int .i64 x10_1 ∧ Aside0 (api_Run_int.l0 kq l0 a1 (l0.length : Int) x9_1 x10_1 = some (r1, r2)) ∧ Aside0 (kq ≤ k) ∧ Aside0 (Below w.heap.size w w'))
 case atStart => exact ⟨(0), ((l0.length : Int)), rf_, rf_, H', ⟨Nat.le_refl _⟩, ⟨hb_⟩⟩
 case round =>
  clear H'; (try clear p2); obtain ⟨x9_1, x10_1, rfl, rfl, HA, HK1, HB⟩ := hrel
  cases gk with
  | zero => exact absurd HA.out (by simp [api_Run_int.l0])
  | succ k1 =>
   have H := HA.out; clear HA; simp only [api_Run_int.l0] at H
   by_cases c4 : x9_1 < x10_1
   ·rw [if_pos c4] at H
    have c4b0 : decide (x9_1 < x10_1) = true := decide_eq_true c4; clear c4; obtain ⟨ji5, hji5⟩ : ∃ j_ : Int, (wrap64 ((IntKind.u64.wrap (wrap64 (x9_1 + x10_1))) / 2)) = j_ := ⟨_, rfl⟩; (replace H : (if 0 ≤ (ji5) then (if (ji5) < (l0.length : Int) then ((runs_at_1.f ((rd_T25 l0 (ji5)).f0) ((rd_T25 l0 (ji5)).f1) a1).bind fun t106 => (if t106 < 0 then (api_Run_int.l0 k1 l0 a1 (l0.length : Int) (wrap64 ((ji5) + 1)) x10_1) else (api_Run_int.l0 k1 l0 a1 (l0.length : Int) x9_1 ji5))) else (none)) else (none)) = some (r1, r2) := by first | (rw [hji5] at H; exact H) | (simp only [hji5] at H ⊢; exact H)); have hji5w : (IntKind.i64.wrap ((IntKind.u64.wrap (wrap64 (x9_1 + x10_1))) / 2)) = ji5 := (i64_w _).trans hji5
    by_cases c6 : 0 ≤ (ji5)
    ·rw [if_pos c6] at H
     have c6b0 : decide (0 ≤ (ji5)) = true := decide_eq_true c6; clear c6
     by_cases c7 : (ji5) < (l0.length : Int)
     ·rw [if_pos c7] at H
      have c7b0 : decide ((ji5) < (l0.length : Int)) = true := decide_eq_true c7; clear c7; replace H := Option.bind_eq_some_iff.mp H; obtain ⟨t106, A80, H⟩ := H; replace H : (if t106 < 0 then (api_Run_int.l0 k1 l0 a1 (l0.length : Int) (wrap64 ((ji5) + 1)) x10_1) else (api_Run_int.l0 k1 l0 a1 (l0.length : Int) x9_1 ji5)) = some (r1, r2) := H; have A8 := Aside0.mk A80; clear A80
      by_cases c9 : t106 < 0
      ·rw [if_pos c9] at H
       have c9b0 : decide (t106 < 0) = true := decide_eq_true c9; clear c9; have H' := Aside0.mk H; clear H; have p105 : 0 ≤ ((ji5) : Int) := od_; have q105 : (ji5) < (l0.length : Int) := od_; obtain ⟨ad105, e105, hx105_0, hx105_1⟩ := at_T25 HR0.out (ji5) p105 q105
       cases e105
       replace hx105_0 := (HB.out.cell (World.block_lt_of_cell? w _ hx105_0)).trans hx105_0; replace hx105_1 := (HB.out.cell (World.block_lt_of_cell? w _ hx105_1)).trans hx105_1; replace p105 := eq_true p105; replace q105 := eq_true q105; go_wp2_with (first | (go_at_call 61; (refine (runs_at_1.calls ((rd_T25 l0 (ji5)).f0) ((rd_T25 l0 (ji5)).f1) a1 t106 _ A8.out).mono ?_); rintro e w10 ⟨rfl, hb⟩; have n0_ := Aside0.mk (below_step hb_ hb); clear HB; have HB := n0_; clear n0_; (try clear hb); (try clear hb2); (try clear hk); (try clear hi))); go_roundg k1
       case measure => have := HK1.out; omega
       case rel => exact ⟨(wrap64 ((ji5) + 1)), (x10_1), (by first | rfl | (simp; done) | (simp only [← hji5] <;> (first | rfl | simp)) | (simp [*]; done)), rf_, H', ⟨by have := HK1.out; omega⟩, ⟨hb_⟩⟩
      ·rw [if_neg c9] at H
       have c9b0 : decide (t106 < 0) = false := decide_eq_false c9; clear c9; have H' := Aside0.mk H; clear H; have p105 : 0 ≤ ((ji5) : Int) := od_; have q105 : (ji5) < (l0.length : Int) := od_; obtain ⟨ad105, e105, hx105_0, hx105_1⟩ := at_T25 HR0.out (ji5) p105 q105
       cases e105
       replace hx105_0 := (HB.out.cell (World.block_lt_of_cell? w _ hx105_0)).trans hx105_0; replace hx105_1 := (HB.out.cell (World.block_lt_of_cell? w _ hx105_1)).trans hx105_1; replace p105 := eq_true p105; replace q105 := eq_true q105; go_wp2_with (first | (go_at_call 61; (refine (runs_at_1.calls ((rd_T25 l0 (ji5)).f0) ((rd_T25 l0 (ji5)).f1) a1 t106 _ A8.out).mono ?_); rintro e w11 ⟨rfl, hb⟩; have n0_ := Aside0.mk (below_step hb_ hb); clear HB; have HB := n0_; clear n0_; (try clear hb); (try clear hb2); (try clear hk); (try clear hi))); go_roundg k1
       case measure => have := HK1.out; omega
       case rel => exact ⟨(x9_1), (ji5), rf_, (by first | rfl | (simp; done) | (simp only [← hji5] <;> (first | rfl | simp)) | (simp [*]; done)), H', ⟨by have := HK1.out; omega⟩, ⟨hb_⟩⟩
     ·rw [if_neg c7] at H
      exact absurd H (by simp)
    ·rw [if_neg c6] at H
     exact absurd H (by simp)
   ·rw [if_neg c4] at H
    have c4b0 : decide (x9_1 < x10_1) = false := decide_eq_false c4; clear c4
    by_cases c12 : x9_1 < (l0.length : Int)
    ·rw [if_pos c12] at H
     have c12b0 : decide (x9_1 < (l0.length : Int)) = true := decide_eq_true c12; clear c12
     by_cases c13 : 0 ≤ x9_1
     ·rw [if_pos c13] at H
      have c13b0 : decide (0 ≤ x9_1) = true := decide_eq_true c13; clear c13
      by_cases c14 : x9_1 < (l0.length : Int)
      ·rw [if_pos c14] at H
       have c14b0 : decide (x9_1 < (l0.length : Int)) = true := decide_eq_true c14; clear c14; replace H := Option.bind_eq_some_iff.mp H; obtain ⟨t108, A150, H⟩ := H; replace H : (some (x9_1, (t108 == 0))) = some (r1, r2) := H; have A15 := Aside0.mk A150; clear A150; simp only [Option.some.injEq, Prod.mk.injEq] at H; obtain ⟨rfl, rfl⟩ := H; have p107 : 0 ≤ (x9_1 : Int) := od_; have q107 : x9_1 < (l0.length : Int) := od_; obtain ⟨ad107, e107, hx107_0, hx107_1⟩ := at_T25 HR0.out x9_1 p107 q107
       cases e107
       replace hx107_0 := (HB.out.cell (World.block_lt_of_cell? w _ hx107_0)).trans hx107_0; replace hx107_1 := (HB.out.cell (World.block_lt_of_cell? w _ hx107_1)).trans hx107_1; replace p107 := eq_true p107; replace q107 := eq_true q107; go_wp2_with (first | (go_at_call 61; (refine (runs_at_1.calls ((rd_T25 l0 x9_1).f0) ((rd_T25 l0 x9_1).f1) a1 t108 _ A15.out).mono ?_); rintro e w16 ⟨rfl, hb⟩; have n0_ := Aside0.mk (below_step hb_ hb); clear HB; have HB := n0_; clear n0_; (try clear hb); (try clear hb2); (try clear hk); (try clear hi))); go_ret2; exact ⟨re_, hb_⟩
      ·rw [if_neg c14] at H
       exact absurd H (by simp)
     ·rw [if_neg c13] at H
      exact absurd H (by simp)
    ·rw [if_neg c12] at H
     have c12b0 : decide (x9_1 < (l0.length : Int)) = false := decide_eq_false c12; clear c12; simp only [Option.some.injEq, Prod.mk.injEq] at H; obtain ⟨rfl, rfl⟩ := H; go_wp2; go_ret2; exact ⟨re_, hb_⟩
set_option maxHeartbeats 8000000 in
set_option maxRecDepth 100000 in
theorem runs_at.calls (k : Nat) (A0 : Option Addr) (c0 : Nat) (l0 : List (S25)) (a1 : Int) (r : Int) (w : World) (hr0 : Kd.C k25 w A0 l0.length l0) (hc0 : l0.length ≤ c0) (h : runs_at.f k l0 a1 = some r) :
  Calls Try.prog 51 #[.slice A0 l0.length c0, .int .i64 a1] w fun e w' => e = .returned (.int .i64 r) ∧ Below w.heap.size w w' := by
 have HR0 := Aside0.mk hr0; have HC0 := Aside0.mk hc0; clear hr0 hc0; have HB := Aside0.mk (Below.refl w.heap.size w); have H : ((api_Run_int.f k l0 a1).bind fun bt109 => (some bt109.1)) = some r := h; clear h; replace H := Option.bind_eq_some_iff.mp H; obtain ⟨⟨t109, t110⟩, A30, H⟩ := H; replace H : (some t109) = some r := H; have A3 := Aside0.mk A30; clear A30; obtain rfl := Option.some.inj H; go_enter Try.func51, Try.ntmps51; go_wp2_with (first | ((with_reducible refine gate_callee (f := 60) rfl ?_); refine goesL_ (some 10) rfl rfl Try.func60 (by kernel_rfl) rfl #[.slice A0 l0.length c0, .int .i64 a1, .func (.func 61) #[] #[]] rfl ml_ ?_; (with_reducible refine (api_Run_int.calls k _ _ l0 a1  t109 t110 _ ?side1 ?side2 A3.out).mono ?_); (case side1 => repeat (first | exact HR0.out | (with_reducible refine Kd.C_alloc ?_ _) | (with_reducible refine Kd.C_drewN ?_ _) | (with_reducible refine Kd.C_drew ?_))); (case side2 => exact HC0.out); rintro e w4 ⟨rfl, hb⟩; refine ⟨_, rfl, ?_⟩; have n0_ := Aside0.mk (below_step hb_ hb); clear HB; have HB := n0_; clear n0_; (try clear hb); (try clear hb2); (try clear hk); (try clear hi))); go_ret; exact ⟨re_, hb_⟩
end Go.Proofs.Ytkbcmjejfbbcpaa.A.At

namespace Go.Proofs.Ytkbcmjejfbbcpaa.A
open Go.RowKit Go.Proofs.YtkbcmjejfbbcpaaW.PrintWords Go.Proofs.YtkbcmjejfbbcpaaW.PrintLast Go.Proofs.YtkbcmjejfbbcpaaW.PrintMore
set_option linter.unusedVariables false
theorem Compare_f (a b : Int) : At.cmp_Compare_int.f a b = some (if a < b then -1 else if a > b then 1 else 0) := by
  unfold At.cmp_Compare_int.f At.cmp_isNaN_int.f
  simp only [Option.bind_some, bne_self_eq_false]
  rw [if_neg (by simp), if_neg (by simp)]
  split
  · rfl
  · split <;> rfl
theorem at1_f (x y n : Int) : At.runs_at_1.f x y n = some (if y < n then -1 else if y > n then 1 else 0) := by
  unfold At.runs_at_1.f
  rw [Compare_f]; rfl
theorem rising_parted : ∀ {l : List S25} (_ : risingHi l = true) (n : Int), ∃ p t, l = p ++ t ∧ p.length = l.countP (fun r => decide (r.f1 < n)) ∧ (∀ r, r ∈ p → r.f1 < n) ∧ (∀ r, r ∈ t → n ≤ r.f1)
  | [], _, n => ⟨[], [], rfl, rfl, fun r h => by simp at h, fun r h => by simp at h⟩
  | r :: t, h, n => by
    unfold risingHi at h
    rw [Bool.and_eq_true, List.all_eq_true] at h
    obtain ⟨h1, h2⟩ := h
    by_cases c : r.f1 < n
    · obtain ⟨p, s, e1, e2, e3, e4⟩ := rising_parted h2 n
      refine ⟨r :: p, s, by rw [e1]; rfl, ?_, ?_, e4⟩
      · rw [List.countP_cons_of_pos (by simpa using c), ← e2]; rfl
      · intro q hq
        rcases List.mem_cons.1 hq with rfl | hq
        · exact c
        · exact e3 q hq
    · have hall : ∀ q, q ∈ r :: t → n ≤ q.f1 := fun q hq => by
        rcases List.mem_cons.1 hq with rfl | hq
        · omega
        · have := of_decide_eq_true (h1 q hq); omega
      refine ⟨[], r :: t, rfl, ?_, fun q h => by simp at h, hall⟩
      rw [eq_comm, List.length_nil, List.countP_eq_zero]
      intro q hq
      have := hall q hq
      simp; omega
theorem side_of {p t : List S25} {n : Int} (hp : ∀ r, r ∈ p → r.f1 < n) (ht : ∀ r, r ∈ t → n ≤ r.f1) (i : Int) (h0 : 0 ≤ i) (h1 : i < ((p ++ t).length : Int)) : (rd_T25 (p ++ t) i).f1 < n ↔ i < (p.length : Int) := by
  have hi : i.toNat < (p ++ t).length := by omega
  have e : rd_T25 (p ++ t) i = (p ++ t)[i.toNat] := by unfold rd_T25; rw [List.getD_eq_getElem?_getD, List.getElem?_eq_getElem hi, Option.getD_some]
  rw [e]
  by_cases c : i.toNat < p.length
  · rw [List.getElem_append_left c]
    exact ⟨fun _ => by omega, fun _ => hp _ (List.getElem_mem _)⟩
  · rw [List.getElem_append_right (by omega)]
    constructor
    · intro h
      have := ht _ (List.getElem_mem (l := t) (n := i.toNat - p.length) (by simp at hi; omega))
      omega
    · intro h; omega
theorem w64' {x : Int} (h1 : -9223372036854775808 ≤ x) (h2 : x ≤ 9223372036854775807) : wrap64 x = x := by unfold wrap64; omega
theorem mid_eq (i j : Int) (h0 : 0 ≤ i) (h1 : i < j) (h2 : j < 4398046511104) : wrap64 ((IntKind.u64.wrap (wrap64 (i + j))) / 2) = (i + j) / 2 := by
  rw [w64' (x := i + j) (by omega) (by omega)]
  have : IntKind.u64.wrap (i + j) = i + j := by simp [IntKind.wrap, IntKind.bits, IntKind.signed]; omega
  rw [this, w64' (by omega) (by omega)]
theorem search_l0 (p t : List S25) (n : Int) (hl : (p ++ t).length < 4398046511104) (hp : ∀ r, r ∈ p → r.f1 < n) (ht : ∀ r, r ∈ t → n ≤ r.f1) : ∀ (d : Nat) (i j : Int), (j - i).toNat ≤ d → 0 ≤ i → i ≤ (p.length : Int) → (p.length : Int) ≤ j → j ≤ ((p ++ t).length : Int) →
    ∃ b, Ev (fun k => At.api_Run_int.l0 k (p ++ t) n ((p ++ t).length : Int) i j) ((p.length : Int), b)
  | d, i, j, hd, h0, h1, h2, h3 => by
    by_cases c : i < j
    · have hm := mid_eq i j h0 c (by omega)
      have hs := side_of hp ht ((i + j) / 2) (by omega) (by omega)
      cases d with
      | zero => omega
      | succ d =>
        by_cases c2 : (rd_T25 (p ++ t) ((i + j) / 2)).f1 < n
        · have := hs.1 c2
          obtain ⟨b, hb⟩ := search_l0 p t n hl hp ht d ((i + j) / 2 + 1) j (by omega) (by omega) (by omega) h2 h3
          refine ⟨b, Ev.step (fun k => ?_) hb⟩
          rw [At.api_Run_int.l0, if_pos c, hm, if_pos (by omega), if_pos (by omega), at1_f, Option.bind_some, if_pos c2, if_pos (by omega), w64' (by omega) (by omega)]
        · have : ¬ (i + j) / 2 < (p.length : Int) := fun h => c2 (hs.2 h)
          obtain ⟨b, hb⟩ := search_l0 p t n hl hp ht d i ((i + j) / 2) (by omega) h0 (by omega) (by omega) (by omega)
          refine ⟨b, Ev.step (fun k => ?_) hb⟩
          rw [At.api_Run_int.l0, if_pos c, hm, if_pos (by omega), if_pos (by omega), at1_f, Option.bind_some, if_neg c2, if_neg (by split <;> omega)]
    · obtain rfl : i = (p.length : Int) := by omega
      by_cases c3 : (p.length : Int) < ((p ++ t).length : Int)
      · refine ⟨(if (rd_T25 (p ++ t) (p.length : Int)).f1 < n then (-1 : Int) else if (rd_T25 (p ++ t) (p.length : Int)).f1 > n then 1 else 0) == 0, Ev.step (f := fun _ => some ((p.length : Int), (if (rd_T25 (p ++ t) (p.length : Int)).f1 < n then (-1 : Int) else if (rd_T25 (p ++ t) (p.length : Int)).f1 > n then 1 else 0) == 0)) (fun k => ?_) (Ev.now _)⟩
        rw [At.api_Run_int.l0, if_neg c, if_pos c3, if_pos h0, if_pos c3, at1_f, Option.bind_some]
      · refine ⟨false, Ev.step (f := fun _ => some ((p.length : Int), false)) (fun k => ?_) (Ev.now _)⟩
        rw [At.api_Run_int.l0, if_neg c, if_neg c3]
theorem at_ev {l : List S25} {n r : Int} (h : runs_at.f l n = some r) : Ev (fun k => At.runs_at.f k l n) r := by
  unfold runs_at.f at h
  by_cases c : risingHi l = true ∧ l.length < 4398046511104
  · rw [if_pos c] at h
    obtain rfl := Option.some.inj h
    obtain ⟨p, t, e1, e2, e3, e4⟩ := rising_parted c.1 n
    rw [← e2]
    have hl := c.2
    rw [e1] at hl ⊢
    obtain ⟨b, hb⟩ := search_l0 p t n hl e3 e4 (p ++ t).length 0 ((p ++ t).length : Int) (by omega) (Int.le_refl _) (by omega) (by simp; omega) (Int.le_refl _)
    exact Ev.bind (g := fun k => At.api_Run_int.f k (p ++ t) n) (a := ((p.length : Int), b)) hb (Ev.now _)
  · rw [if_neg c] at h; simp at h
theorem runs_at.calls (A0 : Option Addr) (c0 : Nat) (l0 : List S25) (a1 : Int) (r : Int) (w : World) (hr0 : Kd.C k25 w A0 l0.length l0) (hc0 : l0.length ≤ c0) (h : runs_at.f l0 a1 = some r) :
    Calls Try.prog 51 #[.slice A0 l0.length c0, .int .i64 a1] w fun e w' => e = .returned (.int .i64 r) ∧ Below w.heap.size w w' := by
  obtain ⟨k, hk⟩ := (at_ev h).rounds
  exact At.runs_at.calls k A0 c0 l0 a1 r w hr0 hc0 hk
end Go.Proofs.Ytkbcmjejfbbcpaa.A

namespace Go.Proofs.Ytkbcmjejfbbcpaa.A
open Go.RowKit Go.Proofs.YtkbcmjejfbbcpaaW.PrintWords Go.Proofs.YtkbcmjejfbbcpaaW.PrintLast Go.Proofs.YtkbcmjejfbbcpaaW.PrintMore
attribute [local go_sem] max2_int min2_int max_two min_two max_three min_three max_four min_four
set_option linter.unusedVariables false
set_option linter.unusedSimpArgs false
attribute [local go_sem] isSome_setCell
set_option maxHeartbeats 8000000 in
set_option maxRecDepth 100000 in
theorem runs_Sane.calls (k : Nat) (A0 : Option Addr) (c0 : Nat) (l0 : List (S25)) (r : Bool) (w : World) (hr0 : Kd.C k25 w A0 l0.length l0) (hc0 : l0.length ≤ c0) (h : runs_Sane.f k l0 = some r) :
  Calls Try.prog 20 #[.slice A0 l0.length c0] w fun e w' => e = .returned (.bool r) ∧ Below w.heap.size w w' := by
 have hu25 := Try.underlying25; have HR0 := Aside0.mk hr0; have HC0 := Aside0.mk hc0; clear hr0 hc0; have HB := Aside0.mk (Below.refl w.heap.size w); have H : (runs_Sane.l0 k (-1099511627778) l0 (l0.length : Int) 0) = some r := h; clear h; have H' := Aside0.mk H; clear H; go_enter Try.func20, Try.ntmps20; go_wp2; go_loopg [3, 8] k (fun kq v3 v8 w' => ∃ (x3_1 : Int) (x8_1 : Int), v3 = .int .i64 x3_1 ∧ v8 = .int .i64 x8_1 ∧ Aside0 (runs_Sane.l0 kq x3_1 l0 (l0.length : Int) x8_1 = some r) ∧ Aside0 (kq ≤ k) ∧ Aside0 (Below w.heap.size w w'))
 case atStart => exact ⟨((-1099511627778)), (0), rf_, rf_, H', ⟨Nat.le_refl _⟩, ⟨hb_⟩⟩
 case round =>
  clear H'; obtain ⟨x3_1, x8_1, rfl, rfl, HA, HK1, HB⟩ := hrel
  cases gk with
  | zero => exact absurd HA.out (by simp [runs_Sane.l0])
  | succ k1 =>
   have H := HA.out; clear HA; simp only [runs_Sane.l0] at H
   by_cases c2 : x8_1 < (l0.length : Int)
   ·rw [if_pos c2] at H
    have c2b0 : decide (x8_1 < (l0.length : Int)) = true := decide_eq_true c2; clear c2
    by_cases c3 : 0 ≤ x8_1
    ·rw [if_pos c3] at H
     have c3b0 : decide (0 ≤ x8_1) = true := decide_eq_true c3; clear c3
     by_cases c4 : x8_1 < (l0.length : Int)
     ·rw [if_pos c4] at H
      have c4b0 : decide (x8_1 < (l0.length : Int)) = true := decide_eq_true c4; clear c4
      by_cases c5 : ((rd_T25 l0 x8_1).f0) > ((rd_T25 l0 x8_1).f1)
      ·rw [if_pos c5] at H
       have c5b0 : decide (((rd_T25 l0 x8_1).f1) < ((rd_T25 l0 x8_1).f0)) = true := decide_eq_true c5; clear c5; obtain rfl := Option.some.inj H; have p101 : 0 ≤ (x8_1 : Int) := od_; have q101 : x8_1 < (l0.length : Int) := od_; obtain ⟨ad101, e101, hx101_0, hx101_1⟩ := at_T25 HR0.out x8_1 p101 q101
       cases e101
       replace hx101_0 := (HB.out.cell (World.block_lt_of_cell? w _ hx101_0)).trans hx101_0; replace hx101_1 := (HB.out.cell (World.block_lt_of_cell? w _ hx101_1)).trans hx101_1; replace p101 := eq_true p101; replace q101 := eq_true q101; go_wp2_with (first | ((with_reducible refine gate_dst (N := 5) rfl ?_); refine box_event ?hg (N := 5) ?hd (cs := #[.int .i64 0, .int .i64 0]) (t := 25) ?hr ?_; (case hd => rfl); (case hg => rfl); (case hr => first | (go_simp; done) | (go_simp; rfl)); intro gb102 hg w6 hbox hb; have n0_ := Aside0.mk (below_step hb_ hb); have n1_ := Aside0.mk (hbox); have n2_ := Aside0.mk ((by rw [hg]; exact (below_size hb_) : w.heap.size ≤ gb102)); have n3_ := Aside0.mk ((by rw [hg]; exact (below_size hb_) : w.heap.size ≤ gb102)); clear HB; have HB := n0_; have BK102 := n1_; have GW102 := n2_; have GE102 := n3_; clear n0_ n1_ n2_ n3_; clear hb hbox hg; have hcz7_0 : w6.cell? ⟨gb102, 0, none⟩ = some (.int .i64 0) := (blk_cell BK102.out 0).trans rfl; have hcz7_1 : w6.cell? ⟨gb102, 1, none⟩ = some (.int .i64 0) := (blk_cell BK102.out 1).trans rfl; have hfz7_0 := blk_frozen BK102.out 0; have hfz7_1 := blk_frozen BK102.out 1)); go_ret; exact ⟨re_, by repeat (first | (with_reducible first | exact HB.out | apply below_alloc | apply pw_below_drewN | apply below_drew1 | refine below_set ?_ GE102.out) | exact HB.out)⟩
      ·rw [if_neg c5] at H
       have c5b0 : decide (((rd_T25 l0 x8_1).f1) < ((rd_T25 l0 x8_1).f0)) = false := decide_eq_false c5; clear c5
       by_cases c8 : ((rd_T25 l0 x8_1).f0) < (wrap64 (x3_1 + 2))
       ·rw [if_pos c8] at H
        have c8b0 : decide (((rd_T25 l0 x8_1).f0) < (wrap64 (x3_1 + 2))) = true := decide_eq_true c8; clear c8; obtain rfl := Option.some.inj H; have p101 : 0 ≤ (x8_1 : Int) := od_; have q101 : x8_1 < (l0.length : Int) := od_; obtain ⟨ad101, e101, hx101_0, hx101_1⟩ := at_T25 HR0.out x8_1 p101 q101
        cases e101
        replace hx101_0 := (HB.out.cell (World.block_lt_of_cell? w _ hx101_0)).trans hx101_0; replace hx101_1 := (HB.out.cell (World.block_lt_of_cell? w _ hx101_1)).trans hx101_1; replace p101 := eq_true p101; replace q101 := eq_true q101; go_wp2_with (first | ((with_reducible refine gate_dst (N := 5) rfl ?_); refine box_event ?hg (N := 5) ?hd (cs := #[.int .i64 0, .int .i64 0]) (t := 25) ?hr ?_; (case hd => rfl); (case hg => rfl); (case hr => first | (go_simp; done) | (go_simp; rfl)); intro gb102 hg w9 hbox hb; have n0_ := Aside0.mk (below_step hb_ hb); have n1_ := Aside0.mk (hbox); have n2_ := Aside0.mk ((by rw [hg]; exact (below_size hb_) : w.heap.size ≤ gb102)); have n3_ := Aside0.mk ((by rw [hg]; exact (below_size hb_) : w.heap.size ≤ gb102)); clear HB; have HB := n0_; have BK102 := n1_; have GW102 := n2_; have GE102 := n3_; clear n0_ n1_ n2_ n3_; clear hb hbox hg; have hcz10_0 : w9.cell? ⟨gb102, 0, none⟩ = some (.int .i64 0) := (blk_cell BK102.out 0).trans rfl; have hcz10_1 : w9.cell? ⟨gb102, 1, none⟩ = some (.int .i64 0) := (blk_cell BK102.out 1).trans rfl; have hfz10_0 := blk_frozen BK102.out 0; have hfz10_1 := blk_frozen BK102.out 1)); go_ret; exact ⟨re_, by repeat (first | (with_reducible first | exact HB.out | apply below_alloc | apply pw_below_drewN | apply below_drew1 | refine below_set ?_ GE102.out) | exact HB.out)⟩
       ·rw [if_neg c8] at H
        have c8b0 : decide (((rd_T25 l0 x8_1).f0) < (wrap64 (x3_1 + 2))) = false := decide_eq_false c8; clear c8
        by_cases c11 : ((rd_T25 l0 x8_1).f1) > 1099511627776
        ·rw [if_pos c11] at H
         have c11b0 : decide (1099511627776 < ((rd_T25 l0 x8_1).f1)) = true := decide_eq_true c11; clear c11; obtain rfl := Option.some.inj H; have p101 : 0 ≤ (x8_1 : Int) := od_; have q101 : x8_1 < (l0.length : Int) := od_; obtain ⟨ad101, e101, hx101_0, hx101_1⟩ := at_T25 HR0.out x8_1 p101 q101
         cases e101
         replace hx101_0 := (HB.out.cell (World.block_lt_of_cell? w _ hx101_0)).trans hx101_0; replace hx101_1 := (HB.out.cell (World.block_lt_of_cell? w _ hx101_1)).trans hx101_1; replace p101 := eq_true p101; replace q101 := eq_true q101; go_wp2_with (first | ((with_reducible refine gate_dst (N := 5) rfl ?_); refine box_event ?hg (N := 5) ?hd (cs := #[.int .i64 0, .int .i64 0]) (t := 25) ?hr ?_; (case hd => rfl); (case hg => rfl); (case hr => first | (go_simp; done) | (go_simp; rfl)); intro gb102 hg w12 hbox hb; have n0_ := Aside0.mk (below_step hb_ hb); have n1_ := Aside0.mk (hbox); have n2_ := Aside0.mk ((by rw [hg]; exact (below_size hb_) : w.heap.size ≤ gb102)); have n3_ := Aside0.mk ((by rw [hg]; exact (below_size hb_) : w.heap.size ≤ gb102)); clear HB; have HB := n0_; have BK102 := n1_; have GW102 := n2_; have GE102 := n3_; clear n0_ n1_ n2_ n3_; clear hb hbox hg; have hcz13_0 : w12.cell? ⟨gb102, 0, none⟩ = some (.int .i64 0) := (blk_cell BK102.out 0).trans rfl; have hcz13_1 : w12.cell? ⟨gb102, 1, none⟩ = some (.int .i64 0) := (blk_cell BK102.out 1).trans rfl; have hfz13_0 := blk_frozen BK102.out 0; have hfz13_1 := blk_frozen BK102.out 1)); go_ret; exact ⟨re_, by repeat (first | (with_reducible first | exact HB.out | apply below_alloc | apply pw_below_drewN | apply below_drew1 | refine below_set ?_ GE102.out) | exact HB.out)⟩
        ·rw [if_neg c11] at H
         have c11b0 : decide (1099511627776 < ((rd_T25 l0 x8_1).f1)) = false := decide_eq_false c11; clear c11; have H' := Aside0.mk H; clear H; have p101 : 0 ≤ (x8_1 : Int) := od_; have q101 : x8_1 < (l0.length : Int) := od_; obtain ⟨ad101, e101, hx101_0, hx101_1⟩ := at_T25 HR0.out x8_1 p101 q101
         cases e101
         replace hx101_0 := (HB.out.cell (World.block_lt_of_cell? w _ hx101_0)).trans hx101_0; replace hx101_1 := (HB.out.cell (World.block_lt_of_cell? w _ hx101_1)).trans hx101_1; replace p101 := eq_true p101; replace q101 := eq_true q101; go_wp2_with (first | ((with_reducible refine gate_dst (N := 5) rfl ?_); refine box_event ?hg (N := 5) ?hd (cs := #[.int .i64 0, .int .i64 0]) (t := 25) ?hr ?_; (case hd => rfl); (case hg => rfl); (case hr => first | (go_simp; done) | (go_simp; rfl)); intro gb102 hg w14 hbox hb; have n0_ := Aside0.mk (below_step hb_ hb); have n1_ := Aside0.mk (hbox); have n2_ := Aside0.mk ((by rw [hg]; exact (below_size hb_) : w.heap.size ≤ gb102)); have n3_ := Aside0.mk ((by rw [hg]; exact (below_size hb_) : w.heap.size ≤ gb102)); clear HB; have HB := n0_; have BK102 := n1_; have GW102 := n2_; have GE102 := n3_; clear n0_ n1_ n2_ n3_; clear hb hbox hg; have hcz15_0 : w14.cell? ⟨gb102, 0, none⟩ = some (.int .i64 0) := (blk_cell BK102.out 0).trans rfl; have hcz15_1 : w14.cell? ⟨gb102, 1, none⟩ = some (.int .i64 0) := (blk_cell BK102.out 1).trans rfl; have hfz15_0 := blk_frozen BK102.out 0; have hfz15_1 := blk_frozen BK102.out 1)); go_roundg k1
         case measure => have := HK1.out; omega
         case rel => exact ⟨((rd_T25 l0 x8_1).f1), (wrap64 (x8_1 + 1)), rf_, rf_, H', ⟨by have := HK1.out; omega⟩, ⟨by repeat (first | (with_reducible first | exact HB.out | apply below_alloc | apply pw_below_drewN | apply below_drew1 | refine below_set ?_ GE102.out) | exact HB.out)⟩⟩
     ·rw [if_neg c4] at H
      exact absurd H (by simp)
    ·rw [if_neg c3] at H
     exact absurd H (by simp)
   ·rw [if_neg c2] at H
    have c2b0 : decide (x8_1 < (l0.length : Int)) = false := decide_eq_false c2; clear c2; obtain rfl := Option.some.inj H; go_wp2; go_ret; exact ⟨re_, hb_⟩
set_option maxHeartbeats 8000000 in
set_option maxRecDepth 100000 in
theorem runs_known.calls (k : Nat) (P0_ : Nat → Prop) (A0 : Option Addr) (c0 : Nat) (l0 : List (S25)) (r : List (S25)) (w : World) (hs0 : Kd.V k25 25 w w.heap.size (fun k_ => P0_ k_) (.slice A0 l0.length c0) l0) (h : runs_known.f k l0 = some r) :
  Calls Try.prog 50 #[.slice A0 l0.length c0] w fun e w' => ∃ v0_ : Value, e = .returned (v0_) ∧ Kd.V k25 25 w' w.heap.size (fun k_ => (P0_ k_ ∨ w.heap.size ≤ k_)) v0_ r ∧ Below w.heap.size w w' := by
 have HO0 := Aside0.mk (show Kd.V k25 25 w w.heap.size (fun k_ => (P0_ k_ ∨ w.heap.size ≤ k_)) (.slice A0 l0.length c0) l0 from Kd.V_mono hs0 (fun k_ hk => .inl hk)); have HB := Aside0.mk (Below.refl w.heap.size w); have H : ((runs_Sane.f k l0).bind fun t103 => (if t103 = true then (some l0) else ((runs_Make.f l0).bind fun t104 => (some t104)))) = some r := h; clear h; replace H := Option.bind_eq_some_iff.mp H; obtain ⟨t103, A20, H⟩ := H; replace H : (if t103 = true then (some l0) else ((runs_Make.f l0).bind fun t104 => (some t104))) = some r := H; have A2 := Aside0.mk A20; clear A20
 by_cases c3 : t103 = true
 ·subst c3
  (have H1 : (some l0) = some r := by rw [if_pos rfl] at H; exact H); clear H; have H := H1; clear H1; obtain rfl := Option.some.inj H; go_enter Try.func50, Try.ntmps50; go_wp2_with (first | ((with_reducible refine gate_callee (f := 20) rfl ?_); refine goesL_ (some 4) rfl rfl Try.func20 (by kernel_rfl) rfl #[.slice A0 l0.length c0] rfl ml_ ?_; (with_reducible refine (runs_Sane.calls k _ _ l0 true _ ?side1 ?side2 A2.out).mono ?_); (case side1 => repeat (first | exact (Kd.V_reads' HO0.out).2.2 | (with_reducible refine Kd.C_alloc ?_ _) | (with_reducible refine Kd.C_drewN ?_ _) | (with_reducible refine Kd.C_drew ?_))); (case side2 => exact (Kd.V_reads' HO0.out).2.1); rintro e w4 ⟨rfl, hb⟩; refine ⟨_, rfl, ?_⟩; have n0_ := Aside0.mk (Kd.V_below (by (with_reducible repeat (first | apply Kd.V_alloc | apply Kd.V_drewN | apply Kd.V_drew)); exact HO0.out) hb); have n1_ := Aside0.mk (below_step hb_ hb); clear HO0; clear HB; have HO0 := n0_; have HB := n1_; clear n0_ n1_; (try clear hb); (try clear hb2); (try clear hk); (try clear hi))); go_ret; exact ⟨_, by first | rfl | (simp [errW_none, errW_some] <;> rfl) | (simp [*, errW_none, errW_some] <;> rfl), by (with_reducible repeat (first | apply Kd.V_alloc | apply Kd.V_drewN | apply Kd.V_drew)); exact HO0.out, hb_⟩
 ·replace c3 := Bool.eq_false_iff.mpr c3
  subst c3; (have H1 : ((runs_Make.f l0).bind fun t104 => (some t104)) = some r := by rw [if_neg (show ¬ (false = true) by decide)] at H; exact H); clear H; have H := H1; clear H1; replace H := Option.bind_eq_some_iff.mp H; obtain ⟨t104, A50, H⟩ := H; replace H : (some t104) = some r := H; have A5 := Aside0.mk A50; clear A50; obtain rfl := Option.some.inj H; go_enter Try.func50, Try.ntmps50; go_wp2_with (first | ((with_reducible refine gate_callee (f := 20) rfl ?_); refine goesL_ (some 4) rfl rfl Try.func20 (by kernel_rfl) rfl #[.slice A0 l0.length c0] rfl ml_ ?_; (with_reducible refine (runs_Sane.calls k _ _ l0 false _ ?side1 ?side2 A2.out).mono ?_); (case side1 => repeat (first | exact (Kd.V_reads' HO0.out).2.2 | (with_reducible refine Kd.C_alloc ?_ _) | (with_reducible refine Kd.C_drewN ?_ _) | (with_reducible refine Kd.C_drew ?_))); (case side2 => exact (Kd.V_reads' HO0.out).2.1); rintro e w6 ⟨rfl, hb⟩; refine ⟨_, rfl, ?_⟩; have n0_ := Aside0.mk (Kd.V_below (by (with_reducible repeat (first | apply Kd.V_alloc | apply Kd.V_drewN | apply Kd.V_drew)); exact HO0.out) hb); have n1_ := Aside0.mk (below_step hb_ hb); clear HO0; clear HB; have HO0 := n0_; have HB := n1_; clear n0_ n1_; (try clear hb); (try clear hb2); (try clear hk); (try clear hi)) | ((with_reducible refine gate_callee (f := 19) rfl ?_); refine goesL_ (some 7) rfl rfl Try.func19 (by kernel_rfl) rfl #[.slice A0 l0.length c0] rfl ml_ ?_; (with_reducible refine (runs_Make.calls _ _ l0 t104 _ ?side1 ?side2 A5.out).mono ?_); (case side1 => repeat (first | exact (Kd.V_reads' HO0.out).2.2 | (with_reducible refine Kd.C_alloc ?_ _) | (with_reducible refine Kd.C_drewN ?_ _) | (with_reducible refine Kd.C_drew ?_))); (case side2 => exact (Kd.V_reads' HO0.out).2.1); rintro e w7 ⟨v105, rfl, ho0, hb⟩; refine ⟨_, rfl, ?_⟩; have n0_ := Aside0.mk (Kd.V_elder' (by (with_reducible repeat (first | apply Kd.V_alloc | apply Kd.V_drewN | apply Kd.V_drew)); exact HO0.out) (Kd.R_base ho0) hb); have n1_ := Aside0.mk (Kd.R_lower (Kd.R_newM (M := fun k_ => (w.heap.size ≤ k_)) ho0 (below_size hb_) (fun k_ h_ => h_)) (below_size hb_)); have n2_ := Aside0.mk (below_step hb_ hb); clear HO0; clear HB; have HO0 := n0_; have HO106 := n1_; have HB := n2_; clear n0_ n1_ n2_; (try clear hb); (try clear hb2); (try clear hk); (try clear hi); (try clear ho0))); go_ret; exact ⟨_, by first | rfl | (simp [errW_none, errW_some] <;> rfl) | (simp [*, errW_none, errW_some] <;> rfl), Kd.V_mono (Kd.R_V (by (with_reducible repeat (first | apply Kd.R_alloc | apply Kd.R_drewN | apply Kd.R_drew)); exact Kd.R_mono HO106.out (fun _ hk => hk.1))) (fun k_ hk => by first | exact ⟨(.inr (hk.1)), hk.2⟩ | exact (.inr (hk))), hb_⟩
set_option maxHeartbeats 8000000 in
set_option maxRecDepth 100000 in
theorem runs_Next.calls (k : Nat) (A0 : Option Addr) (c0 : Nat) (l0 : List (S25)) (a1 : Int) (r1 : Int) (r2 : Bool) (w : World) (hr0 : Kd.C k25 w A0 l0.length l0) (hc0 : l0.length ≤ c0) (h : runs_Next.f k l0 a1 = some (r1, r2)) :
  Calls Try.prog 25 #[.slice A0 l0.length c0, .int .i64 a1] w fun e w' => e = .returned (.tuple #[.int .i64 r1, .bool r2]) ∧ Below w.heap.size w w' := by
 have HR0 := Aside0.mk hr0; have HC0 := Aside0.mk hc0; clear hr0 hc0; have HB := Aside0.mk (Below.refl w.heap.size w); have H : ((runs_known.f k l0).bind fun t107 => ((runs_at.f t107 a1).bind fun t110 => (if t110 = (t107.length : Int) then (some (0, false)) else (if 0 ≤ t110 then (if t110 < (t107.length : Int) then (some (mx a1 ((rd_T25 t107 t110).f0), true)) else (none)) else (none))))) = some (r1, r2) := h; clear h; replace H := Option.bind_eq_some_iff.mp H; obtain ⟨t107, A30, H⟩ := H; replace H : ((runs_at.f t107 a1).bind fun t110 => (if t110 = (t107.length : Int) then (some (0, false)) else (if 0 ≤ t110 then (if t110 < (t107.length : Int) then (some (mx a1 ((rd_T25 t107 t110).f0), true)) else (none)) else (none)))) = some (r1, r2) := H; have A3 := Aside0.mk A30; clear A30; replace H := Option.bind_eq_some_iff.mp H; obtain ⟨t110, A40, H⟩ := H; replace H : (if t110 = (t107.length : Int) then (some (0, false)) else (if 0 ≤ t110 then (if t110 < (t107.length : Int) then (some (mx a1 ((rd_T25 t107 t110).f0), true)) else (none)) else (none))) = some (r1, r2) := H; have A4 := Aside0.mk A40; clear A40
 by_cases c5 : t110 = (t107.length : Int)
 ·rw [if_pos c5] at H
  have c5b0 : (t110 == (t107.length : Int)) = true := beq_iff_eq.mpr c5; have c5b1 : (t110 != (t107.length : Int)) = false := bne_eq_false_iff_eq.mpr c5; clear c5; simp only [Option.some.injEq, Prod.mk.injEq] at H; obtain ⟨rfl, rfl⟩ := H; go_enter Try.func25, Try.ntmps25; go_wp2_with (first | ((with_reducible refine gate_callee (f := 50) rfl ?_); refine goesL_ (some 8) rfl rfl Try.func50 (by kernel_rfl) rfl #[.slice A0 l0.length c0] rfl ml_ ?_; (with_reducible refine (runs_known.calls k (fun k_ => k_ < w.heap.size) _ _ l0 t107 _ ?side1 A3.out).mono ?_); (case side1 => exact Kd.V_mk HC0.out (Kd.F_below (Kd.C_F k25_heap HR0.out) hb_)); rintro e w6 ⟨v108, rfl, ho0, hb⟩; refine ⟨_, rfl, ?_⟩; have n0_ := Aside0.mk (Kd.V_lower (Kd.V_mono (ok' := fun k_ => True) ho0 (fun k_ hk_ => trivial)) (below_size hb_)); have n1_ := Aside0.mk (below_step hb_ hb); clear HB; have HO109 := n0_; have HB := n1_; clear n0_ n1_; (try clear hb); (try clear hb2); (try clear hk); (try clear hi); (try clear ho0); obtain ⟨Ao7, co7, eo7⟩ := Kd.V_slice HO109.out; subst eo7) | ((with_reducible refine gate_callee (f := 51) rfl ?_); refine goesL_ (some 11) rfl rfl Try.func51 (by kernel_rfl) rfl #[.slice Ao7 t107.length co7, .int .i64 a1] rfl ml_ ?_; (with_reducible refine (runs_at.calls _ _ t107 a1 t110 _ ?side1 ?side2 A4.out).mono ?_); (case side1 => repeat (first | exact (Kd.V_reads' HO109.out).2.2 | (with_reducible refine Kd.C_alloc ?_ _) | (with_reducible refine Kd.C_drewN ?_ _) | (with_reducible refine Kd.C_drew ?_))); (case side2 => exact (Kd.V_reads' HO109.out).2.1); rintro e w8 ⟨rfl, hb⟩; refine ⟨_, rfl, ?_⟩; have n0_ := Aside0.mk (Kd.V_below (by (with_reducible repeat (first | apply Kd.V_alloc | apply Kd.V_drewN | apply Kd.V_drew)); exact HO109.out) hb); have n1_ := Aside0.mk (below_step hb_ hb); clear HO109; clear HB; have HO109 := n0_; have HB := n1_; clear n0_ n1_; (try clear hb); (try clear hb2); (try clear hk); (try clear hi))); go_ret2; exact ⟨re_, hb_⟩
 ·rw [if_neg c5] at H
  have c5b0 : (t110 == (t107.length : Int)) = false := beq_eq_false_iff_ne.mpr c5; have c5b1 : (t110 != (t107.length : Int)) = true := bne_iff_ne.mpr c5
  by_cases c9 : 0 ≤ t110
  ·rw [if_pos c9] at H
   have c9b0 : decide (0 ≤ t110) = true := decide_eq_true c9; clear c9
   by_cases c10 : t110 < (t107.length : Int)
   ·rw [if_pos c10] at H
    have c10b0 : decide (t110 < (t107.length : Int)) = true := decide_eq_true c10; clear c10; obtain ⟨ji11, hji11⟩ : ∃ j_ : Int, (mx a1 ((rd_T25 t107 t110).f0)) = j_ := ⟨_, rfl⟩; (replace H : (some (ji11, true)) = some (r1, r2) := by first | (rw [hji11] at H; exact H) | (simp only [hji11] at H ⊢; exact H)); (try rw [hji11] at A3); (try rw [hji11] at A4); have hji11_ : (if a1 < ((rd_T25 t107 t110).f0) then ((rd_T25 t107 t110).f0) else a1) = ji11 := hji11; simp only [Option.some.injEq, Prod.mk.injEq] at H; obtain ⟨rfl, rfl⟩ := H; go_enter Try.func25, Try.ntmps25; go_wp2_with (first | ((with_reducible refine gate_callee (f := 50) rfl ?_); refine goesL_ (some 8) rfl rfl Try.func50 (by kernel_rfl) rfl #[.slice A0 l0.length c0] rfl ml_ ?_; (with_reducible refine (runs_known.calls k (fun k_ => k_ < w.heap.size) _ _ l0 t107 _ ?side1 A3.out).mono ?_); (case side1 => exact Kd.V_mk HC0.out (Kd.F_below (Kd.C_F k25_heap HR0.out) hb_)); rintro e w12 ⟨v108, rfl, ho0, hb⟩; refine ⟨_, rfl, ?_⟩; have n0_ := Aside0.mk (Kd.V_lower (Kd.V_mono (ok' := fun k_ => True) ho0 (fun k_ hk_ => trivial)) (below_size hb_)); have n1_ := Aside0.mk (below_step hb_ hb); clear HB; have HO109 := n0_; have HB := n1_; clear n0_ n1_; (try clear hb); (try clear hb2); (try clear hk); (try clear hi); (try clear ho0); obtain ⟨Ao13, co13, eo13⟩ := Kd.V_slice HO109.out; subst eo13) | ((with_reducible refine gate_callee (f := 51) rfl ?_); refine goesL_ (some 11) rfl rfl Try.func51 (by kernel_rfl) rfl #[.slice Ao13 t107.length co13, .int .i64 a1] rfl ml_ ?_; (with_reducible refine (runs_at.calls _ _ t107 a1 t110 _ ?side1 ?side2 A4.out).mono ?_); (case side1 => repeat (first | exact (Kd.V_reads' HO109.out).2.2 | (with_reducible refine Kd.C_alloc ?_ _) | (with_reducible refine Kd.C_drewN ?_ _) | (with_reducible refine Kd.C_drew ?_))); (case side2 => exact (Kd.V_reads' HO109.out).2.1); rintro e w14 ⟨rfl, hb⟩; refine ⟨_, rfl, ?_⟩; have n0_ := Aside0.mk (Kd.V_below (by (with_reducible repeat (first | apply Kd.V_alloc | apply Kd.V_drewN | apply Kd.V_drew)); exact HO109.out) hb); have n1_ := Aside0.mk (below_step hb_ hb); clear HO109; clear HB; have HO109 := n0_; have HB := n1_; clear n0_ n1_; (try clear hb); (try clear hb2); (try clear hk); (try clear hi); have p111 : 0 ≤ (t110 : Int) := od_; have q111 : t110 < (t107.length : Int) := od_; obtain ⟨ad111, e111, hx111_0, hx111_1⟩ := at_T25 (Kd.V_reads' HO109.out).2.2 t110 p111 q111; cases e111; replace p111 := eq_true p111; replace q111 := eq_true q111)); go_ret2; exact ⟨by first | rfl | (simp [errW_none, errW_some] <;> rfl) | (simp only [← hji11]; first | rfl | (simp [errW_none, errW_some] <;> rfl)) | (simp [*, errW_none, errW_some] <;> rfl), hb_⟩
   ·rw [if_neg c10] at H
    exact absurd H (by simp)
  ·rw [if_neg c9] at H
   exact absurd H (by simp)
set_option maxHeartbeats 8000000 in
set_option maxRecDepth 100000 in
theorem runs_Has.calls (k : Nat) (A0 : Option Addr) (c0 : Nat) (l0 : List (S25)) (a1 : Int) (r : Bool) (w : World) (hr0 : Kd.C k25 w A0 l0.length l0) (hc0 : l0.length ≤ c0) (h : runs_Has.f k l0 a1 = some r) :
  Calls Try.prog 22 #[.slice A0 l0.length c0, .int .i64 a1] w fun e w' => e = .returned (.bool r) ∧ Below w.heap.size w w' := by
 have HR0 := Aside0.mk hr0; have HC0 := Aside0.mk hc0; clear hr0 hc0; have HB := Aside0.mk (Below.refl w.heap.size w); have H : ((runs_Next.f k l0 a1).bind fun bt112 => (if bt112.2 = true then (some (bt112.1 == a1)) else (some false))) = some r := h; clear h; replace H := Option.bind_eq_some_iff.mp H; obtain ⟨⟨t112, t113⟩, A30, H⟩ := H; replace H : (if t113 = true then (some (t112 == a1)) else (some false)) = some r := H; have A3 := Aside0.mk A30; clear A30
 by_cases c4 : t113 = true
 ·subst c4
  (have H1 : (some (t112 == a1)) = some r := by rw [if_pos rfl] at H; exact H); clear H; have H := H1; clear H1; obtain rfl := Option.some.inj H; go_enter Try.func22, Try.ntmps22; go_wp2_with (first | ((with_reducible refine gate_callee (f := 25) rfl ?_); refine goesL_ (some 10) rfl rfl Try.func25 (by kernel_rfl) rfl #[.slice A0 l0.length c0, .int .i64 a1] rfl ml_ ?_; (with_reducible refine (runs_Next.calls k _ _ l0 a1 t112 true _ ?side1 ?side2 A3.out).mono ?_); (case side1 => repeat (first | exact HR0.out | (with_reducible refine Kd.C_alloc ?_ _) | (with_reducible refine Kd.C_drewN ?_ _) | (with_reducible refine Kd.C_drew ?_))); (case side2 => exact HC0.out); rintro e w5 ⟨rfl, hb⟩; refine ⟨_, rfl, ?_⟩; have n0_ := Aside0.mk (below_step hb_ hb); clear HB; have HB := n0_; clear n0_; (try clear hb); (try clear hb2); (try clear hk); (try clear hi))); go_ret; exact ⟨re_, hb_⟩
 ·replace c4 := Bool.eq_false_iff.mpr c4
  subst c4; (have H1 : (some false) = some r := by rw [if_neg (show ¬ (false = true) by decide)] at H; exact H); clear H; have H := H1; clear H1; obtain rfl := Option.some.inj H; go_enter Try.func22, Try.ntmps22; go_wp2_with (first | ((with_reducible refine gate_callee (f := 25) rfl ?_); refine goesL_ (some 10) rfl rfl Try.func25 (by kernel_rfl) rfl #[.slice A0 l0.length c0, .int .i64 a1] rfl ml_ ?_; (with_reducible refine (runs_Next.calls k _ _ l0 a1 t112 false _ ?side1 ?side2 A3.out).mono ?_); (case side1 => repeat (first | exact HR0.out | (with_reducible refine Kd.C_alloc ?_ _) | (with_reducible refine Kd.C_drewN ?_ _) | (with_reducible refine Kd.C_drew ?_))); (case side2 => exact HC0.out); rintro e w6 ⟨rfl, hb⟩; refine ⟨_, rfl, ?_⟩; have n0_ := Aside0.mk (below_step hb_ hb); clear HB; have HB := n0_; clear n0_; (try clear hb); (try clear hb2); (try clear hk); (try clear hi))); go_ret; exact ⟨re_, hb_⟩
end Go.Proofs.Ytkbcmjejfbbcpaa.A

namespace Go.Proofs.Ytkbcmjejfbbcpaa.A
open Go.RowKit Go.Proofs.YtkbcmjejfbbcpaaW.PrintWords Go.Proofs.YtkbcmjejfbbcpaaW.PrintLast Go.Proofs.YtkbcmjejfbbcpaaW.PrintMore
attribute [local go_sem] max2_int min2_int max_two min_two max_three min_three max_four min_four
set_option linter.unusedVariables false
set_option linter.unusedSimpArgs false
theorem eqA25 (d : Nat) (w : World) (x0 y0 : Int) (x1 y1 : Int) :
  (Op.equalIn (d + 2) 25 (.agg #[.int .i64 x0, .int .i64 x1]) (.agg #[.int .i64 y0, .int .i64 y1])).run Try.prog w = .ok (x0 == y0 && (x1 == y1)) w := by
 refine eqA_of Try.underlying25 (by kernel_rfl) ?_; refine eqf_cons (by rfl) (by go_simp; rfl) (by go_simp; rfl) (by go_simp) ?_; exact eqf_last (by rfl) (by go_simp; rfl) (by go_simp; rfl) (by go_simp)
end Go.Proofs.Ytkbcmjejfbbcpaa.A

namespace Go.Proofs.Ytkbcmjejfbbcpaa.A
open Go.RowKit Go.Proofs.YtkbcmjejfbbcpaaW.PrintWords Go.Proofs.YtkbcmjejfbbcpaaW.PrintLast Go.Proofs.YtkbcmjejfbbcpaaW.PrintMore
attribute [local go_sem] max2_int min2_int max_two min_two max_three min_three max_four min_four
set_option linter.unusedVariables false
set_option linter.unusedSimpArgs false
attribute [local go_sem high] eqA25
set_option maxHeartbeats 8000000 in
set_option maxRecDepth 100000 in
theorem lustrumref04_Same.calls (k : Nat) (A0 : Option Addr) (c0 : Nat) (l0 : List (S25)) (A1 : Option Addr) (c1 : Nat) (l1 : List (S25)) (r : Bool) (w : World) (hr0 : Kd.C k25 w A0 l0.length l0) (hc0 : l0.length ≤ c0) (hr1 : Kd.C k25 w A1 l1.length l1) (hc1 : l1.length ≤ c1) (h : lustrumref04_Same.f k l0 l1 = some r) :
  Calls Try.prog 21 #[.slice A0 l0.length c0, .slice A1 l1.length c1] w fun e w' => e = .returned (.bool r) ∧ Drawn0 w w' := by
 have hu25 := Try.underlying25; have HR0 := Aside0.mk hr0; have HC0 := Aside0.mk hc0; clear hr0 hc0; have HR1 := Aside0.mk hr1; have HC1 := Aside0.mk hc1; clear hr1 hc1; have H : (if (l0.length : Int) = (l1.length : Int) then (lustrumref04_Same.l0 k l0 l1 0) else (some false)) = some r := h; clear h
 by_cases c3 : (l0.length : Int) = (l1.length : Int)
 ·rw [if_pos c3] at H
  have c3b0 : ((l0.length : Int) == (l1.length : Int)) = true := beq_iff_eq.mpr c3; have c3b1 : ((l0.length : Int) != (l1.length : Int)) = false := bne_eq_false_iff_eq.mpr c3; (have c3b2 : (l0.length == l1.length) = true := by first | simpa using c3 | (simp at c3 ⊢; omega)); clear c3; have H' := Aside0.mk H; clear H; go_enter Try.func21, Try.ntmps21; go_wp2
  repeat (go_quiet (fail); try go_wp2)
  go_loopg [5] k (fun kq v5 w' => ∃ (x5_1 : Int), v5 = .int .i64 x5_1 ∧ Aside0 (lustrumref04_Same.l0 kq l0 l1 x5_1 = some r) ∧ Aside0 (kq ≤ k) ∧ Drawn0 w w')
  case atStart => exact ⟨(0), rf_, H', ⟨Nat.le_refl _⟩, by repeat (first | exact Drawn0.refl _ | apply Drawn0.step)⟩
  case round =>
   clear H'; (try clear c1); (try clear c2); (try clear p2); (try clear c3); (try clear c3b0); (try clear c3b1); (try clear c3b2); obtain ⟨x5_1, rfl, HA, HK1, ⟨m1, rfl⟩⟩ := hrel
   cases gk with
   | zero => exact absurd HA.out (by simp [lustrumref04_Same.l0])
   | succ k1 =>
    have H := HA.out; clear HA; simp only [lustrumref04_Same.l0] at H
    by_cases c4 : x5_1 < (l0.length : Int)
    ·rw [if_pos c4] at H
     have c4b0 : decide (x5_1 < (l0.length : Int)) = true := decide_eq_true c4; clear c4
     by_cases c5 : 0 ≤ x5_1
     ·rw [if_pos c5] at H
      have c5b0 : decide (0 ≤ x5_1) = true := decide_eq_true c5; clear c5
      by_cases c6 : x5_1 < (l1.length : Int)
      ·rw [if_pos c6] at H
       have c6b0 : decide (x5_1 < (l1.length : Int)) = true := decide_eq_true c6; clear c6
       by_cases c7 : (!(((rd_T25 l0 x5_1).f0) == ((rd_T25 l1 x5_1).f0)) || (!(((rd_T25 l0 x5_1).f1) == ((rd_T25 l1 x5_1).f1)))) = true
       ·rw [if_pos c7] at H
        have c7b0 : (!(((rd_T25 l0 x5_1).f0) == ((rd_T25 l1 x5_1).f0)) || (!(((rd_T25 l0 x5_1).f1) == ((rd_T25 l1 x5_1).f1)))) = true := c7; clear c7; obtain rfl := Option.some.inj H; have p145 : 0 ≤ (x5_1 : Int) := od_; have q145 : x5_1 < (l0.length : Int) := od_; obtain ⟨ad145, e145, hx145_0, hx145_1⟩ := at_T25 HR0.out x5_1 p145 q145
        cases e145
        replace p145 := eq_true p145; replace q145 := eq_true q145; have p146 : 0 ≤ (x5_1 : Int) := od_; have q146 : x5_1 < (l1.length : Int) := od_; obtain ⟨ad146, e146, hx146_0, hx146_1⟩ := at_T25 HR1.out x5_1 p146 q146
        cases e146
        replace p146 := eq_true p146; replace q146 := eq_true q146; go_wp2
        repeat (go_quiet (fail); try go_wp2)
        go_ret; exact ⟨by first | rfl | (simp; done) | (simp [*]; done), by repeat (first | exact Drawn0.refl _ | apply Drawn0.step)⟩
       ·rw [if_neg c7] at H
        (have c7b0 : (!(((rd_T25 l0 x5_1).f0) == ((rd_T25 l1 x5_1).f0)) || (!(((rd_T25 l0 x5_1).f1) == ((rd_T25 l1 x5_1).f1)))) = false := by simpa using c7); clear c7; have H' := Aside0.mk H; clear H; have p145 : 0 ≤ (x5_1 : Int) := od_; have q145 : x5_1 < (l0.length : Int) := od_; obtain ⟨ad145, e145, hx145_0, hx145_1⟩ := at_T25 HR0.out x5_1 p145 q145
        cases e145
        replace p145 := eq_true p145; replace q145 := eq_true q145; have p146 : 0 ≤ (x5_1 : Int) := od_; have q146 : x5_1 < (l1.length : Int) := od_; obtain ⟨ad146, e146, hx146_0, hx146_1⟩ := at_T25 HR1.out x5_1 p146 q146
        cases e146
        replace p146 := eq_true p146; replace q146 := eq_true q146; go_wp2
        repeat (go_quiet (fail); try go_wp2)
        go_roundg k1
        case measure => have := HK1.out; omega
        case rel => exact ⟨(wrap64 (x5_1 + 1)), rf_, H', ⟨by have := HK1.out; omega⟩, by repeat (first | exact Drawn0.refl _ | apply Drawn0.step)⟩
      ·rw [if_neg c6] at H
       exact absurd H (by simp)
     ·rw [if_neg c5] at H
      exact absurd H (by simp)
    ·rw [if_neg c4] at H
     have c4b0 : decide (x5_1 < (l0.length : Int)) = false := decide_eq_false c4; clear c4; obtain rfl := Option.some.inj H; go_wp2
     repeat (go_quiet (fail); try go_wp2)
     go_ret; exact ⟨by first | rfl | (simp; done) | (simp [*]; done), by repeat (first | exact Drawn0.refl _ | apply Drawn0.step)⟩
 ·rw [if_neg c3] at H
  have c3b0 : ((l0.length : Int) == (l1.length : Int)) = false := beq_eq_false_iff_ne.mpr c3; have c3b1 : ((l0.length : Int) != (l1.length : Int)) = true := bne_iff_ne.mpr c3; (have c3b2 : (l0.length == l1.length) = false := by first | simpa using c3 | (simp at c3 ⊢; omega)); obtain rfl := Option.some.inj H; go_enter Try.func21, Try.ntmps21; go_wp2
  repeat (go_quiet (fail); try go_wp2)
  go_ret; exact ⟨by first | rfl | (simp; done) | (simp [*]; done), by repeat (first | exact Drawn0.refl _ | apply Drawn0.step)⟩
end Go.Proofs.Ytkbcmjejfbbcpaa.A

namespace Go.Proofs.Ytkbcmjejfbbcpaa.A
open Go.RowKit Go.Proofs.YtkbcmjejfbbcpaaW.PrintWords Go.Proofs.YtkbcmjejfbbcpaaW.PrintLast Go.Proofs.YtkbcmjejfbbcpaaW.PrintMore
attribute [local go_sem] max2_int min2_int max_two min_two max_three min_three max_four min_four
set_option linter.unusedVariables false
set_option linter.unusedSimpArgs false
set_option maxHeartbeats 8000000 in
set_option maxRecDepth 100000 in
theorem sets_known.calls (k : Nat) (P0_ : Nat → Prop) (A0 : Option Addr) (c0 : Nat) (l0 : List (S25)) (r : List (S25)) (w : World) (hs0 : Kd.V k25 25 w w.heap.size (fun k_ => P0_ k_) (.slice A0 l0.length c0) l0) (h : sets_known.f k l0 = some r) :
  Calls Try.prog 47 #[.slice A0 l0.length c0] w fun e w' => ∃ v0_ : Value, e = .returned (v0_) ∧ Kd.V k25 25 w' w.heap.size (fun k_ => (P0_ k_ ∨ w.heap.size ≤ k_)) v0_ r ∧ Below w.heap.size w w' := by
 have HO0 := Aside0.mk (show Kd.V k25 25 w w.heap.size (fun k_ => (P0_ k_ ∨ w.heap.size ≤ k_)) (.slice A0 l0.length c0) l0 from Kd.V_mono hs0 (fun k_ hk => .inl hk)); have HB := Aside0.mk (Below.refl w.heap.size w); have H : ((runs_Sane.f k l0).bind fun t322 => (if t322 = true then (some l0) else ((runs_Make.f l0).bind fun t323 => (some t323)))) = some r := h; clear h; replace H := Option.bind_eq_some_iff.mp H; obtain ⟨t322, A20, H⟩ := H; replace H : (if t322 = true then (some l0) else ((runs_Make.f l0).bind fun t323 => (some t323))) = some r := H; have A2 := Aside0.mk A20; clear A20
 by_cases c3 : t322 = true
 ·subst c3
  (have H1 : (some l0) = some r := by rw [if_pos rfl] at H; exact H); clear H; have H := H1; clear H1; obtain rfl := Option.some.inj H; go_enter Try.func47, Try.ntmps47; go_wp2_with (first | ((with_reducible refine gate_callee (f := 20) rfl ?_); refine goesL_ (some 4) rfl rfl Try.func20 (by kernel_rfl) rfl #[.slice A0 l0.length c0] rfl ml_ ?_; (with_reducible refine (runs_Sane.calls k _ _ l0 true _ ?side1 ?side2 A2.out).mono ?_); (case side1 => repeat (first | exact (Kd.V_reads' HO0.out).2.2 | (with_reducible refine Kd.C_alloc ?_ _) | (with_reducible refine Kd.C_drewN ?_ _) | (with_reducible refine Kd.C_drew ?_))); (case side2 => exact (Kd.V_reads' HO0.out).2.1); rintro e w4 ⟨rfl, hb⟩; refine ⟨_, rfl, ?_⟩; have n0_ := Aside0.mk (Kd.V_below (by (with_reducible repeat (first | apply Kd.V_alloc | apply Kd.V_drewN | apply Kd.V_drew)); exact HO0.out) hb); have n1_ := Aside0.mk (below_step hb_ hb); clear HO0; clear HB; have HO0 := n0_; have HB := n1_; clear n0_ n1_; (try clear hb); (try clear hb2); (try clear hk); (try clear hi))); go_ret; exact ⟨_, by first | rfl | (simp [errW_none, errW_some] <;> rfl) | (simp [*, errW_none, errW_some] <;> rfl), by (with_reducible repeat (first | apply Kd.V_alloc | apply Kd.V_drewN | apply Kd.V_drew)); exact HO0.out, hb_⟩
 ·replace c3 := Bool.eq_false_iff.mpr c3
  subst c3; (have H1 : ((runs_Make.f l0).bind fun t323 => (some t323)) = some r := by rw [if_neg (show ¬ (false = true) by decide)] at H; exact H); clear H; have H := H1; clear H1; replace H := Option.bind_eq_some_iff.mp H; obtain ⟨t323, A50, H⟩ := H; replace H : (some t323) = some r := H; have A5 := Aside0.mk A50; clear A50; obtain rfl := Option.some.inj H; go_enter Try.func47, Try.ntmps47; go_wp2_with (first | ((with_reducible refine gate_callee (f := 20) rfl ?_); refine goesL_ (some 4) rfl rfl Try.func20 (by kernel_rfl) rfl #[.slice A0 l0.length c0] rfl ml_ ?_; (with_reducible refine (runs_Sane.calls k _ _ l0 false _ ?side1 ?side2 A2.out).mono ?_); (case side1 => repeat (first | exact (Kd.V_reads' HO0.out).2.2 | (with_reducible refine Kd.C_alloc ?_ _) | (with_reducible refine Kd.C_drewN ?_ _) | (with_reducible refine Kd.C_drew ?_))); (case side2 => exact (Kd.V_reads' HO0.out).2.1); rintro e w6 ⟨rfl, hb⟩; refine ⟨_, rfl, ?_⟩; have n0_ := Aside0.mk (Kd.V_below (by (with_reducible repeat (first | apply Kd.V_alloc | apply Kd.V_drewN | apply Kd.V_drew)); exact HO0.out) hb); have n1_ := Aside0.mk (below_step hb_ hb); clear HO0; clear HB; have HO0 := n0_; have HB := n1_; clear n0_ n1_; (try clear hb); (try clear hb2); (try clear hk); (try clear hi)) | ((with_reducible refine gate_callee (f := 19) rfl ?_); refine goesL_ (some 7) rfl rfl Try.func19 (by kernel_rfl) rfl #[.slice A0 l0.length c0] rfl ml_ ?_; (with_reducible refine (runs_Make.calls _ _ l0 t323 _ ?side1 ?side2 A5.out).mono ?_); (case side1 => repeat (first | exact (Kd.V_reads' HO0.out).2.2 | (with_reducible refine Kd.C_alloc ?_ _) | (with_reducible refine Kd.C_drewN ?_ _) | (with_reducible refine Kd.C_drew ?_))); (case side2 => exact (Kd.V_reads' HO0.out).2.1); rintro e w7 ⟨v324, rfl, ho0, hb⟩; refine ⟨_, rfl, ?_⟩; have n0_ := Aside0.mk (Kd.V_elder' (by (with_reducible repeat (first | apply Kd.V_alloc | apply Kd.V_drewN | apply Kd.V_drew)); exact HO0.out) (Kd.R_base ho0) hb); have n1_ := Aside0.mk (Kd.R_lower (Kd.R_newM (M := fun k_ => (w.heap.size ≤ k_)) ho0 (below_size hb_) (fun k_ h_ => h_)) (below_size hb_)); have n2_ := Aside0.mk (below_step hb_ hb); clear HO0; clear HB; have HO0 := n0_; have HO325 := n1_; have HB := n2_; clear n0_ n1_ n2_; (try clear hb); (try clear hb2); (try clear hk); (try clear hi); (try clear ho0))); go_ret; exact ⟨_, by first | rfl | (simp [errW_none, errW_some] <;> rfl) | (simp [*, errW_none, errW_some] <;> rfl), Kd.V_mono (Kd.R_V (by (with_reducible repeat (first | apply Kd.R_alloc | apply Kd.R_drewN | apply Kd.R_drew)); exact Kd.R_mono HO325.out (fun _ hk => hk.1))) (fun k_ hk => by first | exact ⟨(.inr (hk.1)), hk.2⟩ | exact (.inr (hk))), hb_⟩
set_option maxHeartbeats 8000000 in
set_option maxRecDepth 100000 in
theorem sets_Wide.calls (k : Nat) (A0 : Option Addr) (c0 : Nat) (l0 : List (S25)) (r : Bool) (w : World) (hr0 : Kd.C k25 w A0 l0.length l0) (hc0 : l0.length ≤ c0) (h : sets_Wide.f k l0 = some r) :
  Calls Try.prog 17 #[.slice A0 l0.length c0] w fun e w' => e = .returned (.bool r) ∧ Below w.heap.size w w' := by
 have HR0 := Aside0.mk hr0; have HC0 := Aside0.mk hc0; clear hr0 hc0; have HB := Aside0.mk (Below.refl w.heap.size w); have H : ((sets_known.f k l0).bind fun t326 => (some (decide ((t326.length : Int) > 400)))) = some r := h; clear h; replace H := Option.bind_eq_some_iff.mp H; obtain ⟨t326, A20, H⟩ := H; replace H : (some (decide ((t326.length : Int) > 400))) = some r := H; have A2 := Aside0.mk A20; clear A20; obtain rfl := Option.some.inj H; go_enter Try.func17, Try.ntmps17; go_wp2_with (first | ((with_reducible refine gate_callee (f := 47) rfl ?_); refine goesL_ (some 4) rfl rfl Try.func47 (by kernel_rfl) rfl #[.slice A0 l0.length c0] rfl ml_ ?_; (with_reducible refine (sets_known.calls k (fun k_ => k_ < w.heap.size) _ _ l0 t326 _ ?side1 A2.out).mono ?_); (case side1 => exact Kd.V_mk HC0.out (Kd.F_below (Kd.C_F k25_heap HR0.out) hb_)); rintro e w3 ⟨v327, rfl, ho0, hb⟩; refine ⟨_, rfl, ?_⟩; have n0_ := Aside0.mk (Kd.V_lower (Kd.V_mono (ok' := fun k_ => True) ho0 (fun k_ hk_ => trivial)) (below_size hb_)); have n1_ := Aside0.mk (below_step hb_ hb); clear HB; have HO328 := n0_; have HB := n1_; clear n0_ n1_; (try clear hb); (try clear hb2); (try clear hk); (try clear hi); (try clear ho0); obtain ⟨Ao4, co4, eo4⟩ := Kd.V_slice HO328.out; subst eo4)); go_ret; exact ⟨re_, hb_⟩
end Go.Proofs.Ytkbcmjejfbbcpaa.A

namespace Go.Proofs.Ytkbcmjejfbbcpaa.A
open Go.RowKit Go.Proofs.YtkbcmjejfbbcpaaW.PrintWords Go.Proofs.YtkbcmjejfbbcpaaW.PrintLast Go.Proofs.YtkbcmjejfbbcpaaW.PrintMore
attribute [local go_sem] max2_int min2_int max_two min_two max_three min_three max_four min_four
set_option linter.unusedVariables false
set_option linter.unusedSimpArgs false
attribute [local go_sem] isSome_setCell
def sets_Meet.T5 : Bool × List (List Nat × List Nat) := (true, [([], []), ([], []), ([0, 1], [0, 1]), ([2], [2]), ([3], [3]), ([], []), ([], []), ([5, 6], [5, 6]), ([7], [7]), ([8], [8]), ([4, 9], [4, 9]), ([], []), ([], []), ([11, 12], [11, 12]), ([13], [13]), ([14], [14]), ([], []), ([], []), ([16, 17], [16, 17]), ([18], [18]), ([19], [19]), ([15, 20], [15, 20]), ([10, 21], [10, 21]), ([], []), ([23, 22, 0, 1, 2, 3, 4, 5, 6, 7, 8, 9, 10, 11, 12, 13, 14, 15, 16, 17, 18, 19, 20, 21, 22, 23], [22, 23])])
def sets_Meet.B5 : List Nat := [0, 0, 3, 7, 15, 0, 0, 96, 224, 480, 1023, 0, 0, 6144, 14336, 30720, 0, 0, 196608, 458752, 983040, 2095104, 4194303, 0, 16777215]
theorem sets_Meet.tab5 : rtab .any (opsOf Try.f35 5) = sets_Meet.T5 := by kernel_rfl
theorem sets_Meet.bits5 : waitsOk sets_Meet.T5.2 sets_Meet.B5 = true := by kernel_rfl
def sets_Meet.T8 : Bool × List (List Nat × List Nat) := (true, [([], []), ([], []), ([0, 1], [0, 1]), ([2], [2]), ([3], [3]), ([], []), ([], []), ([5, 6], [5, 6]), ([7], [7]), ([8], [8]), ([4, 9], [4, 9])])
def sets_Meet.B8 : List Nat := [0, 0, 3, 7, 15, 0, 0, 96, 224, 480, 1023]
theorem sets_Meet.tab8 : rtab .any (opsOf Try.f35 8) = sets_Meet.T8 := by kernel_rfl
theorem sets_Meet.bits8 : waitsOk sets_Meet.T8.2 sets_Meet.B8 = true := by kernel_rfl
set_option maxHeartbeats 8000000 in
set_option maxRecDepth 100000 in
theorem sets_Meet.calls (k : Nat) (A0 : Option Addr) (c0 : Nat) (l0 : List (S25)) (A1 : Option Addr) (c1 : Nat) (l1 : List (S25)) (r : List (S25)) (w : World) (hr0 : Kd.C k25 w A0 l0.length l0) (hc0 : l0.length ≤ c0) (hr1 : Kd.C k25 w A1 l1.length l1) (hc1 : l1.length ≤ c1) (h : sets_Meet.f k l0 l1 = some r) :
  Calls Try.prog 35 #[.slice A0 l0.length c0, .slice A1 l1.length c1] w fun e w' => ∃ v0_ : Value, e = .returned (v0_) ∧ Kd.R k25 25 w' w.heap.size (fun _ => True) v0_ r ∧ Below w.heap.size w w' := by
 have hu25 := Try.underlying25; have HR0 := Aside0.mk hr0; have HC0 := Aside0.mk hc0; clear hr0 hc0; have HR1 := Aside0.mk hr1; have HC1 := Aside0.mk hc1; clear hr1 hc1; have HB := Aside0.mk (Below.refl w.heap.size w); have H : ((sets_known.f k l0).bind fun t329 => ((sets_known.f k l1).bind fun t332 => (sets_Meet.l0 k t329 t332 ([] : List (S25)) 0 0))) = some r := h; clear h; replace H := Option.bind_eq_some_iff.mp H; obtain ⟨t329, A30, H⟩ := H; replace H : ((sets_known.f k l1).bind fun t332 => (sets_Meet.l0 k t329 t332 ([] : List (S25)) 0 0)) = some r := H; have A3 := Aside0.mk A30; clear A30; replace H := Option.bind_eq_some_iff.mp H; obtain ⟨t332, A40, H⟩ := H; replace H : (sets_Meet.l0 k t329 t332 ([] : List (S25)) 0 0) = some r := H; have A4 := Aside0.mk A40; clear A40; have H' := Aside0.mk H; clear H; go_enter Try.func35, Try.ntmps35; go_wp2_with (fail); (try go_step3); go_wp2_with (first | ((with_reducible refine gate_callee (f := 47) rfl ?_); refine goesL_ (some 10) rfl rfl Try.func47 (by kernel_rfl) rfl #[.slice A0 l0.length c0] rfl ml_ ?_; (with_reducible refine (sets_known.calls k (fun k_ => k_ < w.heap.size) _ _ l0 t329 _ ?side1 A3.out).mono ?_); (case side1 => exact Kd.V_mk HC0.out (Kd.F_below (Kd.C_F k25_heap HR0.out) hb_)); rintro e w5 ⟨v330, rfl, ho0, hb⟩; refine ⟨_, rfl, ?_⟩; have n0_ := Aside0.mk (Kd.V_lower (Kd.V_mono (ok' := fun k_ => True) ho0 (fun k_ hk_ => trivial)) (below_size hb_)); have n1_ := Aside0.mk (below_step hb_ hb); clear HB; have HO331 := n0_; have HB := n1_; clear n0_ n1_; (try clear hb); (try clear hb2); (try clear hk); (try clear hi); (try clear ho0)) | ((with_reducible refine gate_callee (f := 47) rfl ?_); refine goesL_ (some 12) rfl rfl Try.func47 (by kernel_rfl) rfl #[.slice A1 l1.length c1] rfl ml_ ?_; (with_reducible refine (sets_known.calls k (fun k_ => k_ < w.heap.size) _ _ l1 t332 _ ?side1 A4.out).mono ?_); (case side1 => exact Kd.V_mk HC1.out (Kd.F_below (Kd.C_F k25_heap HR1.out) hb_)); rintro e w6 ⟨v333, rfl, ho0, hb⟩; refine ⟨_, rfl, ?_⟩; have n0_ := Aside0.mk (Kd.V_below (by (with_reducible repeat (first | apply Kd.V_alloc | apply Kd.V_drewN | apply Kd.V_drew)); exact HO331.out) hb); have n1_ := Aside0.mk (Kd.V_lower (Kd.V_mono (ok' := fun k_ => True) ho0 (fun k_ hk_ => trivial)) (below_size hb_)); have n2_ := Aside0.mk (below_step hb_ hb); clear HO331; clear HB; have HO331 := n0_; have HO334 := n1_; have HB := n2_; clear n0_ n1_ n2_; (try clear hb); (try clear hb2); (try clear hk); (try clear hi); (try clear ho0))); (try (go_step3; try go_wp2_with (fail))); go_loopg [5, 6, 7] k (fun kq v5 v6 v7 w' => ∃ (x5_1 : List (S25)) (x6_1 : Int) (x7_1 : Int), v6 = .int .i64 x6_1 ∧ v7 = .int .i64 x7_1 ∧ Aside0 (sets_Meet.l0 kq t329 t332 x5_1 x6_1 x7_1 = some r) ∧ Aside0 (kq ≤ k) ∧ Aside0 (Kd.V k25 25 w' w.heap.size (fun k_ => some k_ ≠ (v5 : Value).ownBlock) v330 t329) ∧ Aside0 (Kd.V k25 25 w' w.heap.size (fun k_ => some k_ ≠ (v5 : Value).ownBlock) v333 t332) ∧ Aside0 (Kd.R k25 25 w' w.heap.size (fun _ => True) v5 x5_1) ∧ Aside0 (Below w.heap.size w w'))
 case atStart => exact ⟨(([] : List (S25))), (0), (0), rf_, rf_, H', ⟨Nat.le_refl _⟩, ⟨by (with_reducible repeat (first | apply Kd.V_alloc | apply Kd.V_drewN | apply Kd.V_drew)); exact Kd.V_mono HO331.out (fun _ hk => (by simp [Value.ownBlock]))⟩, ⟨by (with_reducible repeat (first | apply Kd.V_alloc | apply Kd.V_drewN | apply Kd.V_drew)); exact Kd.V_mono HO334.out (fun _ hk => (by simp [Value.ownBlock]))⟩, ⟨by first | exact Kd.R_nil _ _ _ _ _ | exact Kd.N_nil _ _ _ _ _ | exact Kd.V_nil _ _ _ _ _ | exact Kd.Q_nil _ _ _ _ _ | exact Kd.S_nil _ _ _ _ _⟩, ⟨hb_⟩⟩
 case round =>
  clear H'; (try clear c1); (try clear p2); (try clear c3); (try clear p3); (try clear c4); obtain ⟨x5_1, x6_1, x7_1, rfl, rfl, HA, HK1, HO_0, HO_1, HO_5, HB⟩ := hrel
  cases gk with
  | zero => exact absurd HA.out (by simp [sets_Meet.l0])
  | succ k1 =>
   have H := HA.out; clear HA; simp only [sets_Meet.l0] at H; have HC7 := Aside0.mk H; clear H; go_upto_region 4 with (fail); go_cut [22] (fun v22 wc => ∃ (kq : Nat) (x22_6 : Bool), v22 = .bool x22_6 ∧ Aside0 (sets_Meet.j1 kq t329 t332 x5_1 x6_1 x7_1 x22_6 = some r) ∧ Aside0 (kq ≤ k1) ∧ Aside0 (Kd.V k25 25 wc w.heap.size (fun k_ => some k_ ≠ (u5 : Value).ownBlock) v330 t329) ∧ Aside0 (Kd.V k25 25 wc w.heap.size (fun k_ => some k_ ≠ (u5 : Value).ownBlock) v333 t332) ∧ Aside0 (Kd.R k25 25 wc w.heap.size (fun _ => True) u5 x5_1) ∧ Aside0 (Below w.heap.size w wc))
   case first =>
    have H := HC7.out; clear HC7
    by_cases c8 : x6_1 < (t329.length : Int)
    ·rw [if_pos c8] at H
     have c8b0 : decide (x6_1 < (t329.length : Int)) = true := decide_eq_true c8; clear c8; (first | rw [c8b0] | (simp only [i64_w, i32_w]; rw [c8b0]) | skip); have H' := Aside0.mk H; clear H; obtain ⟨Ao9, co9, eo9⟩ := Kd.V_slice HO_0.out; subst eo9; obtain ⟨Ao10, co10, eo10⟩ := Kd.V_slice HO_1.out; subst eo10; go_wp2; go_meet
     case rel => exact ⟨_, (decide (x7_1 < (t332.length : Int))), rf_, H', ⟨by have := HK1.out; first | omega | exact Nat.le_refl _⟩, ⟨by (with_reducible repeat (first | apply Kd.V_alloc | apply Kd.V_drewN | apply Kd.V_drew)); exact HO_0.out⟩, ⟨by (with_reducible repeat (first | apply Kd.V_alloc | apply Kd.V_drewN | apply Kd.V_drew)); exact HO_1.out⟩, ⟨by (with_reducible repeat (first | apply Kd.R_alloc | apply Kd.R_drewN | apply Kd.R_drew)); exact HO_5.out⟩, ⟨hb_⟩⟩
    ·rw [if_neg c8] at H
     have c8b0 : decide (x6_1 < (t329.length : Int)) = false := decide_eq_false c8; clear c8; (first | rw [c8b0] | (simp only [i64_w, i32_w]; rw [c8b0]) | skip); have H' := Aside0.mk H; clear H; obtain ⟨Ao11, co11, eo11⟩ := Kd.V_slice HO_0.out; subst eo11; go_wp2; go_meet
     case rel => exact ⟨_, (false), rf_, H', ⟨by have := HK1.out; first | omega | exact Nat.le_refl _⟩, ⟨by (with_reducible repeat (first | apply Kd.V_alloc | apply Kd.V_drewN | apply Kd.V_drew)); exact HO_0.out⟩, ⟨by (with_reducible repeat (first | apply Kd.V_alloc | apply Kd.V_drewN | apply Kd.V_drew)); exact HO_1.out⟩, ⟨by (with_reducible repeat (first | apply Kd.R_alloc | apply Kd.R_drewN | apply Kd.R_drew)); exact HO_5.out⟩, ⟨hb_⟩⟩
   case rest =>
    clear HC7; (try clear c1); (try clear p2); (try clear c3); (try clear p3); (try clear c4); (try clear c8); (try clear c8b0); (try clear p2); (try clear p3); obtain ⟨kq, x22_6, rfl, HA, HJ6, HO_0, HO_1, HO_5, HB⟩ := hcut
    cases kq with
    | zero => exact absurd HA.out (by simp [sets_Meet.j1])
    | succ kj6 =>
     have H := HA.out; clear HA; simp only [sets_Meet.j1] at H
     by_cases c12 : x22_6 = true
     ·subst c12
      (have H1 : (if 0 ≤ x6_1 then (if x6_1 < (t329.length : Int) then (if 0 ≤ x7_1 then (if x7_1 < (t332.length : Int) then (if (mx ((rd_T25 t329 x6_1).f0) ((rd_T25 t332 x7_1).f0)) ≤ (mn ((rd_T25 t329 x6_1).f1) ((rd_T25 t332 x7_1).f1)) then (if x5_1.length < 8796093022208 then ((some (x5_1 ++ [(⟨mx ((rd_T25 t329 x6_1).f0) ((rd_T25 t332 x7_1).f0), mn ((rd_T25 t329 x6_1).f1) ((rd_T25 t332 x7_1).f1)⟩ : S25)] : List (S25))).bind fun y340 => (if ((rd_T25 t329 x6_1).f1) < ((rd_T25 t332 x7_1).f1) then (sets_Meet.l0 kj6 t329 t332 y340 (wrap64 (x6_1 + 1)) x7_1) else (sets_Meet.l0 kj6 t329 t332 y340 x6_1 (wrap64 (x7_1 + 1))))) else (none)) else (if ((rd_T25 t329 x6_1).f1) < ((rd_T25 t332 x7_1).f1) then (sets_Meet.l0 kj6 t329 t332 x5_1 (wrap64 (x6_1 + 1)) x7_1) else (sets_Meet.l0 kj6 t329 t332 x5_1 x6_1 (wrap64 (x7_1 + 1))))) else (none)) else (none)) else (none)) else (none)) = some r := by rw [if_pos rfl] at H; exact H); clear H; have H := H1; clear H1
      by_cases c13 : 0 ≤ x6_1
      ·rw [if_pos c13] at H
       have c13b0 : decide (0 ≤ x6_1) = true := decide_eq_true c13; clear c13
       by_cases c14 : x6_1 < (t329.length : Int)
       ·rw [if_pos c14] at H
        have c14b0 : decide (x6_1 < (t329.length : Int)) = true := decide_eq_true c14; clear c14
        by_cases c15 : 0 ≤ x7_1
        ·rw [if_pos c15] at H
         have c15b0 : decide (0 ≤ x7_1) = true := decide_eq_true c15; clear c15
         by_cases c16 : x7_1 < (t332.length : Int)
         ·rw [if_pos c16] at H
          have c16b0 : decide (x7_1 < (t332.length : Int)) = true := decide_eq_true c16; clear c16; obtain ⟨ji17, hji17⟩ : ∃ j_ : Int, (mx ((rd_T25 t329 x6_1).f0) ((rd_T25 t332 x7_1).f0)) = j_ := ⟨_, rfl⟩; (replace H : (if (ji17) ≤ (mn ((rd_T25 t329 x6_1).f1) ((rd_T25 t332 x7_1).f1)) then (if x5_1.length < 8796093022208 then ((some (x5_1 ++ [(⟨ji17, mn ((rd_T25 t329 x6_1).f1) ((rd_T25 t332 x7_1).f1)⟩ : S25)] : List (S25))).bind fun y340 => (if ((rd_T25 t329 x6_1).f1) < ((rd_T25 t332 x7_1).f1) then (sets_Meet.l0 kj6 t329 t332 y340 (wrap64 (x6_1 + 1)) x7_1) else (sets_Meet.l0 kj6 t329 t332 y340 x6_1 (wrap64 (x7_1 + 1))))) else (none)) else (if ((rd_T25 t329 x6_1).f1) < ((rd_T25 t332 x7_1).f1) then (sets_Meet.l0 kj6 t329 t332 x5_1 (wrap64 (x6_1 + 1)) x7_1) else (sets_Meet.l0 kj6 t329 t332 x5_1 x6_1 (wrap64 (x7_1 + 1))))) = some r := by first | (rw [hji17] at H; exact H) | (simp only [hji17] at H ⊢; exact H)); have hji17_ : (if ((rd_T25 t329 x6_1).f0) < ((rd_T25 t332 x7_1).f0) then ((rd_T25 t332 x7_1).f0) else ((rd_T25 t329 x6_1).f0)) = ji17 := hji17; obtain ⟨ji18, hji18⟩ : ∃ j_ : Int, (mn ((rd_T25 t329 x6_1).f1) ((rd_T25 t332 x7_1).f1)) = j_ := ⟨_, rfl⟩; (replace H : (if (ji17) ≤ (ji18) then (if x5_1.length < 8796093022208 then ((some (x5_1 ++ [(⟨ji17, ji18⟩ : S25)] : List (S25))).bind fun y340 => (if ((rd_T25 t329 x6_1).f1) < ((rd_T25 t332 x7_1).f1) then (sets_Meet.l0 kj6 t329 t332 y340 (wrap64 (x6_1 + 1)) x7_1) else (sets_Meet.l0 kj6 t329 t332 y340 x6_1 (wrap64 (x7_1 + 1))))) else (none)) else (if ((rd_T25 t329 x6_1).f1) < ((rd_T25 t332 x7_1).f1) then (sets_Meet.l0 kj6 t329 t332 x5_1 (wrap64 (x6_1 + 1)) x7_1) else (sets_Meet.l0 kj6 t329 t332 x5_1 x6_1 (wrap64 (x7_1 + 1))))) = some r := by first | (rw [hji18] at H; exact H) | (simp only [hji18] at H ⊢; exact H)); have hji18_ : (if ((rd_T25 t332 x7_1).f1) < ((rd_T25 t329 x6_1).f1) then ((rd_T25 t332 x7_1).f1) else ((rd_T25 t329 x6_1).f1)) = ji18 := hji18
          by_cases c19 : (ji17) ≤ (ji18)
          ·rw [if_pos c19] at H
           have c19b0 : decide ((ji17) ≤ (ji18)) = true := decide_eq_true c19; clear c19
           by_cases c20 : x5_1.length < 8796093022208
           ·rw [if_pos c20] at H
            have LMc20 := Aside0.mk c20; clear c20; obtain ⟨y340, hy340⟩ : ∃ y_ : List (S25), y_ = (x5_1 ++ [(⟨ji17, ji18⟩ : S25)]) := ⟨_, rfl⟩; (replace H : (if ((rd_T25 t329 x6_1).f1) < ((rd_T25 t332 x7_1).f1) then (sets_Meet.l0 kj6 t329 t332 y340 (wrap64 (x6_1 + 1)) x7_1) else (sets_Meet.l0 kj6 t329 t332 y340 x6_1 (wrap64 (x7_1 + 1)))) = some r := by first | (rw [hy340]; with_reducible exact H) | (have H2_ := (Option.bind_some _ _).symm.trans H; rw [hy340]; with_reducible exact H2_) | (have H2_ := (Option.bind_some _ _).symm.trans H; with_reducible exact H2_) | with_reducible exact H | (rw [hy340]; exact H) | exact H); have Ny340 := Aside0.mk hy340; clear hy340
            by_cases c21 : ((rd_T25 t329 x6_1).f1) < ((rd_T25 t332 x7_1).f1)
            ·rw [if_pos c21] at H
             have c21b0 : decide (((rd_T25 t329 x6_1).f1) < ((rd_T25 t332 x7_1).f1)) = true := decide_eq_true c21; clear c21; have H' := Aside0.mk H; clear H; (try go_wp2); replace HO_0 := Aside0.mk (Kd.V_drew HO_0.out); replace HO_1 := Aside0.mk (Kd.V_drew HO_1.out); replace HO_5 := Aside0.mk (Kd.R_drew HO_5.out); replace HB := Aside0.mk (below_drew1 HB.out); obtain ⟨Ao23, co23, eo23⟩ := Kd.V_slice HO_0.out; (first | subst eo23 | (injection eo23 with f1_ f2_ f3_; have f4_ := f1_.symm; have f5_ := f3_.symm; clear f1_ f2_ f3_; subst f4_; subst f5_)); have p335 : 0 ≤ (x6_1 : Int) := od_; have q335 : x6_1 < (t329.length : Int) := od_; obtain ⟨ad335, e335, hx335_0, hx335_1⟩ := at_T25 (Kd.V_reads' HO_0.out).2.2 x6_1 p335 q335
             cases e335
             replace p335 := eq_true p335; replace q335 := eq_true q335; obtain ⟨Ao24, co24, eo24⟩ := Kd.V_slice HO_1.out; (first | subst eo24 | (injection eo24 with f1_ f2_ f3_; have f4_ := f1_.symm; have f5_ := f3_.symm; clear f1_ f2_ f3_; subst f4_; subst f5_)); have p336 : 0 ≤ (x7_1 : Int) := od_; have q336 : x7_1 < (t332.length : Int) := od_; obtain ⟨ad336, e336, hx336_0, hx336_1⟩ := at_T25 (Kd.V_reads' HO_1.out).2.2 x7_1 p336 q336
             cases e336
             replace p336 := eq_true p336; replace q336 := eq_true q336; have p337 : 0 ≤ (x6_1 : Int) := od_; have q337 : x6_1 < (t329.length : Int) := od_; obtain ⟨ad337, e337, hx337_0, hx337_1⟩ := at_T25 (Kd.V_reads' HO_0.out).2.2 x6_1 p337 q337; obtain rfl : ad335 = ad337 := (by injection e337); replace p337 := eq_true p337; replace q337 := eq_true q337; have p338 : 0 ≤ (x7_1 : Int) := od_; have q338 : x7_1 < (t332.length : Int) := od_; obtain ⟨ad338, e338, hx338_0, hx338_1⟩ := at_T25 (Kd.V_reads' HO_1.out).2.2 x7_1 p338 q338; obtain rfl : ad336 = ad338 := (by injection e338); replace p338 := eq_true p338; replace q338 := eq_true q338; refine start_ (n := 25) (S := fun w' => w'.cell? (ad335.add ((x6_1).toNat * 2)) = some (.int .i64 ((rd_T25 t329 x6_1).f0)) ∧ w'.cell? ⟨(ad335.add ((x6_1).toNat * 2)).block, (ad335.add ((x6_1).toNat * 2)).off + 1, none⟩ = some (.int .i64 ((rd_T25 t329 x6_1).f1)) ∧ w'.cell? (ad336.add ((x7_1).toNat * 2)) = some (.int .i64 ((rd_T25 t332 x7_1).f0)) ∧ w'.cell? ⟨(ad336.add ((x7_1).toNat * 2)).block, (ad336.add ((x7_1).toNat * 2)).off + 1, none⟩ = some (.int .i64 ((rd_T25 t332 x7_1).f1)) ∧ w'.cell? (ad335.add ((x6_1).toNat * 2)) = some (.int .i64 ((rd_T25 t329 x6_1).f0)) ∧ w'.cell? ⟨(ad335.add ((x6_1).toNat * 2)).block, (ad335.add ((x6_1).toNat * 2)).off + 1, none⟩ = some (.int .i64 ((rd_T25 t329 x6_1).f1)) ∧ w'.cell? (ad336.add ((x7_1).toNat * 2)) = some (.int .i64 ((rd_T25 t332 x7_1).f0)) ∧ w'.cell? ⟨(ad336.add ((x7_1).toNat * 2)).block, (ad336.add ((x7_1).toNat * 2)).off + 1, none⟩ = some (.int .i64 ((rd_T25 t332 x7_1).f1))) (ds := []) (ab 25 0) (by kernel_rfl) rfl rfl ⟨hx335_0, hx335_1, hx336_0, hx336_1, hx337_0, hx337_1, hx338_0, hx338_1⟩ (fun hHeld => ?_); refine with_tabW sets_Meet.tab5 sets_Meet.bits5 (fun HT_ HW_ => ?_); generalize wc.drew = w22 at HO_0 HO_1 HO_5 HB hx335_0 hx335_1 hx336_0 hx336_1 hx337_0 hx337_1 hx338_0 hx338_1 hHeld ⊢; refine pA 0 23 25 1 ?_; refine pA 1 24 25 3 ?_; refine pA 2 25 25 7 ?_; refine pA 3 26 25 15 ?_; refine pA 5 28 25 47 ?_; refine pA 6 29 25 111 ?_; refine pA 7 30 25 239 ?_; refine pA 8 31 25 495 ?_; refine pA 11 34 25 2543 ?_; refine pA 12 35 25 6639 ?_; refine pA 13 36 25 14831 ?_; refine pA 14 37 25 31215 ?_; refine pA 16 39 25 96751 ?_; refine pA 17 40 25 227823 ?_; refine pA 18 41 25 489967 ?_; refine pA 19 42 25 1014255 ?_; refine takeA 4 (some 27) (ab 25 1014271) rfl rfl (take_ofW HT_.out HW_.out (by kernel_rfl)) (Or.inl ⟨by rfl, by rintro w' ⟨s0, s1, s2, s3, s4, s5, s6, s7⟩; go_simp; with_reducible rfl⟩) hHeld ?_; refine takeA 9 (some 32) (ab 25 1014783) rfl rfl (take_ofW HT_.out HW_.out (by kernel_rfl)) (Or.inl ⟨by rfl, by rintro w' ⟨s0, s1, s2, s3, s4, s5, s6, s7⟩; go_simp; with_reducible rfl⟩) hHeld ?_; refine pA 10 33 25 1015807 ?_; refine takeA 15 (some 38) (ab 25 1048575) rfl rfl (take_ofW HT_.out HW_.out (by kernel_rfl)) (Or.inl ⟨by rfl, by rintro w' ⟨s0, s1, s2, s3, s4, s5, s6, s7⟩; go_simp; with_reducible rfl⟩) hHeld ?_; refine takeA 20 (some 43) (ab 25 2097151) rfl rfl (take_ofW HT_.out HW_.out (by kernel_rfl)) (Or.inl ⟨by rfl, by rintro w' ⟨s0, s1, s2, s3, s4, s5, s6, s7⟩; go_simp; with_reducible rfl⟩) hHeld ?_; refine pA 21 44 25 4194303 ?_; refine pA 22 45 25 8388607 ?_; refine one_ (i := 23) (N := some 8) (ab 25 16777215) rfl rfl (one_of HT_.out (by kernel_rfl)) (by decide) (fun K hK => ?_); refine box_step ?hg (N := 8) ?hd (cs := #[.int .i64 0, .int .i64 0]) (t := 25) ?hr ?_; (case hd => rfl); (case hg => rfl); (case hr => first | (go_simp; done) | (go_simp; rfl)); intro gb339 hg w25 hbox hb; have NE0_ : ad335.block ≠ gb339 := (by have h_ := World.block_lt_of_cell? _ _ hHeld.1; rw [add_block] at h_; omega); have NE1_ : ad336.block ≠ gb339 := (by have h_ := World.block_lt_of_cell? _ _ hHeld.2.2.1; rw [add_block] at h_; omega); have HS0_ := (hb.cell (World.block_lt_of_cell? _ _ (hHeld.1))).trans (hHeld.1); have HS1_ := (hb.cell (World.block_lt_of_cell? _ _ (hHeld.2.1))).trans (hHeld.2.1); have HS2_ := (hb.cell (World.block_lt_of_cell? _ _ (hHeld.2.2.1))).trans (hHeld.2.2.1); have HS3_ := (hb.cell (World.block_lt_of_cell? _ _ (hHeld.2.2.2.1))).trans (hHeld.2.2.2.1); have HS4_ := (hb.cell (World.block_lt_of_cell? _ _ (hHeld.2.2.2.2.1))).trans (hHeld.2.2.2.2.1); have HS5_ := (hb.cell (World.block_lt_of_cell? _ _ (hHeld.2.2.2.2.2.1))).trans (hHeld.2.2.2.2.2.1)
             have HS6_ := (hb.cell (World.block_lt_of_cell? _ _ (hHeld.2.2.2.2.2.2.1))).trans (hHeld.2.2.2.2.2.2.1); have HS7_ := (hb.cell (World.block_lt_of_cell? _ _ (hHeld.2.2.2.2.2.2.2))).trans (hHeld.2.2.2.2.2.2.2); have n0_ := Aside0.mk (Kd.V_below (Kd.V_elderB (by (with_reducible repeat (first | apply Kd.V_alloc | apply Kd.V_drewN | apply Kd.V_drew)); exact HO_0.out) gb339 (Nat.le_of_eq hg.symm)) hb); have n1_ := Aside0.mk (Kd.V_below (Kd.V_elderB (by (with_reducible repeat (first | apply Kd.V_alloc | apply Kd.V_drewN | apply Kd.V_drew)); exact HO_1.out) gb339 (Nat.le_of_eq hg.symm)) hb); have n2_ := Aside0.mk (Kd.R_below (Kd.R_elderB (by (with_reducible repeat (first | apply Kd.R_alloc | apply Kd.R_drewN | apply Kd.R_drew)); exact HO_5.out) gb339 (Nat.le_of_eq hg.symm)) hb); have n3_ := Aside0.mk (below_step hb_ hb); have n4_ := Aside0.mk (hbox); have n5_ := Aside0.mk ((by rw [hg]; exact (below_size hb_) : w.heap.size ≤ gb339)); have n6_ := Aside0.mk ((by rw [hg]; exact (below_size hb_) : w.heap.size ≤ gb339)); clear HO_0; clear HO_1; clear HO_5; clear HB; have HO_0 := n0_; have HO_1 := n1_; have HO_5 := n2_; have HB := n3_; have BK339 := n4_; have GW339 := n5_; have GE339 := n6_; clear n0_ n1_ n2_ n3_ n4_ n5_ n6_; clear hb hbox hg; refine hK.out _ _ ⟨HS0_, HS1_, HS2_, HS3_, HS4_, HS5_, HS6_, HS7_⟩ (fun hHeld => ?_); clear hK K; refine nA ?_; refine one_ (i := 24) (N := none) (ab 25 33554431) rfl rfl (one_of HT_.out (by kernel_rfl)) (by decide) (fun K hK => ?_); have hs26 : w25.cell? ⟨gb339, 0, none⟩ = some (.int .i64 0) := (blk_cell BK339.out 0).trans rfl; have hfs26 := blk_frozen BK339.out 0; have hs27 : w25.cell? ⟨gb339, 1, none⟩ = some (.int .i64 0) := (blk_cell BK339.out 1).trans rfl; have hfs27 := blk_frozen BK339.out 1; refine sA ?_; refine hK.out _ _ ⟨((cell_far (p := ⟨gb339, _, none⟩) (by first | exact NE0_ | (rw [add_block]; exact NE0_) | (show (Addr.add _ _).block ≠ _; rw [add_block]; exact NE0_) | (dsimp only; exact NE0_)) _).trans (((cell_far (p := ⟨gb339, _, none⟩) (by first | exact NE0_ | (rw [add_block]; exact NE0_) | (show (Addr.add _ _).block ≠ _; rw [add_block]; exact NE0_) | (dsimp only; exact NE0_)) _).trans (hHeld.1)))), ((cell_far (p := ⟨gb339, _, none⟩) (by first | exact NE0_ | (rw [add_block]; exact NE0_) | (show (Addr.add _ _).block ≠ _; rw [add_block]; exact NE0_) | (dsimp only; exact NE0_)) _).trans (((cell_far (p := ⟨gb339, _, none⟩) (by first | exact NE0_ | (rw [add_block]; exact NE0_) | (show (Addr.add _ _).block ≠ _; rw [add_block]; exact NE0_) | (dsimp only; exact NE0_)) _).trans (hHeld.2.1)))), ((cell_far (p := ⟨gb339, _, none⟩) (by first | exact NE1_ | (rw [add_block]; exact NE1_) | (show (Addr.add _ _).block ≠ _; rw [add_block]; exact NE1_) | (dsimp only; exact NE1_)) _).trans (((cell_far (p := ⟨gb339, _, none⟩) (by first | exact NE1_ | (rw [add_block]; exact NE1_) | (show (Addr.add _ _).block ≠ _; rw [add_block]; exact NE1_) | (dsimp only; exact NE1_)) _).trans (hHeld.2.2.1)))), ((cell_far (p := ⟨gb339, _, none⟩) (by first | exact NE1_ | (rw [add_block]; exact NE1_) | (show (Addr.add _ _).block ≠ _; rw [add_block]; exact NE1_) | (dsimp only; exact NE1_)) _).trans (((cell_far (p := ⟨gb339, _, none⟩) (by first | exact NE1_ | (rw [add_block]; exact NE1_) | (show (Addr.add _ _).block ≠ _; rw [add_block]; exact NE1_) | (dsimp only; exact NE1_)) _).trans (hHeld.2.2.2.1)))), ((cell_far (p := ⟨gb339, _, none⟩) (by first | exact NE0_ | (rw [add_block]; exact NE0_) | (show (Addr.add _ _).block ≠ _; rw [add_block]; exact NE0_) | (dsimp only; exact NE0_)) _).trans (((cell_far (p := ⟨gb339, _, none⟩) (by first | exact NE0_ | (rw [add_block]; exact NE0_) | (show (Addr.add _ _).block ≠ _; rw [add_block]; exact NE0_) | (dsimp only; exact NE0_)) _).trans (hHeld.2.2.2.2.1)))), ((cell_far (p := ⟨gb339, _, none⟩) (by first | exact NE0_ | (rw [add_block]; exact NE0_) | (show (Addr.add _ _).block ≠ _; rw [add_block]; exact NE0_) | (dsimp only; exact NE0_)) _).trans (((cell_far (p := ⟨gb339, _, none⟩) (by first | exact NE0_ | (rw [add_block]; exact NE0_) | (show (Addr.add _ _).block ≠ _; rw [add_block]; exact NE0_) | (dsimp only; exact NE0_)) _).trans (hHeld.2.2.2.2.2.1)))), ((cell_far (p := ⟨gb339, _, none⟩) (by first | exact NE1_ | (rw [add_block]; exact NE1_) | (show (Addr.add _ _).block ≠ _; rw [add_block]; exact NE1_) | (dsimp only; exact NE1_)) _).trans (((cell_far (p := ⟨gb339, _, none⟩) (by first | exact NE1_ | (rw [add_block]; exact NE1_) | (show (Addr.add _ _).block ≠ _; rw [add_block]; exact NE1_) | (dsimp only; exact NE1_)) _).trans (hHeld.2.2.2.2.2.2.1)))), ((cell_far (p := ⟨gb339, _, none⟩) (by first | exact NE1_ | (rw [add_block]; exact NE1_) | (show (Addr.add _ _).block ≠ _; rw [add_block]; exact NE1_) | (dsimp only; exact NE1_)) _).trans (((cell_far (p := ⟨gb339, _, none⟩) (by first | exact NE1_ | (rw [add_block]; exact NE1_) | (show (Addr.add _ _).block ≠ _; rw [add_block]; exact NE1_) | (dsimp only; exact NE1_)) _).trans (hHeld.2.2.2.2.2.2.2))))⟩ (fun hHeld => ?_)
             clear hK K; refine done_ (done_of HT_.out (by kernel_rfl)) ?_; have hcz28_0 : w25.cell? ⟨gb339, 0, none⟩ = some (.int .i64 0) := (blk_cell BK339.out 0).trans rfl; have hcz28_1 : w25.cell? ⟨gb339, 1, none⟩ = some (.int .i64 0) := (blk_cell BK339.out 1).trans rfl; have hfz28_0 := blk_frozen BK339.out 0; have hfz28_1 := blk_frozen BK339.out 1; (try go_wp2_with (first | ((with_reducible refine gate_builtin (b := .append) (xs := #[.tmp 51, .tmp 53]) rfl ?_); (try (refine gate_guard (by rfl) ?_; dsimp only)); at_builtin; refine Kd.R_append k25 (w0 := w) w.heap.size rfl (.tmp 51) (.tmp 53) 23 25 (.agg #[(.int .i64 0), (.int .i64 0)]) 16 rfl Try.underlying23 info25 rfl (by decide) (by omega) u5 x5_1 (⟨ji17, ji18⟩ : S25) [.int .i64 ji17, .int .i64 ji18] (fun k_ => k_ ≠ gb339) (fun _ => False) rfl (by first | (go_simp; done) | (go_simp; rfl)) ?aP (fun _ hk => hk.elim) ?aF ?aO ?aB ?aS ?aL ?_; (case aP => exact k25_mkM _ _ _ (⟨ji17, ji18⟩ : S25)); (case aB => exact (by repeat (first | (with_reducible first | exact HB.out | apply below_alloc | apply pw_below_drewN | apply below_drew1 | refine below_set ?_ GE339.out) | exact HB.out))); (case aF => exact (fun k_ hk => Kd.freshB (g := gb339) (o := .cells #[.int .i64 ji17, .int .i64 ji18] 25 (0, 0)) (by (with_reducible repeat (first | refine blk_drewN ?_ _ | refine blk_drew ?_ | refine blk_alloc ?_ _)); refine blk_put (cs := #[.int .i64 ji17, .int .i64 0]) ?_ 1 _ rfl; (with_reducible repeat (first | refine blk_drewN ?_ _ | refine blk_drew ?_ | refine blk_alloc ?_ _)); refine blk_put (cs := #[.int .i64 0, .int .i64 0]) ?_ 0 _ rfl; (with_reducible repeat (first | refine blk_drewN ?_ _ | refine blk_drew ?_ | refine blk_alloc ?_ _)); exact BK339.out) k_ hk)); (case aO => exact (by (with_reducible repeat (first | apply Kd.R_alloc | apply Kd.R_drewN | apply Kd.R_drew)); exact Kd.R_mono (Kd.R_far (p := ⟨gb339, 1, none⟩) (Kd.R_far (p := ⟨gb339, 0, none⟩) (Kd.R_mono HO_5.out (fun k_ hk => (⟨hk, hk.2⟩ : _ ∧ k_ ≠ gb339))) (fun _ hk => hk.2) (.int .i64 ji17)) (fun _ hk => hk.2) (.int .i64 ji18)) (fun _ hk => hk.1.2))); (case aS => exact (below_size (by repeat (first | (with_reducible first | exact HB.out | apply below_alloc | apply pw_below_drewN | apply below_drew1 | refine below_set ?_ GE339.out) | exact HB.out)))); (case aL => have := LMc20.out; omega); intro v341 w29 ho hb hg hat; rw [← Ny340.out] at ho; have n0_ := Aside0.mk (Kd.V_afterv (ok := (fun k_ => k_ ≠ gb339)) (by (with_reducible repeat (first | apply Kd.V_alloc | apply Kd.V_drewN | apply Kd.V_drew)); exact Kd.V_mono (Kd.V_far (p := ⟨gb339, 1, none⟩) (Kd.V_far (p := ⟨gb339, 0, none⟩) (Kd.V_mono HO_0.out (fun k_ hk => (⟨hk, hk.2⟩ : _ ∧ k_ ≠ gb339))) (fun _ hk => hk.2) (.int .i64 ji17)) (fun _ hk => hk.2) (.int .i64 ji18)) (fun _ hk => ⟨hk.1.2, hk.1.1⟩)) hg hat); have n1_ := Aside0.mk (Kd.V_afterv (ok := (fun k_ => k_ ≠ gb339)) (by (with_reducible repeat (first | apply Kd.V_alloc | apply Kd.V_drewN | apply Kd.V_drew)); exact Kd.V_mono (Kd.V_far (p := ⟨gb339, 1, none⟩) (Kd.V_far (p := ⟨gb339, 0, none⟩) (Kd.V_mono HO_1.out (fun k_ hk => (⟨hk, hk.2⟩ : _ ∧ k_ ≠ gb339))) (fun _ hk => hk.2) (.int .i64 ji17)) (fun _ hk => hk.2) (.int .i64 ji18)) (fun _ hk => ⟨hk.1.2, hk.1.1⟩)) hg hat); have n2_ := Aside0.mk (blk_grown (g := gb339) (o := .cells #[.int .i64 ji17, .int .i64 ji18] 25 (0, 0)) (by (with_reducible repeat (first | refine blk_drewN ?_ _ | refine blk_drew ?_ | refine blk_alloc ?_ _)); refine blk_put (cs := #[.int .i64 ji17, .int .i64 0]) ?_ 1 _ rfl; (with_reducible repeat (first | refine blk_drewN ?_ _ | refine blk_drew ?_ | refine blk_alloc ?_ _)); refine blk_put (cs := #[.int .i64 0, .int .i64 0]) ?_ 0 _ rfl; (with_reducible repeat (first | refine blk_drewN ?_ _ | refine blk_drew ?_ | refine blk_alloc ?_ _)); exact BK339.out) hg (Kd.R_away HO_5.out (fun _ hk => hk.2))); have n3_ := Aside0.mk (hb); have n4_ := Aside0.mk (ho); clear HO_0; clear HO_1; clear BK339; clear HB; clear HO_5; have HO_0 := n0_; have HO_1 := n1_; have BK339 := n2_; have HB := n3_; have HO342 := n4_; clear n0_ n1_ n2_ n3_ n4_; clear ho hb hg hat)))
             replace HO_0 := Aside0.mk (Kd.V_drew HO_0.out); replace HO_1 := Aside0.mk (Kd.V_drew HO_1.out); replace HO342 := Aside0.mk (Kd.R_drew HO342.out); replace BK339 := Aside0.mk (blk_drew BK339.out); replace HB := Aside0.mk (below_drew1 HB.out); have p343 : 0 ≤ (x6_1 : Int) := od_; have q343 : x6_1 < (t329.length : Int) := od_; obtain ⟨ad343, e343, hx343_0, hx343_1⟩ := at_T25 (Kd.V_reads' HO_0.out).2.2 x6_1 p343 q343; obtain rfl : ad335 = ad343 := (by injection e343); replace p343 := eq_true p343; replace q343 := eq_true q343; have p344 : 0 ≤ (x7_1 : Int) := od_; have q344 : x7_1 < (t332.length : Int) := od_; obtain ⟨ad344, e344, hx344_0, hx344_1⟩ := at_T25 (Kd.V_reads' HO_1.out).2.2 x7_1 p344 q344; obtain rfl : ad336 = ad344 := (by injection e344); replace p344 := eq_true p344; replace q344 := eq_true q344; refine start_ (n := 11) (S := fun w' => w'.cell? (ad335.add ((x6_1).toNat * 2)) = some (.int .i64 ((rd_T25 t329 x6_1).f0)) ∧ w'.cell? ⟨(ad335.add ((x6_1).toNat * 2)).block, (ad335.add ((x6_1).toNat * 2)).off + 1, none⟩ = some (.int .i64 ((rd_T25 t329 x6_1).f1)) ∧ w'.cell? (ad336.add ((x7_1).toNat * 2)) = some (.int .i64 ((rd_T25 t332 x7_1).f0)) ∧ w'.cell? ⟨(ad336.add ((x7_1).toNat * 2)).block, (ad336.add ((x7_1).toNat * 2)).off + 1, none⟩ = some (.int .i64 ((rd_T25 t332 x7_1).f1))) (ds := []) (ab 11 0) (by kernel_rfl) rfl rfl ⟨hx343_0, hx343_1, hx344_0, hx344_1⟩ (fun hHeld => ?_); refine with_tabW sets_Meet.tab8 sets_Meet.bits8 (fun HT_ HW_ => ?_); generalize w29.drew = w30 at HO_0 HO_1 HO342 BK339 HB hx343_0 hx343_1 hx344_0 hx344_1 hHeld ⊢; refine pA 0 55 11 1 ?_; refine pA 1 56 11 3 ?_; refine pA 2 57 11 7 ?_; refine pA 3 58 11 15 ?_; refine pA 5 60 11 47 ?_; refine pA 6 61 11 111 ?_; refine pA 7 62 11 239 ?_; refine pA 8 63 11 495 ?_; refine tA 4 59 11 511 ?_; refine tA 9 64 11 1023 ?_; refine pA 10 65 11 2047 ?_; refine done_ (done_of HT_.out (by kernel_rfl)) ?_; (try go_wp2); go_roundg kj6
             case measure => have := HK1.out; have := HJ6.out; omega
             case rel => exact ⟨(y340), (wrap64 (x6_1 + 1)), (x7_1), rf_, rf_, H', ⟨by have := HK1.out; have := HJ6.out; omega⟩, ⟨by (with_reducible repeat (first | apply Kd.V_alloc | apply Kd.V_drewN | apply Kd.V_drew)); exact Kd.V_mono HO_0.out (fun _ hk => hk.2)⟩, ⟨by (with_reducible repeat (first | apply Kd.V_alloc | apply Kd.V_drewN | apply Kd.V_drew)); exact Kd.V_mono HO_1.out (fun _ hk => hk.2)⟩, ⟨by (with_reducible repeat (first | apply Kd.R_alloc | apply Kd.R_drewN | apply Kd.R_drew)); exact Kd.R_mono HO342.out (fun _ hk => trivial)⟩, ⟨by repeat (first | (with_reducible first | exact HB.out | apply below_alloc | apply pw_below_drewN | apply below_drew1 | refine below_set ?_ GE339.out) | exact HB.out)⟩⟩
            ·rw [if_neg c21] at H
             have c21b0 : decide (((rd_T25 t329 x6_1).f1) < ((rd_T25 t332 x7_1).f1)) = false := decide_eq_false c21; clear c21; have H' := Aside0.mk H; clear H; (try go_wp2); replace HO_0 := Aside0.mk (Kd.V_drew HO_0.out); replace HO_1 := Aside0.mk (Kd.V_drew HO_1.out); replace HO_5 := Aside0.mk (Kd.R_drew HO_5.out); replace HB := Aside0.mk (below_drew1 HB.out); obtain ⟨Ao32, co32, eo32⟩ := Kd.V_slice HO_0.out; (first | subst eo32 | (injection eo32 with f1_ f2_ f3_; have f4_ := f1_.symm; have f5_ := f3_.symm; clear f1_ f2_ f3_; subst f4_; subst f5_)); have p335 : 0 ≤ (x6_1 : Int) := od_; have q335 : x6_1 < (t329.length : Int) := od_; obtain ⟨ad335, e335, hx335_0, hx335_1⟩ := at_T25 (Kd.V_reads' HO_0.out).2.2 x6_1 p335 q335
             cases e335
             replace p335 := eq_true p335; replace q335 := eq_true q335; obtain ⟨Ao33, co33, eo33⟩ := Kd.V_slice HO_1.out; (first | subst eo33 | (injection eo33 with f1_ f2_ f3_; have f4_ := f1_.symm; have f5_ := f3_.symm; clear f1_ f2_ f3_; subst f4_; subst f5_)); have p336 : 0 ≤ (x7_1 : Int) := od_; have q336 : x7_1 < (t332.length : Int) := od_; obtain ⟨ad336, e336, hx336_0, hx336_1⟩ := at_T25 (Kd.V_reads' HO_1.out).2.2 x7_1 p336 q336
             cases e336
             replace p336 := eq_true p336; replace q336 := eq_true q336; have p337 : 0 ≤ (x6_1 : Int) := od_; have q337 : x6_1 < (t329.length : Int) := od_; obtain ⟨ad337, e337, hx337_0, hx337_1⟩ := at_T25 (Kd.V_reads' HO_0.out).2.2 x6_1 p337 q337; obtain rfl : ad335 = ad337 := (by injection e337); replace p337 := eq_true p337; replace q337 := eq_true q337; have p338 : 0 ≤ (x7_1 : Int) := od_; have q338 : x7_1 < (t332.length : Int) := od_; obtain ⟨ad338, e338, hx338_0, hx338_1⟩ := at_T25 (Kd.V_reads' HO_1.out).2.2 x7_1 p338 q338; obtain rfl : ad336 = ad338 := (by injection e338); replace p338 := eq_true p338; replace q338 := eq_true q338; refine start_ (n := 25) (S := fun w' => w'.cell? (ad335.add ((x6_1).toNat * 2)) = some (.int .i64 ((rd_T25 t329 x6_1).f0)) ∧ w'.cell? ⟨(ad335.add ((x6_1).toNat * 2)).block, (ad335.add ((x6_1).toNat * 2)).off + 1, none⟩ = some (.int .i64 ((rd_T25 t329 x6_1).f1)) ∧ w'.cell? (ad336.add ((x7_1).toNat * 2)) = some (.int .i64 ((rd_T25 t332 x7_1).f0)) ∧ w'.cell? ⟨(ad336.add ((x7_1).toNat * 2)).block, (ad336.add ((x7_1).toNat * 2)).off + 1, none⟩ = some (.int .i64 ((rd_T25 t332 x7_1).f1)) ∧ w'.cell? (ad335.add ((x6_1).toNat * 2)) = some (.int .i64 ((rd_T25 t329 x6_1).f0)) ∧ w'.cell? ⟨(ad335.add ((x6_1).toNat * 2)).block, (ad335.add ((x6_1).toNat * 2)).off + 1, none⟩ = some (.int .i64 ((rd_T25 t329 x6_1).f1)) ∧ w'.cell? (ad336.add ((x7_1).toNat * 2)) = some (.int .i64 ((rd_T25 t332 x7_1).f0)) ∧ w'.cell? ⟨(ad336.add ((x7_1).toNat * 2)).block, (ad336.add ((x7_1).toNat * 2)).off + 1, none⟩ = some (.int .i64 ((rd_T25 t332 x7_1).f1))) (ds := []) (ab 25 0) (by kernel_rfl) rfl rfl ⟨hx335_0, hx335_1, hx336_0, hx336_1, hx337_0, hx337_1, hx338_0, hx338_1⟩ (fun hHeld => ?_); refine with_tabW sets_Meet.tab5 sets_Meet.bits5 (fun HT_ HW_ => ?_); generalize wc.drew = w31 at HO_0 HO_1 HO_5 HB hx335_0 hx335_1 hx336_0 hx336_1 hx337_0 hx337_1 hx338_0 hx338_1 hHeld ⊢; refine pA 0 23 25 1 ?_; refine pA 1 24 25 3 ?_; refine pA 2 25 25 7 ?_; refine pA 3 26 25 15 ?_; refine pA 5 28 25 47 ?_; refine pA 6 29 25 111 ?_; refine pA 7 30 25 239 ?_; refine pA 8 31 25 495 ?_; refine pA 11 34 25 2543 ?_; refine pA 12 35 25 6639 ?_; refine pA 13 36 25 14831 ?_; refine pA 14 37 25 31215 ?_; refine pA 16 39 25 96751 ?_; refine pA 17 40 25 227823 ?_; refine pA 18 41 25 489967 ?_; refine pA 19 42 25 1014255 ?_; refine takeA 4 (some 27) (ab 25 1014271) rfl rfl (take_ofW HT_.out HW_.out (by kernel_rfl)) (Or.inl ⟨by rfl, by rintro w' ⟨s0, s1, s2, s3, s4, s5, s6, s7⟩; go_simp; with_reducible rfl⟩) hHeld ?_; refine takeA 9 (some 32) (ab 25 1014783) rfl rfl (take_ofW HT_.out HW_.out (by kernel_rfl)) (Or.inl ⟨by rfl, by rintro w' ⟨s0, s1, s2, s3, s4, s5, s6, s7⟩; go_simp; with_reducible rfl⟩) hHeld ?_; refine pA 10 33 25 1015807 ?_; refine takeA 15 (some 38) (ab 25 1048575) rfl rfl (take_ofW HT_.out HW_.out (by kernel_rfl)) (Or.inl ⟨by rfl, by rintro w' ⟨s0, s1, s2, s3, s4, s5, s6, s7⟩; go_simp; with_reducible rfl⟩) hHeld ?_; refine takeA 20 (some 43) (ab 25 2097151) rfl rfl (take_ofW HT_.out HW_.out (by kernel_rfl)) (Or.inl ⟨by rfl, by rintro w' ⟨s0, s1, s2, s3, s4, s5, s6, s7⟩; go_simp; with_reducible rfl⟩) hHeld ?_; refine pA 21 44 25 4194303 ?_; refine pA 22 45 25 8388607 ?_; refine one_ (i := 23) (N := some 8) (ab 25 16777215) rfl rfl (one_of HT_.out (by kernel_rfl)) (by decide) (fun K hK => ?_); refine box_step ?hg (N := 8) ?hd (cs := #[.int .i64 0, .int .i64 0]) (t := 25) ?hr ?_; (case hd => rfl); (case hg => rfl); (case hr => first | (go_simp; done) | (go_simp; rfl)); intro gb339 hg w34 hbox hb; have NE0_ : ad335.block ≠ gb339 := (by have h_ := World.block_lt_of_cell? _ _ hHeld.1; rw [add_block] at h_; omega); have NE1_ : ad336.block ≠ gb339 := (by have h_ := World.block_lt_of_cell? _ _ hHeld.2.2.1; rw [add_block] at h_; omega); have HS0_ := (hb.cell (World.block_lt_of_cell? _ _ (hHeld.1))).trans (hHeld.1); have HS1_ := (hb.cell (World.block_lt_of_cell? _ _ (hHeld.2.1))).trans (hHeld.2.1); have HS2_ := (hb.cell (World.block_lt_of_cell? _ _ (hHeld.2.2.1))).trans (hHeld.2.2.1); have HS3_ := (hb.cell (World.block_lt_of_cell? _ _ (hHeld.2.2.2.1))).trans (hHeld.2.2.2.1); have HS4_ := (hb.cell (World.block_lt_of_cell? _ _ (hHeld.2.2.2.2.1))).trans (hHeld.2.2.2.2.1); have HS5_ := (hb.cell (World.block_lt_of_cell? _ _ (hHeld.2.2.2.2.2.1))).trans (hHeld.2.2.2.2.2.1)
             have HS6_ := (hb.cell (World.block_lt_of_cell? _ _ (hHeld.2.2.2.2.2.2.1))).trans (hHeld.2.2.2.2.2.2.1); have HS7_ := (hb.cell (World.block_lt_of_cell? _ _ (hHeld.2.2.2.2.2.2.2))).trans (hHeld.2.2.2.2.2.2.2); have n0_ := Aside0.mk (Kd.V_below (Kd.V_elderB (by (with_reducible repeat (first | apply Kd.V_alloc | apply Kd.V_drewN | apply Kd.V_drew)); exact HO_0.out) gb339 (Nat.le_of_eq hg.symm)) hb); have n1_ := Aside0.mk (Kd.V_below (Kd.V_elderB (by (with_reducible repeat (first | apply Kd.V_alloc | apply Kd.V_drewN | apply Kd.V_drew)); exact HO_1.out) gb339 (Nat.le_of_eq hg.symm)) hb); have n2_ := Aside0.mk (Kd.R_below (Kd.R_elderB (by (with_reducible repeat (first | apply Kd.R_alloc | apply Kd.R_drewN | apply Kd.R_drew)); exact HO_5.out) gb339 (Nat.le_of_eq hg.symm)) hb); have n3_ := Aside0.mk (below_step hb_ hb); have n4_ := Aside0.mk (hbox); have n5_ := Aside0.mk ((by rw [hg]; exact (below_size hb_) : w.heap.size ≤ gb339)); have n6_ := Aside0.mk ((by rw [hg]; exact (below_size hb_) : w.heap.size ≤ gb339)); clear HO_0; clear HO_1; clear HO_5; clear HB; have HO_0 := n0_; have HO_1 := n1_; have HO_5 := n2_; have HB := n3_; have BK339 := n4_; have GW339 := n5_; have GE339 := n6_; clear n0_ n1_ n2_ n3_ n4_ n5_ n6_; clear hb hbox hg; refine hK.out _ _ ⟨HS0_, HS1_, HS2_, HS3_, HS4_, HS5_, HS6_, HS7_⟩ (fun hHeld => ?_); clear hK K; refine nA ?_; refine one_ (i := 24) (N := none) (ab 25 33554431) rfl rfl (one_of HT_.out (by kernel_rfl)) (by decide) (fun K hK => ?_); have hs35 : w34.cell? ⟨gb339, 0, none⟩ = some (.int .i64 0) := (blk_cell BK339.out 0).trans rfl; have hfs35 := blk_frozen BK339.out 0; have hs36 : w34.cell? ⟨gb339, 1, none⟩ = some (.int .i64 0) := (blk_cell BK339.out 1).trans rfl; have hfs36 := blk_frozen BK339.out 1; refine sA ?_; refine hK.out _ _ ⟨((cell_far (p := ⟨gb339, _, none⟩) (by first | exact NE0_ | (rw [add_block]; exact NE0_) | (show (Addr.add _ _).block ≠ _; rw [add_block]; exact NE0_) | (dsimp only; exact NE0_)) _).trans (((cell_far (p := ⟨gb339, _, none⟩) (by first | exact NE0_ | (rw [add_block]; exact NE0_) | (show (Addr.add _ _).block ≠ _; rw [add_block]; exact NE0_) | (dsimp only; exact NE0_)) _).trans (hHeld.1)))), ((cell_far (p := ⟨gb339, _, none⟩) (by first | exact NE0_ | (rw [add_block]; exact NE0_) | (show (Addr.add _ _).block ≠ _; rw [add_block]; exact NE0_) | (dsimp only; exact NE0_)) _).trans (((cell_far (p := ⟨gb339, _, none⟩) (by first | exact NE0_ | (rw [add_block]; exact NE0_) | (show (Addr.add _ _).block ≠ _; rw [add_block]; exact NE0_) | (dsimp only; exact NE0_)) _).trans (hHeld.2.1)))), ((cell_far (p := ⟨gb339, _, none⟩) (by first | exact NE1_ | (rw [add_block]; exact NE1_) | (show (Addr.add _ _).block ≠ _; rw [add_block]; exact NE1_) | (dsimp only; exact NE1_)) _).trans (((cell_far (p := ⟨gb339, _, none⟩) (by first | exact NE1_ | (rw [add_block]; exact NE1_) | (show (Addr.add _ _).block ≠ _; rw [add_block]; exact NE1_) | (dsimp only; exact NE1_)) _).trans (hHeld.2.2.1)))), ((cell_far (p := ⟨gb339, _, none⟩) (by first | exact NE1_ | (rw [add_block]; exact NE1_) | (show (Addr.add _ _).block ≠ _; rw [add_block]; exact NE1_) | (dsimp only; exact NE1_)) _).trans (((cell_far (p := ⟨gb339, _, none⟩) (by first | exact NE1_ | (rw [add_block]; exact NE1_) | (show (Addr.add _ _).block ≠ _; rw [add_block]; exact NE1_) | (dsimp only; exact NE1_)) _).trans (hHeld.2.2.2.1)))), ((cell_far (p := ⟨gb339, _, none⟩) (by first | exact NE0_ | (rw [add_block]; exact NE0_) | (show (Addr.add _ _).block ≠ _; rw [add_block]; exact NE0_) | (dsimp only; exact NE0_)) _).trans (((cell_far (p := ⟨gb339, _, none⟩) (by first | exact NE0_ | (rw [add_block]; exact NE0_) | (show (Addr.add _ _).block ≠ _; rw [add_block]; exact NE0_) | (dsimp only; exact NE0_)) _).trans (hHeld.2.2.2.2.1)))), ((cell_far (p := ⟨gb339, _, none⟩) (by first | exact NE0_ | (rw [add_block]; exact NE0_) | (show (Addr.add _ _).block ≠ _; rw [add_block]; exact NE0_) | (dsimp only; exact NE0_)) _).trans (((cell_far (p := ⟨gb339, _, none⟩) (by first | exact NE0_ | (rw [add_block]; exact NE0_) | (show (Addr.add _ _).block ≠ _; rw [add_block]; exact NE0_) | (dsimp only; exact NE0_)) _).trans (hHeld.2.2.2.2.2.1)))), ((cell_far (p := ⟨gb339, _, none⟩) (by first | exact NE1_ | (rw [add_block]; exact NE1_) | (show (Addr.add _ _).block ≠ _; rw [add_block]; exact NE1_) | (dsimp only; exact NE1_)) _).trans (((cell_far (p := ⟨gb339, _, none⟩) (by first | exact NE1_ | (rw [add_block]; exact NE1_) | (show (Addr.add _ _).block ≠ _; rw [add_block]; exact NE1_) | (dsimp only; exact NE1_)) _).trans (hHeld.2.2.2.2.2.2.1)))), ((cell_far (p := ⟨gb339, _, none⟩) (by first | exact NE1_ | (rw [add_block]; exact NE1_) | (show (Addr.add _ _).block ≠ _; rw [add_block]; exact NE1_) | (dsimp only; exact NE1_)) _).trans (((cell_far (p := ⟨gb339, _, none⟩) (by first | exact NE1_ | (rw [add_block]; exact NE1_) | (show (Addr.add _ _).block ≠ _; rw [add_block]; exact NE1_) | (dsimp only; exact NE1_)) _).trans (hHeld.2.2.2.2.2.2.2))))⟩ (fun hHeld => ?_)
             clear hK K; refine done_ (done_of HT_.out (by kernel_rfl)) ?_; have hcz37_0 : w34.cell? ⟨gb339, 0, none⟩ = some (.int .i64 0) := (blk_cell BK339.out 0).trans rfl; have hcz37_1 : w34.cell? ⟨gb339, 1, none⟩ = some (.int .i64 0) := (blk_cell BK339.out 1).trans rfl; have hfz37_0 := blk_frozen BK339.out 0; have hfz37_1 := blk_frozen BK339.out 1; (try go_wp2_with (first | ((with_reducible refine gate_builtin (b := .append) (xs := #[.tmp 51, .tmp 53]) rfl ?_); (try (refine gate_guard (by rfl) ?_; dsimp only)); at_builtin; refine Kd.R_append k25 (w0 := w) w.heap.size rfl (.tmp 51) (.tmp 53) 23 25 (.agg #[(.int .i64 0), (.int .i64 0)]) 16 rfl Try.underlying23 info25 rfl (by decide) (by omega) u5 x5_1 (⟨ji17, ji18⟩ : S25) [.int .i64 ji17, .int .i64 ji18] (fun k_ => k_ ≠ gb339) (fun _ => False) rfl (by first | (go_simp; done) | (go_simp; rfl)) ?aP (fun _ hk => hk.elim) ?aF ?aO ?aB ?aS ?aL ?_; (case aP => exact k25_mkM _ _ _ (⟨ji17, ji18⟩ : S25)); (case aB => exact (by repeat (first | (with_reducible first | exact HB.out | apply below_alloc | apply pw_below_drewN | apply below_drew1 | refine below_set ?_ GE339.out) | exact HB.out))); (case aF => exact (fun k_ hk => Kd.freshB (g := gb339) (o := .cells #[.int .i64 ji17, .int .i64 ji18] 25 (0, 0)) (by (with_reducible repeat (first | refine blk_drewN ?_ _ | refine blk_drew ?_ | refine blk_alloc ?_ _)); refine blk_put (cs := #[.int .i64 ji17, .int .i64 0]) ?_ 1 _ rfl; (with_reducible repeat (first | refine blk_drewN ?_ _ | refine blk_drew ?_ | refine blk_alloc ?_ _)); refine blk_put (cs := #[.int .i64 0, .int .i64 0]) ?_ 0 _ rfl; (with_reducible repeat (first | refine blk_drewN ?_ _ | refine blk_drew ?_ | refine blk_alloc ?_ _)); exact BK339.out) k_ hk)); (case aO => exact (by (with_reducible repeat (first | apply Kd.R_alloc | apply Kd.R_drewN | apply Kd.R_drew)); exact Kd.R_mono (Kd.R_far (p := ⟨gb339, 1, none⟩) (Kd.R_far (p := ⟨gb339, 0, none⟩) (Kd.R_mono HO_5.out (fun k_ hk => (⟨hk, hk.2⟩ : _ ∧ k_ ≠ gb339))) (fun _ hk => hk.2) (.int .i64 ji17)) (fun _ hk => hk.2) (.int .i64 ji18)) (fun _ hk => hk.1.2))); (case aS => exact (below_size (by repeat (first | (with_reducible first | exact HB.out | apply below_alloc | apply pw_below_drewN | apply below_drew1 | refine below_set ?_ GE339.out) | exact HB.out)))); (case aL => have := LMc20.out; omega); intro v341 w38 ho hb hg hat; rw [← Ny340.out] at ho; have n0_ := Aside0.mk (Kd.V_afterv (ok := (fun k_ => k_ ≠ gb339)) (by (with_reducible repeat (first | apply Kd.V_alloc | apply Kd.V_drewN | apply Kd.V_drew)); exact Kd.V_mono (Kd.V_far (p := ⟨gb339, 1, none⟩) (Kd.V_far (p := ⟨gb339, 0, none⟩) (Kd.V_mono HO_0.out (fun k_ hk => (⟨hk, hk.2⟩ : _ ∧ k_ ≠ gb339))) (fun _ hk => hk.2) (.int .i64 ji17)) (fun _ hk => hk.2) (.int .i64 ji18)) (fun _ hk => ⟨hk.1.2, hk.1.1⟩)) hg hat); have n1_ := Aside0.mk (Kd.V_afterv (ok := (fun k_ => k_ ≠ gb339)) (by (with_reducible repeat (first | apply Kd.V_alloc | apply Kd.V_drewN | apply Kd.V_drew)); exact Kd.V_mono (Kd.V_far (p := ⟨gb339, 1, none⟩) (Kd.V_far (p := ⟨gb339, 0, none⟩) (Kd.V_mono HO_1.out (fun k_ hk => (⟨hk, hk.2⟩ : _ ∧ k_ ≠ gb339))) (fun _ hk => hk.2) (.int .i64 ji17)) (fun _ hk => hk.2) (.int .i64 ji18)) (fun _ hk => ⟨hk.1.2, hk.1.1⟩)) hg hat); have n2_ := Aside0.mk (blk_grown (g := gb339) (o := .cells #[.int .i64 ji17, .int .i64 ji18] 25 (0, 0)) (by (with_reducible repeat (first | refine blk_drewN ?_ _ | refine blk_drew ?_ | refine blk_alloc ?_ _)); refine blk_put (cs := #[.int .i64 ji17, .int .i64 0]) ?_ 1 _ rfl; (with_reducible repeat (first | refine blk_drewN ?_ _ | refine blk_drew ?_ | refine blk_alloc ?_ _)); refine blk_put (cs := #[.int .i64 0, .int .i64 0]) ?_ 0 _ rfl; (with_reducible repeat (first | refine blk_drewN ?_ _ | refine blk_drew ?_ | refine blk_alloc ?_ _)); exact BK339.out) hg (Kd.R_away HO_5.out (fun _ hk => hk.2))); have n3_ := Aside0.mk (hb); have n4_ := Aside0.mk (ho); clear HO_0; clear HO_1; clear BK339; clear HB; clear HO_5; have HO_0 := n0_; have HO_1 := n1_; have BK339 := n2_; have HB := n3_; have HO342 := n4_; clear n0_ n1_ n2_ n3_ n4_; clear ho hb hg hat)))
             replace HO_0 := Aside0.mk (Kd.V_drew HO_0.out); replace HO_1 := Aside0.mk (Kd.V_drew HO_1.out); replace HO342 := Aside0.mk (Kd.R_drew HO342.out); replace BK339 := Aside0.mk (blk_drew BK339.out); replace HB := Aside0.mk (below_drew1 HB.out); have p343 : 0 ≤ (x6_1 : Int) := od_; have q343 : x6_1 < (t329.length : Int) := od_; obtain ⟨ad343, e343, hx343_0, hx343_1⟩ := at_T25 (Kd.V_reads' HO_0.out).2.2 x6_1 p343 q343; obtain rfl : ad335 = ad343 := (by injection e343); replace p343 := eq_true p343; replace q343 := eq_true q343; have p344 : 0 ≤ (x7_1 : Int) := od_; have q344 : x7_1 < (t332.length : Int) := od_; obtain ⟨ad344, e344, hx344_0, hx344_1⟩ := at_T25 (Kd.V_reads' HO_1.out).2.2 x7_1 p344 q344; obtain rfl : ad336 = ad344 := (by injection e344); replace p344 := eq_true p344; replace q344 := eq_true q344; refine start_ (n := 11) (S := fun w' => w'.cell? (ad335.add ((x6_1).toNat * 2)) = some (.int .i64 ((rd_T25 t329 x6_1).f0)) ∧ w'.cell? ⟨(ad335.add ((x6_1).toNat * 2)).block, (ad335.add ((x6_1).toNat * 2)).off + 1, none⟩ = some (.int .i64 ((rd_T25 t329 x6_1).f1)) ∧ w'.cell? (ad336.add ((x7_1).toNat * 2)) = some (.int .i64 ((rd_T25 t332 x7_1).f0)) ∧ w'.cell? ⟨(ad336.add ((x7_1).toNat * 2)).block, (ad336.add ((x7_1).toNat * 2)).off + 1, none⟩ = some (.int .i64 ((rd_T25 t332 x7_1).f1))) (ds := []) (ab 11 0) (by kernel_rfl) rfl rfl ⟨hx343_0, hx343_1, hx344_0, hx344_1⟩ (fun hHeld => ?_); refine with_tabW sets_Meet.tab8 sets_Meet.bits8 (fun HT_ HW_ => ?_); generalize w38.drew = w39 at HO_0 HO_1 HO342 BK339 HB hx343_0 hx343_1 hx344_0 hx344_1 hHeld ⊢; refine pA 0 55 11 1 ?_; refine pA 1 56 11 3 ?_; refine pA 2 57 11 7 ?_; refine pA 3 58 11 15 ?_; refine pA 5 60 11 47 ?_; refine pA 6 61 11 111 ?_; refine pA 7 62 11 239 ?_; refine pA 8 63 11 495 ?_; refine tA 4 59 11 511 ?_; refine tA 9 64 11 1023 ?_; refine pA 10 65 11 2047 ?_; refine done_ (done_of HT_.out (by kernel_rfl)) ?_; (try go_wp2); go_roundg kj6
             case measure => have := HK1.out; have := HJ6.out; omega
             case rel => exact ⟨(y340), (x6_1), (wrap64 (x7_1 + 1)), rf_, rf_, H', ⟨by have := HK1.out; have := HJ6.out; omega⟩, ⟨by (with_reducible repeat (first | apply Kd.V_alloc | apply Kd.V_drewN | apply Kd.V_drew)); exact Kd.V_mono HO_0.out (fun _ hk => hk.2)⟩, ⟨by (with_reducible repeat (first | apply Kd.V_alloc | apply Kd.V_drewN | apply Kd.V_drew)); exact Kd.V_mono HO_1.out (fun _ hk => hk.2)⟩, ⟨by (with_reducible repeat (first | apply Kd.R_alloc | apply Kd.R_drewN | apply Kd.R_drew)); exact Kd.R_mono HO342.out (fun _ hk => trivial)⟩, ⟨by repeat (first | (with_reducible first | exact HB.out | apply below_alloc | apply pw_below_drewN | apply below_drew1 | refine below_set ?_ GE339.out) | exact HB.out)⟩⟩
           ·rw [if_neg c20] at H
            exact absurd H (by simp)
          ·rw [if_neg c19] at H
           have c19b0 : decide ((ji17) ≤ (ji18)) = false := decide_eq_false c19; clear c19
           by_cases c40 : ((rd_T25 t329 x6_1).f1) < ((rd_T25 t332 x7_1).f1)
           ·rw [if_pos c40] at H
            have c40b0 : decide (((rd_T25 t329 x6_1).f1) < ((rd_T25 t332 x7_1).f1)) = true := decide_eq_true c40; clear c40; have H' := Aside0.mk H; clear H; (try go_wp2); replace HO_0 := Aside0.mk (Kd.V_drew HO_0.out); replace HO_1 := Aside0.mk (Kd.V_drew HO_1.out); replace HO_5 := Aside0.mk (Kd.R_drew HO_5.out); replace HB := Aside0.mk (below_drew1 HB.out); obtain ⟨Ao42, co42, eo42⟩ := Kd.V_slice HO_0.out; (first | subst eo42 | (injection eo42 with f1_ f2_ f3_; have f4_ := f1_.symm; have f5_ := f3_.symm; clear f1_ f2_ f3_; subst f4_; subst f5_)); have p335 : 0 ≤ (x6_1 : Int) := od_; have q335 : x6_1 < (t329.length : Int) := od_; obtain ⟨ad335, e335, hx335_0, hx335_1⟩ := at_T25 (Kd.V_reads' HO_0.out).2.2 x6_1 p335 q335
            cases e335
            replace p335 := eq_true p335; replace q335 := eq_true q335; obtain ⟨Ao43, co43, eo43⟩ := Kd.V_slice HO_1.out; (first | subst eo43 | (injection eo43 with f1_ f2_ f3_; have f4_ := f1_.symm; have f5_ := f3_.symm; clear f1_ f2_ f3_; subst f4_; subst f5_)); have p336 : 0 ≤ (x7_1 : Int) := od_; have q336 : x7_1 < (t332.length : Int) := od_; obtain ⟨ad336, e336, hx336_0, hx336_1⟩ := at_T25 (Kd.V_reads' HO_1.out).2.2 x7_1 p336 q336
            cases e336
            replace p336 := eq_true p336; replace q336 := eq_true q336; have p337 : 0 ≤ (x6_1 : Int) := od_; have q337 : x6_1 < (t329.length : Int) := od_; obtain ⟨ad337, e337, hx337_0, hx337_1⟩ := at_T25 (Kd.V_reads' HO_0.out).2.2 x6_1 p337 q337; obtain rfl : ad335 = ad337 := (by injection e337); replace p337 := eq_true p337; replace q337 := eq_true q337; have p338 : 0 ≤ (x7_1 : Int) := od_; have q338 : x7_1 < (t332.length : Int) := od_; obtain ⟨ad338, e338, hx338_0, hx338_1⟩ := at_T25 (Kd.V_reads' HO_1.out).2.2 x7_1 p338 q338; obtain rfl : ad336 = ad338 := (by injection e338); replace p338 := eq_true p338; replace q338 := eq_true q338; refine start_ (n := 25) (S := fun w' => w'.cell? (ad335.add ((x6_1).toNat * 2)) = some (.int .i64 ((rd_T25 t329 x6_1).f0)) ∧ w'.cell? ⟨(ad335.add ((x6_1).toNat * 2)).block, (ad335.add ((x6_1).toNat * 2)).off + 1, none⟩ = some (.int .i64 ((rd_T25 t329 x6_1).f1)) ∧ w'.cell? (ad336.add ((x7_1).toNat * 2)) = some (.int .i64 ((rd_T25 t332 x7_1).f0)) ∧ w'.cell? ⟨(ad336.add ((x7_1).toNat * 2)).block, (ad336.add ((x7_1).toNat * 2)).off + 1, none⟩ = some (.int .i64 ((rd_T25 t332 x7_1).f1)) ∧ w'.cell? (ad335.add ((x6_1).toNat * 2)) = some (.int .i64 ((rd_T25 t329 x6_1).f0)) ∧ w'.cell? ⟨(ad335.add ((x6_1).toNat * 2)).block, (ad335.add ((x6_1).toNat * 2)).off + 1, none⟩ = some (.int .i64 ((rd_T25 t329 x6_1).f1)) ∧ w'.cell? (ad336.add ((x7_1).toNat * 2)) = some (.int .i64 ((rd_T25 t332 x7_1).f0)) ∧ w'.cell? ⟨(ad336.add ((x7_1).toNat * 2)).block, (ad336.add ((x7_1).toNat * 2)).off + 1, none⟩ = some (.int .i64 ((rd_T25 t332 x7_1).f1))) (ds := []) (ab 25 0) (by kernel_rfl) rfl rfl ⟨hx335_0, hx335_1, hx336_0, hx336_1, hx337_0, hx337_1, hx338_0, hx338_1⟩ (fun hHeld => ?_); refine with_tabW sets_Meet.tab5 sets_Meet.bits5 (fun HT_ HW_ => ?_); generalize wc.drew = w41 at HO_0 HO_1 HO_5 HB hx335_0 hx335_1 hx336_0 hx336_1 hx337_0 hx337_1 hx338_0 hx338_1 hHeld ⊢; refine pA 0 23 25 1 ?_; refine pA 1 24 25 3 ?_; refine pA 2 25 25 7 ?_; refine pA 3 26 25 15 ?_; refine pA 5 28 25 47 ?_; refine pA 6 29 25 111 ?_; refine pA 7 30 25 239 ?_; refine pA 8 31 25 495 ?_; refine pA 11 34 25 2543 ?_; refine pA 12 35 25 6639 ?_; refine pA 13 36 25 14831 ?_; refine pA 14 37 25 31215 ?_; refine pA 16 39 25 96751 ?_; refine pA 17 40 25 227823 ?_; refine pA 18 41 25 489967 ?_; refine pA 19 42 25 1014255 ?_; refine takeA 4 (some 27) (ab 25 1014271) rfl rfl (take_ofW HT_.out HW_.out (by kernel_rfl)) (Or.inl ⟨by rfl, by rintro w' ⟨s0, s1, s2, s3, s4, s5, s6, s7⟩; go_simp; with_reducible rfl⟩) hHeld ?_; refine takeA 9 (some 32) (ab 25 1014783) rfl rfl (take_ofW HT_.out HW_.out (by kernel_rfl)) (Or.inl ⟨by rfl, by rintro w' ⟨s0, s1, s2, s3, s4, s5, s6, s7⟩; go_simp; with_reducible rfl⟩) hHeld ?_; refine pA 10 33 25 1015807 ?_; refine takeA 15 (some 38) (ab 25 1048575) rfl rfl (take_ofW HT_.out HW_.out (by kernel_rfl)) (Or.inl ⟨by rfl, by rintro w' ⟨s0, s1, s2, s3, s4, s5, s6, s7⟩; go_simp; with_reducible rfl⟩) hHeld ?_; refine takeA 20 (some 43) (ab 25 2097151) rfl rfl (take_ofW HT_.out HW_.out (by kernel_rfl)) (Or.inl ⟨by rfl, by rintro w' ⟨s0, s1, s2, s3, s4, s5, s6, s7⟩; go_simp; with_reducible rfl⟩) hHeld ?_; refine pA 21 44 25 4194303 ?_; refine pA 22 45 25 8388607 ?_; refine one_ (i := 23) (N := some 8) (ab 25 16777215) rfl rfl (one_of HT_.out (by kernel_rfl)) (by decide) (fun K hK => ?_); refine box_step ?hg (N := 8) ?hd (cs := #[.int .i64 0, .int .i64 0]) (t := 25) ?hr ?_; (case hd => rfl); (case hg => rfl); (case hr => first | (go_simp; done) | (go_simp; rfl)); intro gb339 hg w44 hbox hb; have NE0_ : ad335.block ≠ gb339 := (by have h_ := World.block_lt_of_cell? _ _ hHeld.1; rw [add_block] at h_; omega); have NE1_ : ad336.block ≠ gb339 := (by have h_ := World.block_lt_of_cell? _ _ hHeld.2.2.1; rw [add_block] at h_; omega); have HS0_ := (hb.cell (World.block_lt_of_cell? _ _ (hHeld.1))).trans (hHeld.1); have HS1_ := (hb.cell (World.block_lt_of_cell? _ _ (hHeld.2.1))).trans (hHeld.2.1); have HS2_ := (hb.cell (World.block_lt_of_cell? _ _ (hHeld.2.2.1))).trans (hHeld.2.2.1); have HS3_ := (hb.cell (World.block_lt_of_cell? _ _ (hHeld.2.2.2.1))).trans (hHeld.2.2.2.1); have HS4_ := (hb.cell (World.block_lt_of_cell? _ _ (hHeld.2.2.2.2.1))).trans (hHeld.2.2.2.2.1); have HS5_ := (hb.cell (World.block_lt_of_cell? _ _ (hHeld.2.2.2.2.2.1))).trans (hHeld.2.2.2.2.2.1)
            have HS6_ := (hb.cell (World.block_lt_of_cell? _ _ (hHeld.2.2.2.2.2.2.1))).trans (hHeld.2.2.2.2.2.2.1); have HS7_ := (hb.cell (World.block_lt_of_cell? _ _ (hHeld.2.2.2.2.2.2.2))).trans (hHeld.2.2.2.2.2.2.2); have n0_ := Aside0.mk (Kd.V_below (Kd.V_elderB (by (with_reducible repeat (first | apply Kd.V_alloc | apply Kd.V_drewN | apply Kd.V_drew)); exact HO_0.out) gb339 (Nat.le_of_eq hg.symm)) hb); have n1_ := Aside0.mk (Kd.V_below (Kd.V_elderB (by (with_reducible repeat (first | apply Kd.V_alloc | apply Kd.V_drewN | apply Kd.V_drew)); exact HO_1.out) gb339 (Nat.le_of_eq hg.symm)) hb); have n2_ := Aside0.mk (Kd.R_below (Kd.R_elderB (by (with_reducible repeat (first | apply Kd.R_alloc | apply Kd.R_drewN | apply Kd.R_drew)); exact HO_5.out) gb339 (Nat.le_of_eq hg.symm)) hb); have n3_ := Aside0.mk (below_step hb_ hb); have n4_ := Aside0.mk (hbox); have n5_ := Aside0.mk ((by rw [hg]; exact (below_size hb_) : w.heap.size ≤ gb339)); have n6_ := Aside0.mk ((by rw [hg]; exact (below_size hb_) : w.heap.size ≤ gb339)); clear HO_0; clear HO_1; clear HO_5; clear HB; have HO_0 := n0_; have HO_1 := n1_; have HO_5 := n2_; have HB := n3_; have BK339 := n4_; have GW339 := n5_; have GE339 := n6_; clear n0_ n1_ n2_ n3_ n4_ n5_ n6_; clear hb hbox hg; refine hK.out _ _ ⟨HS0_, HS1_, HS2_, HS3_, HS4_, HS5_, HS6_, HS7_⟩ (fun hHeld => ?_); clear hK K; refine nA ?_; refine one_ (i := 24) (N := none) (ab 25 33554431) rfl rfl (one_of HT_.out (by kernel_rfl)) (by decide) (fun K hK => ?_); have hs45 : w44.cell? ⟨gb339, 0, none⟩ = some (.int .i64 0) := (blk_cell BK339.out 0).trans rfl; have hfs45 := blk_frozen BK339.out 0; have hs46 : w44.cell? ⟨gb339, 1, none⟩ = some (.int .i64 0) := (blk_cell BK339.out 1).trans rfl; have hfs46 := blk_frozen BK339.out 1; refine sA ?_; refine hK.out _ _ ⟨((cell_far (p := ⟨gb339, _, none⟩) (by first | exact NE0_ | (rw [add_block]; exact NE0_) | (show (Addr.add _ _).block ≠ _; rw [add_block]; exact NE0_) | (dsimp only; exact NE0_)) _).trans (((cell_far (p := ⟨gb339, _, none⟩) (by first | exact NE0_ | (rw [add_block]; exact NE0_) | (show (Addr.add _ _).block ≠ _; rw [add_block]; exact NE0_) | (dsimp only; exact NE0_)) _).trans (hHeld.1)))), ((cell_far (p := ⟨gb339, _, none⟩) (by first | exact NE0_ | (rw [add_block]; exact NE0_) | (show (Addr.add _ _).block ≠ _; rw [add_block]; exact NE0_) | (dsimp only; exact NE0_)) _).trans (((cell_far (p := ⟨gb339, _, none⟩) (by first | exact NE0_ | (rw [add_block]; exact NE0_) | (show (Addr.add _ _).block ≠ _; rw [add_block]; exact NE0_) | (dsimp only; exact NE0_)) _).trans (hHeld.2.1)))), ((cell_far (p := ⟨gb339, _, none⟩) (by first | exact NE1_ | (rw [add_block]; exact NE1_) | (show (Addr.add _ _).block ≠ _; rw [add_block]; exact NE1_) | (dsimp only; exact NE1_)) _).trans (((cell_far (p := ⟨gb339, _, none⟩) (by first | exact NE1_ | (rw [add_block]; exact NE1_) | (show (Addr.add _ _).block ≠ _; rw [add_block]; exact NE1_) | (dsimp only; exact NE1_)) _).trans (hHeld.2.2.1)))), ((cell_far (p := ⟨gb339, _, none⟩) (by first | exact NE1_ | (rw [add_block]; exact NE1_) | (show (Addr.add _ _).block ≠ _; rw [add_block]; exact NE1_) | (dsimp only; exact NE1_)) _).trans (((cell_far (p := ⟨gb339, _, none⟩) (by first | exact NE1_ | (rw [add_block]; exact NE1_) | (show (Addr.add _ _).block ≠ _; rw [add_block]; exact NE1_) | (dsimp only; exact NE1_)) _).trans (hHeld.2.2.2.1)))), ((cell_far (p := ⟨gb339, _, none⟩) (by first | exact NE0_ | (rw [add_block]; exact NE0_) | (show (Addr.add _ _).block ≠ _; rw [add_block]; exact NE0_) | (dsimp only; exact NE0_)) _).trans (((cell_far (p := ⟨gb339, _, none⟩) (by first | exact NE0_ | (rw [add_block]; exact NE0_) | (show (Addr.add _ _).block ≠ _; rw [add_block]; exact NE0_) | (dsimp only; exact NE0_)) _).trans (hHeld.2.2.2.2.1)))), ((cell_far (p := ⟨gb339, _, none⟩) (by first | exact NE0_ | (rw [add_block]; exact NE0_) | (show (Addr.add _ _).block ≠ _; rw [add_block]; exact NE0_) | (dsimp only; exact NE0_)) _).trans (((cell_far (p := ⟨gb339, _, none⟩) (by first | exact NE0_ | (rw [add_block]; exact NE0_) | (show (Addr.add _ _).block ≠ _; rw [add_block]; exact NE0_) | (dsimp only; exact NE0_)) _).trans (hHeld.2.2.2.2.2.1)))), ((cell_far (p := ⟨gb339, _, none⟩) (by first | exact NE1_ | (rw [add_block]; exact NE1_) | (show (Addr.add _ _).block ≠ _; rw [add_block]; exact NE1_) | (dsimp only; exact NE1_)) _).trans (((cell_far (p := ⟨gb339, _, none⟩) (by first | exact NE1_ | (rw [add_block]; exact NE1_) | (show (Addr.add _ _).block ≠ _; rw [add_block]; exact NE1_) | (dsimp only; exact NE1_)) _).trans (hHeld.2.2.2.2.2.2.1)))), ((cell_far (p := ⟨gb339, _, none⟩) (by first | exact NE1_ | (rw [add_block]; exact NE1_) | (show (Addr.add _ _).block ≠ _; rw [add_block]; exact NE1_) | (dsimp only; exact NE1_)) _).trans (((cell_far (p := ⟨gb339, _, none⟩) (by first | exact NE1_ | (rw [add_block]; exact NE1_) | (show (Addr.add _ _).block ≠ _; rw [add_block]; exact NE1_) | (dsimp only; exact NE1_)) _).trans (hHeld.2.2.2.2.2.2.2))))⟩ (fun hHeld => ?_)
            clear hK K; refine done_ (done_of HT_.out (by kernel_rfl)) ?_; have hcz47_0 : w44.cell? ⟨gb339, 0, none⟩ = some (.int .i64 0) := (blk_cell BK339.out 0).trans rfl; have hcz47_1 : w44.cell? ⟨gb339, 1, none⟩ = some (.int .i64 0) := (blk_cell BK339.out 1).trans rfl; have hfz47_0 := blk_frozen BK339.out 0; have hfz47_1 := blk_frozen BK339.out 1; (try go_wp2); have n0_ : Aside0 (Kd.V k25 25 ((w44.setCell ⟨gb339, 0, none⟩ (.int .i64 ji17)).setCell ⟨gb339, 1, none⟩ (.int .i64 ji18)) w.heap.size (fun k_ => some k_ ≠ (u5 : Value).ownBlock ∧ k_ ≠ gb339) (.slice (some ad335) t329.length co42) t329) := ⟨by (with_reducible repeat (first | apply Kd.V_alloc | apply Kd.V_drewN | apply Kd.V_drew)); exact Kd.V_mono (Kd.V_far (p := ⟨gb339, 1, none⟩) (Kd.V_far (p := ⟨gb339, 0, none⟩) (Kd.V_mono HO_0.out (fun k_ hk => (⟨hk, hk.2⟩ : _ ∧ k_ ≠ gb339))) (fun _ hk => hk.2) (.int .i64 ji17)) (fun _ hk => hk.2) (.int .i64 ji18)) (fun _ hk => ⟨hk.1.1, hk.1.2⟩)⟩; have n1_ : Aside0 (Kd.V k25 25 ((w44.setCell ⟨gb339, 0, none⟩ (.int .i64 ji17)).setCell ⟨gb339, 1, none⟩ (.int .i64 ji18)) w.heap.size (fun k_ => some k_ ≠ (u5 : Value).ownBlock ∧ k_ ≠ gb339) (.slice (some ad336) t332.length co43) t332) := ⟨by (with_reducible repeat (first | apply Kd.V_alloc | apply Kd.V_drewN | apply Kd.V_drew)); exact Kd.V_mono (Kd.V_far (p := ⟨gb339, 1, none⟩) (Kd.V_far (p := ⟨gb339, 0, none⟩) (Kd.V_mono HO_1.out (fun k_ hk => (⟨hk, hk.2⟩ : _ ∧ k_ ≠ gb339))) (fun _ hk => hk.2) (.int .i64 ji17)) (fun _ hk => hk.2) (.int .i64 ji18)) (fun _ hk => ⟨hk.1.1, hk.1.2⟩)⟩; have n2_ : Aside0 (Kd.R k25 25 ((w44.setCell ⟨gb339, 0, none⟩ (.int .i64 ji17)).setCell ⟨gb339, 1, none⟩ (.int .i64 ji18)) w.heap.size (fun k_ => k_ ≠ gb339) u5 x5_1) := ⟨by (with_reducible repeat (first | apply Kd.R_alloc | apply Kd.R_drewN | apply Kd.R_drew)); exact Kd.R_mono (Kd.R_far (p := ⟨gb339, 1, none⟩) (Kd.R_far (p := ⟨gb339, 0, none⟩) (Kd.R_mono HO_5.out (fun k_ hk => (⟨hk, hk.2⟩ : _ ∧ k_ ≠ gb339))) (fun _ hk => hk.2) (.int .i64 ji17)) (fun _ hk => hk.2) (.int .i64 ji18)) (fun _ hk => hk.1.2)⟩; have n3_ : Aside0 (((w44.setCell ⟨gb339, 0, none⟩ (.int .i64 ji17)).setCell ⟨gb339, 1, none⟩ (.int .i64 ji18)).heap[gb339]? = some (.cells #[.int .i64 ji17, .int .i64 ji18] 25 (0, 0))) := ⟨by (with_reducible repeat (first | refine blk_drewN ?_ _ | refine blk_drew ?_ | refine blk_alloc ?_ _)); refine blk_put (cs := #[.int .i64 ji17, .int .i64 0]) ?_ 1 _ rfl; (with_reducible repeat (first | refine blk_drewN ?_ _ | refine blk_drew ?_ | refine blk_alloc ?_ _)); refine blk_put (cs := #[.int .i64 0, .int .i64 0]) ?_ 0 _ rfl; (with_reducible repeat (first | refine blk_drewN ?_ _ | refine blk_drew ?_ | refine blk_alloc ?_ _)); exact BK339.out⟩; have n4_ : Aside0 (Below w.heap.size w ((w44.setCell ⟨gb339, 0, none⟩ (.int .i64 ji17)).setCell ⟨gb339, 1, none⟩ (.int .i64 ji18))) := ⟨by repeat (first | (with_reducible first | exact HB.out | apply below_alloc | apply pw_below_drewN | apply below_drew1 | refine below_set ?_ GE339.out) | exact HB.out)⟩; (try clear HO_0); (try clear HO_1); (try clear HO_5); (try clear BK339); (try clear HB); generalize ((w44.setCell ⟨gb339, 0, none⟩ (.int .i64 ji17)).setCell ⟨gb339, 1, none⟩ (.int .i64 ji18)) = w48 at n0_ n1_ n2_ n3_ n4_ ⊢; have HO_0 := n0_; have HO_1 := n1_; have HO_5 := n2_; have BK339 := n3_; have HB := n4_; clear n0_ n1_ n2_ n3_ n4_; replace HO_0 := Aside0.mk (Kd.V_drew HO_0.out); replace HO_1 := Aside0.mk (Kd.V_drew HO_1.out); replace HO_5 := Aside0.mk (Kd.R_drew HO_5.out); replace BK339 := Aside0.mk (blk_drew BK339.out); replace HB := Aside0.mk (below_drew1 HB.out); have p345 : 0 ≤ (x6_1 : Int) := od_; have q345 : x6_1 < (t329.length : Int) := od_; obtain ⟨ad345, e345, hx345_0, hx345_1⟩ := at_T25 (Kd.V_reads' HO_0.out).2.2 x6_1 p345 q345; obtain rfl : ad335 = ad345 := (by injection e345); replace p345 := eq_true p345; replace q345 := eq_true q345; have p346 : 0 ≤ (x7_1 : Int) := od_; have q346 : x7_1 < (t332.length : Int) := od_; obtain ⟨ad346, e346, hx346_0, hx346_1⟩ := at_T25 (Kd.V_reads' HO_1.out).2.2 x7_1 p346 q346
            obtain rfl : ad336 = ad346 := (by injection e346); replace p346 := eq_true p346; replace q346 := eq_true q346; refine start_ (n := 11) (S := fun w' => w'.cell? (ad335.add ((x6_1).toNat * 2)) = some (.int .i64 ((rd_T25 t329 x6_1).f0)) ∧ w'.cell? ⟨(ad335.add ((x6_1).toNat * 2)).block, (ad335.add ((x6_1).toNat * 2)).off + 1, none⟩ = some (.int .i64 ((rd_T25 t329 x6_1).f1)) ∧ w'.cell? (ad336.add ((x7_1).toNat * 2)) = some (.int .i64 ((rd_T25 t332 x7_1).f0)) ∧ w'.cell? ⟨(ad336.add ((x7_1).toNat * 2)).block, (ad336.add ((x7_1).toNat * 2)).off + 1, none⟩ = some (.int .i64 ((rd_T25 t332 x7_1).f1))) (ds := []) (ab 11 0) (by kernel_rfl) rfl rfl ⟨hx345_0, hx345_1, hx346_0, hx346_1⟩ (fun hHeld => ?_); refine with_tabW sets_Meet.tab8 sets_Meet.bits8 (fun HT_ HW_ => ?_); generalize w48.drew = w49 at HO_0 HO_1 HO_5 BK339 HB hx345_0 hx345_1 hx346_0 hx346_1 hHeld ⊢; refine pA 0 55 11 1 ?_; refine pA 1 56 11 3 ?_; refine pA 2 57 11 7 ?_; refine pA 3 58 11 15 ?_; refine pA 5 60 11 47 ?_; refine pA 6 61 11 111 ?_; refine pA 7 62 11 239 ?_; refine pA 8 63 11 495 ?_; refine tA 4 59 11 511 ?_; refine tA 9 64 11 1023 ?_; refine pA 10 65 11 2047 ?_; refine done_ (done_of HT_.out (by kernel_rfl)) ?_; (try go_wp2); go_roundg kj6
            case measure => have := HK1.out; have := HJ6.out; omega
            case rel => exact ⟨(x5_1), (wrap64 (x6_1 + 1)), (x7_1), rf_, rf_, H', ⟨by have := HK1.out; have := HJ6.out; omega⟩, ⟨by (with_reducible repeat (first | apply Kd.V_alloc | apply Kd.V_drewN | apply Kd.V_drew)); exact Kd.V_mono HO_0.out (fun _ hk => hk.1)⟩, ⟨by (with_reducible repeat (first | apply Kd.V_alloc | apply Kd.V_drewN | apply Kd.V_drew)); exact Kd.V_mono HO_1.out (fun _ hk => hk.1)⟩, ⟨by (with_reducible repeat (first | apply Kd.R_alloc | apply Kd.R_drewN | apply Kd.R_drew)); exact Kd.R_mono HO_5.out (fun _ hk => trivial)⟩, ⟨by repeat (first | (with_reducible first | exact HB.out | apply below_alloc | apply pw_below_drewN | apply below_drew1 | refine below_set ?_ GE339.out) | exact HB.out)⟩⟩
           ·rw [if_neg c40] at H
            have c40b0 : decide (((rd_T25 t329 x6_1).f1) < ((rd_T25 t332 x7_1).f1)) = false := decide_eq_false c40; clear c40; have H' := Aside0.mk H; clear H; (try go_wp2); replace HO_0 := Aside0.mk (Kd.V_drew HO_0.out); replace HO_1 := Aside0.mk (Kd.V_drew HO_1.out); replace HO_5 := Aside0.mk (Kd.R_drew HO_5.out); replace HB := Aside0.mk (below_drew1 HB.out); obtain ⟨Ao51, co51, eo51⟩ := Kd.V_slice HO_0.out; (first | subst eo51 | (injection eo51 with f1_ f2_ f3_; have f4_ := f1_.symm; have f5_ := f3_.symm; clear f1_ f2_ f3_; subst f4_; subst f5_)); have p335 : 0 ≤ (x6_1 : Int) := od_; have q335 : x6_1 < (t329.length : Int) := od_; obtain ⟨ad335, e335, hx335_0, hx335_1⟩ := at_T25 (Kd.V_reads' HO_0.out).2.2 x6_1 p335 q335
            cases e335
            replace p335 := eq_true p335; replace q335 := eq_true q335; obtain ⟨Ao52, co52, eo52⟩ := Kd.V_slice HO_1.out; (first | subst eo52 | (injection eo52 with f1_ f2_ f3_; have f4_ := f1_.symm; have f5_ := f3_.symm; clear f1_ f2_ f3_; subst f4_; subst f5_)); have p336 : 0 ≤ (x7_1 : Int) := od_; have q336 : x7_1 < (t332.length : Int) := od_; obtain ⟨ad336, e336, hx336_0, hx336_1⟩ := at_T25 (Kd.V_reads' HO_1.out).2.2 x7_1 p336 q336
            cases e336
            replace p336 := eq_true p336; replace q336 := eq_true q336; have p337 : 0 ≤ (x6_1 : Int) := od_; have q337 : x6_1 < (t329.length : Int) := od_; obtain ⟨ad337, e337, hx337_0, hx337_1⟩ := at_T25 (Kd.V_reads' HO_0.out).2.2 x6_1 p337 q337; obtain rfl : ad335 = ad337 := (by injection e337); replace p337 := eq_true p337; replace q337 := eq_true q337; have p338 : 0 ≤ (x7_1 : Int) := od_; have q338 : x7_1 < (t332.length : Int) := od_; obtain ⟨ad338, e338, hx338_0, hx338_1⟩ := at_T25 (Kd.V_reads' HO_1.out).2.2 x7_1 p338 q338; obtain rfl : ad336 = ad338 := (by injection e338); replace p338 := eq_true p338; replace q338 := eq_true q338; refine start_ (n := 25) (S := fun w' => w'.cell? (ad335.add ((x6_1).toNat * 2)) = some (.int .i64 ((rd_T25 t329 x6_1).f0)) ∧ w'.cell? ⟨(ad335.add ((x6_1).toNat * 2)).block, (ad335.add ((x6_1).toNat * 2)).off + 1, none⟩ = some (.int .i64 ((rd_T25 t329 x6_1).f1)) ∧ w'.cell? (ad336.add ((x7_1).toNat * 2)) = some (.int .i64 ((rd_T25 t332 x7_1).f0)) ∧ w'.cell? ⟨(ad336.add ((x7_1).toNat * 2)).block, (ad336.add ((x7_1).toNat * 2)).off + 1, none⟩ = some (.int .i64 ((rd_T25 t332 x7_1).f1)) ∧ w'.cell? (ad335.add ((x6_1).toNat * 2)) = some (.int .i64 ((rd_T25 t329 x6_1).f0)) ∧ w'.cell? ⟨(ad335.add ((x6_1).toNat * 2)).block, (ad335.add ((x6_1).toNat * 2)).off + 1, none⟩ = some (.int .i64 ((rd_T25 t329 x6_1).f1)) ∧ w'.cell? (ad336.add ((x7_1).toNat * 2)) = some (.int .i64 ((rd_T25 t332 x7_1).f0)) ∧ w'.cell? ⟨(ad336.add ((x7_1).toNat * 2)).block, (ad336.add ((x7_1).toNat * 2)).off + 1, none⟩ = some (.int .i64 ((rd_T25 t332 x7_1).f1))) (ds := []) (ab 25 0) (by kernel_rfl) rfl rfl ⟨hx335_0, hx335_1, hx336_0, hx336_1, hx337_0, hx337_1, hx338_0, hx338_1⟩ (fun hHeld => ?_); refine with_tabW sets_Meet.tab5 sets_Meet.bits5 (fun HT_ HW_ => ?_); generalize wc.drew = w50 at HO_0 HO_1 HO_5 HB hx335_0 hx335_1 hx336_0 hx336_1 hx337_0 hx337_1 hx338_0 hx338_1 hHeld ⊢; refine pA 0 23 25 1 ?_; refine pA 1 24 25 3 ?_; refine pA 2 25 25 7 ?_; refine pA 3 26 25 15 ?_; refine pA 5 28 25 47 ?_; refine pA 6 29 25 111 ?_; refine pA 7 30 25 239 ?_; refine pA 8 31 25 495 ?_; refine pA 11 34 25 2543 ?_; refine pA 12 35 25 6639 ?_; refine pA 13 36 25 14831 ?_; refine pA 14 37 25 31215 ?_; refine pA 16 39 25 96751 ?_; refine pA 17 40 25 227823 ?_; refine pA 18 41 25 489967 ?_; refine pA 19 42 25 1014255 ?_; refine takeA 4 (some 27) (ab 25 1014271) rfl rfl (take_ofW HT_.out HW_.out (by kernel_rfl)) (Or.inl ⟨by rfl, by rintro w' ⟨s0, s1, s2, s3, s4, s5, s6, s7⟩; go_simp; with_reducible rfl⟩) hHeld ?_; refine takeA 9 (some 32) (ab 25 1014783) rfl rfl (take_ofW HT_.out HW_.out (by kernel_rfl)) (Or.inl ⟨by rfl, by rintro w' ⟨s0, s1, s2, s3, s4, s5, s6, s7⟩; go_simp; with_reducible rfl⟩) hHeld ?_; refine pA 10 33 25 1015807 ?_; refine takeA 15 (some 38) (ab 25 1048575) rfl rfl (take_ofW HT_.out HW_.out (by kernel_rfl)) (Or.inl ⟨by rfl, by rintro w' ⟨s0, s1, s2, s3, s4, s5, s6, s7⟩; go_simp; with_reducible rfl⟩) hHeld ?_; refine takeA 20 (some 43) (ab 25 2097151) rfl rfl (take_ofW HT_.out HW_.out (by kernel_rfl)) (Or.inl ⟨by rfl, by rintro w' ⟨s0, s1, s2, s3, s4, s5, s6, s7⟩; go_simp; with_reducible rfl⟩) hHeld ?_; refine pA 21 44 25 4194303 ?_; refine pA 22 45 25 8388607 ?_; refine one_ (i := 23) (N := some 8) (ab 25 16777215) rfl rfl (one_of HT_.out (by kernel_rfl)) (by decide) (fun K hK => ?_); refine box_step ?hg (N := 8) ?hd (cs := #[.int .i64 0, .int .i64 0]) (t := 25) ?hr ?_; (case hd => rfl); (case hg => rfl); (case hr => first | (go_simp; done) | (go_simp; rfl)); intro gb339 hg w53 hbox hb; have NE0_ : ad335.block ≠ gb339 := (by have h_ := World.block_lt_of_cell? _ _ hHeld.1; rw [add_block] at h_; omega); have NE1_ : ad336.block ≠ gb339 := (by have h_ := World.block_lt_of_cell? _ _ hHeld.2.2.1; rw [add_block] at h_; omega); have HS0_ := (hb.cell (World.block_lt_of_cell? _ _ (hHeld.1))).trans (hHeld.1); have HS1_ := (hb.cell (World.block_lt_of_cell? _ _ (hHeld.2.1))).trans (hHeld.2.1); have HS2_ := (hb.cell (World.block_lt_of_cell? _ _ (hHeld.2.2.1))).trans (hHeld.2.2.1); have HS3_ := (hb.cell (World.block_lt_of_cell? _ _ (hHeld.2.2.2.1))).trans (hHeld.2.2.2.1); have HS4_ := (hb.cell (World.block_lt_of_cell? _ _ (hHeld.2.2.2.2.1))).trans (hHeld.2.2.2.2.1); have HS5_ := (hb.cell (World.block_lt_of_cell? _ _ (hHeld.2.2.2.2.2.1))).trans (hHeld.2.2.2.2.2.1)
            have HS6_ := (hb.cell (World.block_lt_of_cell? _ _ (hHeld.2.2.2.2.2.2.1))).trans (hHeld.2.2.2.2.2.2.1); have HS7_ := (hb.cell (World.block_lt_of_cell? _ _ (hHeld.2.2.2.2.2.2.2))).trans (hHeld.2.2.2.2.2.2.2); have n0_ := Aside0.mk (Kd.V_below (Kd.V_elderB (by (with_reducible repeat (first | apply Kd.V_alloc | apply Kd.V_drewN | apply Kd.V_drew)); exact HO_0.out) gb339 (Nat.le_of_eq hg.symm)) hb); have n1_ := Aside0.mk (Kd.V_below (Kd.V_elderB (by (with_reducible repeat (first | apply Kd.V_alloc | apply Kd.V_drewN | apply Kd.V_drew)); exact HO_1.out) gb339 (Nat.le_of_eq hg.symm)) hb); have n2_ := Aside0.mk (Kd.R_below (Kd.R_elderB (by (with_reducible repeat (first | apply Kd.R_alloc | apply Kd.R_drewN | apply Kd.R_drew)); exact HO_5.out) gb339 (Nat.le_of_eq hg.symm)) hb); have n3_ := Aside0.mk (below_step hb_ hb); have n4_ := Aside0.mk (hbox); have n5_ := Aside0.mk ((by rw [hg]; exact (below_size hb_) : w.heap.size ≤ gb339)); have n6_ := Aside0.mk ((by rw [hg]; exact (below_size hb_) : w.heap.size ≤ gb339)); clear HO_0; clear HO_1; clear HO_5; clear HB; have HO_0 := n0_; have HO_1 := n1_; have HO_5 := n2_; have HB := n3_; have BK339 := n4_; have GW339 := n5_; have GE339 := n6_; clear n0_ n1_ n2_ n3_ n4_ n5_ n6_; clear hb hbox hg; refine hK.out _ _ ⟨HS0_, HS1_, HS2_, HS3_, HS4_, HS5_, HS6_, HS7_⟩ (fun hHeld => ?_); clear hK K; refine nA ?_; refine one_ (i := 24) (N := none) (ab 25 33554431) rfl rfl (one_of HT_.out (by kernel_rfl)) (by decide) (fun K hK => ?_); have hs54 : w53.cell? ⟨gb339, 0, none⟩ = some (.int .i64 0) := (blk_cell BK339.out 0).trans rfl; have hfs54 := blk_frozen BK339.out 0; have hs55 : w53.cell? ⟨gb339, 1, none⟩ = some (.int .i64 0) := (blk_cell BK339.out 1).trans rfl; have hfs55 := blk_frozen BK339.out 1; refine sA ?_; refine hK.out _ _ ⟨((cell_far (p := ⟨gb339, _, none⟩) (by first | exact NE0_ | (rw [add_block]; exact NE0_) | (show (Addr.add _ _).block ≠ _; rw [add_block]; exact NE0_) | (dsimp only; exact NE0_)) _).trans (((cell_far (p := ⟨gb339, _, none⟩) (by first | exact NE0_ | (rw [add_block]; exact NE0_) | (show (Addr.add _ _).block ≠ _; rw [add_block]; exact NE0_) | (dsimp only; exact NE0_)) _).trans (hHeld.1)))), ((cell_far (p := ⟨gb339, _, none⟩) (by first | exact NE0_ | (rw [add_block]; exact NE0_) | (show (Addr.add _ _).block ≠ _; rw [add_block]; exact NE0_) | (dsimp only; exact NE0_)) _).trans (((cell_far (p := ⟨gb339, _, none⟩) (by first | exact NE0_ | (rw [add_block]; exact NE0_) | (show (Addr.add _ _).block ≠ _; rw [add_block]; exact NE0_) | (dsimp only; exact NE0_)) _).trans (hHeld.2.1)))), ((cell_far (p := ⟨gb339, _, none⟩) (by first | exact NE1_ | (rw [add_block]; exact NE1_) | (show (Addr.add _ _).block ≠ _; rw [add_block]; exact NE1_) | (dsimp only; exact NE1_)) _).trans (((cell_far (p := ⟨gb339, _, none⟩) (by first | exact NE1_ | (rw [add_block]; exact NE1_) | (show (Addr.add _ _).block ≠ _; rw [add_block]; exact NE1_) | (dsimp only; exact NE1_)) _).trans (hHeld.2.2.1)))), ((cell_far (p := ⟨gb339, _, none⟩) (by first | exact NE1_ | (rw [add_block]; exact NE1_) | (show (Addr.add _ _).block ≠ _; rw [add_block]; exact NE1_) | (dsimp only; exact NE1_)) _).trans (((cell_far (p := ⟨gb339, _, none⟩) (by first | exact NE1_ | (rw [add_block]; exact NE1_) | (show (Addr.add _ _).block ≠ _; rw [add_block]; exact NE1_) | (dsimp only; exact NE1_)) _).trans (hHeld.2.2.2.1)))), ((cell_far (p := ⟨gb339, _, none⟩) (by first | exact NE0_ | (rw [add_block]; exact NE0_) | (show (Addr.add _ _).block ≠ _; rw [add_block]; exact NE0_) | (dsimp only; exact NE0_)) _).trans (((cell_far (p := ⟨gb339, _, none⟩) (by first | exact NE0_ | (rw [add_block]; exact NE0_) | (show (Addr.add _ _).block ≠ _; rw [add_block]; exact NE0_) | (dsimp only; exact NE0_)) _).trans (hHeld.2.2.2.2.1)))), ((cell_far (p := ⟨gb339, _, none⟩) (by first | exact NE0_ | (rw [add_block]; exact NE0_) | (show (Addr.add _ _).block ≠ _; rw [add_block]; exact NE0_) | (dsimp only; exact NE0_)) _).trans (((cell_far (p := ⟨gb339, _, none⟩) (by first | exact NE0_ | (rw [add_block]; exact NE0_) | (show (Addr.add _ _).block ≠ _; rw [add_block]; exact NE0_) | (dsimp only; exact NE0_)) _).trans (hHeld.2.2.2.2.2.1)))), ((cell_far (p := ⟨gb339, _, none⟩) (by first | exact NE1_ | (rw [add_block]; exact NE1_) | (show (Addr.add _ _).block ≠ _; rw [add_block]; exact NE1_) | (dsimp only; exact NE1_)) _).trans (((cell_far (p := ⟨gb339, _, none⟩) (by first | exact NE1_ | (rw [add_block]; exact NE1_) | (show (Addr.add _ _).block ≠ _; rw [add_block]; exact NE1_) | (dsimp only; exact NE1_)) _).trans (hHeld.2.2.2.2.2.2.1)))), ((cell_far (p := ⟨gb339, _, none⟩) (by first | exact NE1_ | (rw [add_block]; exact NE1_) | (show (Addr.add _ _).block ≠ _; rw [add_block]; exact NE1_) | (dsimp only; exact NE1_)) _).trans (((cell_far (p := ⟨gb339, _, none⟩) (by first | exact NE1_ | (rw [add_block]; exact NE1_) | (show (Addr.add _ _).block ≠ _; rw [add_block]; exact NE1_) | (dsimp only; exact NE1_)) _).trans (hHeld.2.2.2.2.2.2.2))))⟩ (fun hHeld => ?_)
            clear hK K; refine done_ (done_of HT_.out (by kernel_rfl)) ?_; have hcz56_0 : w53.cell? ⟨gb339, 0, none⟩ = some (.int .i64 0) := (blk_cell BK339.out 0).trans rfl; have hcz56_1 : w53.cell? ⟨gb339, 1, none⟩ = some (.int .i64 0) := (blk_cell BK339.out 1).trans rfl; have hfz56_0 := blk_frozen BK339.out 0; have hfz56_1 := blk_frozen BK339.out 1; (try go_wp2); have n0_ : Aside0 (Kd.V k25 25 ((w53.setCell ⟨gb339, 0, none⟩ (.int .i64 ji17)).setCell ⟨gb339, 1, none⟩ (.int .i64 ji18)) w.heap.size (fun k_ => some k_ ≠ (u5 : Value).ownBlock ∧ k_ ≠ gb339) (.slice (some ad335) t329.length co51) t329) := ⟨by (with_reducible repeat (first | apply Kd.V_alloc | apply Kd.V_drewN | apply Kd.V_drew)); exact Kd.V_mono (Kd.V_far (p := ⟨gb339, 1, none⟩) (Kd.V_far (p := ⟨gb339, 0, none⟩) (Kd.V_mono HO_0.out (fun k_ hk => (⟨hk, hk.2⟩ : _ ∧ k_ ≠ gb339))) (fun _ hk => hk.2) (.int .i64 ji17)) (fun _ hk => hk.2) (.int .i64 ji18)) (fun _ hk => ⟨hk.1.1, hk.1.2⟩)⟩; have n1_ : Aside0 (Kd.V k25 25 ((w53.setCell ⟨gb339, 0, none⟩ (.int .i64 ji17)).setCell ⟨gb339, 1, none⟩ (.int .i64 ji18)) w.heap.size (fun k_ => some k_ ≠ (u5 : Value).ownBlock ∧ k_ ≠ gb339) (.slice (some ad336) t332.length co52) t332) := ⟨by (with_reducible repeat (first | apply Kd.V_alloc | apply Kd.V_drewN | apply Kd.V_drew)); exact Kd.V_mono (Kd.V_far (p := ⟨gb339, 1, none⟩) (Kd.V_far (p := ⟨gb339, 0, none⟩) (Kd.V_mono HO_1.out (fun k_ hk => (⟨hk, hk.2⟩ : _ ∧ k_ ≠ gb339))) (fun _ hk => hk.2) (.int .i64 ji17)) (fun _ hk => hk.2) (.int .i64 ji18)) (fun _ hk => ⟨hk.1.1, hk.1.2⟩)⟩; have n2_ : Aside0 (Kd.R k25 25 ((w53.setCell ⟨gb339, 0, none⟩ (.int .i64 ji17)).setCell ⟨gb339, 1, none⟩ (.int .i64 ji18)) w.heap.size (fun k_ => k_ ≠ gb339) u5 x5_1) := ⟨by (with_reducible repeat (first | apply Kd.R_alloc | apply Kd.R_drewN | apply Kd.R_drew)); exact Kd.R_mono (Kd.R_far (p := ⟨gb339, 1, none⟩) (Kd.R_far (p := ⟨gb339, 0, none⟩) (Kd.R_mono HO_5.out (fun k_ hk => (⟨hk, hk.2⟩ : _ ∧ k_ ≠ gb339))) (fun _ hk => hk.2) (.int .i64 ji17)) (fun _ hk => hk.2) (.int .i64 ji18)) (fun _ hk => hk.1.2)⟩; have n3_ : Aside0 (((w53.setCell ⟨gb339, 0, none⟩ (.int .i64 ji17)).setCell ⟨gb339, 1, none⟩ (.int .i64 ji18)).heap[gb339]? = some (.cells #[.int .i64 ji17, .int .i64 ji18] 25 (0, 0))) := ⟨by (with_reducible repeat (first | refine blk_drewN ?_ _ | refine blk_drew ?_ | refine blk_alloc ?_ _)); refine blk_put (cs := #[.int .i64 ji17, .int .i64 0]) ?_ 1 _ rfl; (with_reducible repeat (first | refine blk_drewN ?_ _ | refine blk_drew ?_ | refine blk_alloc ?_ _)); refine blk_put (cs := #[.int .i64 0, .int .i64 0]) ?_ 0 _ rfl; (with_reducible repeat (first | refine blk_drewN ?_ _ | refine blk_drew ?_ | refine blk_alloc ?_ _)); exact BK339.out⟩; have n4_ : Aside0 (Below w.heap.size w ((w53.setCell ⟨gb339, 0, none⟩ (.int .i64 ji17)).setCell ⟨gb339, 1, none⟩ (.int .i64 ji18))) := ⟨by repeat (first | (with_reducible first | exact HB.out | apply below_alloc | apply pw_below_drewN | apply below_drew1 | refine below_set ?_ GE339.out) | exact HB.out)⟩; (try clear HO_0); (try clear HO_1); (try clear HO_5); (try clear BK339); (try clear HB); generalize ((w53.setCell ⟨gb339, 0, none⟩ (.int .i64 ji17)).setCell ⟨gb339, 1, none⟩ (.int .i64 ji18)) = w57 at n0_ n1_ n2_ n3_ n4_ ⊢; have HO_0 := n0_; have HO_1 := n1_; have HO_5 := n2_; have BK339 := n3_; have HB := n4_; clear n0_ n1_ n2_ n3_ n4_; replace HO_0 := Aside0.mk (Kd.V_drew HO_0.out); replace HO_1 := Aside0.mk (Kd.V_drew HO_1.out); replace HO_5 := Aside0.mk (Kd.R_drew HO_5.out); replace BK339 := Aside0.mk (blk_drew BK339.out); replace HB := Aside0.mk (below_drew1 HB.out); have p345 : 0 ≤ (x6_1 : Int) := od_; have q345 : x6_1 < (t329.length : Int) := od_; obtain ⟨ad345, e345, hx345_0, hx345_1⟩ := at_T25 (Kd.V_reads' HO_0.out).2.2 x6_1 p345 q345; obtain rfl : ad335 = ad345 := (by injection e345); replace p345 := eq_true p345; replace q345 := eq_true q345; have p346 : 0 ≤ (x7_1 : Int) := od_; have q346 : x7_1 < (t332.length : Int) := od_; obtain ⟨ad346, e346, hx346_0, hx346_1⟩ := at_T25 (Kd.V_reads' HO_1.out).2.2 x7_1 p346 q346
            obtain rfl : ad336 = ad346 := (by injection e346); replace p346 := eq_true p346; replace q346 := eq_true q346; refine start_ (n := 11) (S := fun w' => w'.cell? (ad335.add ((x6_1).toNat * 2)) = some (.int .i64 ((rd_T25 t329 x6_1).f0)) ∧ w'.cell? ⟨(ad335.add ((x6_1).toNat * 2)).block, (ad335.add ((x6_1).toNat * 2)).off + 1, none⟩ = some (.int .i64 ((rd_T25 t329 x6_1).f1)) ∧ w'.cell? (ad336.add ((x7_1).toNat * 2)) = some (.int .i64 ((rd_T25 t332 x7_1).f0)) ∧ w'.cell? ⟨(ad336.add ((x7_1).toNat * 2)).block, (ad336.add ((x7_1).toNat * 2)).off + 1, none⟩ = some (.int .i64 ((rd_T25 t332 x7_1).f1))) (ds := []) (ab 11 0) (by kernel_rfl) rfl rfl ⟨hx345_0, hx345_1, hx346_0, hx346_1⟩ (fun hHeld => ?_); refine with_tabW sets_Meet.tab8 sets_Meet.bits8 (fun HT_ HW_ => ?_); generalize w57.drew = w58 at HO_0 HO_1 HO_5 BK339 HB hx345_0 hx345_1 hx346_0 hx346_1 hHeld ⊢; refine pA 0 55 11 1 ?_; refine pA 1 56 11 3 ?_; refine pA 2 57 11 7 ?_; refine pA 3 58 11 15 ?_; refine pA 5 60 11 47 ?_; refine pA 6 61 11 111 ?_; refine pA 7 62 11 239 ?_; refine pA 8 63 11 495 ?_; refine tA 4 59 11 511 ?_; refine tA 9 64 11 1023 ?_; refine pA 10 65 11 2047 ?_; refine done_ (done_of HT_.out (by kernel_rfl)) ?_; (try go_wp2); go_roundg kj6
            case measure => have := HK1.out; have := HJ6.out; omega
            case rel => exact ⟨(x5_1), (x6_1), (wrap64 (x7_1 + 1)), rf_, rf_, H', ⟨by have := HK1.out; have := HJ6.out; omega⟩, ⟨by (with_reducible repeat (first | apply Kd.V_alloc | apply Kd.V_drewN | apply Kd.V_drew)); exact Kd.V_mono HO_0.out (fun _ hk => hk.1)⟩, ⟨by (with_reducible repeat (first | apply Kd.V_alloc | apply Kd.V_drewN | apply Kd.V_drew)); exact Kd.V_mono HO_1.out (fun _ hk => hk.1)⟩, ⟨by (with_reducible repeat (first | apply Kd.R_alloc | apply Kd.R_drewN | apply Kd.R_drew)); exact Kd.R_mono HO_5.out (fun _ hk => trivial)⟩, ⟨by repeat (first | (with_reducible first | exact HB.out | apply below_alloc | apply pw_below_drewN | apply below_drew1 | refine below_set ?_ GE339.out) | exact HB.out)⟩⟩
         ·rw [if_neg c16] at H
          exact absurd H (by simp)
        ·rw [if_neg c15] at H
         exact absurd H (by simp)
       ·rw [if_neg c14] at H
        exact absurd H (by simp)
      ·rw [if_neg c13] at H
       exact absurd H (by simp)
     ·replace c12 := Bool.eq_false_iff.mpr c12
      subst c12; (have H1 : (some x5_1) = some r := by rw [if_neg (show ¬ (false = true) by decide)] at H; exact H); clear H; have H := H1; clear H1; obtain rfl := Option.some.inj H; go_wp2; (try rw [Exit.noGoto_ret]); go_ret; exact ⟨_, by first | rfl | (simp [errW_none, errW_some] <;> rfl) | (simp [*, errW_none, errW_some] <;> rfl), by (with_reducible repeat (first | apply Kd.R_alloc | apply Kd.R_drewN | apply Kd.R_drew)); exact HO_5.out, hb_⟩
end Go.Proofs.Ytkbcmjejfbbcpaa.A
