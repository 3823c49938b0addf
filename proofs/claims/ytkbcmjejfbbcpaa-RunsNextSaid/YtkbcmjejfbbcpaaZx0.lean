/- Walks of functions, and plain facts about what they compute. No conditions. -/
import Derived.Test.YtkbcmjejfbbcpaaZs3
import Derived.Deep.Slices
import Derived.SizedLaws
import Derived.ChangeArms
import Derived.Test.YtkbcmjejfbbcpaaRows
import Derived.ChangeSame
set_option linter.unusedVariables false
set_option linter.unusedSimpArgs false
namespace Go.Proofs.Ytkbcmjejfbbcpaa.Rd
open Go.RowKit Go.Deep Go.Proofs.YtkbcmjejfbbcpaaW.PrintWords
set_option linter.unusedVariables false
def RdF {α : Type} (P : Program) (t : TypeId) (d : Kd α) (wf : α → Prop) (f : Nat) : Prop :=
  ∀ {H : Type} (enc : TypeId × Value → H) (W : World) (cs : List Value) (x : DataW H × List MemPlace),
    DataW.trod enc P W 0 (fun _ => true) true f t cs = some x → (x.1.weights P t).all (· ≤ reachBytes) = true → ∃ a, d.K W a cs ∧ wf a
def Rd {α : Type} (P : Program) (t : TypeId) (d : Kd α) (wf : α → Prop) : Prop := ∀ f, RdF P t d wf f
section
variable {P : Program} {t e : TypeId} {α : Type} {d : Kd α} {wf : α → Prop}
theorem Rd.int {k : IntKind} (ht : P.underlying t = some (.int k)) : Rd P t (Kd.int k) (fun a => (Lit.int k a).wf = true) := by
  intro f H enc W cs x h _
  obtain ⟨n, rfl, _, hw⟩ := DataW.trod_int ht h
  exact ⟨n, rfl, hw⟩
theorem Rd.bool (ht : P.underlying t = some .bool) : Rd P t Kd.bool (fun _ => True) := by
  intro f H enc W cs x h _
  obtain ⟨b, rfl, _⟩ := DataW.trod_bool ht h
  exact ⟨b, rfl, trivial⟩
theorem all_weights {H : Type} {l : List (DataW H)} (h : (DataW.weightsAll P e l).all (· ≤ reachBytes) = true) : ∀ x, x ∈ l → (x.weights P e).all (· ≤ reachBytes) = true := by
  induction l with
  | nil => intro x hx; simp at hx
  | cons y l ih =>
    simp only [DataW.weightsAll, List.all_append, Bool.and_eq_true] at h
    intro x hx
    rcases List.mem_cons.1 hx with rfl | hx
    · exact h.1
    · exact ih h.2 x hx
theorem list_of {β : Type} (Q : Nat → β → Prop) : ∀ (n : Nat), (∀ i, i < n → ∃ b, Q i b) → ∃ l : List β, l.length = n ∧ ∀ i b, l[i]? = some b → Q i b
  | 0, _ => ⟨[], rfl, fun i b h => by simp at h⟩
  | n + 1, h => by
    obtain ⟨l, hl, hq⟩ := list_of Q n (fun i hi => h i (by omega))
    obtain ⟨b, hb⟩ := h n (by omega)
    refine ⟨l ++ [b], by simp [hl], fun i c hc => ?_⟩
    rcases Nat.lt_or_ge i l.length with hi | hi
    · rw [List.getElem?_append_left hi] at hc
      exact hq i c hc
    · have hlt := (List.getElem?_eq_some_iff.1 hc).1
      rw [List.length_append, List.length_singleton] at hlt
      have : i = n := by omega
      subst this
      rw [List.getElem?_append_right hi, hl, Nat.sub_self] at hc
      simp at hc
      subst hc
      exact hb
theorem RdF.slice (ht : P.underlying t = some (.slice e)) (hc : P.cellsOf e = d.sz) {f : Nat} (hd : ∀ g, g < f → RdF P e d wf g) : RdF P t (Kd.slice e d) (fun l => l.length * P.bytesOf e ≤ 140737488351232 ∧ ∀ x, x ∈ l → wf x) f := by
  intro H enc W cs x h hw
  rcases DataW.trod_slice ht h with ⟨rfl, rfl⟩ | ⟨a, len, cap, elems, rest, n, rfl, rfl, rfl, _, hlc, hm, hlen, hel, _, _⟩
  · exact ⟨[], ⟨none, 0, rfl, Nat.le_refl _, rfl, by simp, fun h => absurd h (by simp)⟩, by simp, fun x h => by simp at h⟩
  simp only [DataW.weights, ht, List.all_cons, List.all_append, Bool.and_eq_true, decide_eq_true_eq] at hw
  obtain ⟨hb, hw1, _⟩ := hw
  rw [List.length_map, List.length_map] at hb
  obtain ⟨l, hl, hq⟩ := list_of (fun i b => ∃ c, c.length = d.sz ∧ d.K W b c ∧ wf b ∧ ∀ j u, c[j]? = some u → W.cell? (a.add (i * d.sz + j)) = some u) len fun i hi => by
    have hi' : i < elems.length := by omega
    have h1 := hel i hi
    rw [List.getElem?_eq_getElem hi'] at h1
    obtain ⟨c, hc1, hc2⟩ := Option.bind_eq_some_iff.1 h1
    obtain ⟨_, hcl, hcell⟩ := World.cells?_some hc1
    obtain ⟨b, hk, hwf⟩ := hd n (Nat.lt_succ_self n) enc W c _ hc2 (all_weights hw1 _ (List.mem_map.2 ⟨_, List.getElem_mem hi', rfl⟩))
    refine ⟨b, c, by rw [hcl, hc], hk, hwf, fun j u hj => ?_⟩
    have hjl := (List.getElem?_eq_some_iff.1 hj).1
    have h2 := hcell j (by omega)
    rw [hj, hc] at h2
    rw [← h2]
    congr 1
    exact (Deep.add_add _ _ _).symm
  refine ⟨l, ⟨some a, cap, by rw [hl], by rw [hl]; exact hlc, hl ▸ rfl, by unfold maxLen at hm; omega, fun _ => ⟨a, rfl, fun j p hj => ?_⟩⟩, ?_, fun x hx => ?_⟩
  · obtain ⟨c, h1, h2, _, h4⟩ := hq j p hj
    exact ⟨c, h1, h2, h4⟩
  · have : l.length * P.bytesOf e ≤ (elems.length + rest.length) * P.bytesOf e := Nat.mul_le_mul_right _ (by omega)
    unfold reachBytes at hb
    omega
  · obtain ⟨i, hi⟩ := List.getElem?_of_mem hx
    obtain ⟨c, _, _, h3, _⟩ := hq i x hi
    exact h3
theorem Rd.slice (ht : P.underlying t = some (.slice e)) (hc : P.cellsOf e = d.sz) (hd : Rd P e d wf) : Rd P t (Kd.slice e d) (fun l => l.length * P.bytesOf e ≤ 140737488351232 ∧ ∀ x, x ∈ l → wf x) :=
  fun f => RdF.slice ht hc (fun g _ => hd g)
theorem Rd.arg {H : Type} {enc : TypeId × Value → H} {W : World} {ts : List TypeId} {ds : List (DataW H)} {j : Nat} {v : Value} {x : DataW H} {ps : List MemPlace} (hr : Rd P t d wf) (hsz : (DataW.weightsEach P ts ds).all (· ≤ reachBytes) = true) (ht : ts[j]? = some t) (hd : ds[j]? = some x)
    (h : DataW.Trod enc P W 0 (fun _ => true) true t v x ps) : ∃ a, d.K W a v.cells.toList ∧ wf a := by
  obtain ⟨f, hf⟩ := h
  refine hr f enc W _ _ hf ?_
  rw [List.all_eq_true] at hsz ⊢
  exact fun n hn => hsz n (DataW.weights_mem_each ht hd n hn)
end
end Go.Proofs.Ytkbcmjejfbbcpaa.Rd

namespace Go.Proofs.Ytkbcmjejfbbcpaa.Rd
open Go.RowKit Go.Deep Go.Proofs.YtkbcmjejfbbcpaaW.PrintWords Go.Proofs.Ytkbcmjejfbbcpaa.A
set_option linter.unusedVariables false
def wfI (n : Int) : Prop := -9223372036854775808 ≤ n ∧ n ≤ 9223372036854775807
theorem wfI_of {n : Int} (h : (Lit.int .i64 n).wf = true) : wfI n := by
  have h1 := of_decide_eq_true (p := _ ∧ _) (by simpa [Lit.wf, IntKind.signed, IntKind.bits, Bool.and_eq_true, decide_eq_true_eq] using h)
  exact h1
theorem Rd.i64 : Rd Try.prog 3 (Kd.int .i64) wfI := by
  intro f H enc W cs x h hw
  obtain ⟨a, h1, h2⟩ := Rd.int Try.underlying3 f enc W cs x h hw
  exact ⟨a, h1, wfI_of h2⟩
theorem Rd.run : Rd Try.prog 25 k25 (fun r => wfI r.f0 ∧ wfI r.f1) := by
  intro f H enc W cs x h hw
  obtain ⟨y0, y1, n, rfl, hl, h0, h1⟩ := Go.ChangeShapes.trod_struct2 Try.underlying25 h
  obtain ⟨a, ha, _, wa⟩ := DataW.trod_int Try.underlying3 h0
  obtain ⟨b, hb, _, wb⟩ := DataW.trod_int Try.underlying3 h1
  refine ⟨⟨a, b⟩, ⟨[.int .i64 a], [.int .i64 b], ?_, rfl, rfl⟩, wfI_of wa, wfI_of wb⟩
  have e1 : Try.prog.cellsOf 25 = 2 := by kernel_rfl
  have e2 : Try.prog.cellsOf 3 = 1 := by kernel_rfl
  rw [e1] at hl
  rw [e2] at ha hb
  match cs, hl with
  | [u, v], _ =>
    simp at ha hb
    rw [ha, hb]; rfl
theorem Rd.runs : Rd Try.prog 23 (Kd.slice 25 k25) (fun l => l.length ≤ 8796093022208 ∧ ∀ r, r ∈ l → wfI r.f0 ∧ wfI r.f1) := by
  intro f H enc W cs x h hw
  obtain ⟨a, h1, h2, h3⟩ := Rd.slice Try.underlying23 (by kernel_rfl) Rd.run f enc W cs x h hw
  have e : Try.prog.bytesOf 25 = 16 := by kernel_rfl
  rw [e] at h2
  exact ⟨a, h1, by omega, h3⟩
theorem arg_slice {α : Type} {e : Nat} {d : Kd α} {W : World} {l : List α} {a : Option Addr} {n c : Nat} (h : (Kd.slice e d).K W l (Value.slice a n c).cells.toList) : n = l.length ∧ l.length ≤ c ∧ Kd.C d W a l.length l := by
  obtain ⟨A, c', e, h1, h2⟩ := h
  simp [Value.cells] at e
  obtain ⟨rfl, rfl, rfl⟩ := e
  exact ⟨rfl, h1, h2⟩
end Go.Proofs.Ytkbcmjejfbbcpaa.Rd

namespace Go.Proofs.Ytkbcmjejfbbcpaa.A
open Go.RowKit Go.Proofs.YtkbcmjejfbbcpaaW.PrintWords Go.Proofs.YtkbcmjejfbbcpaaW.PrintLast Go.Proofs.YtkbcmjejfbbcpaaW.PrintMore
attribute [local go_sem] max2_int min2_int max_two min_two max_three min_three max_four min_four
set_option linter.unusedVariables false
set_option linter.unusedSimpArgs false
def runs_Sane.l0 : Nat → Int → List (S25) → Int → Int → Option (Bool)
  | 0, _, _, _, _ => none
  | k + 1, x3, x6, x7, x8 => if x8 < x7 then (if 0 ≤ x8 then (if x8 < (x6.length : Int) then (if ((rd_T25 x6 x8).f0) > ((rd_T25 x6 x8).f1) then (some false) else (if ((rd_T25 x6 x8).f0) < (wrap64 (x3 + 2)) then (some false) else (if ((rd_T25 x6 x8).f1) > 1099511627776 then (some false) else (runs_Sane.l0 k ((rd_T25 x6 x8).f1) x6 x7 (wrap64 (x8 + 1)))))) else (none)) else (none)) else (some true)
def runs_Sane.f (k : Nat) (l0 : List (S25)) : Option (Bool) := runs_Sane.l0 k (-1099511627778) l0 (l0.length : Int) 0
theorem runs_Sane.mono_l : ∀ k, (∀ y0 y1 y2 y3, LeO (runs_Sane.l0 k y0 y1 y2 y3) (runs_Sane.l0 (k + 1) y0 y1 y2 y3))
  | 0 => fun _ _ _ _ r h => by simp [runs_Sane.l0] at h
  | k + 1 => by
    have ih0 := runs_Sane.mono_l k
    · intro y0 y1 y2 y3
      unfold runs_Sane.l0
      repeat' first
      | (with_reducible exact ih0 _ _ _ _)
      | (with_reducible exact LeO.refl _)
      | (with_reducible exact LeO.none _)
      | (with_reducible refine LeO.ite ?_ ?_)
      | (with_reducible refine LeO.bind ?_ (fun _ => ?_))
      | exact ih0 _ _ _ _
      | exact LeO.none _
      | refine LeO.ite ?_ ?_
      | refine LeO.bind ?_ (fun _ => ?_)
theorem runs_Sane.mono : ∀ a0 k, LeO (runs_Sane.f k a0) (runs_Sane.f (k + 1) a0) := by
  intro a0 k
  have ih0 := runs_Sane.mono_l k
  unfold runs_Sane.f
  repeat' first
      | (with_reducible exact ih0 _ _ _ _)
      | (with_reducible exact LeO.refl _)
      | (with_reducible exact LeO.none _)
      | (with_reducible refine LeO.ite ?_ ?_)
      | (with_reducible refine LeO.bind ?_ (fun _ => ?_))
      | exact ih0 _ _ _ _
      | exact LeO.none _
      | refine LeO.ite ?_ ?_
      | refine LeO.bind ?_ (fun _ => ?_)
def runs_known.f (k : Nat) (l0 : List (S25)) : Option ((List (S25))) := (runs_Sane.f k l0).bind fun t103 => (if t103 = true then (some l0) else ((runs_Make.f l0).bind fun t104 => (some t104)))
theorem runs_known.mono : ∀ a0 k, LeO (runs_known.f k a0) (runs_known.f (k + 1) a0) := by
  intro a0 k
  unfold runs_known.f
  repeat' first
      | (with_reducible exact runs_Sane.mono _ _)
      | (with_reducible exact LeO.refl _)
      | (with_reducible exact LeO.none _)
      | (with_reducible refine LeO.ite ?_ ?_)
      | (with_reducible refine LeO.bind ?_ (fun _ => ?_))
      | exact runs_Sane.mono _ _
      | exact LeO.none _
      | refine LeO.ite ?_ ?_
      | refine LeO.bind ?_ (fun _ => ?_)
def runs_Next.f (k : Nat) (l0 : List (S25)) (a1 : Int) : Option (Int × Bool) := (runs_known.f k l0).bind fun t107 => ((runs_at.f t107 a1).bind fun t110 => (if t110 = (t107.length : Int) then (some (0, false)) else (if 0 ≤ t110 then (if t110 < (t107.length : Int) then (some (mx a1 ((rd_T25 t107 t110).f0), true)) else (none)) else (none))))
theorem runs_Next.mono : ∀ a0 a1 k, LeO (runs_Next.f k a0 a1) (runs_Next.f (k + 1) a0 a1) := by
  intro a0 a1 k
  unfold runs_Next.f
  repeat' first
      | (with_reducible exact runs_known.mono _ _)
      | (with_reducible exact LeO.refl _)
      | (with_reducible exact LeO.none _)
      | (with_reducible refine LeO.ite ?_ ?_)
      | (with_reducible refine LeO.bind ?_ (fun _ => ?_))
      | exact runs_known.mono _ _
      | exact LeO.none _
      | refine LeO.ite ?_ ?_
      | refine LeO.bind ?_ (fun _ => ?_)
def runs_Has.f (k : Nat) (l0 : List (S25)) (a1 : Int) : Option (Bool) := (runs_Next.f k l0 a1).bind fun bt112 => (if bt112.2 = true then (some (bt112.1 == a1)) else (some false))
theorem runs_Has.mono : ∀ a0 a1 k, LeO (runs_Has.f k a0 a1) (runs_Has.f (k + 1) a0 a1) := by
  intro a0 a1 k
  unfold runs_Has.f
  repeat' first
      | (with_reducible exact runs_Next.mono _ _ _)
      | (with_reducible exact LeO.refl _)
      | (with_reducible exact LeO.none _)
      | (with_reducible refine LeO.ite ?_ ?_)
      | (with_reducible refine LeO.bind ?_ (fun _ => ?_))
      | exact runs_Next.mono _ _ _
      | exact LeO.none _
      | refine LeO.ite ?_ ?_
      | refine LeO.bind ?_ (fun _ => ?_)
def runs_Of.l0 : Nat → List (S25) → List Int → Int → Int → Option ((List (S25)))
  | 0, _, _, _, _ => none
  | k + 1, x3, x6, x7, x8 => if x8 < x7 then (if 0 ≤ x8 then (if x8 < (x6.length : Int) then (if x3.length < 8796093022208 then (runs_Of.l0 k (x3 ++ [(⟨rd x6 x8, rd x6 x8⟩ : S25)]) x6 x7 (wrap64 (x8 + 1))) else (none)) else (none)) else (none)) else ((runs_Make.f x3).bind fun t118 => (some t118))
def runs_Of.f (k : Nat) (l0 : List Int) : Option ((List (S25))) := runs_Of.l0 k ([] : List (S25)) l0 (l0.length : Int) 0
theorem runs_Of.mono_l : ∀ k, (∀ y0 y1 y2 y3, LeO (runs_Of.l0 k y0 y1 y2 y3) (runs_Of.l0 (k + 1) y0 y1 y2 y3))
  | 0 => fun _ _ _ _ r h => by simp [runs_Of.l0] at h
  | k + 1 => by
    have ih0 := runs_Of.mono_l k
    · intro y0 y1 y2 y3
      unfold runs_Of.l0
      repeat' first
      | (with_reducible exact ih0 _ _ _ _)
      | (with_reducible exact LeO.refl _)
      | (with_reducible exact LeO.none _)
      | (with_reducible refine LeO.ite ?_ ?_)
      | (with_reducible refine LeO.bind ?_ (fun _ => ?_))
      | exact ih0 _ _ _ _
      | exact LeO.none _
      | refine LeO.ite ?_ ?_
      | refine LeO.bind ?_ (fun _ => ?_)
theorem runs_Of.mono : ∀ a0 k, LeO (runs_Of.f k a0) (runs_Of.f (k + 1) a0) := by
  intro a0 k
  have ih0 := runs_Of.mono_l k
  unfold runs_Of.f
  repeat' first
      | (with_reducible exact ih0 _ _ _ _)
      | (with_reducible exact LeO.refl _)
      | (with_reducible exact LeO.none _)
      | (with_reducible refine LeO.ite ?_ ?_)
      | (with_reducible refine LeO.bind ?_ (fun _ => ?_))
      | exact ih0 _ _ _ _
      | exact LeO.none _
      | refine LeO.ite ?_ ?_
      | refine LeO.bind ?_ (fun _ => ?_)
def runs_Count.l0 : Nat → Int → List (S25) → Int → Int → Option (Int)
  | 0, _, _, _, _ => none
  | k + 1, x3, x7, x8, x9 => if x9 < x8 then (if 0 ≤ x9 then (if x9 < (x7.length : Int) then (runs_Count.l0 k (wrap64 (x3 + (wrap64 ((wrap64 (((rd_T25 x7 x9).f1) - ((rd_T25 x7 x9).f0))) + 1)))) x7 x8 (wrap64 (x9 + 1))) else (none)) else (none)) else (some x3)
def runs_Count.f (k : Nat) (l0 : List (S25)) : Option (Int) := (runs_known.f k l0).bind fun t121 => (runs_Count.l0 k 0 t121 (t121.length : Int) 0)
theorem runs_Count.mono_l : ∀ k, (∀ y0 y1 y2 y3, LeO (runs_Count.l0 k y0 y1 y2 y3) (runs_Count.l0 (k + 1) y0 y1 y2 y3))
  | 0 => fun _ _ _ _ r h => by simp [runs_Count.l0] at h
  | k + 1 => by
    have ih0 := runs_Count.mono_l k
    · intro y0 y1 y2 y3
      unfold runs_Count.l0
      repeat' first
      | (with_reducible exact ih0 _ _ _ _)
      | (with_reducible exact runs_known.mono _ _)
      | (with_reducible exact LeO.refl _)
      | (with_reducible exact LeO.none _)
      | (with_reducible refine LeO.ite ?_ ?_)
      | (with_reducible refine LeO.bind ?_ (fun _ => ?_))
      | exact ih0 _ _ _ _
      | exact runs_known.mono _ _
      | exact LeO.none _
      | refine LeO.ite ?_ ?_
      | refine LeO.bind ?_ (fun _ => ?_)
theorem runs_Count.mono : ∀ a0 k, LeO (runs_Count.f k a0) (runs_Count.f (k + 1) a0) := by
  intro a0 k
  have ih0 := runs_Count.mono_l k
  unfold runs_Count.f
  repeat' first
      | (with_reducible exact ih0 _ _ _ _)
      | (with_reducible exact runs_known.mono _ _)
      | (with_reducible exact LeO.refl _)
      | (with_reducible exact LeO.none _)
      | (with_reducible refine LeO.ite ?_ ?_)
      | (with_reducible refine LeO.bind ?_ (fun _ => ?_))
      | exact ih0 _ _ _ _
      | exact runs_known.mono _ _
      | exact LeO.none _
      | refine LeO.ite ?_ ?_
      | refine LeO.bind ?_ (fun _ => ?_)
def lustrumlaw04_awake.f (k : Nat)  : Option (Bool) := (runs_Make.f (([(⟨5, 7⟩ : S25), (⟨1, 2⟩ : S25), (⟨3, 3⟩ : S25)] : List (S25)))).bind fun t129 => (if (t129.length : Int) = 2 then (if 0 < (t129.length : Int) then (if ((rd_T25 t129 0).f0) = 1 then (if ((rd_T25 t129 0).f1) = 3 then (if 1 < (t129.length : Int) then (if ((rd_T25 t129 1).f0) = 5 then (if ((rd_T25 t129 1).f1) = 7 then ((runs_Sane.f k t129).bind fun t136 => (if t136 = true then ((runs_Has.f k t129 6).bind fun t137 => (if t137 = true then ((runs_Count.f k t129).bind fun t138 => (if t138 = 6 then ((runs_Of.f k (([3] : List Int))).bind fun t142 => (some ((t142.length : Int) == 1))) else (some false))) else (some false))) else (some false))) else (some false)) else (some false)) else (none)) else (some false)) else (some false)) else (none)) else (some false))
theorem lustrumlaw04_awake.mono : ∀ k, LeO (lustrumlaw04_awake.f k ) (lustrumlaw04_awake.f (k + 1) ) := by
  intro  k
  unfold lustrumlaw04_awake.f
  repeat' first
      | (with_reducible exact runs_Count.mono _ _)
      | (with_reducible exact runs_Has.mono _ _ _)
      | (with_reducible exact runs_Of.mono _ _)
      | (with_reducible exact runs_Sane.mono _ _)
      | (with_reducible exact LeO.refl _)
      | (with_reducible exact LeO.none _)
      | (with_reducible refine LeO.ite ?_ ?_)
      | (with_reducible refine LeO.bind ?_ (fun _ => ?_))
      | exact runs_Count.mono _ _
      | exact runs_Has.mono _ _ _
      | exact runs_Of.mono _ _
      | exact runs_Sane.mono _ _
      | exact LeO.none _
      | refine LeO.ite ?_ ?_
      | refine LeO.bind ?_ (fun _ => ?_)
end Go.Proofs.Ytkbcmjejfbbcpaa.A

namespace Go.Proofs.Ytkbcmjejfbbcpaa.A
open Go.RowKit Go.Proofs.YtkbcmjejfbbcpaaW.PrintWords Go.Proofs.YtkbcmjejfbbcpaaW.PrintLast Go.Proofs.YtkbcmjejfbbcpaaW.PrintMore
attribute [local go_sem] max2_int min2_int max_two min_two max_three min_three max_four min_four
set_option linter.unusedVariables false
set_option linter.unusedSimpArgs false
def runs_Prev.j0 : Nat → List (S25) → Int → Int → Bool → Option (Int × Bool)
  | 0, _, _, _, _ => none
  | k + 1, x0, x1, x6, x24 => if x24 = true then (some (x1, true)) else (if x6 = 0 then (some (0, false)) else (if 0 ≤ (wrap64 (x6 - 1)) then (if (wrap64 (x6 - 1)) < (x0.length : Int) then (some ((rd_T25 x0 (wrap64 (x6 - 1))).f1, true)) else (none)) else (none)))
def runs_Prev.f (k : Nat) (l0 : List (S25)) (a1 : Int) : Option (Int × Bool) := (runs_known.f k l0).bind fun t246 => ((runs_at.f t246 a1).bind fun t249 => (if t249 < (t246.length : Int) then (if 0 ≤ t249 then (runs_Prev.j0 k t246 a1 t249 (decide (((rd_T25 t246 t249).f0) ≤ a1))) else (none)) else (runs_Prev.j0 k t246 a1 t249 false)))
theorem runs_Prev.mono_l : ∀ k, (∀ y0 y1 y2 y3, LeO (runs_Prev.j0 k y0 y1 y2 y3) (runs_Prev.j0 (k + 1) y0 y1 y2 y3))
  | 0 => fun _ _ _ _ r h => by simp [runs_Prev.j0] at h
  | k + 1 => by
    have ih0 := runs_Prev.mono_l k
    · intro y0 y1 y2 y3
      unfold runs_Prev.j0
      repeat' first
      | (with_reducible exact ih0 _ _ _ _)
      | (with_reducible exact runs_known.mono _ _)
      | (with_reducible exact LeO.refl _)
      | (with_reducible exact LeO.none _)
      | (with_reducible refine LeO.ite ?_ ?_)
      | (with_reducible refine LeO.bind ?_ (fun _ => ?_))
      | exact ih0 _ _ _ _
      | exact runs_known.mono _ _
      | exact LeO.none _
      | refine LeO.ite ?_ ?_
      | refine LeO.bind ?_ (fun _ => ?_)
theorem runs_Prev.mono : ∀ a0 a1 k, LeO (runs_Prev.f k a0 a1) (runs_Prev.f (k + 1) a0 a1) := by
  intro a0 a1 k
  have ih0 := runs_Prev.mono_l k
  unfold runs_Prev.f
  repeat' first
      | (with_reducible exact ih0 _ _ _ _)
      | (with_reducible exact runs_known.mono _ _)
      | (with_reducible exact LeO.refl _)
      | (with_reducible exact LeO.none _)
      | (with_reducible refine LeO.ite ?_ ?_)
      | (with_reducible refine LeO.bind ?_ (fun _ => ?_))
      | exact ih0 _ _ _ _
      | exact runs_known.mono _ _
      | exact LeO.none _
      | refine LeO.ite ?_ ?_
      | refine LeO.bind ?_ (fun _ => ?_)
end Go.Proofs.Ytkbcmjejfbbcpaa.A

namespace Go.Proofs.Ytkbcmjejfbbcpaa.A
open Go.RowKit Go.Proofs.YtkbcmjejfbbcpaaW.PrintWords Go.Proofs.YtkbcmjejfbbcpaaW.PrintLast Go.Proofs.YtkbcmjejfbbcpaaW.PrintMore
attribute [local go_sem] max2_int min2_int max_two min_two max_three min_three max_four min_four
set_option linter.unusedVariables false
set_option linter.unusedSimpArgs false
mutual
def lustrumlaw04_RunsNext.j0 : Nat → List (S25) → Int → Bool → Int → Bool → Int → Bool → Bool → Option (Bool)
  | 0, _, _, _, _, _, _, _, _ => none
  | k + 1, x0, x1, x5, x6, x7, x8, x9, x72 => if x72 = true then (some false) else (if x7 = true then (lustrumlaw04_RunsNext.j1 k x0 x1 x5 x6 x7 x8 x9 (decide (x6 > x1))) else (lustrumlaw04_RunsNext.j1 k x0 x1 x5 x6 x7 x8 x9 false))
def lustrumlaw04_RunsNext.j1 : Nat → List (S25) → Int → Bool → Int → Bool → Int → Bool → Bool → Option (Bool)
  | 0, _, _, _, _, _, _, _, _ => none
  | k + 1, x0, x1, x5, x6, x7, x8, x9, x78 => if x78 = true then ((runs_Prev.f k x0 (wrap64 (x6 - 1))).bind fun bt310 => (if bt310.2 = true then (if bt310.1 ≥ x1 then (some false) else (lustrumlaw04_RunsNext.j2 k x0 x1 x5 x6 x7 x8 x9)) else (lustrumlaw04_RunsNext.j2 k x0 x1 x5 x6 x7 x8 x9))) else (lustrumlaw04_RunsNext.j2 k x0 x1 x5 x6 x7 x8 x9)
def lustrumlaw04_RunsNext.j2 : Nat → List (S25) → Int → Bool → Int → Bool → Int → Bool → Option (Bool)
  | 0, _, _, _, _, _, _, _ => none
  | k + 1, x0, x1, x5, x6, x7, x8, x9 => (runs_Has.f k x0 x1).bind fun t312 => (if t312 = true then (if x7 = true then (if x9 = true then (if x6 = x1 then (lustrumlaw04_RunsNext.j3 k x0 x1 x5 x6 x7 x8 x9 (x8 != x1)) else (lustrumlaw04_RunsNext.j3 k x0 x1 x5 x6 x7 x8 x9 true)) else (lustrumlaw04_RunsNext.j3 k x0 x1 x5 x6 x7 x8 x9 true)) else (lustrumlaw04_RunsNext.j3 k x0 x1 x5 x6 x7 x8 x9 true)) else (lustrumlaw04_RunsNext.j3 k x0 x1 x5 x6 x7 x8 x9 false))
def lustrumlaw04_RunsNext.j3 : Nat → List (S25) → Int → Bool → Int → Bool → Int → Bool → Bool → Option (Bool)
  | 0, _, _, _, _, _, _, _, _ => none
  | k + 1, x0, x1, x5, x6, x7, x8, x9, x112 => if x112 = true then (some false) else ((runs_Make.f x0).bind fun t313 => (lustrumlaw04_RunsNext.l0 k x1 x5 x6 x7 x8 x9 t313 0))
def lustrumlaw04_RunsNext.l0 : Nat → Int → Bool → Int → Bool → Int → Bool → List (S25) → Int → Option (Bool)
  | 0, _, _, _, _, _, _, _, _ => none
  | k + 1, x1, x5, x6, x7, x8, x9, x12, x13 => if x13 < (x12.length : Int) then (if 0 ≤ x13 then (if ((rd_T25 x12 x13).f1) ≥ x1 then (if x7 = true then (if x6 > (mx ((rd_T25 x12 x13).f0) x1) then (some false) else (if ((rd_T25 x12 x13).f0) ≤ x1 then (if x9 = true then (if x8 < (mn ((rd_T25 x12 x13).f1) x1) then (some false) else (lustrumlaw04_RunsNext.l0 k x1 x5 x6 x7 x8 x9 x12 (wrap64 (x13 + 1)))) else (some false)) else (lustrumlaw04_RunsNext.l0 k x1 x5 x6 x7 x8 x9 x12 (wrap64 (x13 + 1))))) else (some false)) else (if ((rd_T25 x12 x13).f0) ≤ x1 then (if x9 = true then (if x8 < (mn ((rd_T25 x12 x13).f1) x1) then (some false) else (lustrumlaw04_RunsNext.l0 k x1 x5 x6 x7 x8 x9 x12 (wrap64 (x13 + 1)))) else (some false)) else (lustrumlaw04_RunsNext.l0 k x1 x5 x6 x7 x8 x9 x12 (wrap64 (x13 + 1))))) else (none)) else (if x5 = true then (if x7 = true then (some true) else (if x9 = true then (some true) else (some ((x12.length : Int) == 0)))) else (some false))
end
def lustrumlaw04_RunsNext.f (k : Nat) (l0 : List (S25)) (a1 : Int) : Option (Bool) := (lustrumlaw04_awake.f k).bind fun t301 => (if (l0.length : Int) > 40 then (some t301) else ((runs_Next.f k l0 a1).bind fun bt302 => ((runs_Prev.f k l0 a1).bind fun bt304 => (if bt302.2 = true then (if bt304.2 = true then (if bt302.1 < a1 then (lustrumlaw04_RunsNext.j0 k l0 a1 t301 bt302.1 bt302.2 bt304.1 bt304.2 true) else ((runs_Has.f k l0 bt302.1).bind fun t306 => (if t306 = true then (if bt304.1 > a1 then (lustrumlaw04_RunsNext.j0 k l0 a1 t301 bt302.1 bt302.2 bt304.1 bt304.2 true) else ((runs_Has.f k l0 bt304.1).bind fun t307 => (lustrumlaw04_RunsNext.j0 k l0 a1 t301 bt302.1 bt302.2 bt304.1 bt304.2 (!t307)))) else (lustrumlaw04_RunsNext.j0 k l0 a1 t301 bt302.1 bt302.2 bt304.1 bt304.2 true)))) else (if bt304.1 = 0 then (if bt302.1 < a1 then (lustrumlaw04_RunsNext.j0 k l0 a1 t301 bt302.1 bt302.2 bt304.1 bt304.2 true) else ((runs_Has.f k l0 bt302.1).bind fun t308 => (if t308 = true then (lustrumlaw04_RunsNext.j0 k l0 a1 t301 bt302.1 bt302.2 bt304.1 bt304.2 false) else (lustrumlaw04_RunsNext.j0 k l0 a1 t301 bt302.1 bt302.2 bt304.1 bt304.2 true)))) else (lustrumlaw04_RunsNext.j0 k l0 a1 t301 bt302.1 bt302.2 bt304.1 bt304.2 true))) else (if bt302.1 = 0 then (if bt304.2 = true then (if bt304.1 > a1 then (lustrumlaw04_RunsNext.j0 k l0 a1 t301 bt302.1 bt302.2 bt304.1 bt304.2 true) else ((runs_Has.f k l0 bt304.1).bind fun t309 => (lustrumlaw04_RunsNext.j0 k l0 a1 t301 bt302.1 bt302.2 bt304.1 bt304.2 (!t309)))) else (if bt304.1 = 0 then (lustrumlaw04_RunsNext.j0 k l0 a1 t301 bt302.1 bt302.2 bt304.1 bt304.2 false) else (lustrumlaw04_RunsNext.j0 k l0 a1 t301 bt302.1 bt302.2 bt304.1 bt304.2 true))) else (lustrumlaw04_RunsNext.j0 k l0 a1 t301 bt302.1 bt302.2 bt304.1 bt304.2 true))))))
theorem lustrumlaw04_RunsNext.mono_l : ∀ k, (∀ y0 y1 y2 y3 y4 y5 y6 y7, LeO (lustrumlaw04_RunsNext.j0 k y0 y1 y2 y3 y4 y5 y6 y7) (lustrumlaw04_RunsNext.j0 (k + 1) y0 y1 y2 y3 y4 y5 y6 y7)) ∧ (∀ y0 y1 y2 y3 y4 y5 y6 y7, LeO (lustrumlaw04_RunsNext.j1 k y0 y1 y2 y3 y4 y5 y6 y7) (lustrumlaw04_RunsNext.j1 (k + 1) y0 y1 y2 y3 y4 y5 y6 y7)) ∧ (∀ y0 y1 y2 y3 y4 y5 y6, LeO (lustrumlaw04_RunsNext.j2 k y0 y1 y2 y3 y4 y5 y6) (lustrumlaw04_RunsNext.j2 (k + 1) y0 y1 y2 y3 y4 y5 y6)) ∧ (∀ y0 y1 y2 y3 y4 y5 y6 y7, LeO (lustrumlaw04_RunsNext.j3 k y0 y1 y2 y3 y4 y5 y6 y7) (lustrumlaw04_RunsNext.j3 (k + 1) y0 y1 y2 y3 y4 y5 y6 y7)) ∧ (∀ y0 y1 y2 y3 y4 y5 y6 y7, LeO (lustrumlaw04_RunsNext.l0 k y0 y1 y2 y3 y4 y5 y6 y7) (lustrumlaw04_RunsNext.l0 (k + 1) y0 y1 y2 y3 y4 y5 y6 y7))
  | 0 => ⟨fun _ _ _ _ _ _ _ _ r h => by simp [lustrumlaw04_RunsNext.j0] at h, fun _ _ _ _ _ _ _ _ r h => by simp [lustrumlaw04_RunsNext.j1] at h, fun _ _ _ _ _ _ _ r h => by simp [lustrumlaw04_RunsNext.j2] at h, fun _ _ _ _ _ _ _ _ r h => by simp [lustrumlaw04_RunsNext.j3] at h, fun _ _ _ _ _ _ _ _ r h => by simp [lustrumlaw04_RunsNext.l0] at h⟩
  | k + 1 => by
    obtain ⟨ih0, ih1, ih2, ih3, ih4⟩ := lustrumlaw04_RunsNext.mono_l k
    refine ⟨?_, ?_, ?_, ?_, ?_⟩
    · intro y0 y1 y2 y3 y4 y5 y6 y7
      unfold lustrumlaw04_RunsNext.j0
      repeat' first
      | (with_reducible exact ih0 _ _ _ _ _ _ _ _)
      | (with_reducible exact ih1 _ _ _ _ _ _ _ _)
      | (with_reducible exact ih2 _ _ _ _ _ _ _)
      | (with_reducible exact ih3 _ _ _ _ _ _ _ _)
      | (with_reducible exact ih4 _ _ _ _ _ _ _ _)
      | (with_reducible exact lustrumlaw04_awake.mono _)
      | (with_reducible exact runs_Has.mono _ _ _)
      | (with_reducible exact runs_Next.mono _ _ _)
      | (with_reducible exact runs_Prev.mono _ _ _)
      | (with_reducible exact LeO.refl _)
      | (with_reducible exact LeO.none _)
      | (with_reducible refine LeO.ite ?_ ?_)
      | (with_reducible refine LeO.bind ?_ (fun _ => ?_))
      | exact ih0 _ _ _ _ _ _ _ _
      | exact ih1 _ _ _ _ _ _ _ _
      | exact ih2 _ _ _ _ _ _ _
      | exact ih3 _ _ _ _ _ _ _ _
      | exact ih4 _ _ _ _ _ _ _ _
      | exact lustrumlaw04_awake.mono _
      | exact runs_Has.mono _ _ _
      | exact runs_Next.mono _ _ _
      | exact runs_Prev.mono _ _ _
      | exact LeO.none _
      | refine LeO.ite ?_ ?_
      | refine LeO.bind ?_ (fun _ => ?_)
    · intro y0 y1 y2 y3 y4 y5 y6 y7
      unfold lustrumlaw04_RunsNext.j1
      repeat' first
      | (with_reducible exact ih0 _ _ _ _ _ _ _ _)
      | (with_reducible exact ih1 _ _ _ _ _ _ _ _)
      | (with_reducible exact ih2 _ _ _ _ _ _ _)
      | (with_reducible exact ih3 _ _ _ _ _ _ _ _)
      | (with_reducible exact ih4 _ _ _ _ _ _ _ _)
      | (with_reducible exact lustrumlaw04_awake.mono _)
      | (with_reducible exact runs_Has.mono _ _ _)
      | (with_reducible exact runs_Next.mono _ _ _)
      | (with_reducible exact runs_Prev.mono _ _ _)
      | (with_reducible exact LeO.refl _)
      | (with_reducible exact LeO.none _)
      | (with_reducible refine LeO.ite ?_ ?_)
      | (with_reducible refine LeO.bind ?_ (fun _ => ?_))
      | exact ih0 _ _ _ _ _ _ _ _
      | exact ih1 _ _ _ _ _ _ _ _
      | exact ih2 _ _ _ _ _ _ _
      | exact ih3 _ _ _ _ _ _ _ _
      | exact ih4 _ _ _ _ _ _ _ _
      | exact lustrumlaw04_awake.mono _
      | exact runs_Has.mono _ _ _
      | exact runs_Next.mono _ _ _
      | exact runs_Prev.mono _ _ _
      | exact LeO.none _
      | refine LeO.ite ?_ ?_
      | refine LeO.bind ?_ (fun _ => ?_)
    · intro y0 y1 y2 y3 y4 y5 y6
      unfold lustrumlaw04_RunsNext.j2
      repeat' first
      | (with_reducible exact ih0 _ _ _ _ _ _ _ _)
      | (with_reducible exact ih1 _ _ _ _ _ _ _ _)
      | (with_reducible exact ih2 _ _ _ _ _ _ _)
      | (with_reducible exact ih3 _ _ _ _ _ _ _ _)
      | (with_reducible exact ih4 _ _ _ _ _ _ _ _)
      | (with_reducible exact lustrumlaw04_awake.mono _)
      | (with_reducible exact runs_Has.mono _ _ _)
      | (with_reducible exact runs_Next.mono _ _ _)
      | (with_reducible exact runs_Prev.mono _ _ _)
      | (with_reducible exact LeO.refl _)
      | (with_reducible exact LeO.none _)
      | (with_reducible refine LeO.ite ?_ ?_)
      | (with_reducible refine LeO.bind ?_ (fun _ => ?_))
      | exact ih0 _ _ _ _ _ _ _ _
      | exact ih1 _ _ _ _ _ _ _ _
      | exact ih2 _ _ _ _ _ _ _
      | exact ih3 _ _ _ _ _ _ _ _
      | exact ih4 _ _ _ _ _ _ _ _
      | exact lustrumlaw04_awake.mono _
      | exact runs_Has.mono _ _ _
      | exact runs_Next.mono _ _ _
      | exact runs_Prev.mono _ _ _
      | exact LeO.none _
      | refine LeO.ite ?_ ?_
      | refine LeO.bind ?_ (fun _ => ?_)
    · intro y0 y1 y2 y3 y4 y5 y6 y7
      unfold lustrumlaw04_RunsNext.j3
      repeat' first
      | (with_reducible exact ih0 _ _ _ _ _ _ _ _)
      | (with_reducible exact ih1 _ _ _ _ _ _ _ _)
      | (with_reducible exact ih2 _ _ _ _ _ _ _)
      | (with_reducible exact ih3 _ _ _ _ _ _ _ _)
      | (with_reducible exact ih4 _ _ _ _ _ _ _ _)
      | (with_reducible exact lustrumlaw04_awake.mono _)
      | (with_reducible exact runs_Has.mono _ _ _)
      | (with_reducible exact runs_Next.mono _ _ _)
      | (with_reducible exact runs_Prev.mono _ _ _)
      | (with_reducible exact LeO.refl _)
      | (with_reducible exact LeO.none _)
      | (with_reducible refine LeO.ite ?_ ?_)
      | (with_reducible refine LeO.bind ?_ (fun _ => ?_))
      | exact ih0 _ _ _ _ _ _ _ _
      | exact ih1 _ _ _ _ _ _ _ _
      | exact ih2 _ _ _ _ _ _ _
      | exact ih3 _ _ _ _ _ _ _ _
      | exact ih4 _ _ _ _ _ _ _ _
      | exact lustrumlaw04_awake.mono _
      | exact runs_Has.mono _ _ _
      | exact runs_Next.mono _ _ _
      | exact runs_Prev.mono _ _ _
      | exact LeO.none _
      | refine LeO.ite ?_ ?_
      | refine LeO.bind ?_ (fun _ => ?_)
    · intro y0 y1 y2 y3 y4 y5 y6 y7
      unfold lustrumlaw04_RunsNext.l0
      repeat' first
      | (with_reducible exact ih0 _ _ _ _ _ _ _ _)
      | (with_reducible exact ih1 _ _ _ _ _ _ _ _)
      | (with_reducible exact ih2 _ _ _ _ _ _ _)
      | (with_reducible exact ih3 _ _ _ _ _ _ _ _)
      | (with_reducible exact ih4 _ _ _ _ _ _ _ _)
      | (with_reducible exact lustrumlaw04_awake.mono _)
      | (with_reducible exact runs_Has.mono _ _ _)
      | (with_reducible exact runs_Next.mono _ _ _)
      | (with_reducible exact runs_Prev.mono _ _ _)
      | (with_reducible exact LeO.refl _)
      | (with_reducible exact LeO.none _)
      | (with_reducible refine LeO.ite ?_ ?_)
      | (with_reducible refine LeO.bind ?_ (fun _ => ?_))
      | exact ih0 _ _ _ _ _ _ _ _
      | exact ih1 _ _ _ _ _ _ _ _
      | exact ih2 _ _ _ _ _ _ _
      | exact ih3 _ _ _ _ _ _ _ _
      | exact ih4 _ _ _ _ _ _ _ _
      | exact lustrumlaw04_awake.mono _
      | exact runs_Has.mono _ _ _
      | exact runs_Next.mono _ _ _
      | exact runs_Prev.mono _ _ _
      | exact LeO.none _
      | refine LeO.ite ?_ ?_
      | refine LeO.bind ?_ (fun _ => ?_)
theorem lustrumlaw04_RunsNext.mono : ∀ a0 a1 k, LeO (lustrumlaw04_RunsNext.f k a0 a1) (lustrumlaw04_RunsNext.f (k + 1) a0 a1) := by
  intro a0 a1 k
  obtain ⟨ih0, ih1, ih2, ih3, ih4⟩ := lustrumlaw04_RunsNext.mono_l k
  unfold lustrumlaw04_RunsNext.f
  repeat' first
      | (with_reducible exact ih0 _ _ _ _ _ _ _ _)
      | (with_reducible exact ih1 _ _ _ _ _ _ _ _)
      | (with_reducible exact ih2 _ _ _ _ _ _ _)
      | (with_reducible exact ih3 _ _ _ _ _ _ _ _)
      | (with_reducible exact ih4 _ _ _ _ _ _ _ _)
      | (with_reducible exact lustrumlaw04_awake.mono _)
      | (with_reducible exact runs_Has.mono _ _ _)
      | (with_reducible exact runs_Next.mono _ _ _)
      | (with_reducible exact runs_Prev.mono _ _ _)
      | (with_reducible exact LeO.refl _)
      | (with_reducible exact LeO.none _)
      | (with_reducible refine LeO.ite ?_ ?_)
      | (with_reducible refine LeO.bind ?_ (fun _ => ?_))
      | exact ih0 _ _ _ _ _ _ _ _
      | exact ih1 _ _ _ _ _ _ _ _
      | exact ih2 _ _ _ _ _ _ _
      | exact ih3 _ _ _ _ _ _ _ _
      | exact ih4 _ _ _ _ _ _ _ _
      | exact lustrumlaw04_awake.mono _
      | exact runs_Has.mono _ _ _
      | exact runs_Next.mono _ _ _
      | exact runs_Prev.mono _ _ _
      | exact LeO.none _
      | refine LeO.ite ?_ ?_
      | refine LeO.bind ?_ (fun _ => ?_)
end Go.Proofs.Ytkbcmjejfbbcpaa.A

namespace Go.Proofs.Ytkbcmjejfbbcpaa.A.At
open Go.RowKit Go.Proofs.YtkbcmjejfbbcpaaW.PrintWords Go.Proofs.YtkbcmjejfbbcpaaW.PrintLast Go.Proofs.YtkbcmjejfbbcpaaW.PrintMore
attribute [local go_sem] max2_int min2_int max_two min_two max_three min_three max_four min_four
set_option linter.unusedVariables false
set_option linter.unusedSimpArgs false
def cmp_isNaN_int.f (a0 : Int) : Option (Bool) := some (a0 != a0)
def cmp_Compare_int.f (a0 : Int) (a1 : Int) : Option (Int) := (cmp_isNaN_int.f a0).bind fun t101 => ((cmp_isNaN_int.f a1).bind fun t102 => (if t101 = true then (if t102 = true then (some 0) else (some (-1))) else (if t102 = true then (some 1) else (if a0 < a1 then (some (-1)) else (if a0 > a1 then (some 1) else (some 0))))))
def runs_at_1.f (a0_0 : Int) (a0_1 : Int) (a1 : Int) : Option (Int) := (cmp_Compare_int.f a0_1 a1).bind fun t104 => (some t104)
def api_Run_int.l0 : Nat → List (S25) → Int → Int → Int → Int → Option (Int × Bool)
  | 0, _, _, _, _, _ => none
  | k + 1, x0, x1, x8, x9, x10 => if x9 < x10 then (if 0 ≤ (wrap64 ((IntKind.u64.wrap (wrap64 (x9 + x10))) / 2)) then (if (wrap64 ((IntKind.u64.wrap (wrap64 (x9 + x10))) / 2)) < (x0.length : Int) then ((runs_at_1.f ((rd_T25 x0 (wrap64 ((IntKind.u64.wrap (wrap64 (x9 + x10))) / 2))).f0) ((rd_T25 x0 (wrap64 ((IntKind.u64.wrap (wrap64 (x9 + x10))) / 2))).f1) x1).bind fun t106 => (if t106 < 0 then (api_Run_int.l0 k x0 x1 x8 (wrap64 ((wrap64 ((IntKind.u64.wrap (wrap64 (x9 + x10))) / 2)) + 1)) x10) else (api_Run_int.l0 k x0 x1 x8 x9 (wrap64 ((IntKind.u64.wrap (wrap64 (x9 + x10))) / 2))))) else (none)) else (none)) else (if x9 < x8 then (if 0 ≤ x9 then (if x9 < (x0.length : Int) then ((runs_at_1.f ((rd_T25 x0 x9).f0) ((rd_T25 x0 x9).f1) x1).bind fun t108 => (some (x9, (t108 == 0)))) else (none)) else (none)) else (some (x9, false)))
def api_Run_int.f (k : Nat) (l0 : List (S25)) (a1 : Int)  : Option (Int × Bool) := api_Run_int.l0 k l0 a1 (l0.length : Int) 0 (l0.length : Int)
theorem api_Run_int.mono_l : ∀ k, (∀ y0 y1 y2 y3 y4, LeO (api_Run_int.l0 k y0 y1 y2 y3 y4) (api_Run_int.l0 (k + 1) y0 y1 y2 y3 y4))
  | 0 => fun _ _ _ _ _ r h => by simp [api_Run_int.l0] at h
  | k + 1 => by
    have ih0 := api_Run_int.mono_l k
    · intro y0 y1 y2 y3 y4
      unfold api_Run_int.l0
      repeat' first
      | (with_reducible exact ih0 _ _ _ _ _)
      | (with_reducible exact LeO.refl _)
      | (with_reducible exact LeO.none _)
      | (with_reducible refine LeO.ite ?_ ?_)
      | (with_reducible refine LeO.bind ?_ (fun _ => ?_))
      | exact ih0 _ _ _ _ _
      | exact LeO.none _
      | refine LeO.ite ?_ ?_
      | refine LeO.bind ?_ (fun _ => ?_)
theorem api_Run_int.mono : ∀ a0 a1 k, LeO (api_Run_int.f k a0 a1) (api_Run_int.f (k + 1) a0 a1) := by
  intro a0 a1 k
  have ih0 := api_Run_int.mono_l k
  unfold api_Run_int.f
  repeat' first
      | (with_reducible exact ih0 _ _ _ _ _)
      | (with_reducible exact LeO.refl _)
      | (with_reducible exact LeO.none _)
      | (with_reducible refine LeO.ite ?_ ?_)
      | (with_reducible refine LeO.bind ?_ (fun _ => ?_))
      | exact ih0 _ _ _ _ _
      | exact LeO.none _
      | refine LeO.ite ?_ ?_
      | refine LeO.bind ?_ (fun _ => ?_)
def runs_at.f (k : Nat) (l0 : List (S25)) (a1 : Int) : Option (Int) := (api_Run_int.f k l0 a1).bind fun bt109 => (some bt109.1)
theorem runs_at.mono : ∀ a0 a1 k, LeO (runs_at.f k a0 a1) (runs_at.f (k + 1) a0 a1) := by
  intro a0 a1 k
  unfold runs_at.f
  repeat' first
      | (with_reducible exact api_Run_int.mono _ _ _)
      | (with_reducible exact LeO.refl _)
      | (with_reducible exact LeO.none _)
      | (with_reducible refine LeO.ite ?_ ?_)
      | (with_reducible refine LeO.bind ?_ (fun _ => ?_))
      | exact api_Run_int.mono _ _ _
      | exact LeO.none _
      | refine LeO.ite ?_ ?_
      | refine LeO.bind ?_ (fun _ => ?_)
end Go.Proofs.Ytkbcmjejfbbcpaa.A.At

namespace Go.Proofs.Ytkbcmjejfbbcpaa.A.At
open Go.RowKit Go.Proofs.YtkbcmjejfbbcpaaW.PrintWords Go.Proofs.YtkbcmjejfbbcpaaW.PrintLast Go.Proofs.YtkbcmjejfbbcpaaW.PrintMore
attribute [local go_sem] max2_int min2_int max_two min_two max_three min_three max_four min_four
set_option linter.unusedVariables false
set_option linter.unusedSimpArgs false
attribute [local go_sem] isSome_setCell
set_option maxHeartbeats 8000000 in
set_option maxRecDepth 100000 in
theorem cmp_isNaN_int.calls (a0 : Int) (r : Bool) (w : World) (h : cmp_isNaN_int.f a0 = some r) :
  Calls Try.prog 63 #[.int .i64 a0] w fun e w' => e = .returned (.bool r) ∧ Drawn0 w w' := by
 have H : (some (a0 != a0)) = some r := h; clear h; obtain rfl := Option.some.inj H; go_enter Try.func63, Try.ntmps63; go_wp2; go_ret; exact ⟨by first | rfl | (simp; done) | (simp [*]; done), by repeat (first | exact Drawn0.refl _ | apply Drawn0.step)⟩
set_option maxHeartbeats 8000000 in
set_option maxRecDepth 100000 in
theorem cmp_Compare_int.calls (a0 : Int) (a1 : Int) (r : Int) (w : World) (h : cmp_Compare_int.f a0 a1 = some r) :
  Calls Try.prog 57 #[.int .i64 a0, .int .i64 a1] w fun e w' => e = .returned (.int .i64 r) ∧ Drawn0 w w' := by
 have H : ((cmp_isNaN_int.f a0).bind fun t101 => ((cmp_isNaN_int.f a1).bind fun t102 => (if t101 = true then (if t102 = true then (some 0) else (some (-1))) else (if t102 = true then (some 1) else (if a0 < a1 then (some (-1)) else (if a0 > a1 then (some 1) else (some 0))))))) = some r := h; clear h; replace H := Option.bind_eq_some_iff.mp H; obtain ⟨t101, A30, H⟩ := H; replace H : ((cmp_isNaN_int.f a1).bind fun t102 => (if t101 = true then (if t102 = true then (some 0) else (some (-1))) else (if t102 = true then (some 1) else (if a0 < a1 then (some (-1)) else (if a0 > a1 then (some 1) else (some 0)))))) = some r := H; have A3 := Aside0.mk A30; clear A30; replace H := Option.bind_eq_some_iff.mp H; obtain ⟨t102, A40, H⟩ := H; replace H : (if t101 = true then (if t102 = true then (some 0) else (some (-1))) else (if t102 = true then (some 1) else (if a0 < a1 then (some (-1)) else (if a0 > a1 then (some 1) else (some 0))))) = some r := H; have A4 := Aside0.mk A40; clear A40
 by_cases c5 : t101 = true
 ·subst c5
  (have H1 : (if t102 = true then (some 0) else (some (-1))) = some r := by rw [if_pos rfl] at H; exact H); clear H; have H := H1; clear H1
  by_cases c6 : t102 = true
  ·subst c6
   (have H1 : (some 0) = some r := by rw [if_pos rfl] at H; exact H); clear H; have H := H1; clear H1; obtain rfl := Option.some.inj H; go_enter Try.func57, Try.ntmps57; go_wp2_with (first | ((with_reducible refine gate_callee (f := 63) rfl ?_); refine goesL_ (some 8) rfl rfl Try.func63 (by kernel_rfl) rfl #[.int .i64 a0] rfl ml_ ?_; (with_reducible refine (cmp_isNaN_int.calls a0 true _ A3.out).mono ?_); rintro e w' ⟨rfl, ⟨nd, rfl⟩⟩; refine ⟨_, rfl, ?_⟩) | ((with_reducible refine gate_callee (f := 63) rfl ?_); refine goesL_ (some 10) rfl rfl Try.func63 (by kernel_rfl) rfl #[.int .i64 a1] rfl ml_ ?_; (with_reducible refine (cmp_isNaN_int.calls a1 true _ A4.out).mono ?_); rintro e w' ⟨rfl, ⟨nd, rfl⟩⟩; refine ⟨_, rfl, ?_⟩)); go_ret; exact ⟨by first | rfl | (simp; done) | (simp [*]; done), by repeat (first | exact Drawn0.refl _ | apply Drawn0.step)⟩
  ·replace c6 := Bool.eq_false_iff.mpr c6
   subst c6; (have H1 : (some (-1)) = some r := by rw [if_neg (show ¬ (false = true) by decide)] at H; exact H); clear H; have H := H1; clear H1; obtain rfl := Option.some.inj H; go_enter Try.func57, Try.ntmps57; go_wp2_with (first | ((with_reducible refine gate_callee (f := 63) rfl ?_); refine goesL_ (some 8) rfl rfl Try.func63 (by kernel_rfl) rfl #[.int .i64 a0] rfl ml_ ?_; (with_reducible refine (cmp_isNaN_int.calls a0 true _ A3.out).mono ?_); rintro e w' ⟨rfl, ⟨nd, rfl⟩⟩; refine ⟨_, rfl, ?_⟩) | ((with_reducible refine gate_callee (f := 63) rfl ?_); refine goesL_ (some 10) rfl rfl Try.func63 (by kernel_rfl) rfl #[.int .i64 a1] rfl ml_ ?_; (with_reducible refine (cmp_isNaN_int.calls a1 false _ A4.out).mono ?_); rintro e w' ⟨rfl, ⟨nd, rfl⟩⟩; refine ⟨_, rfl, ?_⟩)); go_ret; exact ⟨by first | rfl | (simp; done) | (simp [*]; done), by repeat (first | exact Drawn0.refl _ | apply Drawn0.step)⟩
 ·replace c5 := Bool.eq_false_iff.mpr c5
  subst c5; (have H1 : (if t102 = true then (some 1) else (if a0 < a1 then (some (-1)) else (if a0 > a1 then (some 1) else (some 0)))) = some r := by rw [if_neg (show ¬ (false = true) by decide)] at H; exact H); clear H; have H := H1; clear H1
  by_cases c7 : t102 = true
  ·subst c7
   (have H1 : (some 1) = some r := by rw [if_pos rfl] at H; exact H); clear H; have H := H1; clear H1; obtain rfl := Option.some.inj H; go_enter Try.func57, Try.ntmps57; go_wp2_with (first | ((with_reducible refine gate_callee (f := 63) rfl ?_); refine goesL_ (some 8) rfl rfl Try.func63 (by kernel_rfl) rfl #[.int .i64 a0] rfl ml_ ?_; (with_reducible refine (cmp_isNaN_int.calls a0 false _ A3.out).mono ?_); rintro e w' ⟨rfl, ⟨nd, rfl⟩⟩; refine ⟨_, rfl, ?_⟩) | ((with_reducible refine gate_callee (f := 63) rfl ?_); refine goesL_ (some 10) rfl rfl Try.func63 (by kernel_rfl) rfl #[.int .i64 a1] rfl ml_ ?_; (with_reducible refine (cmp_isNaN_int.calls a1 true _ A4.out).mono ?_); rintro e w' ⟨rfl, ⟨nd, rfl⟩⟩; refine ⟨_, rfl, ?_⟩)); go_ret; exact ⟨by first | rfl | (simp; done) | (simp [*]; done), by repeat (first | exact Drawn0.refl _ | apply Drawn0.step)⟩
  ·replace c7 := Bool.eq_false_iff.mpr c7
   subst c7; (have H1 : (if a0 < a1 then (some (-1)) else (if a0 > a1 then (some 1) else (some 0))) = some r := by rw [if_neg (show ¬ (false = true) by decide)] at H; exact H); clear H; have H := H1; clear H1
   by_cases c8 : a0 < a1
   ·rw [if_pos c8] at H
    have c8b0 : decide (a0 < a1) = true := decide_eq_true c8; clear c8; obtain rfl := Option.some.inj H; go_enter Try.func57, Try.ntmps57; go_wp2_with (first | ((with_reducible refine gate_callee (f := 63) rfl ?_); refine goesL_ (some 8) rfl rfl Try.func63 (by kernel_rfl) rfl #[.int .i64 a0] rfl ml_ ?_; (with_reducible refine (cmp_isNaN_int.calls a0 false _ A3.out).mono ?_); rintro e w' ⟨rfl, ⟨nd, rfl⟩⟩; refine ⟨_, rfl, ?_⟩) | ((with_reducible refine gate_callee (f := 63) rfl ?_); refine goesL_ (some 10) rfl rfl Try.func63 (by kernel_rfl) rfl #[.int .i64 a1] rfl ml_ ?_; (with_reducible refine (cmp_isNaN_int.calls a1 false _ A4.out).mono ?_); rintro e w' ⟨rfl, ⟨nd, rfl⟩⟩; refine ⟨_, rfl, ?_⟩)); go_ret; exact ⟨by first | rfl | (simp; done) | (simp [*]; done), by repeat (first | exact Drawn0.refl _ | apply Drawn0.step)⟩
   ·rw [if_neg c8] at H
    have c8b0 : decide (a0 < a1) = false := decide_eq_false c8; clear c8
    by_cases c9 : a0 > a1
    ·rw [if_pos c9] at H
     have c9b0 : decide (a1 < a0) = true := decide_eq_true c9; clear c9; obtain rfl := Option.some.inj H; go_enter Try.func57, Try.ntmps57; go_wp2_with (first | ((with_reducible refine gate_callee (f := 63) rfl ?_); refine goesL_ (some 8) rfl rfl Try.func63 (by kernel_rfl) rfl #[.int .i64 a0] rfl ml_ ?_; (with_reducible refine (cmp_isNaN_int.calls a0 false _ A3.out).mono ?_); rintro e w' ⟨rfl, ⟨nd, rfl⟩⟩; refine ⟨_, rfl, ?_⟩) | ((with_reducible refine gate_callee (f := 63) rfl ?_); refine goesL_ (some 10) rfl rfl Try.func63 (by kernel_rfl) rfl #[.int .i64 a1] rfl ml_ ?_; (with_reducible refine (cmp_isNaN_int.calls a1 false _ A4.out).mono ?_); rintro e w' ⟨rfl, ⟨nd, rfl⟩⟩; refine ⟨_, rfl, ?_⟩)); go_ret; exact ⟨by first | rfl | (simp; done) | (simp [*]; done), by repeat (first | exact Drawn0.refl _ | apply Drawn0.step)⟩
    ·rw [if_neg c9] at H
     have c9b0 : decide (a1 < a0) = false := decide_eq_false c9; clear c9; obtain rfl := Option.some.inj H; go_enter Try.func57, Try.ntmps57; go_wp2_with (first | ((with_reducible refine gate_callee (f := 63) rfl ?_); refine goesL_ (some 8) rfl rfl Try.func63 (by kernel_rfl) rfl #[.int .i64 a0] rfl ml_ ?_; (with_reducible refine (cmp_isNaN_int.calls a0 false _ A3.out).mono ?_); rintro e w' ⟨rfl, ⟨nd, rfl⟩⟩; refine ⟨_, rfl, ?_⟩) | ((with_reducible refine gate_callee (f := 63) rfl ?_); refine goesL_ (some 10) rfl rfl Try.func63 (by kernel_rfl) rfl #[.int .i64 a1] rfl ml_ ?_; (with_reducible refine (cmp_isNaN_int.calls a1 false _ A4.out).mono ?_); rintro e w' ⟨rfl, ⟨nd, rfl⟩⟩; refine ⟨_, rfl, ?_⟩)); go_ret; exact ⟨by first | rfl | (simp; done) | (simp [*]; done), by repeat (first | exact Drawn0.refl _ | apply Drawn0.step)⟩
set_option maxHeartbeats 8000000 in
set_option maxRecDepth 100000 in
theorem runs_at_1.calls (a0_0 : Int) (a0_1 : Int) (a1 : Int) (r : Int) (w : World) (h : runs_at_1.f a0_0 a0_1 a1 = some r) :
  Calls Try.prog 61 #[.agg #[.int .i64 a0_0, .int .i64 a0_1], .int .i64 a1] w fun e w' => e = .returned (.int .i64 r) ∧ Below w.heap.size w w' := by
 have hu25 := Try.underlying25; have HB := Aside0.mk (Below.refl w.heap.size w); have H : ((cmp_Compare_int.f a0_1 a1).bind fun t104 => (some t104)) = some r := h; clear h; replace H := Option.bind_eq_some_iff.mp H; obtain ⟨t104, A30, H⟩ := H; replace H : (some t104) = some r := H; have A3 := Aside0.mk A30; clear A30; obtain rfl := Option.some.inj H; go_enter Try.func61, Try.ntmps61; go_wp2_with (first | ((with_reducible refine gate_dst (N := 2) rfl ?_); refine box_event ?hg (N := 2) ?hd (cs := #[.int .i64 a0_0, .int .i64 a0_1]) (t := 25) ?hr ?_; (case hd => rfl); (case hg => rfl); (case hr => first | (go_simp; done) | (go_simp; rfl)); intro gb103 hg w4 hbox hb; have n0_ := Aside0.mk (below_step hb_ hb); have n1_ := Aside0.mk (hbox); have n2_ := Aside0.mk ((by rw [hg]; exact (below_size hb_) : w.heap.size ≤ gb103)); have n3_ := Aside0.mk ((by rw [hg]; exact (below_size hb_) : w.heap.size ≤ gb103)); clear HB; have HB := n0_; have BK103 := n1_; have GW103 := n2_; have GE103 := n3_; clear n0_ n1_ n2_ n3_; clear hb hbox hg; have hcz5_0 : w4.cell? ⟨gb103, 0, none⟩ = some (.int .i64 a0_0) := (blk_cell BK103.out 0).trans rfl; have hcz5_1 : w4.cell? ⟨gb103, 1, none⟩ = some (.int .i64 a0_1) := (blk_cell BK103.out 1).trans rfl; have hfz5_0 := blk_frozen BK103.out 0; have hfz5_1 := blk_frozen BK103.out 1) | ((with_reducible refine gate_callee (f := 57) rfl ?_); refine goesL_ (some 8) rfl rfl Try.func57 (by kernel_rfl) rfl #[.int .i64 a0_1, .int .i64 a1] rfl ml_ ?_; (with_reducible refine (cmp_Compare_int.calls a0_1 a1 t104 _ A3.out).mono ?_); rintro e w' ⟨rfl, ⟨nd, rfl⟩⟩; refine ⟨_, rfl, ?_⟩)); go_ret; exact ⟨re_, by repeat (first | (with_reducible first | exact HB.out | apply below_alloc | apply pw_below_drewN | apply below_drew1 | refine below_set ?_ GE103.out) | exact HB.out)⟩
set_option maxHeartbeats 8000000 in
set_option maxRecDepth 100000 in
theorem api_Run_int.calls (k : Nat) (A0 : Option Addr) (c0 : Nat) (l0 : List (S25)) (a1 : Int)  (r1 : Int) (r2 : Bool) (w : World) (hr0 : Kd.C k25 w A0 l0.length l0) (hc0 : l0.length ≤ c0) (h : api_Run_int.f k l0 a1 = some (r1, r2)) :
  Calls Try.prog 60 #[.slice A0 l0.length c0, .int .i64 a1, .func (.func 61) #[] #[]] w fun e w' => e = .returned (.tuple #[.int .i64 r1, .bool r2]) ∧ Below w.heap.size w w' := by
 have hu25 := Try.underlying25; have HR0 := Aside0.mk hr0; have HC0 := Aside0.mk hc0; clear hr0 hc0; have HB := Aside0.mk (Below.refl w.heap.size w); have H : (api_Run_int.l0 k l0 a1 (l0.length : Int) 0 (l0.length : Int)) = some (r1, r2) := h; clear h; have H' := Aside0.mk H; clear H; go_enter Try.func60, Try.ntmps60; go_wp2; go_loopg [9, 10] k (fun kq v9 v10 w' => ∃ (x9_1 : Int) (x10_1 : Int), v9 = .int .i64 x9_1 ∧ v10 = .int .i64 x10_1 ∧ Aside0 (api_Run_int.l0 kq l0 a1 (l0.length : Int) x9_1 x10_1 = some (r1, r2)) ∧ Aside0 (kq ≤ k) ∧ Aside0 (Below w.heap.size w w'))
 case atStart => exact ⟨(0), ((l0.length : Int)), rf_, rf_, H', ⟨Nat.le_refl _⟩, ⟨hb_⟩⟩
 case round =>
  clear H'; (try clear p2); obtain ⟨x9_1, x10_1, rfl, rfl, HA, HK1, HB⟩ := hrel
  cases gk with
  | zero => exact absurd HA.out (by simp [api_Run_int.l0])
  | succ k1 =>
   have H := HA.out; clear HA; simp only [api_Run_int.l0] at H
   by_cases c4 : x9_1 < x10_1
   ·rw [if_pos c4] at H
    have c4b0 : decide (x9_1 < x10_1) = true := decide_eq_true c4; clear c4; obtain ⟨ji5, hji5⟩ : ∃ j_ : Int, (wrap64 ((IntKind.u64.wrap (wrap64 (x9_1 + x10_1))) / 2)) = j_ := ⟨_, rfl⟩; (replace H : (if 0 ≤ (ji5) then (if (ji5) < (l0.length : Int) then ((runs_at_1.f ((rd_T25 l0 (ji5)).f0) ((rd_T25 l0 (ji5)).f1) a1).bind fun t106 => (if t106 < 0 then (api_Run_int.l0 k1 l0 a1 (l0.length : Int) (wrap64 ((ji5) + 1)) x10_1) else (api_Run_int.l0 k1 l0 a1 (l0.length : Int) x9_1 ji5))) else (none)) else (none)) = some (r1, r2) := by first | (rw [hji5] at H; exact H) | (simp only [hji5] at H ⊢; exact H)); have hji5w : (IntKind.i64.wrap ((IntKind.u64.wrap (wrap64 (x9_1 + x10_1))) / 2)) = ji5 := (i64_w _).trans hji5
    by_cases c6 : 0 ≤ (ji5)
    ·rw [if_pos c6] at H
     have c6b0 : decide (0 ≤ (ji5)) = true := decide_eq_true c6; clear c6
     by_cases c7 : (ji5) < (l0.length : Int)
     ·rw [if_pos c7] at H
      have c7b0 : decide ((ji5) < (l0.length : Int)) = true := decide_eq_true c7; clear c7; replace H := Option.bind_eq_some_iff.mp H; obtain ⟨t106, A80, H⟩ := H; replace H : (if t106 < 0 then (api_Run_int.l0 k1 l0 a1 (l0.length : Int) (wrap64 ((ji5) + 1)) x10_1) else (api_Run_int.l0 k1 l0 a1 (l0.length : Int) x9_1 ji5)) = some (r1, r2) := H; have A8 := Aside0.mk A80; clear A80
      by_cases c9 : t106 < 0
      ·rw [if_pos c9] at H
       have c9b0 : decide (t106 < 0) = true := decide_eq_true c9; clear c9; have H' := Aside0.mk H; clear H; have p105 : 0 ≤ ((ji5) : Int) := od_; have q105 : (ji5) < (l0.length : Int) := od_; obtain ⟨ad105, e105, hx105_0, hx105_1⟩ := at_T25 HR0.out (ji5) p105 q105
       cases e105
       replace hx105_0 := (HB.out.cell (World.block_lt_of_cell? w _ hx105_0)).trans hx105_0; replace hx105_1 := (HB.out.cell (World.block_lt_of_cell? w _ hx105_1)).trans hx105_1; replace p105 := eq_true p105; replace q105 := eq_true q105; go_wp2_with (first | (go_at_call 61; (refine (runs_at_1.calls ((rd_T25 l0 (ji5)).f0) ((rd_T25 l0 (ji5)).f1) a1 t106 _ A8.out).mono ?_); rintro e w10 ⟨rfl, hb⟩; have n0_ := Aside0.mk (below_step hb_ hb); clear HB; have HB := n0_; clear n0_; (try clear hb); (try clear hb2); (try clear hk); (try clear hi))); go_roundg k1
       case measure => have := HK1.out; omega
       case rel => exact ⟨(wrap64 ((ji5) + 1)), (x10_1), (by first | rfl | (simp; done) | (simp only [← hji5] <;> (first | rfl | simp)) | (simp [*]; done)), rf_, H', ⟨by have := HK1.out; omega⟩, ⟨hb_⟩⟩
      ·rw [if_neg c9] at H
       have c9b0 : decide (t106 < 0) = false := decide_eq_false c9; clear c9; have H' := Aside0.mk H; clear H; have p105 : 0 ≤ ((ji5) : Int) := od_; have q105 : (ji5) < (l0.length : Int) := od_; obtain ⟨ad105, e105, hx105_0, hx105_1⟩ := at_T25 HR0.out (ji5) p105 q105
       cases e105
       replace hx105_0 := (HB.out.cell (World.block_lt_of_cell? w _ hx105_0)).trans hx105_0; replace hx105_1 := (HB.out.cell (World.block_lt_of_cell? w _ hx105_1)).trans hx105_1; replace p105 := eq_true p105; replace q105 := eq_true q105; go_wp2_with (first | (go_at_call 61; (refine (runs_at_1.calls ((rd_T25 l0 (ji5)).f0) ((rd_T25 l0 (ji5)).f1) a1 t106 _ A8.out).mono ?_); rintro e w11 ⟨rfl, hb⟩; have n0_ := Aside0.mk (below_step hb_ hb); clear HB; have HB := n0_; clear n0_; (try clear hb); (try clear hb2); (try clear hk); (try clear hi))); go_roundg k1
       case measure => have := HK1.out; omega
       case rel => exact ⟨(x9_1), (ji5), rf_, (by first | rfl | (simp; done) | (simp only [← hji5] <;> (first | rfl | simp)) | (simp [*]; done)), H', ⟨by have := HK1.out; omega⟩, ⟨hb_⟩⟩
     ·rw [if_neg c7] at H
      exact absurd H (by simp)
    ·rw [if_neg c6] at H
     exact absurd H (by simp)
   ·rw [if_neg c4] at H
    have c4b0 : decide (x9_1 < x10_1) = false := decide_eq_false c4; clear c4
    by_cases c12 : x9_1 < (l0.length : Int)
    ·rw [if_pos c12] at H
     have c12b0 : decide (x9_1 < (l0.length : Int)) = true := decide_eq_true c12; clear c12
     by_cases c13 : 0 ≤ x9_1
     ·rw [if_pos c13] at H
      have c13b0 : decide (0 ≤ x9_1) = true := decide_eq_true c13; clear c13
      by_cases c14 : x9_1 < (l0.length : Int)
      ·rw [if_pos c14] at H
       have c14b0 : decide (x9_1 < (l0.length : Int)) = true := decide_eq_true c14; clear c14; replace H := Option.bind_eq_some_iff.mp H; obtain ⟨t108, A150, H⟩ := H; replace H : (some (x9_1, (t108 == 0))) = some (r1, r2) := H; have A15 := Aside0.mk A150; clear A150; simp only [Option.some.injEq, Prod.mk.injEq] at H; obtain ⟨rfl, rfl⟩ := H; have p107 : 0 ≤ (x9_1 : Int) := od_; have q107 : x9_1 < (l0.length : Int) := od_; obtain ⟨ad107, e107, hx107_0, hx107_1⟩ := at_T25 HR0.out x9_1 p107 q107
       cases e107
       replace hx107_0 := (HB.out.cell (World.block_lt_of_cell? w _ hx107_0)).trans hx107_0; replace hx107_1 := (HB.out.cell (World.block_lt_of_cell? w _ hx107_1)).trans hx107_1; replace p107 := eq_true p107; replace q107 := eq_true q107; go_wp2_with (first | (go_at_call 61; (refine (runs_at_1.calls ((rd_T25 l0 x9_1).f0) ((rd_T25 l0 x9_1).f1) a1 t108 _ A15.out).mono ?_); rintro e w16 ⟨rfl, hb⟩; have n0_ := Aside0.mk (below_step hb_ hb); clear HB; have HB := n0_; clear n0_; (try clear hb); (try clear hb2); (try clear hk); (try clear hi))); go_ret2; exact ⟨re_, hb_⟩
      ·rw [if_neg c14] at H
       exact absurd H (by simp)
     ·rw [if_neg c13] at H
      exact absurd H (by simp)
    ·rw [if_neg c12] at H
     have c12b0 : decide (x9_1 < (l0.length : Int)) = false := decide_eq_false c12; clear c12; simp only [Option.some.injEq, Prod.mk.injEq] at H; obtain ⟨rfl, rfl⟩ := H; go_wp2; go_ret2; exact ⟨re_, hb_⟩
set_option maxHeartbeats 8000000 in
set_option maxRecDepth 100000 in
theorem runs_at.calls (k : Nat) (A0 : Option Addr) (c0 : Nat) (l0 : List (S25)) (a1 : Int) (r : Int) (w : World) (hr0 : Kd.C k25 w A0 l0.length l0) (hc0 : l0.length ≤ c0) (h : runs_at.f k l0 a1 = some r) :
  Calls Try.prog 51 #[.slice A0 l0.length c0, .int .i64 a1] w fun e w' => e = .returned (.int .i64 r) ∧ Below w.heap.size w w' := by
 have HR0 := Aside0.mk hr0; have HC0 := Aside0.mk hc0; clear hr0 hc0; have HB := Aside0.mk (Below.refl w.heap.size w); have H : ((api_Run_int.f k l0 a1).bind fun bt109 => (some bt109.1)) = some r := h; clear h; replace H := Option.bind_eq_some_iff.mp H; obtain ⟨⟨t109, t110⟩, A30, H⟩ := H; replace H : (some t109) = some r := H; have A3 := Aside0.mk A30; clear A30; obtain rfl := Option.some.inj H; go_enter Try.func51, Try.ntmps51; go_wp2_with (first | ((with_reducible refine gate_callee (f := 60) rfl ?_); refine goesL_ (some 10) rfl rfl Try.func60 (by kernel_rfl) rfl #[.slice A0 l0.length c0, .int .i64 a1, .func (.func 61) #[] #[]] rfl ml_ ?_; (with_reducible refine (api_Run_int.calls k _ _ l0 a1  t109 t110 _ ?side1 ?side2 A3.out).mono ?_); (case side1 => repeat (first | exact HR0.out | (with_reducible refine Kd.C_alloc ?_ _) | (with_reducible refine Kd.C_drewN ?_ _) | (with_reducible refine Kd.C_drew ?_))); (case side2 => exact HC0.out); rintro e w4 ⟨rfl, hb⟩; refine ⟨_, rfl, ?_⟩; have n0_ := Aside0.mk (below_step hb_ hb); clear HB; have HB := n0_; clear n0_; (try clear hb); (try clear hb2); (try clear hk); (try clear hi))); go_ret; exact ⟨re_, hb_⟩
end Go.Proofs.Ytkbcmjejfbbcpaa.A.At

namespace Go.Proofs.Ytkbcmjejfbbcpaa.A
open Go.RowKit Go.Proofs.YtkbcmjejfbbcpaaW.PrintWords Go.Proofs.YtkbcmjejfbbcpaaW.PrintLast Go.Proofs.YtkbcmjejfbbcpaaW.PrintMore
set_option linter.unusedVariables false
theorem Compare_f (a b : Int) : At.cmp_Compare_int.f a b = some (if a < b then -1 else if a > b then 1 else 0) := by
  unfold At.cmp_Compare_int.f At.cmp_isNaN_int.f
  simp only [Option.bind_some, bne_self_eq_false]
  rw [if_neg (by simp), if_neg (by simp)]
  split
  · rfl
  · split <;> rfl
theorem at1_f (x y n : Int) : At.runs_at_1.f x y n = some (if y < n then -1 else if y > n then 1 else 0) := by
  unfold At.runs_at_1.f
  rw [Compare_f]; rfl
theorem rising_parted : ∀ {l : List S25} (_ : risingHi l = true) (n : Int), ∃ p t, l = p ++ t ∧ p.length = l.countP (fun r => decide (r.f1 < n)) ∧ (∀ r, r ∈ p → r.f1 < n) ∧ (∀ r, r ∈ t → n ≤ r.f1)
  | [], _, n => ⟨[], [], rfl, rfl, fun r h => by simp at h, fun r h => by simp at h⟩
  | r :: t, h, n => by
    unfold risingHi at h
    rw [Bool.and_eq_true, List.all_eq_true] at h
    obtain ⟨h1, h2⟩ := h
    by_cases c : r.f1 < n
    · obtain ⟨p, s, e1, e2, e3, e4⟩ := rising_parted h2 n
      refine ⟨r :: p, s, by rw [e1]; rfl, ?_, ?_, e4⟩
      · rw [List.countP_cons_of_pos (by simpa using c), ← e2]; rfl
      · intro q hq
        rcases List.mem_cons.1 hq with rfl | hq
        · exact c
        · exact e3 q hq
    · have hall : ∀ q, q ∈ r :: t → n ≤ q.f1 := fun q hq => by
        rcases List.mem_cons.1 hq with rfl | hq
        · omega
        · have := of_decide_eq_true (h1 q hq); omega
      refine ⟨[], r :: t, rfl, ?_, fun q h => by simp at h, hall⟩
      rw [eq_comm, List.length_nil, List.countP_eq_zero]
      intro q hq
      have := hall q hq
      simp; omega
theorem side_of {p t : List S25} {n : Int} (hp : ∀ r, r ∈ p → r.f1 < n) (ht : ∀ r, r ∈ t → n ≤ r.f1) (i : Int) (h0 : 0 ≤ i) (h1 : i < ((p ++ t).length : Int)) : (rd_T25 (p ++ t) i).f1 < n ↔ i < (p.length : Int) := by
  have hi : i.toNat < (p ++ t).length := by omega
  have e : rd_T25 (p ++ t) i = (p ++ t)[i.toNat] := by unfold rd_T25; rw [List.getD_eq_getElem?_getD, List.getElem?_eq_getElem hi, Option.getD_some]
  rw [e]
  by_cases c : i.toNat < p.length
  · rw [List.getElem_append_left c]
    exact ⟨fun _ => by omega, fun _ => hp _ (List.getElem_mem _)⟩
  · rw [List.getElem_append_right (by omega)]
    constructor
    · intro h
      have := ht _ (List.getElem_mem (l := t) (n := i.toNat - p.length) (by simp at hi; omega))
      omega
    · intro h; omega
theorem w64' {x : Int} (h1 : -9223372036854775808 ≤ x) (h2 : x ≤ 9223372036854775807) : wrap64 x = x := by unfold wrap64; omega
theorem mid_eq (i j : Int) (h0 : 0 ≤ i) (h1 : i < j) (h2 : j < 4398046511104) : wrap64 ((IntKind.u64.wrap (wrap64 (i + j))) / 2) = (i + j) / 2 := by
  rw [w64' (x := i + j) (by omega) (by omega)]
  have : IntKind.u64.wrap (i + j) = i + j := by simp [IntKind.wrap, IntKind.bits, IntKind.signed]; omega
  rw [this, w64' (by omega) (by omega)]
theorem search_l0 (p t : List S25) (n : Int) (hl : (p ++ t).length < 4398046511104) (hp : ∀ r, r ∈ p → r.f1 < n) (ht : ∀ r, r ∈ t → n ≤ r.f1) : ∀ (d : Nat) (i j : Int), (j - i).toNat ≤ d → 0 ≤ i → i ≤ (p.length : Int) → (p.length : Int) ≤ j → j ≤ ((p ++ t).length : Int) →
    ∃ b, Ev (fun k => At.api_Run_int.l0 k (p ++ t) n ((p ++ t).length : Int) i j) ((p.length : Int), b)
  | d, i, j, hd, h0, h1, h2, h3 => by
    by_cases c : i < j
    · have hm := mid_eq i j h0 c (by omega)
      have hs := side_of hp ht ((i + j) / 2) (by omega) (by omega)
      cases d with
      | zero => omega
      | succ d =>
        by_cases c2 : (rd_T25 (p ++ t) ((i + j) / 2)).f1 < n
        · have := hs.1 c2
          obtain ⟨b, hb⟩ := search_l0 p t n hl hp ht d ((i + j) / 2 + 1) j (by omega) (by omega) (by omega) h2 h3
          refine ⟨b, Ev.step (fun k => ?_) hb⟩
          rw [At.api_Run_int.l0, if_pos c, hm, if_pos (by omega), if_pos (by omega), at1_f, Option.bind_some, if_pos c2, if_pos (by omega), w64' (by omega) (by omega)]
        · have : ¬ (i + j) / 2 < (p.length : Int) := fun h => c2 (hs.2 h)
          obtain ⟨b, hb⟩ := search_l0 p t n hl hp ht d i ((i + j) / 2) (by omega) h0 (by omega) (by omega) (by omega)
          refine ⟨b, Ev.step (fun k => ?_) hb⟩
          rw [At.api_Run_int.l0, if_pos c, hm, if_pos (by omega), if_pos (by omega), at1_f, Option.bind_some, if_neg c2, if_neg (by split <;> omega)]
    · obtain rfl : i = (p.length : Int) := by omega
      by_cases c3 : (p.length : Int) < ((p ++ t).length : Int)
      · refine ⟨(if (rd_T25 (p ++ t) (p.length : Int)).f1 < n then (-1 : Int) else if (rd_T25 (p ++ t) (p.length : Int)).f1 > n then 1 else 0) == 0, Ev.step (f := fun _ => some ((p.length : Int), (if (rd_T25 (p ++ t) (p.length : Int)).f1 < n then (-1 : Int) else if (rd_T25 (p ++ t) (p.length : Int)).f1 > n then 1 else 0) == 0)) (fun k => ?_) (Ev.now _)⟩
        rw [At.api_Run_int.l0, if_neg c, if_pos c3, if_pos h0, if_pos c3, at1_f, Option.bind_some]
      · refine ⟨false, Ev.step (f := fun _ => some ((p.length : Int), false)) (fun k => ?_) (Ev.now _)⟩
        rw [At.api_Run_int.l0, if_neg c, if_neg c3]
theorem at_ev {l : List S25} {n r : Int} (h : runs_at.f l n = some r) : Ev (fun k => At.runs_at.f k l n) r := by
  unfold runs_at.f at h
  by_cases c : risingHi l = true ∧ l.length < 4398046511104
  · rw [if_pos c] at h
    obtain rfl := Option.some.inj h
    obtain ⟨p, t, e1, e2, e3, e4⟩ := rising_parted c.1 n
    rw [← e2]
    have hl := c.2
    rw [e1] at hl ⊢
    obtain ⟨b, hb⟩ := search_l0 p t n hl e3 e4 (p ++ t).length 0 ((p ++ t).length : Int) (by omega) (Int.le_refl _) (by omega) (by simp; omega) (Int.le_refl _)
    exact Ev.bind (g := fun k => At.api_Run_int.f k (p ++ t) n) (a := ((p.length : Int), b)) hb (Ev.now _)
  · rw [if_neg c] at h; simp at h
theorem runs_at.calls (A0 : Option Addr) (c0 : Nat) (l0 : List S25) (a1 : Int) (r : Int) (w : World) (hr0 : Kd.C k25 w A0 l0.length l0) (hc0 : l0.length ≤ c0) (h : runs_at.f l0 a1 = some r) :
    Calls Try.prog 51 #[.slice A0 l0.length c0, .int .i64 a1] w fun e w' => e = .returned (.int .i64 r) ∧ Below w.heap.size w w' := by
  obtain ⟨k, hk⟩ := (at_ev h).rounds
  exact At.runs_at.calls k A0 c0 l0 a1 r w hr0 hc0 hk
end Go.Proofs.Ytkbcmjejfbbcpaa.A

namespace Go.Proofs.Ytkbcmjejfbbcpaa.A
open Go.RowKit Go.Proofs.YtkbcmjejfbbcpaaW.PrintWords Go.Proofs.YtkbcmjejfbbcpaaW.PrintLast Go.Proofs.YtkbcmjejfbbcpaaW.PrintMore
attribute [local go_sem] max2_int min2_int max_two min_two max_three min_three max_four min_four
set_option linter.unusedVariables false
set_option linter.unusedSimpArgs false
attribute [local go_sem] isSome_setCell
set_option maxHeartbeats 8000000 in
set_option maxRecDepth 100000 in
theorem runs_Sane.calls (k : Nat) (A0 : Option Addr) (c0 : Nat) (l0 : List (S25)) (r : Bool) (w : World) (hr0 : Kd.C k25 w A0 l0.length l0) (hc0 : l0.length ≤ c0) (h : runs_Sane.f k l0 = some r) :
  Calls Try.prog 20 #[.slice A0 l0.length c0] w fun e w' => e = .returned (.bool r) ∧ Below w.heap.size w w' := by
 have hu25 := Try.underlying25; have HR0 := Aside0.mk hr0; have HC0 := Aside0.mk hc0; clear hr0 hc0; have HB := Aside0.mk (Below.refl w.heap.size w); have H : (runs_Sane.l0 k (-1099511627778) l0 (l0.length : Int) 0) = some r := h; clear h; have H' := Aside0.mk H; clear H; go_enter Try.func20, Try.ntmps20; go_wp2; go_loopg [3, 8] k (fun kq v3 v8 w' => ∃ (x3_1 : Int) (x8_1 : Int), v3 = .int .i64 x3_1 ∧ v8 = .int .i64 x8_1 ∧ Aside0 (runs_Sane.l0 kq x3_1 l0 (l0.length : Int) x8_1 = some r) ∧ Aside0 (kq ≤ k) ∧ Aside0 (Below w.heap.size w w'))
 case atStart => exact ⟨((-1099511627778)), (0), rf_, rf_, H', ⟨Nat.le_refl _⟩, ⟨hb_⟩⟩
 case round =>
  clear H'; obtain ⟨x3_1, x8_1, rfl, rfl, HA, HK1, HB⟩ := hrel
  cases gk with
  | zero => exact absurd HA.out (by simp [runs_Sane.l0])
  | succ k1 =>
   have H := HA.out; clear HA; simp only [runs_Sane.l0] at H
   by_cases c2 : x8_1 < (l0.length : Int)
   ·rw [if_pos c2] at H
    have c2b0 : decide (x8_1 < (l0.length : Int)) = true := decide_eq_true c2; clear c2
    by_cases c3 : 0 ≤ x8_1
    ·rw [if_pos c3] at H
     have c3b0 : decide (0 ≤ x8_1) = true := decide_eq_true c3; clear c3
     by_cases c4 : x8_1 < (l0.length : Int)
     ·rw [if_pos c4] at H
      have c4b0 : decide (x8_1 < (l0.length : Int)) = true := decide_eq_true c4; clear c4
      by_cases c5 : ((rd_T25 l0 x8_1).f0) > ((rd_T25 l0 x8_1).f1)
      ·rw [if_pos c5] at H
       have c5b0 : decide (((rd_T25 l0 x8_1).f1) < ((rd_T25 l0 x8_1).f0)) = true := decide_eq_true c5; clear c5; obtain rfl := Option.some.inj H; have p101 : 0 ≤ (x8_1 : Int) := od_; have q101 : x8_1 < (l0.length : Int) := od_; obtain ⟨ad101, e101, hx101_0, hx101_1⟩ := at_T25 HR0.out x8_1 p101 q101
       cases e101
       replace hx101_0 := (HB.out.cell (World.block_lt_of_cell? w _ hx101_0)).trans hx101_0; replace hx101_1 := (HB.out.cell (World.block_lt_of_cell? w _ hx101_1)).trans hx101_1; replace p101 := eq_true p101; replace q101 := eq_true q101; go_wp2_with (first | ((with_reducible refine gate_dst (N := 5) rfl ?_); refine box_event ?hg (N := 5) ?hd (cs := #[.int .i64 0, .int .i64 0]) (t := 25) ?hr ?_; (case hd => rfl); (case hg => rfl); (case hr => first | (go_simp; done) | (go_simp; rfl)); intro gb102 hg w6 hbox hb; have n0_ := Aside0.mk (below_step hb_ hb); have n1_ := Aside0.mk (hbox); have n2_ := Aside0.mk ((by rw [hg]; exact (below_size hb_) : w.heap.size ≤ gb102)); have n3_ := Aside0.mk ((by rw [hg]; exact (below_size hb_) : w.heap.size ≤ gb102)); clear HB; have HB := n0_; have BK102 := n1_; have GW102 := n2_; have GE102 := n3_; clear n0_ n1_ n2_ n3_; clear hb hbox hg; have hcz7_0 : w6.cell? ⟨gb102, 0, none⟩ = some (.int .i64 0) := (blk_cell BK102.out 0).trans rfl; have hcz7_1 : w6.cell? ⟨gb102, 1, none⟩ = some (.int .i64 0) := (blk_cell BK102.out 1).trans rfl; have hfz7_0 := blk_frozen BK102.out 0; have hfz7_1 := blk_frozen BK102.out 1)); go_ret; exact ⟨re_, by repeat (first | (with_reducible first | exact HB.out | apply below_alloc | apply pw_below_drewN | apply below_drew1 | refine below_set ?_ GE102.out) | exact HB.out)⟩
      ·rw [if_neg c5] at H
       have c5b0 : decide (((rd_T25 l0 x8_1).f1) < ((rd_T25 l0 x8_1).f0)) = false := decide_eq_false c5; clear c5
       by_cases c8 : ((rd_T25 l0 x8_1).f0) < (wrap64 (x3_1 + 2))
       ·rw [if_pos c8] at H
        have c8b0 : decide (((rd_T25 l0 x8_1).f0) < (wrap64 (x3_1 + 2))) = true := decide_eq_true c8; clear c8; obtain rfl := Option.some.inj H; have p101 : 0 ≤ (x8_1 : Int) := od_; have q101 : x8_1 < (l0.length : Int) := od_; obtain ⟨ad101, e101, hx101_0, hx101_1⟩ := at_T25 HR0.out x8_1 p101 q101
        cases e101
        replace hx101_0 := (HB.out.cell (World.block_lt_of_cell? w _ hx101_0)).trans hx101_0; replace hx101_1 := (HB.out.cell (World.block_lt_of_cell? w _ hx101_1)).trans hx101_1; replace p101 := eq_true p101; replace q101 := eq_true q101; go_wp2_with (first | ((with_reducible refine gate_dst (N := 5) rfl ?_); refine box_event ?hg (N := 5) ?hd (cs := #[.int .i64 0, .int .i64 0]) (t := 25) ?hr ?_; (case hd => rfl); (case hg => rfl); (case hr => first | (go_simp; done) | (go_simp; rfl)); intro gb102 hg w9 hbox hb; have n0_ := Aside0.mk (below_step hb_ hb); have n1_ := Aside0.mk (hbox); have n2_ := Aside0.mk ((by rw [hg]; exact (below_size hb_) : w.heap.size ≤ gb102)); have n3_ := Aside0.mk ((by rw [hg]; exact (below_size hb_) : w.heap.size ≤ gb102)); clear HB; have HB := n0_; have BK102 := n1_; have GW102 := n2_; have GE102 := n3_; clear n0_ n1_ n2_ n3_; clear hb hbox hg; have hcz10_0 : w9.cell? ⟨gb102, 0, none⟩ = some (.int .i64 0) := (blk_cell BK102.out 0).trans rfl; have hcz10_1 : w9.cell? ⟨gb102, 1, none⟩ = some (.int .i64 0) := (blk_cell BK102.out 1).trans rfl; have hfz10_0 := blk_frozen BK102.out 0; have hfz10_1 := blk_frozen BK102.out 1)); go_ret; exact ⟨re_, by repeat (first | (with_reducible first | exact HB.out | apply below_alloc | apply pw_below_drewN | apply below_drew1 | refine below_set ?_ GE102.out) | exact HB.out)⟩
       ·rw [if_neg c8] at H
        have c8b0 : decide (((rd_T25 l0 x8_1).f0) < (wrap64 (x3_1 + 2))) = false := decide_eq_false c8; clear c8
        by_cases c11 : ((rd_T25 l0 x8_1).f1) > 1099511627776
        ·rw [if_pos c11] at H
         have c11b0 : decide (1099511627776 < ((rd_T25 l0 x8_1).f1)) = true := decide_eq_true c11; clear c11; obtain rfl := Option.some.inj H; have p101 : 0 ≤ (x8_1 : Int) := od_; have q101 : x8_1 < (l0.length : Int) := od_; obtain ⟨ad101, e101, hx101_0, hx101_1⟩ := at_T25 HR0.out x8_1 p101 q101
         cases e101
         replace hx101_0 := (HB.out.cell (World.block_lt_of_cell? w _ hx101_0)).trans hx101_0; replace hx101_1 := (HB.out.cell (World.block_lt_of_cell? w _ hx101_1)).trans hx101_1; replace p101 := eq_true p101; replace q101 := eq_true q101; go_wp2_with (first | ((with_reducible refine gate_dst (N := 5) rfl ?_); refine box_event ?hg (N := 5) ?hd (cs := #[.int .i64 0, .int .i64 0]) (t := 25) ?hr ?_; (case hd => rfl); (case hg => rfl); (case hr => first | (go_simp; done) | (go_simp; rfl)); intro gb102 hg w12 hbox hb; have n0_ := Aside0.mk (below_step hb_ hb); have n1_ := Aside0.mk (hbox); have n2_ := Aside0.mk ((by rw [hg]; exact (below_size hb_) : w.heap.size ≤ gb102)); have n3_ := Aside0.mk ((by rw [hg]; exact (below_size hb_) : w.heap.size ≤ gb102)); clear HB; have HB := n0_; have BK102 := n1_; have GW102 := n2_; have GE102 := n3_; clear n0_ n1_ n2_ n3_; clear hb hbox hg; have hcz13_0 : w12.cell? ⟨gb102, 0, none⟩ = some (.int .i64 0) := (blk_cell BK102.out 0).trans rfl; have hcz13_1 : w12.cell? ⟨gb102, 1, none⟩ = some (.int .i64 0) := (blk_cell BK102.out 1).trans rfl; have hfz13_0 := blk_frozen BK102.out 0; have hfz13_1 := blk_frozen BK102.out 1)); go_ret; exact ⟨re_, by repeat (first | (with_reducible first | exact HB.out | apply below_alloc | apply pw_below_drewN | apply below_drew1 | refine below_set ?_ GE102.out) | exact HB.out)⟩
        ·rw [if_neg c11] at H
         have c11b0 : decide (1099511627776 < ((rd_T25 l0 x8_1).f1)) = false := decide_eq_false c11; clear c11; have H' := Aside0.mk H; clear H; have p101 : 0 ≤ (x8_1 : Int) := od_; have q101 : x8_1 < (l0.length : Int) := od_; obtain ⟨ad101, e101, hx101_0, hx101_1⟩ := at_T25 HR0.out x8_1 p101 q101
         cases e101
         replace hx101_0 := (HB.out.cell (World.block_lt_of_cell? w _ hx101_0)).trans hx101_0; replace hx101_1 := (HB.out.cell (World.block_lt_of_cell? w _ hx101_1)).trans hx101_1; replace p101 := eq_true p101; replace q101 := eq_true q101; go_wp2_with (first | ((with_reducible refine gate_dst (N := 5) rfl ?_); refine box_event ?hg (N := 5) ?hd (cs := #[.int .i64 0, .int .i64 0]) (t := 25) ?hr ?_; (case hd => rfl); (case hg => rfl); (case hr => first | (go_simp; done) | (go_simp; rfl)); intro gb102 hg w14 hbox hb; have n0_ := Aside0.mk (below_step hb_ hb); have n1_ := Aside0.mk (hbox); have n2_ := Aside0.mk ((by rw [hg]; exact (below_size hb_) : w.heap.size ≤ gb102)); have n3_ := Aside0.mk ((by rw [hg]; exact (below_size hb_) : w.heap.size ≤ gb102)); clear HB; have HB := n0_; have BK102 := n1_; have GW102 := n2_; have GE102 := n3_; clear n0_ n1_ n2_ n3_; clear hb hbox hg; have hcz15_0 : w14.cell? ⟨gb102, 0, none⟩ = some (.int .i64 0) := (blk_cell BK102.out 0).trans rfl; have hcz15_1 : w14.cell? ⟨gb102, 1, none⟩ = some (.int .i64 0) := (blk_cell BK102.out 1).trans rfl; have hfz15_0 := blk_frozen BK102.out 0; have hfz15_1 := blk_frozen BK102.out 1)); go_roundg k1
         case measure => have := HK1.out; omega
         case rel => exact ⟨((rd_T25 l0 x8_1).f1), (wrap64 (x8_1 + 1)), rf_, rf_, H', ⟨by have := HK1.out; omega⟩, ⟨by repeat (first | (with_reducible first | exact HB.out | apply below_alloc | apply pw_below_drewN | apply below_drew1 | refine below_set ?_ GE102.out) | exact HB.out)⟩⟩
     ·rw [if_neg c4] at H
      exact absurd H (by simp)
    ·rw [if_neg c3] at H
     exact absurd H (by simp)
   ·rw [if_neg c2] at H
    have c2b0 : decide (x8_1 < (l0.length : Int)) = false := decide_eq_false c2; clear c2; obtain rfl := Option.some.inj H; go_wp2; go_ret; exact ⟨re_, hb_⟩
set_option maxHeartbeats 8000000 in
set_option maxRecDepth 100000 in
theorem runs_known.calls (k : Nat) (P0_ : Nat → Prop) (A0 : Option Addr) (c0 : Nat) (l0 : List (S25)) (r : List (S25)) (w : World) (hs0 : Kd.V k25 25 w w.heap.size (fun k_ => P0_ k_) (.slice A0 l0.length c0) l0) (h : runs_known.f k l0 = some r) :
  Calls Try.prog 50 #[.slice A0 l0.length c0] w fun e w' => ∃ v0_ : Value, e = .returned (v0_) ∧ Kd.V k25 25 w' w.heap.size (fun k_ => (P0_ k_ ∨ w.heap.size ≤ k_)) v0_ r ∧ Below w.heap.size w w' := by
 have HO0 := Aside0.mk (show Kd.V k25 25 w w.heap.size (fun k_ => (P0_ k_ ∨ w.heap.size ≤ k_)) (.slice A0 l0.length c0) l0 from Kd.V_mono hs0 (fun k_ hk => .inl hk)); have HB := Aside0.mk (Below.refl w.heap.size w); have H : ((runs_Sane.f k l0).bind fun t103 => (if t103 = true then (some l0) else ((runs_Make.f l0).bind fun t104 => (some t104)))) = some r := h; clear h; replace H := Option.bind_eq_some_iff.mp H; obtain ⟨t103, A20, H⟩ := H; replace H : (if t103 = true then (some l0) else ((runs_Make.f l0).bind fun t104 => (some t104))) = some r := H; have A2 := Aside0.mk A20; clear A20
 by_cases c3 : t103 = true
 ·subst c3
  (have H1 : (some l0) = some r := by rw [if_pos rfl] at H; exact H); clear H; have H := H1; clear H1; obtain rfl := Option.some.inj H; go_enter Try.func50, Try.ntmps50; go_wp2_with (first | ((with_reducible refine gate_callee (f := 20) rfl ?_); refine goesL_ (some 4) rfl rfl Try.func20 (by kernel_rfl) rfl #[.slice A0 l0.length c0] rfl ml_ ?_; (with_reducible refine (runs_Sane.calls k _ _ l0 true _ ?side1 ?side2 A2.out).mono ?_); (case side1 => repeat (first | exact (Kd.V_reads' HO0.out).2.2 | (with_reducible refine Kd.C_alloc ?_ _) | (with_reducible refine Kd.C_drewN ?_ _) | (with_reducible refine Kd.C_drew ?_))); (case side2 => exact (Kd.V_reads' HO0.out).2.1); rintro e w4 ⟨rfl, hb⟩; refine ⟨_, rfl, ?_⟩; have n0_ := Aside0.mk (Kd.V_below (by (with_reducible repeat (first | apply Kd.V_alloc | apply Kd.V_drewN | apply Kd.V_drew)); exact HO0.out) hb); have n1_ := Aside0.mk (below_step hb_ hb); clear HO0; clear HB; have HO0 := n0_; have HB := n1_; clear n0_ n1_; (try clear hb); (try clear hb2); (try clear hk); (try clear hi))); go_ret; exact ⟨_, by first | rfl | (simp [errW_none, errW_some] <;> rfl) | (simp [*, errW_none, errW_some] <;> rfl), by (with_reducible repeat (first | apply Kd.V_alloc | apply Kd.V_drewN | apply Kd.V_drew)); exact HO0.out, hb_⟩
 ·replace c3 := Bool.eq_false_iff.mpr c3
  subst c3; (have H1 : ((runs_Make.f l0).bind fun t104 => (some t104)) = some r := by rw [if_neg (show ¬ (false = true) by decide)] at H; exact H); clear H; have H := H1; clear H1; replace H := Option.bind_eq_some_iff.mp H; obtain ⟨t104, A50, H⟩ := H; replace H : (some t104) = some r := H; have A5 := Aside0.mk A50; clear A50; obtain rfl := Option.some.inj H; go_enter Try.func50, Try.ntmps50; go_wp2_with (first | ((with_reducible refine gate_callee (f := 20) rfl ?_); refine goesL_ (some 4) rfl rfl Try.func20 (by kernel_rfl) rfl #[.slice A0 l0.length c0] rfl ml_ ?_; (with_reducible refine (runs_Sane.calls k _ _ l0 false _ ?side1 ?side2 A2.out).mono ?_); (case side1 => repeat (first | exact (Kd.V_reads' HO0.out).2.2 | (with_reducible refine Kd.C_alloc ?_ _) | (with_reducible refine Kd.C_drewN ?_ _) | (with_reducible refine Kd.C_drew ?_))); (case side2 => exact (Kd.V_reads' HO0.out).2.1); rintro e w6 ⟨rfl, hb⟩; refine ⟨_, rfl, ?_⟩; have n0_ := Aside0.mk (Kd.V_below (by (with_reducible repeat (first | apply Kd.V_alloc | apply Kd.V_drewN | apply Kd.V_drew)); exact HO0.out) hb); have n1_ := Aside0.mk (below_step hb_ hb); clear HO0; clear HB; have HO0 := n0_; have HB := n1_; clear n0_ n1_; (try clear hb); (try clear hb2); (try clear hk); (try clear hi)) | ((with_reducible refine gate_callee (f := 19) rfl ?_); refine goesL_ (some 7) rfl rfl Try.func19 (by kernel_rfl) rfl #[.slice A0 l0.length c0] rfl ml_ ?_; (with_reducible refine (runs_Make.calls _ _ l0 t104 _ ?side1 ?side2 A5.out).mono ?_); (case side1 => repeat (first | exact (Kd.V_reads' HO0.out).2.2 | (with_reducible refine Kd.C_alloc ?_ _) | (with_reducible refine Kd.C_drewN ?_ _) | (with_reducible refine Kd.C_drew ?_))); (case side2 => exact (Kd.V_reads' HO0.out).2.1); rintro e w7 ⟨v105, rfl, ho0, hb⟩; refine ⟨_, rfl, ?_⟩; have n0_ := Aside0.mk (Kd.V_elder' (by (with_reducible repeat (first | apply Kd.V_alloc | apply Kd.V_drewN | apply Kd.V_drew)); exact HO0.out) (Kd.R_base ho0) hb); have n1_ := Aside0.mk (Kd.R_lower (Kd.R_newM (M := fun k_ => (w.heap.size ≤ k_)) ho0 (below_size hb_) (fun k_ h_ => h_)) (below_size hb_)); have n2_ := Aside0.mk (below_step hb_ hb); clear HO0; clear HB; have HO0 := n0_; have HO106 := n1_; have HB := n2_; clear n0_ n1_ n2_; (try clear hb); (try clear hb2); (try clear hk); (try clear hi); (try clear ho0))); go_ret; exact ⟨_, by first | rfl | (simp [errW_none, errW_some] <;> rfl) | (simp [*, errW_none, errW_some] <;> rfl), Kd.V_mono (Kd.R_V (by (with_reducible repeat (first | apply Kd.R_alloc | apply Kd.R_drewN | apply Kd.R_drew)); exact Kd.R_mono HO106.out (fun _ hk => hk.1))) (fun k_ hk => by first | exact ⟨(.inr (hk.1)), hk.2⟩ | exact (.inr (hk))), hb_⟩
set_option maxHeartbeats 8000000 in
set_option maxRecDepth 100000 in
theorem runs_Next.calls (k : Nat) (A0 : Option Addr) (c0 : Nat) (l0 : List (S25)) (a1 : Int) (r1 : Int) (r2 : Bool) (w : World) (hr0 : Kd.C k25 w A0 l0.length l0) (hc0 : l0.length ≤ c0) (h : runs_Next.f k l0 a1 = some (r1, r2)) :
  Calls Try.prog 25 #[.slice A0 l0.length c0, .int .i64 a1] w fun e w' => e = .returned (.tuple #[.int .i64 r1, .bool r2]) ∧ Below w.heap.size w w' := by
 have HR0 := Aside0.mk hr0; have HC0 := Aside0.mk hc0; clear hr0 hc0; have HB := Aside0.mk (Below.refl w.heap.size w); have H : ((runs_known.f k l0).bind fun t107 => ((runs_at.f t107 a1).bind fun t110 => (if t110 = (t107.length : Int) then (some (0, false)) else (if 0 ≤ t110 then (if t110 < (t107.length : Int) then (some (mx a1 ((rd_T25 t107 t110).f0), true)) else (none)) else (none))))) = some (r1, r2) := h; clear h; replace H := Option.bind_eq_some_iff.mp H; obtain ⟨t107, A30, H⟩ := H; replace H : ((runs_at.f t107 a1).bind fun t110 => (if t110 = (t107.length : Int) then (some (0, false)) else (if 0 ≤ t110 then (if t110 < (t107.length : Int) then (some (mx a1 ((rd_T25 t107 t110).f0), true)) else (none)) else (none)))) = some (r1, r2) := H; have A3 := Aside0.mk A30; clear A30; replace H := Option.bind_eq_some_iff.mp H; obtain ⟨t110, A40, H⟩ := H; replace H : (if t110 = (t107.length : Int) then (some (0, false)) else (if 0 ≤ t110 then (if t110 < (t107.length : Int) then (some (mx a1 ((rd_T25 t107 t110).f0), true)) else (none)) else (none))) = some (r1, r2) := H; have A4 := Aside0.mk A40; clear A40
 by_cases c5 : t110 = (t107.length : Int)
 ·rw [if_pos c5] at H
  have c5b0 : (t110 == (t107.length : Int)) = true := beq_iff_eq.mpr c5; have c5b1 : (t110 != (t107.length : Int)) = false := bne_eq_false_iff_eq.mpr c5; clear c5; simp only [Option.some.injEq, Prod.mk.injEq] at H; obtain ⟨rfl, rfl⟩ := H; go_enter Try.func25, Try.ntmps25; go_wp2_with (first | ((with_reducible refine gate_callee (f := 50) rfl ?_); refine goesL_ (some 8) rfl rfl Try.func50 (by kernel_rfl) rfl #[.slice A0 l0.length c0] rfl ml_ ?_; (with_reducible refine (runs_known.calls k (fun k_ => k_ < w.heap.size) _ _ l0 t107 _ ?side1 A3.out).mono ?_); (case side1 => exact Kd.V_mk HC0.out (Kd.F_below (Kd.C_F k25_heap HR0.out) hb_)); rintro e w6 ⟨v108, rfl, ho0, hb⟩; refine ⟨_, rfl, ?_⟩; have n0_ := Aside0.mk (Kd.V_lower (Kd.V_mono (ok' := fun k_ => True) ho0 (fun k_ hk_ => trivial)) (below_size hb_)); have n1_ := Aside0.mk (below_step hb_ hb); clear HB; have HO109 := n0_; have HB := n1_; clear n0_ n1_; (try clear hb); (try clear hb2); (try clear hk); (try clear hi); (try clear ho0); obtain ⟨Ao7, co7, eo7⟩ := Kd.V_slice HO109.out; subst eo7) | ((with_reducible refine gate_callee (f := 51) rfl ?_); refine goesL_ (some 11) rfl rfl Try.func51 (by kernel_rfl) rfl #[.slice Ao7 t107.length co7, .int .i64 a1] rfl ml_ ?_; (with_reducible refine (runs_at.calls _ _ t107 a1 t110 _ ?side1 ?side2 A4.out).mono ?_); (case side1 => repeat (first | exact (Kd.V_reads' HO109.out).2.2 | (with_reducible refine Kd.C_alloc ?_ _) | (with_reducible refine Kd.C_drewN ?_ _) | (with_reducible refine Kd.C_drew ?_))); (case side2 => exact (Kd.V_reads' HO109.out).2.1); rintro e w8 ⟨rfl, hb⟩; refine ⟨_, rfl, ?_⟩; have n0_ := Aside0.mk (Kd.V_below (by (with_reducible repeat (first | apply Kd.V_alloc | apply Kd.V_drewN | apply Kd.V_drew)); exact HO109.out) hb); have n1_ := Aside0.mk (below_step hb_ hb); clear HO109; clear HB; have HO109 := n0_; have HB := n1_; clear n0_ n1_; (try clear hb); (try clear hb2); (try clear hk); (try clear hi))); go_ret2; exact ⟨re_, hb_⟩
 ·rw [if_neg c5] at H
  have c5b0 : (t110 == (t107.length : Int)) = false := beq_eq_false_iff_ne.mpr c5; have c5b1 : (t110 != (t107.length : Int)) = true := bne_iff_ne.mpr c5
  by_cases c9 : 0 ≤ t110
  ·rw [if_pos c9] at H
   have c9b0 : decide (0 ≤ t110) = true := decide_eq_true c9; clear c9
   by_cases c10 : t110 < (t107.length : Int)
   ·rw [if_pos c10] at H
    have c10b0 : decide (t110 < (t107.length : Int)) = true := decide_eq_true c10; clear c10; obtain ⟨ji11, hji11⟩ : ∃ j_ : Int, (mx a1 ((rd_T25 t107 t110).f0)) = j_ := ⟨_, rfl⟩; (replace H : (some (ji11, true)) = some (r1, r2) := by first | (rw [hji11] at H; exact H) | (simp only [hji11] at H ⊢; exact H)); (try rw [hji11] at A3); (try rw [hji11] at A4); have hji11_ : (if a1 < ((rd_T25 t107 t110).f0) then ((rd_T25 t107 t110).f0) else a1) = ji11 := hji11; simp only [Option.some.injEq, Prod.mk.injEq] at H; obtain ⟨rfl, rfl⟩ := H; go_enter Try.func25, Try.ntmps25; go_wp2_with (first | ((with_reducible refine gate_callee (f := 50) rfl ?_); refine goesL_ (some 8) rfl rfl Try.func50 (by kernel_rfl) rfl #[.slice A0 l0.length c0] rfl ml_ ?_; (with_reducible refine (runs_known.calls k (fun k_ => k_ < w.heap.size) _ _ l0 t107 _ ?side1 A3.out).mono ?_); (case side1 => exact Kd.V_mk HC0.out (Kd.F_below (Kd.C_F k25_heap HR0.out) hb_)); rintro e w12 ⟨v108, rfl, ho0, hb⟩; refine ⟨_, rfl, ?_⟩; have n0_ := Aside0.mk (Kd.V_lower (Kd.V_mono (ok' := fun k_ => True) ho0 (fun k_ hk_ => trivial)) (below_size hb_)); have n1_ := Aside0.mk (below_step hb_ hb); clear HB; have HO109 := n0_; have HB := n1_; clear n0_ n1_; (try clear hb); (try clear hb2); (try clear hk); (try clear hi); (try clear ho0); obtain ⟨Ao13, co13, eo13⟩ := Kd.V_slice HO109.out; subst eo13) | ((with_reducible refine gate_callee (f := 51) rfl ?_); refine goesL_ (some 11) rfl rfl Try.func51 (by kernel_rfl) rfl #[.slice Ao13 t107.length co13, .int .i64 a1] rfl ml_ ?_; (with_reducible refine (runs_at.calls _ _ t107 a1 t110 _ ?side1 ?side2 A4.out).mono ?_); (case side1 => repeat (first | exact (Kd.V_reads' HO109.out).2.2 | (with_reducible refine Kd.C_alloc ?_ _) | (with_reducible refine Kd.C_drewN ?_ _) | (with_reducible refine Kd.C_drew ?_))); (case side2 => exact (Kd.V_reads' HO109.out).2.1); rintro e w14 ⟨rfl, hb⟩; refine ⟨_, rfl, ?_⟩; have n0_ := Aside0.mk (Kd.V_below (by (with_reducible repeat (first | apply Kd.V_alloc | apply Kd.V_drewN | apply Kd.V_drew)); exact HO109.out) hb); have n1_ := Aside0.mk (below_step hb_ hb); clear HO109; clear HB; have HO109 := n0_; have HB := n1_; clear n0_ n1_; (try clear hb); (try clear hb2); (try clear hk); (try clear hi); have p111 : 0 ≤ (t110 : Int) := od_; have q111 : t110 < (t107.length : Int) := od_; obtain ⟨ad111, e111, hx111_0, hx111_1⟩ := at_T25 (Kd.V_reads' HO109.out).2.2 t110 p111 q111; cases e111; replace p111 := eq_true p111; replace q111 := eq_true q111)); go_ret2; exact ⟨by first | rfl | (simp [errW_none, errW_some] <;> rfl) | (simp only [← hji11]; first | rfl | (simp [errW_none, errW_some] <;> rfl)) | (simp [*, errW_none, errW_some] <;> rfl), hb_⟩
   ·rw [if_neg c10] at H
    exact absurd H (by simp)
  ·rw [if_neg c9] at H
   exact absurd H (by simp)
set_option maxHeartbeats 8000000 in
set_option maxRecDepth 100000 in
theorem runs_Has.calls (k : Nat) (A0 : Option Addr) (c0 : Nat) (l0 : List (S25)) (a1 : Int) (r : Bool) (w : World) (hr0 : Kd.C k25 w A0 l0.length l0) (hc0 : l0.length ≤ c0) (h : runs_Has.f k l0 a1 = some r) :
  Calls Try.prog 22 #[.slice A0 l0.length c0, .int .i64 a1] w fun e w' => e = .returned (.bool r) ∧ Below w.heap.size w w' := by
 have HR0 := Aside0.mk hr0; have HC0 := Aside0.mk hc0; clear hr0 hc0; have HB := Aside0.mk (Below.refl w.heap.size w); have H : ((runs_Next.f k l0 a1).bind fun bt112 => (if bt112.2 = true then (some (bt112.1 == a1)) else (some false))) = some r := h; clear h; replace H := Option.bind_eq_some_iff.mp H; obtain ⟨⟨t112, t113⟩, A30, H⟩ := H; replace H : (if t113 = true then (some (t112 == a1)) else (some false)) = some r := H; have A3 := Aside0.mk A30; clear A30
 by_cases c4 : t113 = true
 ·subst c4
  (have H1 : (some (t112 == a1)) = some r := by rw [if_pos rfl] at H; exact H); clear H; have H := H1; clear H1; obtain rfl := Option.some.inj H; go_enter Try.func22, Try.ntmps22; go_wp2_with (first | ((with_reducible refine gate_callee (f := 25) rfl ?_); refine goesL_ (some 10) rfl rfl Try.func25 (by kernel_rfl) rfl #[.slice A0 l0.length c0, .int .i64 a1] rfl ml_ ?_; (with_reducible refine (runs_Next.calls k _ _ l0 a1 t112 true _ ?side1 ?side2 A3.out).mono ?_); (case side1 => repeat (first | exact HR0.out | (with_reducible refine Kd.C_alloc ?_ _) | (with_reducible refine Kd.C_drewN ?_ _) | (with_reducible refine Kd.C_drew ?_))); (case side2 => exact HC0.out); rintro e w5 ⟨rfl, hb⟩; refine ⟨_, rfl, ?_⟩; have n0_ := Aside0.mk (below_step hb_ hb); clear HB; have HB := n0_; clear n0_; (try clear hb); (try clear hb2); (try clear hk); (try clear hi))); go_ret; exact ⟨re_, hb_⟩
 ·replace c4 := Bool.eq_false_iff.mpr c4
  subst c4; (have H1 : (some false) = some r := by rw [if_neg (show ¬ (false = true) by decide)] at H; exact H); clear H; have H := H1; clear H1; obtain rfl := Option.some.inj H; go_enter Try.func22, Try.ntmps22; go_wp2_with (first | ((with_reducible refine gate_callee (f := 25) rfl ?_); refine goesL_ (some 10) rfl rfl Try.func25 (by kernel_rfl) rfl #[.slice A0 l0.length c0, .int .i64 a1] rfl ml_ ?_; (with_reducible refine (runs_Next.calls k _ _ l0 a1 t112 false _ ?side1 ?side2 A3.out).mono ?_); (case side1 => repeat (first | exact HR0.out | (with_reducible refine Kd.C_alloc ?_ _) | (with_reducible refine Kd.C_drewN ?_ _) | (with_reducible refine Kd.C_drew ?_))); (case side2 => exact HC0.out); rintro e w6 ⟨rfl, hb⟩; refine ⟨_, rfl, ?_⟩; have n0_ := Aside0.mk (below_step hb_ hb); clear HB; have HB := n0_; clear n0_; (try clear hb); (try clear hb2); (try clear hk); (try clear hi))); go_ret; exact ⟨re_, hb_⟩
set_option maxHeartbeats 8000000 in
set_option maxRecDepth 100000 in
theorem runs_Of.calls (k : Nat) (A0 : Option Addr) (c0 : Nat) (l0 : List Int) (r : List (S25)) (w : World) (hr0 : Kd.C (Kd.int .i64) w A0 l0.length l0) (hc0 : l0.length ≤ c0) (h : runs_Of.f k l0 = some r) :
  Calls Try.prog 23 #[.slice A0 l0.length c0] w fun e w' => ∃ v0_ : Value, e = .returned (v0_) ∧ Kd.R k25 25 w' w.heap.size (fun _ => True) v0_ r ∧ Below w.heap.size w w' := by
 have hu25 := Try.underlying25; have HR0 := Aside0.mk hr0; have HC0 := Aside0.mk hc0; clear hr0 hc0; have HB := Aside0.mk (Below.refl w.heap.size w); have H : (runs_Of.l0 k ([] : List (S25)) l0 (l0.length : Int) 0) = some r := h; clear h; have H' := Aside0.mk H; clear H; go_enter Try.func23, Try.ntmps23; go_wp2; go_loopg [3, 8] k (fun kq v3 v8 w' => ∃ (x3_1 : List (S25)) (x8_1 : Int), v8 = .int .i64 x8_1 ∧ Aside0 (runs_Of.l0 kq x3_1 l0 (l0.length : Int) x8_1 = some r) ∧ Aside0 (kq ≤ k) ∧ Aside0 (Kd.R k25 25 w' w.heap.size (fun _ => True) v3 x3_1) ∧ Aside0 (Below w.heap.size w w'))
 case atStart => exact ⟨(([] : List (S25))), (0), rf_, H', ⟨Nat.le_refl _⟩, ⟨by first | exact Kd.R_nil _ _ _ _ _ | exact Kd.N_nil _ _ _ _ _ | exact Kd.V_nil _ _ _ _ _ | exact Kd.Q_nil _ _ _ _ _ | exact Kd.S_nil _ _ _ _ _⟩, ⟨hb_⟩⟩
 case round =>
  clear H'; obtain ⟨x3_1, x8_1, rfl, HA, HK1, HO_3, HB⟩ := hrel
  cases gk with
  | zero => exact absurd HA.out (by simp [runs_Of.l0])
  | succ k1 =>
   have H := HA.out; clear HA; simp only [runs_Of.l0] at H
   by_cases c2 : x8_1 < (l0.length : Int)
   ·rw [if_pos c2] at H
    have c2b0 : decide (x8_1 < (l0.length : Int)) = true := decide_eq_true c2; clear c2
    by_cases c3 : 0 ≤ x8_1
    ·rw [if_pos c3] at H
     have c3b0 : decide (0 ≤ x8_1) = true := decide_eq_true c3; clear c3
     by_cases c4 : x8_1 < (l0.length : Int)
     ·rw [if_pos c4] at H
      have c4b0 : decide (x8_1 < (l0.length : Int)) = true := decide_eq_true c4; clear c4
      by_cases c5 : x3_1.length < 8796093022208
      ·rw [if_pos c5] at H
       have LMc5 := Aside0.mk c5; clear c5; obtain ⟨y115, hy115⟩ : ∃ y_ : List (S25), y_ = (x3_1 ++ [(⟨rd l0 x8_1, rd l0 x8_1⟩ : S25)]) := ⟨_, rfl⟩; (replace H : (runs_Of.l0 k1 y115 l0 (l0.length : Int) (wrap64 (x8_1 + 1))) = some r := by first | (rw [hy115]; with_reducible exact H) | (have H2_ := (Option.bind_some _ _).symm.trans H; rw [hy115]; with_reducible exact H2_) | (have H2_ := (Option.bind_some _ _).symm.trans H; with_reducible exact H2_) | with_reducible exact H | (rw [hy115]; exact H) | exact H); have Ny115 := Aside0.mk hy115; clear hy115; have H' := Aside0.mk H; clear H; have p114 : 0 ≤ (x8_1 : Int) := od_; have q114 : x8_1 < (l0.length : Int) := od_; obtain ⟨ad114, e114, hx114_0⟩ := Kd.at_int HR0.out x8_1 p114 q114
       cases e114
       replace hx114_0 := (HB.out.cell (World.block_lt_of_cell? w _ hx114_0)).trans hx114_0; replace p114 := eq_true p114; replace q114 := eq_true q114; go_wp2_with (first | ((with_reducible refine gate_builtin (b := .append) (xs := #[.tmp 12, .tmp 16]) rfl ?_); at_builtin; refine Kd.R_append k25 (w0 := w) w.heap.size rfl (.tmp 12) (.tmp 16) 23 25 (.agg #[(.int .i64 0), (.int .i64 0)]) 16 rfl Try.underlying23 info25 rfl (by decide) (by omega) u3 x3_1 (⟨rd l0 x8_1, rd l0 x8_1⟩ : S25) [.int .i64 (rd l0 x8_1), .int .i64 (rd l0 x8_1)] (fun _ => True) (fun _ => False) rfl rfl ?aP (fun _ hk => hk.elim) ?aF ?aO ?aB ?aS ?aL ?_; (case aP => exact k25_mkM _ _ _ (⟨rd l0 x8_1, rd l0 x8_1⟩ : S25)); (case aB => exact hb_); (case aF => exact (fun _ _ => trivial)); (case aO => exact (by (with_reducible repeat (first | apply Kd.R_alloc | apply Kd.R_drewN | apply Kd.R_drew)); exact HO_3.out)); (case aS => exact (below_size hb_)); (case aL => have := LMc5.out; omega); intro v116 w6 ho hb hg hat; rw [← Ny115.out] at ho; have n0_ := Aside0.mk (hb); have n1_ := Aside0.mk (ho); clear HB; clear HO_3; have HB := n0_; have HO117 := n1_; clear n0_ n1_; clear ho hb hg hat)); go_roundg k1
       case measure => have := HK1.out; omega
       case rel => exact ⟨(y115), (wrap64 (x8_1 + 1)), rf_, H', ⟨by have := HK1.out; omega⟩, ⟨by (with_reducible repeat (first | apply Kd.R_alloc | apply Kd.R_drewN | apply Kd.R_drew)); exact HO117.out⟩, ⟨hb_⟩⟩
      ·rw [if_neg c5] at H
       exact absurd H (by simp)
     ·rw [if_neg c4] at H
      exact absurd H (by simp)
    ·rw [if_neg c3] at H
     exact absurd H (by simp)
   ·rw [if_neg c2] at H
    have c2b0 : decide (x8_1 < (l0.length : Int)) = false := decide_eq_false c2; clear c2; replace H := Option.bind_eq_some_iff.mp H; obtain ⟨t118, A70, H⟩ := H; replace H : (some t118) = some r := H; have A7 := Aside0.mk A70; clear A70; obtain rfl := Option.some.inj H; obtain ⟨Ao8, co8, eo8⟩ := Kd.R_slice HO_3.out; subst eo8; go_wp2_with (first | ((with_reducible refine gate_callee (f := 19) rfl ?_); refine goesL_ (some 20) rfl rfl Try.func19 (by kernel_rfl) rfl #[.slice Ao8 x3_1.length co8] rfl ml_ ?_; (with_reducible refine (runs_Make.calls _ _ x3_1 t118 _ ?side1 ?side2 A7.out).mono ?_); (case side1 => repeat (first | exact (Kd.R_reads' HO_3.out).2.2 | (with_reducible refine Kd.C_alloc ?_ _) | (with_reducible refine Kd.C_drewN ?_ _) | (with_reducible refine Kd.C_drew ?_))); (case side2 => exact (Kd.R_reads' HO_3.out).2.1); rintro e w9 ⟨v119, rfl, ho0, hb⟩; refine ⟨_, rfl, ?_⟩; have n0_ := Aside0.mk (Kd.R_elder' (by (with_reducible repeat (first | apply Kd.R_alloc | apply Kd.R_drewN | apply Kd.R_drew)); exact HO_3.out) (Kd.R_base ho0) hb); have n1_ := Aside0.mk (Kd.R_lower (Kd.R_new' ho0 (Kd.R_lt (by (with_reducible repeat (first | apply Kd.R_alloc | apply Kd.R_drewN | apply Kd.R_drew)); exact HO_3.out))) (below_size hb_)); have n2_ := Aside0.mk (below_step hb_ hb); clear HO_3; clear HB; have HO_3 := n0_; have HO120 := n1_; have HB := n2_; clear n0_ n1_ n2_; (try clear hb); (try clear hb2); (try clear hk); (try clear hi); (try clear ho0))); go_ret; exact ⟨_, by first | rfl | (simp [errW_none, errW_some] <;> rfl) | (simp [*, errW_none, errW_some] <;> rfl), by (with_reducible repeat (first | apply Kd.R_alloc | apply Kd.R_drewN | apply Kd.R_drew)); exact Kd.R_mono HO120.out (fun _ hk => trivial), hb_⟩
set_option maxHeartbeats 8000000 in
set_option maxRecDepth 100000 in
theorem runs_Count.calls (k : Nat) (A0 : Option Addr) (c0 : Nat) (l0 : List (S25)) (r : Int) (w : World) (hr0 : Kd.C k25 w A0 l0.length l0) (hc0 : l0.length ≤ c0) (h : runs_Count.f k l0 = some r) :
  Calls Try.prog 24 #[.slice A0 l0.length c0] w fun e w' => e = .returned (.int .i64 r) ∧ Below w.heap.size w w' := by
 have hu25 := Try.underlying25; have HR0 := Aside0.mk hr0; have HC0 := Aside0.mk hc0; clear hr0 hc0; have HB := Aside0.mk (Below.refl w.heap.size w); have H : ((runs_known.f k l0).bind fun t121 => (runs_Count.l0 k 0 t121 (t121.length : Int) 0)) = some r := h; clear h; replace H := Option.bind_eq_some_iff.mp H; obtain ⟨t121, A20, H⟩ := H; replace H : (runs_Count.l0 k 0 t121 (t121.length : Int) 0) = some r := H; have A2 := Aside0.mk A20; clear A20; have H' := Aside0.mk H; clear H; go_enter Try.func24, Try.ntmps24; go_wp2_with (first | ((with_reducible refine gate_callee (f := 50) rfl ?_); refine goesL_ (some 7) rfl rfl Try.func50 (by kernel_rfl) rfl #[.slice A0 l0.length c0] rfl ml_ ?_; (with_reducible refine (runs_known.calls k (fun k_ => k_ < w.heap.size) _ _ l0 t121 _ ?side1 A2.out).mono ?_); (case side1 => exact Kd.V_mk HC0.out (Kd.F_below (Kd.C_F k25_heap HR0.out) hb_)); rintro e w3 ⟨v122, rfl, ho0, hb⟩; refine ⟨_, rfl, ?_⟩; have n0_ := Aside0.mk (Kd.V_lower (Kd.V_mono (ok' := fun k_ => True) ho0 (fun k_ hk_ => trivial)) (below_size hb_)); have n1_ := Aside0.mk (below_step hb_ hb); clear HB; have HO123 := n0_; have HB := n1_; clear n0_ n1_; (try clear hb); (try clear hb2); (try clear hk); (try clear hi); (try clear ho0); obtain ⟨Ao4, co4, eo4⟩ := Kd.V_slice HO123.out; subst eo4)); go_loopg [3, 9] k (fun kq v3 v9 w' => ∃ (x3_1 : Int) (x9_1 : Int), v3 = .int .i64 x3_1 ∧ v9 = .int .i64 x9_1 ∧ Aside0 (runs_Count.l0 kq x3_1 t121 (t121.length : Int) x9_1 = some r) ∧ Aside0 (kq ≤ k) ∧ Aside0 (Kd.V k25 25 w' w.heap.size (fun _ => True) (.slice Ao4 t121.length co4) t121) ∧ Aside0 (Below w.heap.size w w'))
 case atStart => exact ⟨(0), (0), rf_, rf_, H', ⟨Nat.le_refl _⟩, ⟨by (with_reducible repeat (first | apply Kd.V_alloc | apply Kd.V_drewN | apply Kd.V_drew)); exact HO123.out⟩, ⟨hb_⟩⟩
 case round =>
  clear H'; (try clear c2); (try clear p2); obtain ⟨x3_1, x9_1, rfl, rfl, HA, HK1, HO_7, HB⟩ := hrel
  cases gk with
  | zero => exact absurd HA.out (by simp [runs_Count.l0])
  | succ k1 =>
   have H := HA.out; clear HA; simp only [runs_Count.l0] at H
   by_cases c5 : x9_1 < (t121.length : Int)
   ·rw [if_pos c5] at H
    have c5b0 : decide (x9_1 < (t121.length : Int)) = true := decide_eq_true c5; clear c5
    by_cases c6 : 0 ≤ x9_1
    ·rw [if_pos c6] at H
     have c6b0 : decide (0 ≤ x9_1) = true := decide_eq_true c6; clear c6
     by_cases c7 : x9_1 < (t121.length : Int)
     ·rw [if_pos c7] at H
      have c7b0 : decide (x9_1 < (t121.length : Int)) = true := decide_eq_true c7; clear c7; have H' := Aside0.mk H; clear H; have p124 : 0 ≤ (x9_1 : Int) := od_; have q124 : x9_1 < (t121.length : Int) := od_; obtain ⟨ad124, e124, hx124_0, hx124_1⟩ := at_T25 (Kd.V_reads' HO_7.out).2.2 x9_1 p124 q124
      cases e124
      replace p124 := eq_true p124; replace q124 := eq_true q124; go_wp2_with (first | ((with_reducible refine gate_dst (N := 5) rfl ?_); refine box_event ?hg (N := 5) ?hd (cs := #[.int .i64 0, .int .i64 0]) (t := 25) ?hr ?_; (case hd => rfl); (case hg => rfl); (case hr => first | (go_simp; done) | (go_simp; rfl)); intro gb125 hg w8 hbox hb; have n0_ := Aside0.mk (Kd.V_below (Kd.V_elderB (by (with_reducible repeat (first | apply Kd.V_alloc | apply Kd.V_drewN | apply Kd.V_drew)); exact HO_7.out) gb125 (Nat.le_of_eq hg.symm)) hb); have n1_ := Aside0.mk (below_step hb_ hb); have n2_ := Aside0.mk (hbox); have n3_ := Aside0.mk ((by rw [hg]; exact (below_size hb_) : w.heap.size ≤ gb125)); have n4_ := Aside0.mk ((by rw [hg]; exact (below_size hb_) : w.heap.size ≤ gb125)); clear HO_7; clear HB; have HO_7 := n0_; have HB := n1_; have BK125 := n2_; have GW125 := n3_; have GE125 := n4_; clear n0_ n1_ n2_ n3_ n4_; clear hb hbox hg; have hcz9_0 : w8.cell? ⟨gb125, 0, none⟩ = some (.int .i64 0) := (blk_cell BK125.out 0).trans rfl; have hcz9_1 : w8.cell? ⟨gb125, 1, none⟩ = some (.int .i64 0) := (blk_cell BK125.out 1).trans rfl; have hfz9_0 := blk_frozen BK125.out 0; have hfz9_1 := blk_frozen BK125.out 1)); go_roundg k1
      case measure => have := HK1.out; omega
      case rel => exact ⟨(wrap64 (x3_1 + (wrap64 ((wrap64 (((rd_T25 t121 x9_1).f1) - ((rd_T25 t121 x9_1).f0))) + 1)))), (wrap64 (x9_1 + 1)), rf_, rf_, H', ⟨by have := HK1.out; omega⟩, ⟨by (with_reducible repeat (first | apply Kd.V_alloc | apply Kd.V_drewN | apply Kd.V_drew)); exact Kd.V_mono (Kd.V_far (p := ⟨gb125, 1, none⟩) (Kd.V_far (p := ⟨gb125, 0, none⟩) (Kd.V_mono HO_7.out (fun k_ hk => (⟨hk, hk.2⟩ : _ ∧ k_ ≠ gb125))) (fun _ hk => hk.2) (.int .i64 ((rd_T25 t121 x9_1).f0))) (fun _ hk => hk.2) (.int .i64 ((rd_T25 t121 x9_1).f1))) (fun _ hk => trivial)⟩, ⟨by repeat (first | (with_reducible first | exact HB.out | apply below_alloc | apply pw_below_drewN | apply below_drew1 | refine below_set ?_ GE125.out) | exact HB.out)⟩⟩
     ·rw [if_neg c7] at H
      exact absurd H (by simp)
    ·rw [if_neg c6] at H
     exact absurd H (by simp)
   ·rw [if_neg c5] at H
    have c5b0 : decide (x9_1 < (t121.length : Int)) = false := decide_eq_false c5; clear c5; obtain rfl := Option.some.inj H; go_wp2; go_ret; exact ⟨re_, hb_⟩
set_option maxHeartbeats 8000000 in
set_option maxRecDepth 100000 in
theorem lustrumlaw04_awake.calls (k : Nat)  (r : Bool) (w : World) (h : lustrumlaw04_awake.f k  = some r) :
  Calls Try.prog 18 #[] w fun e w' => e = .returned (.bool r) ∧ Below w.heap.size w w' := by
 have hu25 := Try.underlying25; have HB := Aside0.mk (Below.refl w.heap.size w); have H : ((runs_Make.f (([(⟨5, 7⟩ : S25), (⟨1, 2⟩ : S25), (⟨3, 3⟩ : S25)] : List (S25)))).bind fun t129 => (if (t129.length : Int) = 2 then (if 0 < (t129.length : Int) then (if ((rd_T25 t129 0).f0) = 1 then (if ((rd_T25 t129 0).f1) = 3 then (if 1 < (t129.length : Int) then (if ((rd_T25 t129 1).f0) = 5 then (if ((rd_T25 t129 1).f1) = 7 then ((runs_Sane.f k t129).bind fun t136 => (if t136 = true then ((runs_Has.f k t129 6).bind fun t137 => (if t137 = true then ((runs_Count.f k t129).bind fun t138 => (if t138 = 6 then ((runs_Of.f k (([3] : List Int))).bind fun t142 => (some ((t142.length : Int) == 1))) else (some false))) else (some false))) else (some false))) else (some false)) else (some false)) else (none)) else (some false)) else (some false)) else (none)) else (some false))) = some r := h; clear h; obtain ⟨y126, hy126⟩ : ∃ y_ : List (S25), y_ = (([(⟨5, 7⟩ : S25), (⟨1, 2⟩ : S25), (⟨3, 3⟩ : S25)] : List (S25))) := ⟨_, rfl⟩; (replace H : ((runs_Make.f y126).bind fun t129 => (if (t129.length : Int) = 2 then (if 0 < (t129.length : Int) then (if ((rd_T25 t129 0).f0) = 1 then (if ((rd_T25 t129 0).f1) = 3 then (if 1 < (t129.length : Int) then (if ((rd_T25 t129 1).f0) = 5 then (if ((rd_T25 t129 1).f1) = 7 then ((runs_Sane.f k t129).bind fun t136 => (if t136 = true then ((runs_Has.f k t129 6).bind fun t137 => (if t137 = true then ((runs_Count.f k t129).bind fun t138 => (if t138 = 6 then ((runs_Of.f k (([3] : List Int))).bind fun t142 => (some ((t142.length : Int) == 1))) else (some false))) else (some false))) else (some false))) else (some false)) else (some false)) else (none)) else (some false)) else (some false)) else (none)) else (some false))) = some r := by first | (rw [hy126]; with_reducible exact H) | (have H2_ := (Option.bind_some _ _).symm.trans H; rw [hy126]; with_reducible exact H2_) | (have H2_ := (Option.bind_some _ _).symm.trans H; with_reducible exact H2_) | with_reducible exact H | (rw [hy126]; exact H) | exact H); have Ny126 := Aside0.mk hy126; clear hy126; replace H := Option.bind_eq_some_iff.mp H; obtain ⟨t129, A10, H⟩ := H; replace H : (if (t129.length : Int) = 2 then (if 0 < (t129.length : Int) then (if ((rd_T25 t129 0).f0) = 1 then (if ((rd_T25 t129 0).f1) = 3 then (if 1 < (t129.length : Int) then (if ((rd_T25 t129 1).f0) = 5 then (if ((rd_T25 t129 1).f1) = 7 then ((runs_Sane.f k t129).bind fun t136 => (if t136 = true then ((runs_Has.f k t129 6).bind fun t137 => (if t137 = true then ((runs_Count.f k t129).bind fun t138 => (if t138 = 6 then ((runs_Of.f k (([3] : List Int))).bind fun t142 => (some ((t142.length : Int) == 1))) else (some false))) else (some false))) else (some false))) else (some false)) else (some false)) else (none)) else (some false)) else (some false)) else (none)) else (some false)) = some r := H; have A1 := Aside0.mk A10; clear A10
 by_cases c2 : (t129.length : Int) = 2
 ·rw [if_pos c2] at H
  have c2b0 : ((t129.length : Int) == 2) = true := beq_iff_eq.mpr c2; have c2b1 : ((t129.length : Int) != 2) = false := bne_eq_false_iff_eq.mpr c2; clear c2
  by_cases c3 : 0 < (t129.length : Int)
  ·rw [if_pos c3] at H
   have c3b0 : decide (0 < (t129.length : Int)) = true := decide_eq_true c3; have c3b1 : decide (0 < t129.length) = true := decide_eq_true (by omega); clear c3
   by_cases c4 : ((rd_T25 t129 0).f0) = 1
   ·rw [if_pos c4] at H
    have c4b0 : (((rd_T25 t129 0).f0) == 1) = true := beq_iff_eq.mpr c4; have c4b1 : (((rd_T25 t129 0).f0) != 1) = false := bne_eq_false_iff_eq.mpr c4; clear c4
    by_cases c5 : ((rd_T25 t129 0).f1) = 3
    ·rw [if_pos c5] at H
     have c5b0 : (((rd_T25 t129 0).f1) == 3) = true := beq_iff_eq.mpr c5; have c5b1 : (((rd_T25 t129 0).f1) != 3) = false := bne_eq_false_iff_eq.mpr c5; clear c5
     by_cases c6 : 1 < (t129.length : Int)
     ·rw [if_pos c6] at H
      have c6b0 : decide (1 < (t129.length : Int)) = true := decide_eq_true c6; have c6b1 : decide (1 < t129.length) = true := decide_eq_true (by omega); clear c6
      by_cases c7 : ((rd_T25 t129 1).f0) = 5
      ·rw [if_pos c7] at H
       have c7b0 : (((rd_T25 t129 1).f0) == 5) = true := beq_iff_eq.mpr c7; have c7b1 : (((rd_T25 t129 1).f0) != 5) = false := bne_eq_false_iff_eq.mpr c7; clear c7
       by_cases c8 : ((rd_T25 t129 1).f1) = 7
       ·rw [if_pos c8] at H
        have c8b0 : (((rd_T25 t129 1).f1) == 7) = true := beq_iff_eq.mpr c8; have c8b1 : (((rd_T25 t129 1).f1) != 7) = false := bne_eq_false_iff_eq.mpr c8; clear c8; replace H := Option.bind_eq_some_iff.mp H; obtain ⟨t136, A90, H⟩ := H; replace H : (if t136 = true then ((runs_Has.f k t129 6).bind fun t137 => (if t137 = true then ((runs_Count.f k t129).bind fun t138 => (if t138 = 6 then ((runs_Of.f k (([3] : List Int))).bind fun t142 => (some ((t142.length : Int) == 1))) else (some false))) else (some false))) else (some false)) = some r := H; have A9 := Aside0.mk A90; clear A90
        by_cases c10 : t136 = true
        ·subst c10
         (have H1 : ((runs_Has.f k t129 6).bind fun t137 => (if t137 = true then ((runs_Count.f k t129).bind fun t138 => (if t138 = 6 then ((runs_Of.f k (([3] : List Int))).bind fun t142 => (some ((t142.length : Int) == 1))) else (some false))) else (some false))) = some r := by rw [if_pos rfl] at H; exact H); clear H; have H := H1; clear H1; replace H := Option.bind_eq_some_iff.mp H; obtain ⟨t137, A110, H⟩ := H; replace H : (if t137 = true then ((runs_Count.f k t129).bind fun t138 => (if t138 = 6 then ((runs_Of.f k (([3] : List Int))).bind fun t142 => (some ((t142.length : Int) == 1))) else (some false))) else (some false)) = some r := H; have A11 := Aside0.mk A110; clear A110
         by_cases c12 : t137 = true
         ·subst c12
          (have H1 : ((runs_Count.f k t129).bind fun t138 => (if t138 = 6 then ((runs_Of.f k (([3] : List Int))).bind fun t142 => (some ((t142.length : Int) == 1))) else (some false))) = some r := by rw [if_pos rfl] at H; exact H); clear H; have H := H1; clear H1; replace H := Option.bind_eq_some_iff.mp H; obtain ⟨t138, A130, H⟩ := H; replace H : (if t138 = 6 then ((runs_Of.f k (([3] : List Int))).bind fun t142 => (some ((t142.length : Int) == 1))) else (some false)) = some r := H; have A13 := Aside0.mk A130; clear A130
          by_cases c14 : t138 = 6
          ·rw [if_pos c14] at H
           have c14b0 : (t138 == 6) = true := beq_iff_eq.mpr c14; have c14b1 : (t138 != 6) = false := bne_eq_false_iff_eq.mpr c14; clear c14; obtain ⟨y139, hy139⟩ : ∃ y_ : List Int, y_ = (([3] : List Int)) := ⟨_, rfl⟩; (replace H : ((runs_Of.f k y139).bind fun t142 => (some ((t142.length : Int) == 1))) = some r := by first | (rw [hy139]; with_reducible exact H) | (have H2_ := (Option.bind_some _ _).symm.trans H; rw [hy139]; with_reducible exact H2_) | (have H2_ := (Option.bind_some _ _).symm.trans H; with_reducible exact H2_) | with_reducible exact H | (rw [hy139]; exact H) | exact H); have Ny139 := Aside0.mk hy139; clear hy139; replace H := Option.bind_eq_some_iff.mp H; obtain ⟨t142, A150, H⟩ := H; replace H : (some ((t142.length : Int) == 1)) = some r := H; have A15 := Aside0.mk A150; clear A150; obtain rfl := Option.some.inj H; go_enter Try.func18, Try.ntmps18; go_wp2_with (first | ((with_reducible refine gate_dst (N := 5) rfl ?_); (try (refine gate_guard (by rfl) ?_; dsimp only)); refine Kd.R_lit k25 _ 25 ?hg (N := 5) ?hd (xs := ([(⟨5, 7⟩ : S25), (⟨1, 2⟩ : S25), (⟨3, 3⟩ : S25)] : List (S25))) (inner := [.int .i64 5, .int .i64 7, .int .i64 1, .int .i64 2, .int .i64 3, .int .i64 3]) (ok := fun _ => True) (okp := fun _ => True) ?hr ?hp (fun _ hk => hk) trivial (Below.refl _ _) (Nat.le_refl _) (by simp) ?_; (case hd => rfl); (case hg => rfl); (case hr => first | (go_simp; done) | (go_simp; rfl)); (case hp => exact (Reps.c2 (show Kd.M k25 _ _ _ (⟨5, 7⟩ : S25) [.int .i64 5, .int .i64 7] from (k25_mkM _ _ _ (⟨5, 7⟩ : S25) )) (Reps.c2 (show Kd.M k25 _ _ _ (⟨1, 2⟩ : S25) [.int .i64 1, .int .i64 2] from (k25_mkM _ _ _ (⟨1, 2⟩ : S25) )) (Reps.c2 (show Kd.M k25 _ _ _ (⟨3, 3⟩ : S25) [.int .i64 3, .int .i64 3] from (k25_mkM _ _ _ (⟨3, 3⟩ : S25) )) (Reps.none _ _))))); intro v127 w16 ho17 hb hg_ hnew_; clear hg_ hnew_; (first | rw [← Ny126.out] at ho17 | (simp only [Int.reduceToNat] at ho17; rw [← Ny126.out] at ho17)); have n0_ := Aside0.mk (Kd.R_lower ho17 (below_size hb_)); have n1_ := Aside0.mk (below_step hb_ hb); clear HB; have HO128 := n0_; have HB := n1_; clear n0_ n1_; clear hb ho17; obtain ⟨Ao18, co18, eo18⟩ := Kd.R_slice HO128.out; subst eo18) | ((with_reducible refine gate_callee (f := 19) rfl ?_); refine goesL_ (some 6) rfl rfl Try.func19 (by kernel_rfl) rfl #[.slice Ao18 y126.length co18] rfl ml_ ?_; (with_reducible refine (runs_Make.calls _ _ y126 t129 _ ?side1 ?side2 A1.out).mono ?_); (case side1 => repeat (first | exact (Kd.R_reads' HO128.out).2.2 | (with_reducible refine Kd.C_alloc ?_ _) | (with_reducible refine Kd.C_drewN ?_ _) | (with_reducible refine Kd.C_drew ?_))); (case side2 => exact (Kd.R_reads' HO128.out).2.1); rintro e w19 ⟨v130, rfl, ho0, hb⟩; refine ⟨_, rfl, ?_⟩; have n0_ := Aside0.mk (Kd.R_elder' (by (with_reducible repeat (first | apply Kd.R_alloc | apply Kd.R_drewN | apply Kd.R_drew)); exact HO128.out) (Kd.R_base ho0) hb); have n1_ := Aside0.mk (Kd.R_lower (Kd.R_new' ho0 (Kd.R_lt (by (with_reducible repeat (first | apply Kd.R_alloc | apply Kd.R_drewN | apply Kd.R_drew)); exact HO128.out))) (below_size hb_)); have n2_ := Aside0.mk (below_step hb_ hb); clear HO128; clear HB; have HO128 := n0_; have HO131 := n1_; have HB := n2_; clear n0_ n1_ n2_; (try clear hb); (try clear hb2); (try clear hk); (try clear hi); (try clear ho0); obtain ⟨Ao20, co20, eo20⟩ := Kd.R_slice HO131.out; subst eo20; have p132 : 0 ≤ (0 : Int) := (by omega); have q132 : 0 < (t129.length : Int) := od_; obtain ⟨ad132, e132, hx132_0, hx132_1⟩ := at_T25 (Kd.R_reads' HO131.out).2.2 0 p132 q132; cases e132; have qi132 : (0 < t129.length) = True := eq_true (by omega); (try rw [show ((0 : Int)).toNat = 0 from rfl] at hx132_0); (try rw [show 0 * 2 = 0 from rfl] at hx132_0); (try rw [Addr.add_zero'] at hx132_0); (try rw [show ((0 : Int)).toNat = 0 from rfl] at hx132_1); (try rw [show 0 * 2 = 0 from rfl] at hx132_1); (try rw [Addr.add_zero'] at hx132_1); replace p132 := eq_true p132; replace q132 := eq_true q132; have p133 : 0 ≤ (0 : Int) := (by omega); have q133 : 0 < (t129.length : Int) := od_; obtain ⟨ad133, e133, hx133_0, hx133_1⟩ := at_T25 (Kd.R_reads' HO131.out).2.2 0 p133 q133; obtain rfl : ad132 = ad133 := (by injection e133); have qi133 : (0 < t129.length) = True := eq_true (by omega); (try rw [show ((0 : Int)).toNat = 0 from rfl] at hx133_0); (try rw [show 0 * 2 = 0 from rfl] at hx133_0); (try rw [Addr.add_zero'] at hx133_0); (try rw [show ((0 : Int)).toNat = 0 from rfl] at hx133_1); (try rw [show 0 * 2 = 0 from rfl] at hx133_1); (try rw [Addr.add_zero'] at hx133_1); replace p133 := eq_true p133; replace q133 := eq_true q133; have p134 : 0 ≤ (1 : Int) := (by omega); have q134 : 1 < (t129.length : Int) := od_; obtain ⟨ad134, e134, hx134_0, hx134_1⟩ := at_T25 (Kd.R_reads' HO131.out).2.2 1 p134 q134; obtain rfl : ad132 = ad134 := (by injection e134); (try simp only [show (1 : Int).toNat = 1 from rfl, Nat.reduceMul, Nat.reduceEqDiff, Go.Addr.add, ↓reduceIte] at hx134_0); (try simp only [show (1 : Int).toNat = 1 from rfl, Nat.reduceMul, Nat.reduceEqDiff, Go.Addr.add, ↓reduceIte] at hx134_1); have qi134 : (1 < t129.length) = True := eq_true (by omega); (try rw [show ((1 : Int)).toNat = 1 from rfl] at hx134_0); (try rw [show 1 * 2 = 2 from rfl] at hx134_0); (try rw [show ((1 : Int)).toNat = 1 from rfl] at hx134_1); (try rw [show 1 * 2 = 2 from rfl] at hx134_1); replace p134 := eq_true p134; replace q134 := eq_true q134; have p135 : 0 ≤ (1 : Int) := (by omega); have q135 : 1 < (t129.length : Int) := od_; obtain ⟨ad135, e135, hx135_0, hx135_1⟩ := at_T25 (Kd.R_reads' HO131.out).2.2 1 p135 q135; obtain rfl : ad132 = ad135 := (by injection e135); (try simp only [show (1 : Int).toNat = 1 from rfl, Nat.reduceMul, Nat.reduceEqDiff, Go.Addr.add, ↓reduceIte] at hx135_0); (try simp only [show (1 : Int).toNat = 1 from rfl, Nat.reduceMul, Nat.reduceEqDiff, Go.Addr.add, ↓reduceIte] at hx135_1); have qi135 : (1 < t129.length) = True := eq_true (by omega); (try rw [show ((1 : Int)).toNat = 1 from rfl] at hx135_0); (try rw [show 1 * 2 = 2 from rfl] at hx135_0); (try rw [show ((1 : Int)).toNat = 1 from rfl] at hx135_1); (try rw [show 1 * 2 = 2 from rfl] at hx135_1); replace p135 := eq_true p135; replace q135 := eq_true q135) | (go_at_call 20; (with_reducible refine (runs_Sane.calls k _ _ t129 true _ ?side1 ?side2 A9.out).mono ?_); (case side1 => repeat (first | exact (Kd.R_reads' HO131.out).2.2 | (with_reducible refine Kd.C_alloc ?_ _) | (with_reducible refine Kd.C_drewN ?_ _) | (with_reducible refine Kd.C_drew ?_))); (case side2 => exact (Kd.R_reads' HO131.out).2.1); rintro e w21 ⟨rfl, hb⟩; have n0_ := Aside0.mk (Kd.R_below (by (with_reducible repeat (first | apply Kd.R_alloc | apply Kd.R_drewN | apply Kd.R_drew)); exact HO128.out) hb); have n1_ := Aside0.mk (Kd.R_below (by (with_reducible repeat (first | apply Kd.R_alloc | apply Kd.R_drewN | apply Kd.R_drew)); exact HO131.out) hb); have n2_ := Aside0.mk (below_step hb_ hb); clear HO128; clear HO131; clear HB; have HO128 := n0_; have HO131 := n1_; have HB := n2_; clear n0_ n1_ n2_; (try clear hb); (try clear hb2); (try clear hk); (try clear hi)) | (go_at_call 22; (with_reducible refine (runs_Has.calls k _ _ t129 6 true _ ?side1 ?side2 A11.out).mono ?_); (case side1 => repeat (first | exact (Kd.R_reads' HO131.out).2.2 | (with_reducible refine Kd.C_alloc ?_ _) | (with_reducible refine Kd.C_drewN ?_ _) | (with_reducible refine Kd.C_drew ?_))); (case side2 => exact (Kd.R_reads' HO131.out).2.1); rintro e w22 ⟨rfl, hb⟩; have n0_ := Aside0.mk (Kd.R_below (by (with_reducible repeat (first | apply Kd.R_alloc | apply Kd.R_drewN | apply Kd.R_drew)); exact HO128.out) hb); have n1_ := Aside0.mk (Kd.R_below (by (with_reducible repeat (first | apply Kd.R_alloc | apply Kd.R_drewN | apply Kd.R_drew)); exact HO131.out) hb); have n2_ := Aside0.mk (below_step hb_ hb); clear HO128; clear HO131; clear HB; have HO128 := n0_; have HO131 := n1_; have HB := n2_; clear n0_ n1_ n2_; (try clear hb); (try clear hb2); (try clear hk); (try clear hi)) | (go_at_call 24; (with_reducible refine (runs_Count.calls k _ _ t129 t138 _ ?side1 ?side2 A13.out).mono ?_); (case side1 => repeat (first | exact (Kd.R_reads' HO131.out).2.2 | (with_reducible refine Kd.C_alloc ?_ _) | (with_reducible refine Kd.C_drewN ?_ _) | (with_reducible refine Kd.C_drew ?_))); (case side2 => exact (Kd.R_reads' HO131.out).2.1); rintro e w23 ⟨rfl, hb⟩; have n0_ := Aside0.mk (Kd.R_below (by (with_reducible repeat (first | apply Kd.R_alloc | apply Kd.R_drewN | apply Kd.R_drew)); exact HO128.out) hb); have n1_ := Aside0.mk (Kd.R_below (by (with_reducible repeat (first | apply Kd.R_alloc | apply Kd.R_drewN | apply Kd.R_drew)); exact HO131.out) hb); have n2_ := Aside0.mk (below_step hb_ hb); clear HO128; clear HO131; clear HB; have HO128 := n0_; have HO131 := n1_; have HB := n2_; clear n0_ n1_ n2_; (try clear hb); (try clear hb2); (try clear hk); (try clear hi)) | ((with_reducible refine gate_dst (N := 52) rfl ?_); (try (refine gate_guard (by rfl) ?_; dsimp only)); refine Kd.R_lit (Kd.int .i64) _ 3 ?hg (N := 52) ?hd (xs := ([3] : List Int)) (inner := [.int .i64 3]) (ok := fun _ => True) (okp := fun _ => True) ?hr ?hp (fun _ hk => hk) trivial (Below.refl _ _) (Nat.le_refl _) (by simp) ?_; (case hd => rfl); (case hg => rfl); (case hr => first | (go_simp; done) | (go_simp; rfl)); (case hp => exact (Reps.one (show Kd.M (Kd.int .i64) _ _ _ 3 [.int .i64 3] from rfl) (Reps.none _ _))); intro v140 w24 ho25 hb hg_ hnew_; clear hg_ hnew_; (first | rw [← Ny139.out] at ho25 | (simp only [Int.reduceToNat] at ho25; rw [← Ny139.out] at ho25)); have n0_ := Aside0.mk (Kd.R_below (by (with_reducible repeat (first | apply Kd.R_alloc | apply Kd.R_drewN | apply Kd.R_drew)); exact HO128.out) hb); have n1_ := Aside0.mk (Kd.R_below (by (with_reducible repeat (first | apply Kd.R_alloc | apply Kd.R_drewN | apply Kd.R_drew)); exact HO131.out) hb); have n2_ := Aside0.mk (Kd.R_lower ho25 (below_size hb_)); have n3_ := Aside0.mk (below_step hb_ hb); clear HO128; clear HO131; clear HB; have HO128 := n0_; have HO131 := n1_; have HO141 := n2_; have HB := n3_; clear n0_ n1_ n2_ n3_; clear hb ho25; obtain ⟨Ao26, co26, eo26⟩ := Kd.R_slice HO141.out; subst eo26) | (go_at_call 23; (with_reducible refine (runs_Of.calls k _ _ y139 t142 _ ?side1 ?side2 A15.out).mono ?_); (case side1 => repeat (first | exact (Kd.R_reads' HO141.out).2.2 | (with_reducible refine Kd.C_alloc ?_ _) | (with_reducible refine Kd.C_drewN ?_ _) | (with_reducible refine Kd.C_drew ?_))); (case side2 => exact (Kd.R_reads' HO141.out).2.1); rintro e w27 ⟨v143, rfl, ho0, hb⟩; have n0_ := Aside0.mk (Kd.R_elder' (by (with_reducible repeat (first | apply Kd.R_alloc | apply Kd.R_drewN | apply Kd.R_drew)); exact HO128.out) (Kd.R_base ho0) hb); have n1_ := Aside0.mk (Kd.R_elder' (by (with_reducible repeat (first | apply Kd.R_alloc | apply Kd.R_drewN | apply Kd.R_drew)); exact HO131.out) (Kd.R_base ho0) hb); have n2_ := Aside0.mk (Kd.R_below (by (with_reducible repeat (first | apply Kd.R_alloc | apply Kd.R_drewN | apply Kd.R_drew)); exact HO141.out) hb); have n3_ := Aside0.mk (Kd.R_lower (Kd.R_new' (Kd.R_new' ho0 (Kd.R_lt (by (with_reducible repeat (first | apply Kd.R_alloc | apply Kd.R_drewN | apply Kd.R_drew)); exact HO128.out))) (Kd.R_lt (by (with_reducible repeat (first | apply Kd.R_alloc | apply Kd.R_drewN | apply Kd.R_drew)); exact HO131.out))) (below_size hb_)); have n4_ := Aside0.mk (below_step hb_ hb); clear HO128; clear HO131; clear HO141; clear HB; have HO128 := n0_; have HO131 := n1_; have HO141 := n2_; have HO144 := n3_; have HB := n4_; clear n0_ n1_ n2_ n3_ n4_; (try clear hb); (try clear hb2); (try clear hk); (try clear hi); (try clear ho0); obtain ⟨Ao28, co28, eo28⟩ := Kd.R_slice HO144.out; subst eo28))
           go_ret; exact ⟨re_, hb_⟩
          ·rw [if_neg c14] at H
           have c14b0 : (t138 == 6) = false := beq_eq_false_iff_ne.mpr c14; have c14b1 : (t138 != 6) = true := bne_iff_ne.mpr c14; obtain rfl := Option.some.inj H; go_enter Try.func18, Try.ntmps18; go_wp2_with (first | ((with_reducible refine gate_dst (N := 5) rfl ?_); (try (refine gate_guard (by rfl) ?_; dsimp only)); refine Kd.R_lit k25 _ 25 ?hg (N := 5) ?hd (xs := ([(⟨5, 7⟩ : S25), (⟨1, 2⟩ : S25), (⟨3, 3⟩ : S25)] : List (S25))) (inner := [.int .i64 5, .int .i64 7, .int .i64 1, .int .i64 2, .int .i64 3, .int .i64 3]) (ok := fun _ => True) (okp := fun _ => True) ?hr ?hp (fun _ hk => hk) trivial (Below.refl _ _) (Nat.le_refl _) (by simp) ?_; (case hd => rfl); (case hg => rfl); (case hr => first | (go_simp; done) | (go_simp; rfl)); (case hp => exact (Reps.c2 (show Kd.M k25 _ _ _ (⟨5, 7⟩ : S25) [.int .i64 5, .int .i64 7] from (k25_mkM _ _ _ (⟨5, 7⟩ : S25) )) (Reps.c2 (show Kd.M k25 _ _ _ (⟨1, 2⟩ : S25) [.int .i64 1, .int .i64 2] from (k25_mkM _ _ _ (⟨1, 2⟩ : S25) )) (Reps.c2 (show Kd.M k25 _ _ _ (⟨3, 3⟩ : S25) [.int .i64 3, .int .i64 3] from (k25_mkM _ _ _ (⟨3, 3⟩ : S25) )) (Reps.none _ _))))); intro v127 w29 ho30 hb hg_ hnew_; clear hg_ hnew_; (first | rw [← Ny126.out] at ho30 | (simp only [Int.reduceToNat] at ho30; rw [← Ny126.out] at ho30)); have n0_ := Aside0.mk (Kd.R_lower ho30 (below_size hb_)); have n1_ := Aside0.mk (below_step hb_ hb); clear HB; have HO128 := n0_; have HB := n1_; clear n0_ n1_; clear hb ho30; obtain ⟨Ao31, co31, eo31⟩ := Kd.R_slice HO128.out; subst eo31) | ((with_reducible refine gate_callee (f := 19) rfl ?_); refine goesL_ (some 6) rfl rfl Try.func19 (by kernel_rfl) rfl #[.slice Ao31 y126.length co31] rfl ml_ ?_; (with_reducible refine (runs_Make.calls _ _ y126 t129 _ ?side1 ?side2 A1.out).mono ?_); (case side1 => repeat (first | exact (Kd.R_reads' HO128.out).2.2 | (with_reducible refine Kd.C_alloc ?_ _) | (with_reducible refine Kd.C_drewN ?_ _) | (with_reducible refine Kd.C_drew ?_))); (case side2 => exact (Kd.R_reads' HO128.out).2.1); rintro e w32 ⟨v130, rfl, ho0, hb⟩; refine ⟨_, rfl, ?_⟩; have n0_ := Aside0.mk (Kd.R_elder' (by (with_reducible repeat (first | apply Kd.R_alloc | apply Kd.R_drewN | apply Kd.R_drew)); exact HO128.out) (Kd.R_base ho0) hb); have n1_ := Aside0.mk (Kd.R_lower (Kd.R_new' ho0 (Kd.R_lt (by (with_reducible repeat (first | apply Kd.R_alloc | apply Kd.R_drewN | apply Kd.R_drew)); exact HO128.out))) (below_size hb_)); have n2_ := Aside0.mk (below_step hb_ hb); clear HO128; clear HB; have HO128 := n0_; have HO131 := n1_; have HB := n2_; clear n0_ n1_ n2_; (try clear hb); (try clear hb2); (try clear hk); (try clear hi); (try clear ho0); obtain ⟨Ao33, co33, eo33⟩ := Kd.R_slice HO131.out; subst eo33; have p132 : 0 ≤ (0 : Int) := (by omega); have q132 : 0 < (t129.length : Int) := od_; obtain ⟨ad132, e132, hx132_0, hx132_1⟩ := at_T25 (Kd.R_reads' HO131.out).2.2 0 p132 q132; cases e132; have qi132 : (0 < t129.length) = True := eq_true (by omega); (try rw [show ((0 : Int)).toNat = 0 from rfl] at hx132_0); (try rw [show 0 * 2 = 0 from rfl] at hx132_0); (try rw [Addr.add_zero'] at hx132_0); (try rw [show ((0 : Int)).toNat = 0 from rfl] at hx132_1); (try rw [show 0 * 2 = 0 from rfl] at hx132_1); (try rw [Addr.add_zero'] at hx132_1); replace p132 := eq_true p132; replace q132 := eq_true q132; have p133 : 0 ≤ (0 : Int) := (by omega); have q133 : 0 < (t129.length : Int) := od_; obtain ⟨ad133, e133, hx133_0, hx133_1⟩ := at_T25 (Kd.R_reads' HO131.out).2.2 0 p133 q133; obtain rfl : ad132 = ad133 := (by injection e133); have qi133 : (0 < t129.length) = True := eq_true (by omega); (try rw [show ((0 : Int)).toNat = 0 from rfl] at hx133_0); (try rw [show 0 * 2 = 0 from rfl] at hx133_0); (try rw [Addr.add_zero'] at hx133_0); (try rw [show ((0 : Int)).toNat = 0 from rfl] at hx133_1); (try rw [show 0 * 2 = 0 from rfl] at hx133_1); (try rw [Addr.add_zero'] at hx133_1); replace p133 := eq_true p133; replace q133 := eq_true q133; have p134 : 0 ≤ (1 : Int) := (by omega); have q134 : 1 < (t129.length : Int) := od_; obtain ⟨ad134, e134, hx134_0, hx134_1⟩ := at_T25 (Kd.R_reads' HO131.out).2.2 1 p134 q134; obtain rfl : ad132 = ad134 := (by injection e134); (try simp only [show (1 : Int).toNat = 1 from rfl, Nat.reduceMul, Nat.reduceEqDiff, Go.Addr.add, ↓reduceIte] at hx134_0); (try simp only [show (1 : Int).toNat = 1 from rfl, Nat.reduceMul, Nat.reduceEqDiff, Go.Addr.add, ↓reduceIte] at hx134_1); have qi134 : (1 < t129.length) = True := eq_true (by omega); (try rw [show ((1 : Int)).toNat = 1 from rfl] at hx134_0); (try rw [show 1 * 2 = 2 from rfl] at hx134_0); (try rw [show ((1 : Int)).toNat = 1 from rfl] at hx134_1); (try rw [show 1 * 2 = 2 from rfl] at hx134_1); replace p134 := eq_true p134; replace q134 := eq_true q134; have p135 : 0 ≤ (1 : Int) := (by omega); have q135 : 1 < (t129.length : Int) := od_; obtain ⟨ad135, e135, hx135_0, hx135_1⟩ := at_T25 (Kd.R_reads' HO131.out).2.2 1 p135 q135; obtain rfl : ad132 = ad135 := (by injection e135); (try simp only [show (1 : Int).toNat = 1 from rfl, Nat.reduceMul, Nat.reduceEqDiff, Go.Addr.add, ↓reduceIte] at hx135_0); (try simp only [show (1 : Int).toNat = 1 from rfl, Nat.reduceMul, Nat.reduceEqDiff, Go.Addr.add, ↓reduceIte] at hx135_1); have qi135 : (1 < t129.length) = True := eq_true (by omega); (try rw [show ((1 : Int)).toNat = 1 from rfl] at hx135_0); (try rw [show 1 * 2 = 2 from rfl] at hx135_0); (try rw [show ((1 : Int)).toNat = 1 from rfl] at hx135_1); (try rw [show 1 * 2 = 2 from rfl] at hx135_1); replace p135 := eq_true p135; replace q135 := eq_true q135) | (go_at_call 20; (with_reducible refine (runs_Sane.calls k _ _ t129 true _ ?side1 ?side2 A9.out).mono ?_); (case side1 => repeat (first | exact (Kd.R_reads' HO131.out).2.2 | (with_reducible refine Kd.C_alloc ?_ _) | (with_reducible refine Kd.C_drewN ?_ _) | (with_reducible refine Kd.C_drew ?_))); (case side2 => exact (Kd.R_reads' HO131.out).2.1); rintro e w34 ⟨rfl, hb⟩; have n0_ := Aside0.mk (Kd.R_below (by (with_reducible repeat (first | apply Kd.R_alloc | apply Kd.R_drewN | apply Kd.R_drew)); exact HO128.out) hb); have n1_ := Aside0.mk (Kd.R_below (by (with_reducible repeat (first | apply Kd.R_alloc | apply Kd.R_drewN | apply Kd.R_drew)); exact HO131.out) hb); have n2_ := Aside0.mk (below_step hb_ hb); clear HO128; clear HO131; clear HB; have HO128 := n0_; have HO131 := n1_; have HB := n2_; clear n0_ n1_ n2_; (try clear hb); (try clear hb2); (try clear hk); (try clear hi)) | (go_at_call 22; (with_reducible refine (runs_Has.calls k _ _ t129 6 true _ ?side1 ?side2 A11.out).mono ?_); (case side1 => repeat (first | exact (Kd.R_reads' HO131.out).2.2 | (with_reducible refine Kd.C_alloc ?_ _) | (with_reducible refine Kd.C_drewN ?_ _) | (with_reducible refine Kd.C_drew ?_))); (case side2 => exact (Kd.R_reads' HO131.out).2.1); rintro e w35 ⟨rfl, hb⟩; have n0_ := Aside0.mk (Kd.R_below (by (with_reducible repeat (first | apply Kd.R_alloc | apply Kd.R_drewN | apply Kd.R_drew)); exact HO128.out) hb); have n1_ := Aside0.mk (Kd.R_below (by (with_reducible repeat (first | apply Kd.R_alloc | apply Kd.R_drewN | apply Kd.R_drew)); exact HO131.out) hb); have n2_ := Aside0.mk (below_step hb_ hb); clear HO128; clear HO131; clear HB; have HO128 := n0_; have HO131 := n1_; have HB := n2_; clear n0_ n1_ n2_; (try clear hb); (try clear hb2); (try clear hk); (try clear hi)) | (go_at_call 24; (with_reducible refine (runs_Count.calls k _ _ t129 t138 _ ?side1 ?side2 A13.out).mono ?_); (case side1 => repeat (first | exact (Kd.R_reads' HO131.out).2.2 | (with_reducible refine Kd.C_alloc ?_ _) | (with_reducible refine Kd.C_drewN ?_ _) | (with_reducible refine Kd.C_drew ?_))); (case side2 => exact (Kd.R_reads' HO131.out).2.1); rintro e w36 ⟨rfl, hb⟩; have n0_ := Aside0.mk (Kd.R_below (by (with_reducible repeat (first | apply Kd.R_alloc | apply Kd.R_drewN | apply Kd.R_drew)); exact HO128.out) hb); have n1_ := Aside0.mk (Kd.R_below (by (with_reducible repeat (first | apply Kd.R_alloc | apply Kd.R_drewN | apply Kd.R_drew)); exact HO131.out) hb); have n2_ := Aside0.mk (below_step hb_ hb); clear HO128; clear HO131; clear HB; have HO128 := n0_; have HO131 := n1_; have HB := n2_; clear n0_ n1_ n2_; (try clear hb); (try clear hb2); (try clear hk); (try clear hi)))
           go_ret; exact ⟨re_, hb_⟩
         ·replace c12 := Bool.eq_false_iff.mpr c12
          subst c12; (have H1 : (some false) = some r := by rw [if_neg (show ¬ (false = true) by decide)] at H; exact H); clear H; have H := H1; clear H1; obtain rfl := Option.some.inj H; go_enter Try.func18, Try.ntmps18; go_wp2_with (first | ((with_reducible refine gate_dst (N := 5) rfl ?_); (try (refine gate_guard (by rfl) ?_; dsimp only)); refine Kd.R_lit k25 _ 25 ?hg (N := 5) ?hd (xs := ([(⟨5, 7⟩ : S25), (⟨1, 2⟩ : S25), (⟨3, 3⟩ : S25)] : List (S25))) (inner := [.int .i64 5, .int .i64 7, .int .i64 1, .int .i64 2, .int .i64 3, .int .i64 3]) (ok := fun _ => True) (okp := fun _ => True) ?hr ?hp (fun _ hk => hk) trivial (Below.refl _ _) (Nat.le_refl _) (by simp) ?_; (case hd => rfl); (case hg => rfl); (case hr => first | (go_simp; done) | (go_simp; rfl)); (case hp => exact (Reps.c2 (show Kd.M k25 _ _ _ (⟨5, 7⟩ : S25) [.int .i64 5, .int .i64 7] from (k25_mkM _ _ _ (⟨5, 7⟩ : S25) )) (Reps.c2 (show Kd.M k25 _ _ _ (⟨1, 2⟩ : S25) [.int .i64 1, .int .i64 2] from (k25_mkM _ _ _ (⟨1, 2⟩ : S25) )) (Reps.c2 (show Kd.M k25 _ _ _ (⟨3, 3⟩ : S25) [.int .i64 3, .int .i64 3] from (k25_mkM _ _ _ (⟨3, 3⟩ : S25) )) (Reps.none _ _))))); intro v127 w37 ho38 hb hg_ hnew_; clear hg_ hnew_; (first | rw [← Ny126.out] at ho38 | (simp only [Int.reduceToNat] at ho38; rw [← Ny126.out] at ho38)); have n0_ := Aside0.mk (Kd.R_lower ho38 (below_size hb_)); have n1_ := Aside0.mk (below_step hb_ hb); clear HB; have HO128 := n0_; have HB := n1_; clear n0_ n1_; clear hb ho38; obtain ⟨Ao39, co39, eo39⟩ := Kd.R_slice HO128.out; subst eo39) | ((with_reducible refine gate_callee (f := 19) rfl ?_); refine goesL_ (some 6) rfl rfl Try.func19 (by kernel_rfl) rfl #[.slice Ao39 y126.length co39] rfl ml_ ?_; (with_reducible refine (runs_Make.calls _ _ y126 t129 _ ?side1 ?side2 A1.out).mono ?_); (case side1 => repeat (first | exact (Kd.R_reads' HO128.out).2.2 | (with_reducible refine Kd.C_alloc ?_ _) | (with_reducible refine Kd.C_drewN ?_ _) | (with_reducible refine Kd.C_drew ?_))); (case side2 => exact (Kd.R_reads' HO128.out).2.1); rintro e w40 ⟨v130, rfl, ho0, hb⟩; refine ⟨_, rfl, ?_⟩; have n0_ := Aside0.mk (Kd.R_elder' (by (with_reducible repeat (first | apply Kd.R_alloc | apply Kd.R_drewN | apply Kd.R_drew)); exact HO128.out) (Kd.R_base ho0) hb); have n1_ := Aside0.mk (Kd.R_lower (Kd.R_new' ho0 (Kd.R_lt (by (with_reducible repeat (first | apply Kd.R_alloc | apply Kd.R_drewN | apply Kd.R_drew)); exact HO128.out))) (below_size hb_)); have n2_ := Aside0.mk (below_step hb_ hb); clear HO128; clear HB; have HO128 := n0_; have HO131 := n1_; have HB := n2_; clear n0_ n1_ n2_; (try clear hb); (try clear hb2); (try clear hk); (try clear hi); (try clear ho0); obtain ⟨Ao41, co41, eo41⟩ := Kd.R_slice HO131.out; subst eo41; have p132 : 0 ≤ (0 : Int) := (by omega); have q132 : 0 < (t129.length : Int) := od_; obtain ⟨ad132, e132, hx132_0, hx132_1⟩ := at_T25 (Kd.R_reads' HO131.out).2.2 0 p132 q132; cases e132; have qi132 : (0 < t129.length) = True := eq_true (by omega); (try rw [show ((0 : Int)).toNat = 0 from rfl] at hx132_0); (try rw [show 0 * 2 = 0 from rfl] at hx132_0); (try rw [Addr.add_zero'] at hx132_0); (try rw [show ((0 : Int)).toNat = 0 from rfl] at hx132_1); (try rw [show 0 * 2 = 0 from rfl] at hx132_1); (try rw [Addr.add_zero'] at hx132_1); replace p132 := eq_true p132; replace q132 := eq_true q132; have p133 : 0 ≤ (0 : Int) := (by omega); have q133 : 0 < (t129.length : Int) := od_; obtain ⟨ad133, e133, hx133_0, hx133_1⟩ := at_T25 (Kd.R_reads' HO131.out).2.2 0 p133 q133; obtain rfl : ad132 = ad133 := (by injection e133); have qi133 : (0 < t129.length) = True := eq_true (by omega); (try rw [show ((0 : Int)).toNat = 0 from rfl] at hx133_0); (try rw [show 0 * 2 = 0 from rfl] at hx133_0); (try rw [Addr.add_zero'] at hx133_0); (try rw [show ((0 : Int)).toNat = 0 from rfl] at hx133_1); (try rw [show 0 * 2 = 0 from rfl] at hx133_1); (try rw [Addr.add_zero'] at hx133_1); replace p133 := eq_true p133; replace q133 := eq_true q133; have p134 : 0 ≤ (1 : Int) := (by omega); have q134 : 1 < (t129.length : Int) := od_; obtain ⟨ad134, e134, hx134_0, hx134_1⟩ := at_T25 (Kd.R_reads' HO131.out).2.2 1 p134 q134; obtain rfl : ad132 = ad134 := (by injection e134); (try simp only [show (1 : Int).toNat = 1 from rfl, Nat.reduceMul, Nat.reduceEqDiff, Go.Addr.add, ↓reduceIte] at hx134_0); (try simp only [show (1 : Int).toNat = 1 from rfl, Nat.reduceMul, Nat.reduceEqDiff, Go.Addr.add, ↓reduceIte] at hx134_1); have qi134 : (1 < t129.length) = True := eq_true (by omega); (try rw [show ((1 : Int)).toNat = 1 from rfl] at hx134_0); (try rw [show 1 * 2 = 2 from rfl] at hx134_0); (try rw [show ((1 : Int)).toNat = 1 from rfl] at hx134_1); (try rw [show 1 * 2 = 2 from rfl] at hx134_1); replace p134 := eq_true p134; replace q134 := eq_true q134; have p135 : 0 ≤ (1 : Int) := (by omega); have q135 : 1 < (t129.length : Int) := od_; obtain ⟨ad135, e135, hx135_0, hx135_1⟩ := at_T25 (Kd.R_reads' HO131.out).2.2 1 p135 q135; obtain rfl : ad132 = ad135 := (by injection e135); (try simp only [show (1 : Int).toNat = 1 from rfl, Nat.reduceMul, Nat.reduceEqDiff, Go.Addr.add, ↓reduceIte] at hx135_0); (try simp only [show (1 : Int).toNat = 1 from rfl, Nat.reduceMul, Nat.reduceEqDiff, Go.Addr.add, ↓reduceIte] at hx135_1); have qi135 : (1 < t129.length) = True := eq_true (by omega); (try rw [show ((1 : Int)).toNat = 1 from rfl] at hx135_0); (try rw [show 1 * 2 = 2 from rfl] at hx135_0); (try rw [show ((1 : Int)).toNat = 1 from rfl] at hx135_1); (try rw [show 1 * 2 = 2 from rfl] at hx135_1); replace p135 := eq_true p135; replace q135 := eq_true q135) | (go_at_call 20; (with_reducible refine (runs_Sane.calls k _ _ t129 true _ ?side1 ?side2 A9.out).mono ?_); (case side1 => repeat (first | exact (Kd.R_reads' HO131.out).2.2 | (with_reducible refine Kd.C_alloc ?_ _) | (with_reducible refine Kd.C_drewN ?_ _) | (with_reducible refine Kd.C_drew ?_))); (case side2 => exact (Kd.R_reads' HO131.out).2.1); rintro e w42 ⟨rfl, hb⟩; have n0_ := Aside0.mk (Kd.R_below (by (with_reducible repeat (first | apply Kd.R_alloc | apply Kd.R_drewN | apply Kd.R_drew)); exact HO128.out) hb); have n1_ := Aside0.mk (Kd.R_below (by (with_reducible repeat (first | apply Kd.R_alloc | apply Kd.R_drewN | apply Kd.R_drew)); exact HO131.out) hb); have n2_ := Aside0.mk (below_step hb_ hb); clear HO128; clear HO131; clear HB; have HO128 := n0_; have HO131 := n1_; have HB := n2_; clear n0_ n1_ n2_; (try clear hb); (try clear hb2); (try clear hk); (try clear hi)) | (go_at_call 22; (with_reducible refine (runs_Has.calls k _ _ t129 6 false _ ?side1 ?side2 A11.out).mono ?_); (case side1 => repeat (first | exact (Kd.R_reads' HO131.out).2.2 | (with_reducible refine Kd.C_alloc ?_ _) | (with_reducible refine Kd.C_drewN ?_ _) | (with_reducible refine Kd.C_drew ?_))); (case side2 => exact (Kd.R_reads' HO131.out).2.1); rintro e w43 ⟨rfl, hb⟩; have n0_ := Aside0.mk (Kd.R_below (by (with_reducible repeat (first | apply Kd.R_alloc | apply Kd.R_drewN | apply Kd.R_drew)); exact HO128.out) hb); have n1_ := Aside0.mk (Kd.R_below (by (with_reducible repeat (first | apply Kd.R_alloc | apply Kd.R_drewN | apply Kd.R_drew)); exact HO131.out) hb); have n2_ := Aside0.mk (below_step hb_ hb); clear HO128; clear HO131; clear HB; have HO128 := n0_; have HO131 := n1_; have HB := n2_; clear n0_ n1_ n2_; (try clear hb); (try clear hb2); (try clear hk); (try clear hi)))
          go_ret; exact ⟨re_, hb_⟩
        ·replace c10 := Bool.eq_false_iff.mpr c10
         subst c10; (have H1 : (some false) = some r := by rw [if_neg (show ¬ (false = true) by decide)] at H; exact H); clear H; have H := H1; clear H1; obtain rfl := Option.some.inj H; go_enter Try.func18, Try.ntmps18; go_wp2_with (first | ((with_reducible refine gate_dst (N := 5) rfl ?_); (try (refine gate_guard (by rfl) ?_; dsimp only)); refine Kd.R_lit k25 _ 25 ?hg (N := 5) ?hd (xs := ([(⟨5, 7⟩ : S25), (⟨1, 2⟩ : S25), (⟨3, 3⟩ : S25)] : List (S25))) (inner := [.int .i64 5, .int .i64 7, .int .i64 1, .int .i64 2, .int .i64 3, .int .i64 3]) (ok := fun _ => True) (okp := fun _ => True) ?hr ?hp (fun _ hk => hk) trivial (Below.refl _ _) (Nat.le_refl _) (by simp) ?_; (case hd => rfl); (case hg => rfl); (case hr => first | (go_simp; done) | (go_simp; rfl)); (case hp => exact (Reps.c2 (show Kd.M k25 _ _ _ (⟨5, 7⟩ : S25) [.int .i64 5, .int .i64 7] from (k25_mkM _ _ _ (⟨5, 7⟩ : S25) )) (Reps.c2 (show Kd.M k25 _ _ _ (⟨1, 2⟩ : S25) [.int .i64 1, .int .i64 2] from (k25_mkM _ _ _ (⟨1, 2⟩ : S25) )) (Reps.c2 (show Kd.M k25 _ _ _ (⟨3, 3⟩ : S25) [.int .i64 3, .int .i64 3] from (k25_mkM _ _ _ (⟨3, 3⟩ : S25) )) (Reps.none _ _))))); intro v127 w44 ho45 hb hg_ hnew_; clear hg_ hnew_; (first | rw [← Ny126.out] at ho45 | (simp only [Int.reduceToNat] at ho45; rw [← Ny126.out] at ho45)); have n0_ := Aside0.mk (Kd.R_lower ho45 (below_size hb_)); have n1_ := Aside0.mk (below_step hb_ hb); clear HB; have HO128 := n0_; have HB := n1_; clear n0_ n1_; clear hb ho45; obtain ⟨Ao46, co46, eo46⟩ := Kd.R_slice HO128.out; subst eo46) | ((with_reducible refine gate_callee (f := 19) rfl ?_); refine goesL_ (some 6) rfl rfl Try.func19 (by kernel_rfl) rfl #[.slice Ao46 y126.length co46] rfl ml_ ?_; (with_reducible refine (runs_Make.calls _ _ y126 t129 _ ?side1 ?side2 A1.out).mono ?_); (case side1 => repeat (first | exact (Kd.R_reads' HO128.out).2.2 | (with_reducible refine Kd.C_alloc ?_ _) | (with_reducible refine Kd.C_drewN ?_ _) | (with_reducible refine Kd.C_drew ?_))); (case side2 => exact (Kd.R_reads' HO128.out).2.1); rintro e w47 ⟨v130, rfl, ho0, hb⟩; refine ⟨_, rfl, ?_⟩; have n0_ := Aside0.mk (Kd.R_elder' (by (with_reducible repeat (first | apply Kd.R_alloc | apply Kd.R_drewN | apply Kd.R_drew)); exact HO128.out) (Kd.R_base ho0) hb); have n1_ := Aside0.mk (Kd.R_lower (Kd.R_new' ho0 (Kd.R_lt (by (with_reducible repeat (first | apply Kd.R_alloc | apply Kd.R_drewN | apply Kd.R_drew)); exact HO128.out))) (below_size hb_)); have n2_ := Aside0.mk (below_step hb_ hb); clear HO128; clear HB; have HO128 := n0_; have HO131 := n1_; have HB := n2_; clear n0_ n1_ n2_; (try clear hb); (try clear hb2); (try clear hk); (try clear hi); (try clear ho0); obtain ⟨Ao48, co48, eo48⟩ := Kd.R_slice HO131.out; subst eo48; have p132 : 0 ≤ (0 : Int) := (by omega); have q132 : 0 < (t129.length : Int) := od_; obtain ⟨ad132, e132, hx132_0, hx132_1⟩ := at_T25 (Kd.R_reads' HO131.out).2.2 0 p132 q132; cases e132; have qi132 : (0 < t129.length) = True := eq_true (by omega); (try rw [show ((0 : Int)).toNat = 0 from rfl] at hx132_0); (try rw [show 0 * 2 = 0 from rfl] at hx132_0); (try rw [Addr.add_zero'] at hx132_0); (try rw [show ((0 : Int)).toNat = 0 from rfl] at hx132_1); (try rw [show 0 * 2 = 0 from rfl] at hx132_1); (try rw [Addr.add_zero'] at hx132_1); replace p132 := eq_true p132; replace q132 := eq_true q132; have p133 : 0 ≤ (0 : Int) := (by omega); have q133 : 0 < (t129.length : Int) := od_; obtain ⟨ad133, e133, hx133_0, hx133_1⟩ := at_T25 (Kd.R_reads' HO131.out).2.2 0 p133 q133; obtain rfl : ad132 = ad133 := (by injection e133); have qi133 : (0 < t129.length) = True := eq_true (by omega); (try rw [show ((0 : Int)).toNat = 0 from rfl] at hx133_0); (try rw [show 0 * 2 = 0 from rfl] at hx133_0); (try rw [Addr.add_zero'] at hx133_0); (try rw [show ((0 : Int)).toNat = 0 from rfl] at hx133_1); (try rw [show 0 * 2 = 0 from rfl] at hx133_1); (try rw [Addr.add_zero'] at hx133_1); replace p133 := eq_true p133; replace q133 := eq_true q133; have p134 : 0 ≤ (1 : Int) := (by omega); have q134 : 1 < (t129.length : Int) := od_; obtain ⟨ad134, e134, hx134_0, hx134_1⟩ := at_T25 (Kd.R_reads' HO131.out).2.2 1 p134 q134; obtain rfl : ad132 = ad134 := (by injection e134); (try simp only [show (1 : Int).toNat = 1 from rfl, Nat.reduceMul, Nat.reduceEqDiff, Go.Addr.add, ↓reduceIte] at hx134_0); (try simp only [show (1 : Int).toNat = 1 from rfl, Nat.reduceMul, Nat.reduceEqDiff, Go.Addr.add, ↓reduceIte] at hx134_1); have qi134 : (1 < t129.length) = True := eq_true (by omega); (try rw [show ((1 : Int)).toNat = 1 from rfl] at hx134_0); (try rw [show 1 * 2 = 2 from rfl] at hx134_0); (try rw [show ((1 : Int)).toNat = 1 from rfl] at hx134_1); (try rw [show 1 * 2 = 2 from rfl] at hx134_1); replace p134 := eq_true p134; replace q134 := eq_true q134; have p135 : 0 ≤ (1 : Int) := (by omega); have q135 : 1 < (t129.length : Int) := od_; obtain ⟨ad135, e135, hx135_0, hx135_1⟩ := at_T25 (Kd.R_reads' HO131.out).2.2 1 p135 q135; obtain rfl : ad132 = ad135 := (by injection e135); (try simp only [show (1 : Int).toNat = 1 from rfl, Nat.reduceMul, Nat.reduceEqDiff, Go.Addr.add, ↓reduceIte] at hx135_0); (try simp only [show (1 : Int).toNat = 1 from rfl, Nat.reduceMul, Nat.reduceEqDiff, Go.Addr.add, ↓reduceIte] at hx135_1); have qi135 : (1 < t129.length) = True := eq_true (by omega); (try rw [show ((1 : Int)).toNat = 1 from rfl] at hx135_0); (try rw [show 1 * 2 = 2 from rfl] at hx135_0); (try rw [show ((1 : Int)).toNat = 1 from rfl] at hx135_1); (try rw [show 1 * 2 = 2 from rfl] at hx135_1); replace p135 := eq_true p135; replace q135 := eq_true q135) | (go_at_call 20; (with_reducible refine (runs_Sane.calls k _ _ t129 false _ ?side1 ?side2 A9.out).mono ?_); (case side1 => repeat (first | exact (Kd.R_reads' HO131.out).2.2 | (with_reducible refine Kd.C_alloc ?_ _) | (with_reducible refine Kd.C_drewN ?_ _) | (with_reducible refine Kd.C_drew ?_))); (case side2 => exact (Kd.R_reads' HO131.out).2.1); rintro e w49 ⟨rfl, hb⟩; have n0_ := Aside0.mk (Kd.R_below (by (with_reducible repeat (first | apply Kd.R_alloc | apply Kd.R_drewN | apply Kd.R_drew)); exact HO128.out) hb); have n1_ := Aside0.mk (Kd.R_below (by (with_reducible repeat (first | apply Kd.R_alloc | apply Kd.R_drewN | apply Kd.R_drew)); exact HO131.out) hb); have n2_ := Aside0.mk (below_step hb_ hb); clear HO128; clear HO131; clear HB; have HO128 := n0_; have HO131 := n1_; have HB := n2_; clear n0_ n1_ n2_; (try clear hb); (try clear hb2); (try clear hk); (try clear hi)))
         go_ret; exact ⟨re_, hb_⟩
       ·rw [if_neg c8] at H
        have c8b0 : (((rd_T25 t129 1).f1) == 7) = false := beq_eq_false_iff_ne.mpr c8; have c8b1 : (((rd_T25 t129 1).f1) != 7) = true := bne_iff_ne.mpr c8; obtain rfl := Option.some.inj H; go_enter Try.func18, Try.ntmps18; go_wp2_with (first | ((with_reducible refine gate_dst (N := 5) rfl ?_); (try (refine gate_guard (by rfl) ?_; dsimp only)); refine Kd.R_lit k25 _ 25 ?hg (N := 5) ?hd (xs := ([(⟨5, 7⟩ : S25), (⟨1, 2⟩ : S25), (⟨3, 3⟩ : S25)] : List (S25))) (inner := [.int .i64 5, .int .i64 7, .int .i64 1, .int .i64 2, .int .i64 3, .int .i64 3]) (ok := fun _ => True) (okp := fun _ => True) ?hr ?hp (fun _ hk => hk) trivial (Below.refl _ _) (Nat.le_refl _) (by simp) ?_; (case hd => rfl); (case hg => rfl); (case hr => first | (go_simp; done) | (go_simp; rfl)); (case hp => exact (Reps.c2 (show Kd.M k25 _ _ _ (⟨5, 7⟩ : S25) [.int .i64 5, .int .i64 7] from (k25_mkM _ _ _ (⟨5, 7⟩ : S25) )) (Reps.c2 (show Kd.M k25 _ _ _ (⟨1, 2⟩ : S25) [.int .i64 1, .int .i64 2] from (k25_mkM _ _ _ (⟨1, 2⟩ : S25) )) (Reps.c2 (show Kd.M k25 _ _ _ (⟨3, 3⟩ : S25) [.int .i64 3, .int .i64 3] from (k25_mkM _ _ _ (⟨3, 3⟩ : S25) )) (Reps.none _ _))))); intro v127 w50 ho51 hb hg_ hnew_; clear hg_ hnew_; (first | rw [← Ny126.out] at ho51 | (simp only [Int.reduceToNat] at ho51; rw [← Ny126.out] at ho51)); have n0_ := Aside0.mk (Kd.R_lower ho51 (below_size hb_)); have n1_ := Aside0.mk (below_step hb_ hb); clear HB; have HO128 := n0_; have HB := n1_; clear n0_ n1_; clear hb ho51; obtain ⟨Ao52, co52, eo52⟩ := Kd.R_slice HO128.out; subst eo52) | ((with_reducible refine gate_callee (f := 19) rfl ?_); refine goesL_ (some 6) rfl rfl Try.func19 (by kernel_rfl) rfl #[.slice Ao52 y126.length co52] rfl ml_ ?_; (with_reducible refine (runs_Make.calls _ _ y126 t129 _ ?side1 ?side2 A1.out).mono ?_); (case side1 => repeat (first | exact (Kd.R_reads' HO128.out).2.2 | (with_reducible refine Kd.C_alloc ?_ _) | (with_reducible refine Kd.C_drewN ?_ _) | (with_reducible refine Kd.C_drew ?_))); (case side2 => exact (Kd.R_reads' HO128.out).2.1); rintro e w53 ⟨v130, rfl, ho0, hb⟩; refine ⟨_, rfl, ?_⟩; have n0_ := Aside0.mk (Kd.R_elder' (by (with_reducible repeat (first | apply Kd.R_alloc | apply Kd.R_drewN | apply Kd.R_drew)); exact HO128.out) (Kd.R_base ho0) hb); have n1_ := Aside0.mk (Kd.R_lower (Kd.R_new' ho0 (Kd.R_lt (by (with_reducible repeat (first | apply Kd.R_alloc | apply Kd.R_drewN | apply Kd.R_drew)); exact HO128.out))) (below_size hb_)); have n2_ := Aside0.mk (below_step hb_ hb); clear HO128; clear HB; have HO128 := n0_; have HO131 := n1_; have HB := n2_; clear n0_ n1_ n2_; (try clear hb); (try clear hb2); (try clear hk); (try clear hi); (try clear ho0); obtain ⟨Ao54, co54, eo54⟩ := Kd.R_slice HO131.out; subst eo54; have p132 : 0 ≤ (0 : Int) := (by omega); have q132 : 0 < (t129.length : Int) := od_; obtain ⟨ad132, e132, hx132_0, hx132_1⟩ := at_T25 (Kd.R_reads' HO131.out).2.2 0 p132 q132; cases e132; have qi132 : (0 < t129.length) = True := eq_true (by omega); (try rw [show ((0 : Int)).toNat = 0 from rfl] at hx132_0); (try rw [show 0 * 2 = 0 from rfl] at hx132_0); (try rw [Addr.add_zero'] at hx132_0); (try rw [show ((0 : Int)).toNat = 0 from rfl] at hx132_1); (try rw [show 0 * 2 = 0 from rfl] at hx132_1); (try rw [Addr.add_zero'] at hx132_1); replace p132 := eq_true p132; replace q132 := eq_true q132; have p133 : 0 ≤ (0 : Int) := (by omega); have q133 : 0 < (t129.length : Int) := od_; obtain ⟨ad133, e133, hx133_0, hx133_1⟩ := at_T25 (Kd.R_reads' HO131.out).2.2 0 p133 q133; obtain rfl : ad132 = ad133 := (by injection e133); have qi133 : (0 < t129.length) = True := eq_true (by omega); (try rw [show ((0 : Int)).toNat = 0 from rfl] at hx133_0); (try rw [show 0 * 2 = 0 from rfl] at hx133_0); (try rw [Addr.add_zero'] at hx133_0); (try rw [show ((0 : Int)).toNat = 0 from rfl] at hx133_1); (try rw [show 0 * 2 = 0 from rfl] at hx133_1); (try rw [Addr.add_zero'] at hx133_1); replace p133 := eq_true p133; replace q133 := eq_true q133; have p134 : 0 ≤ (1 : Int) := (by omega); have q134 : 1 < (t129.length : Int) := od_; obtain ⟨ad134, e134, hx134_0, hx134_1⟩ := at_T25 (Kd.R_reads' HO131.out).2.2 1 p134 q134; obtain rfl : ad132 = ad134 := (by injection e134); (try simp only [show (1 : Int).toNat = 1 from rfl, Nat.reduceMul, Nat.reduceEqDiff, Go.Addr.add, ↓reduceIte] at hx134_0); (try simp only [show (1 : Int).toNat = 1 from rfl, Nat.reduceMul, Nat.reduceEqDiff, Go.Addr.add, ↓reduceIte] at hx134_1); have qi134 : (1 < t129.length) = True := eq_true (by omega); (try rw [show ((1 : Int)).toNat = 1 from rfl] at hx134_0); (try rw [show 1 * 2 = 2 from rfl] at hx134_0); (try rw [show ((1 : Int)).toNat = 1 from rfl] at hx134_1); (try rw [show 1 * 2 = 2 from rfl] at hx134_1); replace p134 := eq_true p134; replace q134 := eq_true q134; have p135 : 0 ≤ (1 : Int) := (by omega); have q135 : 1 < (t129.length : Int) := od_; obtain ⟨ad135, e135, hx135_0, hx135_1⟩ := at_T25 (Kd.R_reads' HO131.out).2.2 1 p135 q135; obtain rfl : ad132 = ad135 := (by injection e135); (try simp only [show (1 : Int).toNat = 1 from rfl, Nat.reduceMul, Nat.reduceEqDiff, Go.Addr.add, ↓reduceIte] at hx135_0); (try simp only [show (1 : Int).toNat = 1 from rfl, Nat.reduceMul, Nat.reduceEqDiff, Go.Addr.add, ↓reduceIte] at hx135_1); have qi135 : (1 < t129.length) = True := eq_true (by omega); (try rw [show ((1 : Int)).toNat = 1 from rfl] at hx135_0); (try rw [show 1 * 2 = 2 from rfl] at hx135_0); (try rw [show ((1 : Int)).toNat = 1 from rfl] at hx135_1); (try rw [show 1 * 2 = 2 from rfl] at hx135_1); replace p135 := eq_true p135; replace q135 := eq_true q135))
        go_ret; exact ⟨re_, hb_⟩
      ·rw [if_neg c7] at H
       have c7b0 : (((rd_T25 t129 1).f0) == 5) = false := beq_eq_false_iff_ne.mpr c7; have c7b1 : (((rd_T25 t129 1).f0) != 5) = true := bne_iff_ne.mpr c7; obtain rfl := Option.some.inj H; go_enter Try.func18, Try.ntmps18; go_wp2_with (first | ((with_reducible refine gate_dst (N := 5) rfl ?_); (try (refine gate_guard (by rfl) ?_; dsimp only)); refine Kd.R_lit k25 _ 25 ?hg (N := 5) ?hd (xs := ([(⟨5, 7⟩ : S25), (⟨1, 2⟩ : S25), (⟨3, 3⟩ : S25)] : List (S25))) (inner := [.int .i64 5, .int .i64 7, .int .i64 1, .int .i64 2, .int .i64 3, .int .i64 3]) (ok := fun _ => True) (okp := fun _ => True) ?hr ?hp (fun _ hk => hk) trivial (Below.refl _ _) (Nat.le_refl _) (by simp) ?_; (case hd => rfl); (case hg => rfl); (case hr => first | (go_simp; done) | (go_simp; rfl)); (case hp => exact (Reps.c2 (show Kd.M k25 _ _ _ (⟨5, 7⟩ : S25) [.int .i64 5, .int .i64 7] from (k25_mkM _ _ _ (⟨5, 7⟩ : S25) )) (Reps.c2 (show Kd.M k25 _ _ _ (⟨1, 2⟩ : S25) [.int .i64 1, .int .i64 2] from (k25_mkM _ _ _ (⟨1, 2⟩ : S25) )) (Reps.c2 (show Kd.M k25 _ _ _ (⟨3, 3⟩ : S25) [.int .i64 3, .int .i64 3] from (k25_mkM _ _ _ (⟨3, 3⟩ : S25) )) (Reps.none _ _))))); intro v127 w55 ho56 hb hg_ hnew_; clear hg_ hnew_; (first | rw [← Ny126.out] at ho56 | (simp only [Int.reduceToNat] at ho56; rw [← Ny126.out] at ho56)); have n0_ := Aside0.mk (Kd.R_lower ho56 (below_size hb_)); have n1_ := Aside0.mk (below_step hb_ hb); clear HB; have HO128 := n0_; have HB := n1_; clear n0_ n1_; clear hb ho56; obtain ⟨Ao57, co57, eo57⟩ := Kd.R_slice HO128.out; subst eo57) | ((with_reducible refine gate_callee (f := 19) rfl ?_); refine goesL_ (some 6) rfl rfl Try.func19 (by kernel_rfl) rfl #[.slice Ao57 y126.length co57] rfl ml_ ?_; (with_reducible refine (runs_Make.calls _ _ y126 t129 _ ?side1 ?side2 A1.out).mono ?_); (case side1 => repeat (first | exact (Kd.R_reads' HO128.out).2.2 | (with_reducible refine Kd.C_alloc ?_ _) | (with_reducible refine Kd.C_drewN ?_ _) | (with_reducible refine Kd.C_drew ?_))); (case side2 => exact (Kd.R_reads' HO128.out).2.1); rintro e w58 ⟨v130, rfl, ho0, hb⟩; refine ⟨_, rfl, ?_⟩; have n0_ := Aside0.mk (Kd.R_elder' (by (with_reducible repeat (first | apply Kd.R_alloc | apply Kd.R_drewN | apply Kd.R_drew)); exact HO128.out) (Kd.R_base ho0) hb); have n1_ := Aside0.mk (Kd.R_lower (Kd.R_new' ho0 (Kd.R_lt (by (with_reducible repeat (first | apply Kd.R_alloc | apply Kd.R_drewN | apply Kd.R_drew)); exact HO128.out))) (below_size hb_)); have n2_ := Aside0.mk (below_step hb_ hb); clear HO128; clear HB; have HO128 := n0_; have HO131 := n1_; have HB := n2_; clear n0_ n1_ n2_; (try clear hb); (try clear hb2); (try clear hk); (try clear hi); (try clear ho0); obtain ⟨Ao59, co59, eo59⟩ := Kd.R_slice HO131.out; subst eo59; have p132 : 0 ≤ (0 : Int) := (by omega); have q132 : 0 < (t129.length : Int) := od_; obtain ⟨ad132, e132, hx132_0, hx132_1⟩ := at_T25 (Kd.R_reads' HO131.out).2.2 0 p132 q132; cases e132; have qi132 : (0 < t129.length) = True := eq_true (by omega); (try rw [show ((0 : Int)).toNat = 0 from rfl] at hx132_0); (try rw [show 0 * 2 = 0 from rfl] at hx132_0); (try rw [Addr.add_zero'] at hx132_0); (try rw [show ((0 : Int)).toNat = 0 from rfl] at hx132_1); (try rw [show 0 * 2 = 0 from rfl] at hx132_1); (try rw [Addr.add_zero'] at hx132_1); replace p132 := eq_true p132; replace q132 := eq_true q132; have p133 : 0 ≤ (0 : Int) := (by omega); have q133 : 0 < (t129.length : Int) := od_; obtain ⟨ad133, e133, hx133_0, hx133_1⟩ := at_T25 (Kd.R_reads' HO131.out).2.2 0 p133 q133; obtain rfl : ad132 = ad133 := (by injection e133); have qi133 : (0 < t129.length) = True := eq_true (by omega); (try rw [show ((0 : Int)).toNat = 0 from rfl] at hx133_0); (try rw [show 0 * 2 = 0 from rfl] at hx133_0); (try rw [Addr.add_zero'] at hx133_0); (try rw [show ((0 : Int)).toNat = 0 from rfl] at hx133_1); (try rw [show 0 * 2 = 0 from rfl] at hx133_1); (try rw [Addr.add_zero'] at hx133_1); replace p133 := eq_true p133; replace q133 := eq_true q133; have p134 : 0 ≤ (1 : Int) := (by omega); have q134 : 1 < (t129.length : Int) := od_; obtain ⟨ad134, e134, hx134_0, hx134_1⟩ := at_T25 (Kd.R_reads' HO131.out).2.2 1 p134 q134; obtain rfl : ad132 = ad134 := (by injection e134); (try simp only [show (1 : Int).toNat = 1 from rfl, Nat.reduceMul, Nat.reduceEqDiff, Go.Addr.add, ↓reduceIte] at hx134_0); (try simp only [show (1 : Int).toNat = 1 from rfl, Nat.reduceMul, Nat.reduceEqDiff, Go.Addr.add, ↓reduceIte] at hx134_1); have qi134 : (1 < t129.length) = True := eq_true (by omega); (try rw [show ((1 : Int)).toNat = 1 from rfl] at hx134_0); (try rw [show 1 * 2 = 2 from rfl] at hx134_0); (try rw [show ((1 : Int)).toNat = 1 from rfl] at hx134_1); (try rw [show 1 * 2 = 2 from rfl] at hx134_1); replace p134 := eq_true p134; replace q134 := eq_true q134))
       go_ret; exact ⟨re_, hb_⟩
     ·rw [if_neg c6] at H
      exact absurd H (by simp)
    ·rw [if_neg c5] at H
     have c5b0 : (((rd_T25 t129 0).f1) == 3) = false := beq_eq_false_iff_ne.mpr c5; have c5b1 : (((rd_T25 t129 0).f1) != 3) = true := bne_iff_ne.mpr c5; obtain rfl := Option.some.inj H; go_enter Try.func18, Try.ntmps18; go_wp2_with (first | ((with_reducible refine gate_dst (N := 5) rfl ?_); (try (refine gate_guard (by rfl) ?_; dsimp only)); refine Kd.R_lit k25 _ 25 ?hg (N := 5) ?hd (xs := ([(⟨5, 7⟩ : S25), (⟨1, 2⟩ : S25), (⟨3, 3⟩ : S25)] : List (S25))) (inner := [.int .i64 5, .int .i64 7, .int .i64 1, .int .i64 2, .int .i64 3, .int .i64 3]) (ok := fun _ => True) (okp := fun _ => True) ?hr ?hp (fun _ hk => hk) trivial (Below.refl _ _) (Nat.le_refl _) (by simp) ?_; (case hd => rfl); (case hg => rfl); (case hr => first | (go_simp; done) | (go_simp; rfl)); (case hp => exact (Reps.c2 (show Kd.M k25 _ _ _ (⟨5, 7⟩ : S25) [.int .i64 5, .int .i64 7] from (k25_mkM _ _ _ (⟨5, 7⟩ : S25) )) (Reps.c2 (show Kd.M k25 _ _ _ (⟨1, 2⟩ : S25) [.int .i64 1, .int .i64 2] from (k25_mkM _ _ _ (⟨1, 2⟩ : S25) )) (Reps.c2 (show Kd.M k25 _ _ _ (⟨3, 3⟩ : S25) [.int .i64 3, .int .i64 3] from (k25_mkM _ _ _ (⟨3, 3⟩ : S25) )) (Reps.none _ _))))); intro v127 w60 ho61 hb hg_ hnew_; clear hg_ hnew_; (first | rw [← Ny126.out] at ho61 | (simp only [Int.reduceToNat] at ho61; rw [← Ny126.out] at ho61)); have n0_ := Aside0.mk (Kd.R_lower ho61 (below_size hb_)); have n1_ := Aside0.mk (below_step hb_ hb); clear HB; have HO128 := n0_; have HB := n1_; clear n0_ n1_; clear hb ho61; obtain ⟨Ao62, co62, eo62⟩ := Kd.R_slice HO128.out; subst eo62) | ((with_reducible refine gate_callee (f := 19) rfl ?_); refine goesL_ (some 6) rfl rfl Try.func19 (by kernel_rfl) rfl #[.slice Ao62 y126.length co62] rfl ml_ ?_; (with_reducible refine (runs_Make.calls _ _ y126 t129 _ ?side1 ?side2 A1.out).mono ?_); (case side1 => repeat (first | exact (Kd.R_reads' HO128.out).2.2 | (with_reducible refine Kd.C_alloc ?_ _) | (with_reducible refine Kd.C_drewN ?_ _) | (with_reducible refine Kd.C_drew ?_))); (case side2 => exact (Kd.R_reads' HO128.out).2.1); rintro e w63 ⟨v130, rfl, ho0, hb⟩; refine ⟨_, rfl, ?_⟩; have n0_ := Aside0.mk (Kd.R_elder' (by (with_reducible repeat (first | apply Kd.R_alloc | apply Kd.R_drewN | apply Kd.R_drew)); exact HO128.out) (Kd.R_base ho0) hb); have n1_ := Aside0.mk (Kd.R_lower (Kd.R_new' ho0 (Kd.R_lt (by (with_reducible repeat (first | apply Kd.R_alloc | apply Kd.R_drewN | apply Kd.R_drew)); exact HO128.out))) (below_size hb_)); have n2_ := Aside0.mk (below_step hb_ hb); clear HO128; clear HB; have HO128 := n0_; have HO131 := n1_; have HB := n2_; clear n0_ n1_ n2_; (try clear hb); (try clear hb2); (try clear hk); (try clear hi); (try clear ho0); obtain ⟨Ao64, co64, eo64⟩ := Kd.R_slice HO131.out; subst eo64; have p132 : 0 ≤ (0 : Int) := (by omega); have q132 : 0 < (t129.length : Int) := od_; obtain ⟨ad132, e132, hx132_0, hx132_1⟩ := at_T25 (Kd.R_reads' HO131.out).2.2 0 p132 q132; cases e132; have qi132 : (0 < t129.length) = True := eq_true (by omega); (try rw [show ((0 : Int)).toNat = 0 from rfl] at hx132_0); (try rw [show 0 * 2 = 0 from rfl] at hx132_0); (try rw [Addr.add_zero'] at hx132_0); (try rw [show ((0 : Int)).toNat = 0 from rfl] at hx132_1); (try rw [show 0 * 2 = 0 from rfl] at hx132_1); (try rw [Addr.add_zero'] at hx132_1); replace p132 := eq_true p132; replace q132 := eq_true q132; have p133 : 0 ≤ (0 : Int) := (by omega); have q133 : 0 < (t129.length : Int) := od_; obtain ⟨ad133, e133, hx133_0, hx133_1⟩ := at_T25 (Kd.R_reads' HO131.out).2.2 0 p133 q133; obtain rfl : ad132 = ad133 := (by injection e133); have qi133 : (0 < t129.length) = True := eq_true (by omega); (try rw [show ((0 : Int)).toNat = 0 from rfl] at hx133_0); (try rw [show 0 * 2 = 0 from rfl] at hx133_0); (try rw [Addr.add_zero'] at hx133_0); (try rw [show ((0 : Int)).toNat = 0 from rfl] at hx133_1); (try rw [show 0 * 2 = 0 from rfl] at hx133_1); (try rw [Addr.add_zero'] at hx133_1); replace p133 := eq_true p133; replace q133 := eq_true q133)); go_ret; exact ⟨re_, hb_⟩
   ·rw [if_neg c4] at H
    have c4b0 : (((rd_T25 t129 0).f0) == 1) = false := beq_eq_false_iff_ne.mpr c4; have c4b1 : (((rd_T25 t129 0).f0) != 1) = true := bne_iff_ne.mpr c4; obtain rfl := Option.some.inj H; go_enter Try.func18, Try.ntmps18; go_wp2_with (first | ((with_reducible refine gate_dst (N := 5) rfl ?_); (try (refine gate_guard (by rfl) ?_; dsimp only)); refine Kd.R_lit k25 _ 25 ?hg (N := 5) ?hd (xs := ([(⟨5, 7⟩ : S25), (⟨1, 2⟩ : S25), (⟨3, 3⟩ : S25)] : List (S25))) (inner := [.int .i64 5, .int .i64 7, .int .i64 1, .int .i64 2, .int .i64 3, .int .i64 3]) (ok := fun _ => True) (okp := fun _ => True) ?hr ?hp (fun _ hk => hk) trivial (Below.refl _ _) (Nat.le_refl _) (by simp) ?_; (case hd => rfl); (case hg => rfl); (case hr => first | (go_simp; done) | (go_simp; rfl)); (case hp => exact (Reps.c2 (show Kd.M k25 _ _ _ (⟨5, 7⟩ : S25) [.int .i64 5, .int .i64 7] from (k25_mkM _ _ _ (⟨5, 7⟩ : S25) )) (Reps.c2 (show Kd.M k25 _ _ _ (⟨1, 2⟩ : S25) [.int .i64 1, .int .i64 2] from (k25_mkM _ _ _ (⟨1, 2⟩ : S25) )) (Reps.c2 (show Kd.M k25 _ _ _ (⟨3, 3⟩ : S25) [.int .i64 3, .int .i64 3] from (k25_mkM _ _ _ (⟨3, 3⟩ : S25) )) (Reps.none _ _))))); intro v127 w65 ho66 hb hg_ hnew_; clear hg_ hnew_; (first | rw [← Ny126.out] at ho66 | (simp only [Int.reduceToNat] at ho66; rw [← Ny126.out] at ho66)); have n0_ := Aside0.mk (Kd.R_lower ho66 (below_size hb_)); have n1_ := Aside0.mk (below_step hb_ hb); clear HB; have HO128 := n0_; have HB := n1_; clear n0_ n1_; clear hb ho66; obtain ⟨Ao67, co67, eo67⟩ := Kd.R_slice HO128.out; subst eo67) | ((with_reducible refine gate_callee (f := 19) rfl ?_); refine goesL_ (some 6) rfl rfl Try.func19 (by kernel_rfl) rfl #[.slice Ao67 y126.length co67] rfl ml_ ?_; (with_reducible refine (runs_Make.calls _ _ y126 t129 _ ?side1 ?side2 A1.out).mono ?_); (case side1 => repeat (first | exact (Kd.R_reads' HO128.out).2.2 | (with_reducible refine Kd.C_alloc ?_ _) | (with_reducible refine Kd.C_drewN ?_ _) | (with_reducible refine Kd.C_drew ?_))); (case side2 => exact (Kd.R_reads' HO128.out).2.1); rintro e w68 ⟨v130, rfl, ho0, hb⟩; refine ⟨_, rfl, ?_⟩; have n0_ := Aside0.mk (Kd.R_elder' (by (with_reducible repeat (first | apply Kd.R_alloc | apply Kd.R_drewN | apply Kd.R_drew)); exact HO128.out) (Kd.R_base ho0) hb); have n1_ := Aside0.mk (Kd.R_lower (Kd.R_new' ho0 (Kd.R_lt (by (with_reducible repeat (first | apply Kd.R_alloc | apply Kd.R_drewN | apply Kd.R_drew)); exact HO128.out))) (below_size hb_)); have n2_ := Aside0.mk (below_step hb_ hb); clear HO128; clear HB; have HO128 := n0_; have HO131 := n1_; have HB := n2_; clear n0_ n1_ n2_; (try clear hb); (try clear hb2); (try clear hk); (try clear hi); (try clear ho0); obtain ⟨Ao69, co69, eo69⟩ := Kd.R_slice HO131.out; subst eo69; have p132 : 0 ≤ (0 : Int) := (by omega); have q132 : 0 < (t129.length : Int) := od_; obtain ⟨ad132, e132, hx132_0, hx132_1⟩ := at_T25 (Kd.R_reads' HO131.out).2.2 0 p132 q132; cases e132; have qi132 : (0 < t129.length) = True := eq_true (by omega); (try rw [show ((0 : Int)).toNat = 0 from rfl] at hx132_0); (try rw [show 0 * 2 = 0 from rfl] at hx132_0); (try rw [Addr.add_zero'] at hx132_0); (try rw [show ((0 : Int)).toNat = 0 from rfl] at hx132_1); (try rw [show 0 * 2 = 0 from rfl] at hx132_1); (try rw [Addr.add_zero'] at hx132_1); replace p132 := eq_true p132; replace q132 := eq_true q132)); go_ret; exact ⟨re_, hb_⟩
  ·rw [if_neg c3] at H
   exact absurd H (by simp)
 ·rw [if_neg c2] at H
  have c2b0 : ((t129.length : Int) == 2) = false := beq_eq_false_iff_ne.mpr c2; have c2b1 : ((t129.length : Int) != 2) = true := bne_iff_ne.mpr c2; obtain rfl := Option.some.inj H; go_enter Try.func18, Try.ntmps18; go_wp2_with (first | ((with_reducible refine gate_dst (N := 5) rfl ?_); (try (refine gate_guard (by rfl) ?_; dsimp only)); refine Kd.R_lit k25 _ 25 ?hg (N := 5) ?hd (xs := ([(⟨5, 7⟩ : S25), (⟨1, 2⟩ : S25), (⟨3, 3⟩ : S25)] : List (S25))) (inner := [.int .i64 5, .int .i64 7, .int .i64 1, .int .i64 2, .int .i64 3, .int .i64 3]) (ok := fun _ => True) (okp := fun _ => True) ?hr ?hp (fun _ hk => hk) trivial (Below.refl _ _) (Nat.le_refl _) (by simp) ?_; (case hd => rfl); (case hg => rfl); (case hr => first | (go_simp; done) | (go_simp; rfl)); (case hp => exact (Reps.c2 (show Kd.M k25 _ _ _ (⟨5, 7⟩ : S25) [.int .i64 5, .int .i64 7] from (k25_mkM _ _ _ (⟨5, 7⟩ : S25) )) (Reps.c2 (show Kd.M k25 _ _ _ (⟨1, 2⟩ : S25) [.int .i64 1, .int .i64 2] from (k25_mkM _ _ _ (⟨1, 2⟩ : S25) )) (Reps.c2 (show Kd.M k25 _ _ _ (⟨3, 3⟩ : S25) [.int .i64 3, .int .i64 3] from (k25_mkM _ _ _ (⟨3, 3⟩ : S25) )) (Reps.none _ _))))); intro v127 w70 ho71 hb hg_ hnew_; clear hg_ hnew_; (first | rw [← Ny126.out] at ho71 | (simp only [Int.reduceToNat] at ho71; rw [← Ny126.out] at ho71)); have n0_ := Aside0.mk (Kd.R_lower ho71 (below_size hb_)); have n1_ := Aside0.mk (below_step hb_ hb); clear HB; have HO128 := n0_; have HB := n1_; clear n0_ n1_; clear hb ho71; obtain ⟨Ao72, co72, eo72⟩ := Kd.R_slice HO128.out; subst eo72) | ((with_reducible refine gate_callee (f := 19) rfl ?_); refine goesL_ (some 6) rfl rfl Try.func19 (by kernel_rfl) rfl #[.slice Ao72 y126.length co72] rfl ml_ ?_; (with_reducible refine (runs_Make.calls _ _ y126 t129 _ ?side1 ?side2 A1.out).mono ?_); (case side1 => repeat (first | exact (Kd.R_reads' HO128.out).2.2 | (with_reducible refine Kd.C_alloc ?_ _) | (with_reducible refine Kd.C_drewN ?_ _) | (with_reducible refine Kd.C_drew ?_))); (case side2 => exact (Kd.R_reads' HO128.out).2.1); rintro e w73 ⟨v130, rfl, ho0, hb⟩; refine ⟨_, rfl, ?_⟩; have n0_ := Aside0.mk (Kd.R_elder' (by (with_reducible repeat (first | apply Kd.R_alloc | apply Kd.R_drewN | apply Kd.R_drew)); exact HO128.out) (Kd.R_base ho0) hb); have n1_ := Aside0.mk (Kd.R_lower (Kd.R_new' ho0 (Kd.R_lt (by (with_reducible repeat (first | apply Kd.R_alloc | apply Kd.R_drewN | apply Kd.R_drew)); exact HO128.out))) (below_size hb_)); have n2_ := Aside0.mk (below_step hb_ hb); clear HO128; clear HB; have HO128 := n0_; have HO131 := n1_; have HB := n2_; clear n0_ n1_ n2_; (try clear hb); (try clear hb2); (try clear hk); (try clear hi); (try clear ho0); obtain ⟨Ao74, co74, eo74⟩ := Kd.R_slice HO131.out; subst eo74)); go_ret; exact ⟨re_, hb_⟩
end Go.Proofs.Ytkbcmjejfbbcpaa.A

namespace Go.Proofs.Ytkbcmjejfbbcpaa.A
open Go.RowKit Go.Proofs.YtkbcmjejfbbcpaaW.PrintWords Go.Proofs.YtkbcmjejfbbcpaaW.PrintLast Go.Proofs.YtkbcmjejfbbcpaaW.PrintMore
attribute [local go_sem] max2_int min2_int max_two min_two max_three min_three max_four min_four
set_option linter.unusedVariables false
set_option linter.unusedSimpArgs false
theorem eqA25 (d : Nat) (w : World) (x0 y0 : Int) (x1 y1 : Int) :
  (Op.equalIn (d + 2) 25 (.agg #[.int .i64 x0, .int .i64 x1]) (.agg #[.int .i64 y0, .int .i64 y1])).run Try.prog w = .ok (x0 == y0 && (x1 == y1)) w := by
 refine eqA_of Try.underlying25 (by kernel_rfl) ?_; refine eqf_cons (by rfl) (by go_simp; rfl) (by go_simp; rfl) (by go_simp) ?_; exact eqf_last (by rfl) (by go_simp; rfl) (by go_simp; rfl) (by go_simp)
end Go.Proofs.Ytkbcmjejfbbcpaa.A

namespace Go.Proofs.Ytkbcmjejfbbcpaa.A
open Go.RowKit Go.Proofs.YtkbcmjejfbbcpaaW.PrintWords Go.Proofs.YtkbcmjejfbbcpaaW.PrintLast Go.Proofs.YtkbcmjejfbbcpaaW.PrintMore
attribute [local go_sem] max2_int min2_int max_two min_two max_three min_three max_four min_four
set_option linter.unusedVariables false
set_option linter.unusedSimpArgs false
set_option maxHeartbeats 8000000 in
set_option maxRecDepth 100000 in
theorem runs_Prev.calls (k : Nat) (A0 : Option Addr) (c0 : Nat) (l0 : List (S25)) (a1 : Int) (r1 : Int) (r2 : Bool) (w : World) (hr0 : Kd.C k25 w A0 l0.length l0) (hc0 : l0.length ≤ c0) (h : runs_Prev.f k l0 a1 = some (r1, r2)) :
  Calls Try.prog 27 #[.slice A0 l0.length c0, .int .i64 a1] w fun e w' => e = .returned (.tuple #[.int .i64 r1, .bool r2]) ∧ Below w.heap.size w w' := by
 have HR0 := Aside0.mk hr0; have HC0 := Aside0.mk hc0; clear hr0 hc0; have HB := Aside0.mk (Below.refl w.heap.size w); have H : ((runs_known.f k l0).bind fun t246 => ((runs_at.f t246 a1).bind fun t249 => (if t249 < (t246.length : Int) then (if 0 ≤ t249 then (runs_Prev.j0 k t246 a1 t249 (decide (((rd_T25 t246 t249).f0) ≤ a1))) else (none)) else (runs_Prev.j0 k t246 a1 t249 false)))) = some (r1, r2) := h; clear h; replace H := Option.bind_eq_some_iff.mp H; obtain ⟨t246, A30, H⟩ := H; replace H : ((runs_at.f t246 a1).bind fun t249 => (if t249 < (t246.length : Int) then (if 0 ≤ t249 then (runs_Prev.j0 k t246 a1 t249 (decide (((rd_T25 t246 t249).f0) ≤ a1))) else (none)) else (runs_Prev.j0 k t246 a1 t249 false))) = some (r1, r2) := H; have A3 := Aside0.mk A30; clear A30; replace H := Option.bind_eq_some_iff.mp H; obtain ⟨t249, A40, H⟩ := H; replace H : (if t249 < (t246.length : Int) then (if 0 ≤ t249 then (runs_Prev.j0 k t246 a1 t249 (decide (((rd_T25 t246 t249).f0) ≤ a1))) else (none)) else (runs_Prev.j0 k t246 a1 t249 false)) = some (r1, r2) := H; have A4 := Aside0.mk A40; clear A40; have HC5 := Aside0.mk H; clear H; go_enter Try.func27, Try.ntmps27; go_upto_region 3 with (first | ((with_reducible refine gate_callee (f := 50) rfl ?_); refine goesL_ (some 8) rfl rfl Try.func50 (by kernel_rfl) rfl #[.slice A0 l0.length c0] rfl ml_ ?_; (with_reducible refine (runs_known.calls k (fun k_ => k_ < w.heap.size) _ _ l0 t246 _ ?side1 A3.out).mono ?_); (case side1 => exact Kd.V_mk HC0.out (Kd.F_below (Kd.C_F k25_heap HR0.out) hb_)); rintro e w6 ⟨v247, rfl, ho0, hb⟩; refine ⟨_, rfl, ?_⟩; have n0_ := Aside0.mk (Kd.V_lower (Kd.V_mono (ok' := fun k_ => True) ho0 (fun k_ hk_ => trivial)) (below_size hb_)); have n1_ := Aside0.mk (below_step hb_ hb); clear HB; have HO248 := n0_; have HB := n1_; clear n0_ n1_; (try clear hb); (try clear hb2); (try clear hk); (try clear hi); (try clear ho0); obtain ⟨Ao7, co7, eo7⟩ := Kd.V_slice HO248.out; subst eo7) | ((with_reducible refine gate_callee (f := 51) rfl ?_); refine goesL_ (some 11) rfl rfl Try.func51 (by kernel_rfl) rfl #[.slice Ao7 t246.length co7, .int .i64 a1] rfl ml_ ?_; (with_reducible refine (runs_at.calls _ _ t246 a1 t249 _ ?side1 ?side2 A4.out).mono ?_); (case side1 => repeat (first | exact (Kd.V_reads' HO248.out).2.2 | (with_reducible refine Kd.C_alloc ?_ _) | (with_reducible refine Kd.C_drewN ?_ _) | (with_reducible refine Kd.C_drew ?_))); (case side2 => exact (Kd.V_reads' HO248.out).2.1); rintro e w8 ⟨rfl, hb⟩; refine ⟨_, rfl, ?_⟩; have n0_ := Aside0.mk (Kd.V_below (by (with_reducible repeat (first | apply Kd.V_alloc | apply Kd.V_drewN | apply Kd.V_drew)); exact HO248.out) hb); have n1_ := Aside0.mk (below_step hb_ hb); clear HO248; clear HB; have HO248 := n0_; have HB := n1_; clear n0_ n1_; (try clear hb); (try clear hb2); (try clear hk); (try clear hi))); (try simp only [Act.put, List.setIfInBounds_toArray, List.set_cons_zero, List.set_cons_succ]); go_cut [24] (fun v24 wc => ∃ (kq : Nat) (x24_4 : Bool), v24 = .bool x24_4 ∧ Aside0 (runs_Prev.j0 kq t246 a1 t249 x24_4 = some (r1, r2)) ∧ Aside0 (kq ≤ k) ∧ Aside0 (Kd.V k25 25 wc w.heap.size (fun _ => True) (.slice Ao7 t246.length co7) t246) ∧ Aside0 (Below w.heap.size w wc))
 case first =>
  have H := HC5.out; clear HC5
  by_cases c9 : t249 < (t246.length : Int)
  ·rw [if_pos c9] at H
   have c9b0 : decide (t249 < (t246.length : Int)) = true := decide_eq_true c9; clear c9; (first | rw [c9b0] | (simp only [i64_w, i32_w]; rw [c9b0]) | skip)
   by_cases c10 : 0 ≤ t249
   ·rw [if_pos c10] at H
    have c10b0 : decide (0 ≤ t249) = true := decide_eq_true c10; clear c10; have H' := Aside0.mk H; clear H; have p250 : 0 ≤ (t249 : Int) := od_; have q250 : t249 < (t246.length : Int) := od_; obtain ⟨ad250, e250, hx250_0, hx250_1⟩ := at_T25 (Kd.V_reads' HO248.out).2.2 t249 p250 q250
    cases e250
    replace p250 := eq_true p250; replace q250 := eq_true q250; go_wp2; go_meet
    case rel => exact ⟨_, (decide (((rd_T25 t246 t249).f0) ≤ a1)), rf_, H', ⟨by first | omega | exact Nat.le_refl _⟩, ⟨by (with_reducible repeat (first | apply Kd.V_alloc | apply Kd.V_drewN | apply Kd.V_drew)); exact HO248.out⟩, ⟨hb_⟩⟩
   ·rw [if_neg c10] at H
    exact absurd H (by simp)
  ·rw [if_neg c9] at H
   have c9b0 : decide (t249 < (t246.length : Int)) = false := decide_eq_false c9; clear c9; (first | rw [c9b0] | (simp only [i64_w, i32_w]; rw [c9b0]) | skip); have H' := Aside0.mk H; clear H; go_wp2; go_meet
   case rel => exact ⟨_, (false), rf_, H', ⟨by first | omega | exact Nat.le_refl _⟩, ⟨by (with_reducible repeat (first | apply Kd.V_alloc | apply Kd.V_drewN | apply Kd.V_drew)); exact HO248.out⟩, ⟨hb_⟩⟩
 case rest =>
  clear HC5; (try clear c1); (try clear c2); (try clear p2); (try clear q2); (try clear hx2); (try clear c5); (try clear c9); (try clear c9b0); (try clear c10); (try clear c10b0); (try clear hx250_0); (try clear hx250_1); (try clear p250); (try clear q250); obtain ⟨kq, x24_4, rfl, HA, HJ4, HO_0, HB⟩ := hcut
  cases kq with
  | zero => exact absurd HA.out (by simp [runs_Prev.j0])
  | succ kj4 =>
   have H := HA.out; clear HA; simp only [runs_Prev.j0] at H
   by_cases c11 : x24_4 = true
   ·subst c11
    (have H1 : (some (a1, true)) = some (r1, r2) := by rw [if_pos rfl] at H; exact H); clear H; have H := H1; clear H1; simp only [Option.some.injEq, Prod.mk.injEq] at H; obtain ⟨rfl, rfl⟩ := H; go_wp2; go_ret2; exact ⟨re_, hb_⟩
   ·replace c11 := Bool.eq_false_iff.mpr c11
    subst c11; (have H1 : (if t249 = 0 then (some (0, false)) else (if 0 ≤ (wrap64 (t249 - 1)) then (if (wrap64 (t249 - 1)) < (t246.length : Int) then (some ((rd_T25 t246 (wrap64 (t249 - 1))).f1, true)) else (none)) else (none))) = some (r1, r2) := by rw [if_neg (show ¬ (false = true) by decide)] at H; exact H); clear H; have H := H1; clear H1
    by_cases c12 : t249 = 0
    ·rw [if_pos c12] at H
     have c12b0 : (t249 == 0) = true := beq_iff_eq.mpr c12; have c12b1 : (t249 != 0) = false := bne_eq_false_iff_eq.mpr c12; clear c12; simp only [Option.some.injEq, Prod.mk.injEq] at H; obtain ⟨rfl, rfl⟩ := H; go_wp2; go_ret2; exact ⟨re_, hb_⟩
    ·rw [if_neg c12] at H
     have c12b0 : (t249 == 0) = false := beq_eq_false_iff_ne.mpr c12; have c12b1 : (t249 != 0) = true := bne_iff_ne.mpr c12; obtain ⟨ji13, hji13⟩ : ∃ j_ : Int, (wrap64 (t249 - 1)) = j_ := ⟨_, rfl⟩; (replace H : (if 0 ≤ (ji13) then (if (ji13) < (t246.length : Int) then (some ((rd_T25 t246 (ji13)).f1, true)) else (none)) else (none)) = some (r1, r2) := by first | (rw [hji13] at H; exact H) | (simp only [hji13] at H ⊢; exact H)); have hji13w : (IntKind.i64.wrap (t249 - 1)) = ji13 := (i64_w _).trans hji13
     by_cases c14 : 0 ≤ (ji13)
     ·rw [if_pos c14] at H
      have c14b0 : decide (0 ≤ (ji13)) = true := decide_eq_true c14; clear c14
      by_cases c15 : (ji13) < (t246.length : Int)
      ·rw [if_pos c15] at H
       have c15b0 : decide ((ji13) < (t246.length : Int)) = true := decide_eq_true c15; clear c15; simp only [Option.some.injEq, Prod.mk.injEq] at H; obtain ⟨rfl, rfl⟩ := H; have p251 : 0 ≤ ((ji13) : Int) := od_; have q251 : (ji13) < (t246.length : Int) := od_; obtain ⟨ad251, e251, hx251_0, hx251_1⟩ := at_T25 (Kd.V_reads' HO_0.out).2.2 (ji13) p251 q251
       cases e251
       replace p251 := eq_true p251; replace q251 := eq_true q251; go_wp2; go_ret2; exact ⟨by first | rfl | (simp [errW_none, errW_some] <;> rfl) | (simp only [← hji13]; first | rfl | (simp [errW_none, errW_some] <;> rfl)) | (simp [*, errW_none, errW_some] <;> rfl), hb_⟩
      ·rw [if_neg c15] at H
       exact absurd H (by simp)
     ·rw [if_neg c14] at H
      exact absurd H (by simp)
end Go.Proofs.Ytkbcmjejfbbcpaa.A

namespace Go.Proofs.Ytkbcmjejfbbcpaa.A
open Go.RowKit Go.Proofs.YtkbcmjejfbbcpaaW.PrintWords Go.Proofs.YtkbcmjejfbbcpaaW.PrintLast Go.Proofs.YtkbcmjejfbbcpaaW.PrintMore
attribute [local go_sem] max2_int min2_int max_two min_two max_three min_three max_four min_four
set_option linter.unusedVariables false
set_option linter.unusedSimpArgs false
set_option maxHeartbeats 8000000 in
set_option maxRecDepth 100000 in
theorem lustrumlaw04_RunsNext.calls (k : Nat) (A0 : Option Addr) (c0 : Nat) (l0 : List (S25)) (a1 : Int) (r : Bool) (w : World) (hr0 : Kd.C k25 w A0 l0.length l0) (hc0 : l0.length ≤ c0) (h : lustrumlaw04_RunsNext.f k l0 a1 = some r) :
  Calls Try.prog 8 #[.slice A0 l0.length c0, .int .i64 a1] w fun e w' => e = .returned (.bool r) ∧ Below w.heap.size w w' := by
 have HR0 := Aside0.mk hr0; have HC0 := Aside0.mk hc0; clear hr0 hc0; have HB := Aside0.mk (Below.refl w.heap.size w); have H : ((lustrumlaw04_awake.f k).bind fun t301 => (if (l0.length : Int) > 40 then (some t301) else ((runs_Next.f k l0 a1).bind fun bt302 => ((runs_Prev.f k l0 a1).bind fun bt304 => (if bt302.2 = true then (if bt304.2 = true then (if bt302.1 < a1 then (lustrumlaw04_RunsNext.j0 k l0 a1 t301 bt302.1 bt302.2 bt304.1 bt304.2 true) else ((runs_Has.f k l0 bt302.1).bind fun t306 => (if t306 = true then (if bt304.1 > a1 then (lustrumlaw04_RunsNext.j0 k l0 a1 t301 bt302.1 bt302.2 bt304.1 bt304.2 true) else ((runs_Has.f k l0 bt304.1).bind fun t307 => (lustrumlaw04_RunsNext.j0 k l0 a1 t301 bt302.1 bt302.2 bt304.1 bt304.2 (!t307)))) else (lustrumlaw04_RunsNext.j0 k l0 a1 t301 bt302.1 bt302.2 bt304.1 bt304.2 true)))) else (if bt304.1 = 0 then (if bt302.1 < a1 then (lustrumlaw04_RunsNext.j0 k l0 a1 t301 bt302.1 bt302.2 bt304.1 bt304.2 true) else ((runs_Has.f k l0 bt302.1).bind fun t308 => (if t308 = true then (lustrumlaw04_RunsNext.j0 k l0 a1 t301 bt302.1 bt302.2 bt304.1 bt304.2 false) else (lustrumlaw04_RunsNext.j0 k l0 a1 t301 bt302.1 bt302.2 bt304.1 bt304.2 true)))) else (lustrumlaw04_RunsNext.j0 k l0 a1 t301 bt302.1 bt302.2 bt304.1 bt304.2 true))) else (if bt302.1 = 0 then (if bt304.2 = true then (if bt304.1 > a1 then (lustrumlaw04_RunsNext.j0 k l0 a1 t301 bt302.1 bt302.2 bt304.1 bt304.2 true) else ((runs_Has.f k l0 bt304.1).bind fun t309 => (lustrumlaw04_RunsNext.j0 k l0 a1 t301 bt302.1 bt302.2 bt304.1 bt304.2 (!t309)))) else (if bt304.1 = 0 then (lustrumlaw04_RunsNext.j0 k l0 a1 t301 bt302.1 bt302.2 bt304.1 bt304.2 false) else (lustrumlaw04_RunsNext.j0 k l0 a1 t301 bt302.1 bt302.2 bt304.1 bt304.2 true))) else (lustrumlaw04_RunsNext.j0 k l0 a1 t301 bt302.1 bt302.2 bt304.1 bt304.2 true))))))) = some r := h; clear h; replace H := Option.bind_eq_some_iff.mp H; obtain ⟨t301, A30, H⟩ := H; replace H : (if (l0.length : Int) > 40 then (some t301) else ((runs_Next.f k l0 a1).bind fun bt302 => ((runs_Prev.f k l0 a1).bind fun bt304 => (if bt302.2 = true then (if bt304.2 = true then (if bt302.1 < a1 then (lustrumlaw04_RunsNext.j0 k l0 a1 t301 bt302.1 bt302.2 bt304.1 bt304.2 true) else ((runs_Has.f k l0 bt302.1).bind fun t306 => (if t306 = true then (if bt304.1 > a1 then (lustrumlaw04_RunsNext.j0 k l0 a1 t301 bt302.1 bt302.2 bt304.1 bt304.2 true) else ((runs_Has.f k l0 bt304.1).bind fun t307 => (lustrumlaw04_RunsNext.j0 k l0 a1 t301 bt302.1 bt302.2 bt304.1 bt304.2 (!t307)))) else (lustrumlaw04_RunsNext.j0 k l0 a1 t301 bt302.1 bt302.2 bt304.1 bt304.2 true)))) else (if bt304.1 = 0 then (if bt302.1 < a1 then (lustrumlaw04_RunsNext.j0 k l0 a1 t301 bt302.1 bt302.2 bt304.1 bt304.2 true) else ((runs_Has.f k l0 bt302.1).bind fun t308 => (if t308 = true then (lustrumlaw04_RunsNext.j0 k l0 a1 t301 bt302.1 bt302.2 bt304.1 bt304.2 false) else (lustrumlaw04_RunsNext.j0 k l0 a1 t301 bt302.1 bt302.2 bt304.1 bt304.2 true)))) else (lustrumlaw04_RunsNext.j0 k l0 a1 t301 bt302.1 bt302.2 bt304.1 bt304.2 true))) else (if bt302.1 = 0 then (if bt304.2 = true then (if bt304.1 > a1 then (lustrumlaw04_RunsNext.j0 k l0 a1 t301 bt302.1 bt302.2 bt304.1 bt304.2 true) else ((runs_Has.f k l0 bt304.1).bind fun t309 => (lustrumlaw04_RunsNext.j0 k l0 a1 t301 bt302.1 bt302.2 bt304.1 bt304.2 (!t309)))) else (if bt304.1 = 0 then (lustrumlaw04_RunsNext.j0 k l0 a1 t301 bt302.1 bt302.2 bt304.1 bt304.2 false) else (lustrumlaw04_RunsNext.j0 k l0 a1 t301 bt302.1 bt302.2 bt304.1 bt304.2 true))) else (lustrumlaw04_RunsNext.j0 k l0 a1 t301 bt302.1 bt302.2 bt304.1 bt304.2 true)))))) = some r := H; have A3 := Aside0.mk A30; clear A30
 by_cases c4 : (l0.length : Int) > 40
 ·as_aux_lemma =>
  rw [if_pos c4] at H
  have c4b0 : decide (40 < (l0.length : Int)) = true := decide_eq_true c4; have c4b1 : decide (40 < l0.length) = true := decide_eq_true (by omega); clear c4; obtain rfl := Option.some.inj H; go_enter Try.func8, Try.ntmps8; go_wp2_with (first | ((with_reducible refine gate_callee (f := 18) rfl ?_); refine goesL_ (some 14) rfl rfl Try.func18 (by kernel_rfl) rfl #[] rfl ml_ ?_; (with_reducible refine (lustrumlaw04_awake.calls k  t301 _ A3.out).mono ?_); rintro e w5 ⟨rfl, hb⟩; refine ⟨_, rfl, ?_⟩; have n0_ := Aside0.mk (below_step hb_ hb); clear HB; have HB := n0_; clear n0_; (try clear hb); (try clear hb2); (try clear hk); (try clear hi))); go_ret; exact ⟨re_, hb_⟩
 ·as_aux_lemma =>
  rw [if_neg c4] at H
  have c4b0 : decide (40 < (l0.length : Int)) = false := decide_eq_false c4; have c4b1 : decide (40 < l0.length) = false := decide_eq_false (by omega); clear c4; replace H := Option.bind_eq_some_iff.mp H; obtain ⟨⟨t302, t303⟩, A60, H⟩ := H; replace H : ((runs_Prev.f k l0 a1).bind fun bt304 => (if t303 = true then (if bt304.2 = true then (if t302 < a1 then (lustrumlaw04_RunsNext.j0 k l0 a1 t301 t302 t303 bt304.1 bt304.2 true) else ((runs_Has.f k l0 t302).bind fun t306 => (if t306 = true then (if bt304.1 > a1 then (lustrumlaw04_RunsNext.j0 k l0 a1 t301 t302 t303 bt304.1 bt304.2 true) else ((runs_Has.f k l0 bt304.1).bind fun t307 => (lustrumlaw04_RunsNext.j0 k l0 a1 t301 t302 t303 bt304.1 bt304.2 (!t307)))) else (lustrumlaw04_RunsNext.j0 k l0 a1 t301 t302 t303 bt304.1 bt304.2 true)))) else (if bt304.1 = 0 then (if t302 < a1 then (lustrumlaw04_RunsNext.j0 k l0 a1 t301 t302 t303 bt304.1 bt304.2 true) else ((runs_Has.f k l0 t302).bind fun t308 => (if t308 = true then (lustrumlaw04_RunsNext.j0 k l0 a1 t301 t302 t303 bt304.1 bt304.2 false) else (lustrumlaw04_RunsNext.j0 k l0 a1 t301 t302 t303 bt304.1 bt304.2 true)))) else (lustrumlaw04_RunsNext.j0 k l0 a1 t301 t302 t303 bt304.1 bt304.2 true))) else (if t302 = 0 then (if bt304.2 = true then (if bt304.1 > a1 then (lustrumlaw04_RunsNext.j0 k l0 a1 t301 t302 t303 bt304.1 bt304.2 true) else ((runs_Has.f k l0 bt304.1).bind fun t309 => (lustrumlaw04_RunsNext.j0 k l0 a1 t301 t302 t303 bt304.1 bt304.2 (!t309)))) else (if bt304.1 = 0 then (lustrumlaw04_RunsNext.j0 k l0 a1 t301 t302 t303 bt304.1 bt304.2 false) else (lustrumlaw04_RunsNext.j0 k l0 a1 t301 t302 t303 bt304.1 bt304.2 true))) else (lustrumlaw04_RunsNext.j0 k l0 a1 t301 t302 t303 bt304.1 bt304.2 true)))) = some r := H; have A6 := Aside0.mk A60; clear A60; replace H := Option.bind_eq_some_iff.mp H; obtain ⟨⟨t304, t305⟩, A70, H⟩ := H; replace H : (if t303 = true then (if t305 = true then (if t302 < a1 then (lustrumlaw04_RunsNext.j0 k l0 a1 t301 t302 t303 t304 t305 true) else ((runs_Has.f k l0 t302).bind fun t306 => (if t306 = true then (if t304 > a1 then (lustrumlaw04_RunsNext.j0 k l0 a1 t301 t302 t303 t304 t305 true) else ((runs_Has.f k l0 t304).bind fun t307 => (lustrumlaw04_RunsNext.j0 k l0 a1 t301 t302 t303 t304 t305 (!t307)))) else (lustrumlaw04_RunsNext.j0 k l0 a1 t301 t302 t303 t304 t305 true)))) else (if t304 = 0 then (if t302 < a1 then (lustrumlaw04_RunsNext.j0 k l0 a1 t301 t302 t303 t304 t305 true) else ((runs_Has.f k l0 t302).bind fun t308 => (if t308 = true then (lustrumlaw04_RunsNext.j0 k l0 a1 t301 t302 t303 t304 t305 false) else (lustrumlaw04_RunsNext.j0 k l0 a1 t301 t302 t303 t304 t305 true)))) else (lustrumlaw04_RunsNext.j0 k l0 a1 t301 t302 t303 t304 t305 true))) else (if t302 = 0 then (if t305 = true then (if t304 > a1 then (lustrumlaw04_RunsNext.j0 k l0 a1 t301 t302 t303 t304 t305 true) else ((runs_Has.f k l0 t304).bind fun t309 => (lustrumlaw04_RunsNext.j0 k l0 a1 t301 t302 t303 t304 t305 (!t309)))) else (if t304 = 0 then (lustrumlaw04_RunsNext.j0 k l0 a1 t301 t302 t303 t304 t305 false) else (lustrumlaw04_RunsNext.j0 k l0 a1 t301 t302 t303 t304 t305 true))) else (lustrumlaw04_RunsNext.j0 k l0 a1 t301 t302 t303 t304 t305 true))) = some r := H; have A7 := Aside0.mk A70; clear A70; have HC8 := Aside0.mk H; clear H; go_enter Try.func8, Try.ntmps8; go_upto_region 6 with (first | ((with_reducible refine gate_callee (f := 18) rfl ?_); refine goesL_ (some 14) rfl rfl Try.func18 (by kernel_rfl) rfl #[] rfl ml_ ?_; (with_reducible refine (lustrumlaw04_awake.calls k  t301 _ A3.out).mono ?_); rintro e w9 ⟨rfl, hb⟩; refine ⟨_, rfl, ?_⟩; have n0_ := Aside0.mk (below_step hb_ hb); clear HB; have HB := n0_; clear n0_; (try clear hb); (try clear hb2); (try clear hk); (try clear hi)) | ((with_reducible refine gate_callee (f := 25) rfl ?_); refine goesL_ (some 22) rfl rfl Try.func25 (by kernel_rfl) rfl #[.slice A0 l0.length c0, .int .i64 a1] rfl ml_ ?_; (with_reducible refine (runs_Next.calls k _ _ l0 a1 t302 t303 _ ?side1 ?side2 A6.out).mono ?_); (case side1 => repeat (first | exact (Kd.C_below HR0.out HB.out) | (with_reducible refine Kd.C_alloc ?_ _) | (with_reducible refine Kd.C_drewN ?_ _) | (with_reducible refine Kd.C_drew ?_))); (case side2 => exact HC0.out); rintro e w10 ⟨rfl, hb⟩; refine ⟨_, rfl, ?_⟩; have n0_ := Aside0.mk (below_step hb_ hb); clear HB; have HB := n0_; clear n0_; (try clear hb); (try clear hb2); (try clear hk); (try clear hi)) | ((with_reducible refine gate_callee (f := 27) rfl ?_); refine goesL_ (some 28) rfl rfl Try.func27 (by kernel_rfl) rfl #[.slice A0 l0.length c0, .int .i64 a1] rfl ml_ ?_; (with_reducible refine (runs_Prev.calls k _ _ l0 a1 t304 t305 _ ?side1 ?side2 A7.out).mono ?_); (case side1 => repeat (first | exact (Kd.C_below HR0.out HB.out) | (with_reducible refine Kd.C_alloc ?_ _) | (with_reducible refine Kd.C_drewN ?_ _) | (with_reducible refine Kd.C_drew ?_))); (case side2 => exact HC0.out); rintro e w11 ⟨rfl, hb⟩; refine ⟨_, rfl, ?_⟩; have n0_ := Aside0.mk (below_step hb_ hb); clear HB; have HB := n0_; clear n0_; (try clear hb); (try clear hb2); (try clear hk); (try clear hi)))
  (try simp only [Act.put, List.setIfInBounds_toArray, List.set_cons_zero, List.set_cons_succ]); go_cut [72] (fun v72 wc => ∃ (kq : Nat) (x72_7 : Bool), v72 = .bool x72_7 ∧ Aside0 (lustrumlaw04_RunsNext.j0 kq l0 a1 t301 t302 t303 t304 t305 x72_7 = some r) ∧ Aside0 (kq ≤ k) ∧ Aside0 (Below w.heap.size w wc))
  case first =>
   have H := HC8.out; clear HC8
   by_cases c12 : t303 = true
   ·subst c12
    (have H1 : (if t305 = true then (if t302 < a1 then (lustrumlaw04_RunsNext.j0 k l0 a1 t301 t302 true t304 t305 true) else ((runs_Has.f k l0 t302).bind fun t306 => (if t306 = true then (if t304 > a1 then (lustrumlaw04_RunsNext.j0 k l0 a1 t301 t302 true t304 t305 true) else ((runs_Has.f k l0 t304).bind fun t307 => (lustrumlaw04_RunsNext.j0 k l0 a1 t301 t302 true t304 t305 (!t307)))) else (lustrumlaw04_RunsNext.j0 k l0 a1 t301 t302 true t304 t305 true)))) else (if t304 = 0 then (if t302 < a1 then (lustrumlaw04_RunsNext.j0 k l0 a1 t301 t302 true t304 t305 true) else ((runs_Has.f k l0 t302).bind fun t308 => (if t308 = true then (lustrumlaw04_RunsNext.j0 k l0 a1 t301 t302 true t304 t305 false) else (lustrumlaw04_RunsNext.j0 k l0 a1 t301 t302 true t304 t305 true)))) else (lustrumlaw04_RunsNext.j0 k l0 a1 t301 t302 true t304 t305 true))) = some r := by rw [if_pos rfl] at H; exact H); clear H; have H := H1; clear H1
    by_cases c13 : t305 = true
    ·subst c13
     (have H1 : (if t302 < a1 then (lustrumlaw04_RunsNext.j0 k l0 a1 t301 t302 true t304 true true) else ((runs_Has.f k l0 t302).bind fun t306 => (if t306 = true then (if t304 > a1 then (lustrumlaw04_RunsNext.j0 k l0 a1 t301 t302 true t304 true true) else ((runs_Has.f k l0 t304).bind fun t307 => (lustrumlaw04_RunsNext.j0 k l0 a1 t301 t302 true t304 true (!t307)))) else (lustrumlaw04_RunsNext.j0 k l0 a1 t301 t302 true t304 true true)))) = some r := by rw [if_pos rfl] at H; exact H); clear H; have H := H1; clear H1
     by_cases c14 : t302 < a1
     ·as_aux_lemma =>
      rw [if_pos c14] at H
      have c14b0 : decide (t302 < a1) = true := decide_eq_true c14; clear c14; (first | rw [c14b0] | (simp only [i64_w, i32_w]; rw [c14b0]) | skip); have H' := Aside0.mk H; clear H; go_wp2; go_meet
      case rel => exact ⟨_, (true), rf_, H', ⟨by first | omega | exact Nat.le_refl _⟩, ⟨hb_⟩⟩
     ·as_aux_lemma =>
      rw [if_neg c14] at H
      have c14b0 : decide (t302 < a1) = false := decide_eq_false c14; clear c14; (first | rw [c14b0] | (simp only [i64_w, i32_w]; rw [c14b0]) | skip); replace H := Option.bind_eq_some_iff.mp H; obtain ⟨t306, A150, H⟩ := H; replace H : (if t306 = true then (if t304 > a1 then (lustrumlaw04_RunsNext.j0 k l0 a1 t301 t302 true t304 true true) else ((runs_Has.f k l0 t304).bind fun t307 => (lustrumlaw04_RunsNext.j0 k l0 a1 t301 t302 true t304 true (!t307)))) else (lustrumlaw04_RunsNext.j0 k l0 a1 t301 t302 true t304 true true)) = some r := H; have A15 := Aside0.mk A150; clear A150
      by_cases c16 : t306 = true
      ·subst c16
       (have H1 : (if t304 > a1 then (lustrumlaw04_RunsNext.j0 k l0 a1 t301 t302 true t304 true true) else ((runs_Has.f k l0 t304).bind fun t307 => (lustrumlaw04_RunsNext.j0 k l0 a1 t301 t302 true t304 true (!t307)))) = some r := by rw [if_pos rfl] at H; exact H); clear H; have H := H1; clear H1
       by_cases c17 : t304 > a1
       ·as_aux_lemma =>
        rw [if_pos c17] at H
        have c17b0 : decide (a1 < t304) = true := decide_eq_true c17; clear c17; have H' := Aside0.mk H; clear H; go_wp2_with (first | (go_at_call 22; (with_reducible refine (runs_Has.calls k _ _ l0 t302 true _ ?side1 ?side2 A15.out).mono ?_); (case side1 => repeat (first | exact (Kd.C_below HR0.out HB.out) | (with_reducible refine Kd.C_alloc ?_ _) | (with_reducible refine Kd.C_drewN ?_ _) | (with_reducible refine Kd.C_drew ?_))); (case side2 => exact HC0.out); rintro e w18 ⟨rfl, hb⟩; have n0_ := Aside0.mk (below_step hb_ hb); clear HB; have HB := n0_; clear n0_; (try clear hb); (try clear hb2); (try clear hk); (try clear hi))); go_meet
        case rel => exact ⟨_, (true), rf_, H', ⟨by first | omega | exact Nat.le_refl _⟩, ⟨hb_⟩⟩
       ·as_aux_lemma =>
        rw [if_neg c17] at H
        have c17b0 : decide (a1 < t304) = false := decide_eq_false c17; clear c17; replace H := Option.bind_eq_some_iff.mp H; obtain ⟨t307, A190, H⟩ := H; replace H : (lustrumlaw04_RunsNext.j0 k l0 a1 t301 t302 true t304 true (!t307)) = some r := H; have A19 := Aside0.mk A190; clear A190; have H' := Aside0.mk H; clear H; go_wp2_with (first | (go_at_call 22; (with_reducible refine (runs_Has.calls k _ _ l0 t302 true _ ?side1 ?side2 A15.out).mono ?_); (case side1 => repeat (first | exact (Kd.C_below HR0.out HB.out) | (with_reducible refine Kd.C_alloc ?_ _) | (with_reducible refine Kd.C_drewN ?_ _) | (with_reducible refine Kd.C_drew ?_))); (case side2 => exact HC0.out); rintro e w20 ⟨rfl, hb⟩; have n0_ := Aside0.mk (below_step hb_ hb); clear HB; have HB := n0_; clear n0_; (try clear hb); (try clear hb2); (try clear hk); (try clear hi)) | (go_at_call 22; (with_reducible refine (runs_Has.calls k _ _ l0 t304 t307 _ ?side1 ?side2 A19.out).mono ?_); (case side1 => repeat (first | exact (Kd.C_below HR0.out HB.out) | (with_reducible refine Kd.C_alloc ?_ _) | (with_reducible refine Kd.C_drewN ?_ _) | (with_reducible refine Kd.C_drew ?_))); (case side2 => exact HC0.out); rintro e w21 ⟨rfl, hb⟩; have n0_ := Aside0.mk (below_step hb_ hb); clear HB; have HB := n0_; clear n0_; (try clear hb); (try clear hb2); (try clear hk); (try clear hi))); go_meet
        case rel => exact ⟨_, (!t307), rf_, H', ⟨by first | omega | exact Nat.le_refl _⟩, ⟨hb_⟩⟩
      ·replace c16 := Bool.eq_false_iff.mpr c16
       subst c16; (have H1 : (lustrumlaw04_RunsNext.j0 k l0 a1 t301 t302 true t304 true true) = some r := by rw [if_neg (show ¬ (false = true) by decide)] at H; exact H); clear H; have H := H1; clear H1; have H' := Aside0.mk H; clear H; go_wp2_with (first | (go_at_call 22; (with_reducible refine (runs_Has.calls k _ _ l0 t302 false _ ?side1 ?side2 A15.out).mono ?_); (case side1 => repeat (first | exact (Kd.C_below HR0.out HB.out) | (with_reducible refine Kd.C_alloc ?_ _) | (with_reducible refine Kd.C_drewN ?_ _) | (with_reducible refine Kd.C_drew ?_))); (case side2 => exact HC0.out); rintro e w22 ⟨rfl, hb⟩; have n0_ := Aside0.mk (below_step hb_ hb); clear HB; have HB := n0_; clear n0_; (try clear hb); (try clear hb2); (try clear hk); (try clear hi))); go_meet
       case rel => exact ⟨_, (true), rf_, H', ⟨by first | omega | exact Nat.le_refl _⟩, ⟨hb_⟩⟩
    ·replace c13 := Bool.eq_false_iff.mpr c13
     subst c13; (have H1 : (if t304 = 0 then (if t302 < a1 then (lustrumlaw04_RunsNext.j0 k l0 a1 t301 t302 true t304 false true) else ((runs_Has.f k l0 t302).bind fun t308 => (if t308 = true then (lustrumlaw04_RunsNext.j0 k l0 a1 t301 t302 true t304 false false) else (lustrumlaw04_RunsNext.j0 k l0 a1 t301 t302 true t304 false true)))) else (lustrumlaw04_RunsNext.j0 k l0 a1 t301 t302 true t304 false true)) = some r := by rw [if_neg (show ¬ (false = true) by decide)] at H; exact H); clear H; have H := H1; clear H1
     by_cases c23 : t304 = 0
     ·as_aux_lemma =>
      rw [if_pos c23] at H
      have c23b0 : (t304 == 0) = true := beq_iff_eq.mpr c23; have c23b1 : (t304 != 0) = false := bne_eq_false_iff_eq.mpr c23; clear c23
      by_cases c24 : t302 < a1
      ·as_aux_lemma =>
       rw [if_pos c24] at H
       have c24b0 : decide (t302 < a1) = true := decide_eq_true c24; clear c24; have H' := Aside0.mk H; clear H; go_wp2; go_meet
       case rel => exact ⟨_, (true), rf_, H', ⟨by first | omega | exact Nat.le_refl _⟩, ⟨hb_⟩⟩
      ·as_aux_lemma =>
       rw [if_neg c24] at H
       have c24b0 : decide (t302 < a1) = false := decide_eq_false c24; clear c24; replace H := Option.bind_eq_some_iff.mp H; obtain ⟨t308, A250, H⟩ := H; replace H : (if t308 = true then (lustrumlaw04_RunsNext.j0 k l0 a1 t301 t302 true t304 false false) else (lustrumlaw04_RunsNext.j0 k l0 a1 t301 t302 true t304 false true)) = some r := H; have A25 := Aside0.mk A250; clear A250
       by_cases c26 : t308 = true
       ·subst c26
        (have H1 : (lustrumlaw04_RunsNext.j0 k l0 a1 t301 t302 true t304 false false) = some r := by rw [if_pos rfl] at H; exact H); clear H; have H := H1; clear H1; have H' := Aside0.mk H; clear H; go_wp2_with (first | (go_at_call 22; (with_reducible refine (runs_Has.calls k _ _ l0 t302 true _ ?side1 ?side2 A25.out).mono ?_); (case side1 => repeat (first | exact (Kd.C_below HR0.out HB.out) | (with_reducible refine Kd.C_alloc ?_ _) | (with_reducible refine Kd.C_drewN ?_ _) | (with_reducible refine Kd.C_drew ?_))); (case side2 => exact HC0.out); rintro e w27 ⟨rfl, hb⟩; have n0_ := Aside0.mk (below_step hb_ hb); clear HB; have HB := n0_; clear n0_; (try clear hb); (try clear hb2); (try clear hk); (try clear hi))); go_meet
        case rel => exact ⟨_, (false), rf_, H', ⟨by first | omega | exact Nat.le_refl _⟩, ⟨hb_⟩⟩
       ·replace c26 := Bool.eq_false_iff.mpr c26
        subst c26; (have H1 : (lustrumlaw04_RunsNext.j0 k l0 a1 t301 t302 true t304 false true) = some r := by rw [if_neg (show ¬ (false = true) by decide)] at H; exact H); clear H; have H := H1; clear H1; have H' := Aside0.mk H; clear H; go_wp2_with (first | (go_at_call 22; (with_reducible refine (runs_Has.calls k _ _ l0 t302 false _ ?side1 ?side2 A25.out).mono ?_); (case side1 => repeat (first | exact (Kd.C_below HR0.out HB.out) | (with_reducible refine Kd.C_alloc ?_ _) | (with_reducible refine Kd.C_drewN ?_ _) | (with_reducible refine Kd.C_drew ?_))); (case side2 => exact HC0.out); rintro e w28 ⟨rfl, hb⟩; have n0_ := Aside0.mk (below_step hb_ hb); clear HB; have HB := n0_; clear n0_; (try clear hb); (try clear hb2); (try clear hk); (try clear hi))); go_meet
        case rel => exact ⟨_, (true), rf_, H', ⟨by first | omega | exact Nat.le_refl _⟩, ⟨hb_⟩⟩
     ·as_aux_lemma =>
      rw [if_neg c23] at H
      have c23b0 : (t304 == 0) = false := beq_eq_false_iff_ne.mpr c23; have c23b1 : (t304 != 0) = true := bne_iff_ne.mpr c23; have H' := Aside0.mk H; clear H; go_wp2; go_meet
      case rel => exact ⟨_, (true), rf_, H', ⟨by first | omega | exact Nat.le_refl _⟩, ⟨hb_⟩⟩
   ·replace c12 := Bool.eq_false_iff.mpr c12
    subst c12; (have H1 : (if t302 = 0 then (if t305 = true then (if t304 > a1 then (lustrumlaw04_RunsNext.j0 k l0 a1 t301 t302 false t304 t305 true) else ((runs_Has.f k l0 t304).bind fun t309 => (lustrumlaw04_RunsNext.j0 k l0 a1 t301 t302 false t304 t305 (!t309)))) else (if t304 = 0 then (lustrumlaw04_RunsNext.j0 k l0 a1 t301 t302 false t304 t305 false) else (lustrumlaw04_RunsNext.j0 k l0 a1 t301 t302 false t304 t305 true))) else (lustrumlaw04_RunsNext.j0 k l0 a1 t301 t302 false t304 t305 true)) = some r := by rw [if_neg (show ¬ (false = true) by decide)] at H; exact H); clear H; have H := H1; clear H1
    by_cases c29 : t302 = 0
    ·as_aux_lemma =>
     rw [if_pos c29] at H
     have c29b0 : (t302 == 0) = true := beq_iff_eq.mpr c29; have c29b1 : (t302 != 0) = false := bne_eq_false_iff_eq.mpr c29; clear c29
     by_cases c30 : t305 = true
     ·subst c30
      (have H1 : (if t304 > a1 then (lustrumlaw04_RunsNext.j0 k l0 a1 t301 t302 false t304 true true) else ((runs_Has.f k l0 t304).bind fun t309 => (lustrumlaw04_RunsNext.j0 k l0 a1 t301 t302 false t304 true (!t309)))) = some r := by rw [if_pos rfl] at H; exact H); clear H; have H := H1; clear H1
      by_cases c31 : t304 > a1
      ·as_aux_lemma =>
       rw [if_pos c31] at H
       have c31b0 : decide (a1 < t304) = true := decide_eq_true c31; clear c31; have H' := Aside0.mk H; clear H; go_wp2; go_meet
       case rel => exact ⟨_, (true), rf_, H', ⟨by first | omega | exact Nat.le_refl _⟩, ⟨hb_⟩⟩
      ·as_aux_lemma =>
       rw [if_neg c31] at H
       have c31b0 : decide (a1 < t304) = false := decide_eq_false c31; clear c31; replace H := Option.bind_eq_some_iff.mp H; obtain ⟨t309, A320, H⟩ := H; replace H : (lustrumlaw04_RunsNext.j0 k l0 a1 t301 t302 false t304 true (!t309)) = some r := H; have A32 := Aside0.mk A320; clear A320; have H' := Aside0.mk H; clear H; go_wp2_with (first | (go_at_call 22; (with_reducible refine (runs_Has.calls k _ _ l0 t304 t309 _ ?side1 ?side2 A32.out).mono ?_); (case side1 => repeat (first | exact (Kd.C_below HR0.out HB.out) | (with_reducible refine Kd.C_alloc ?_ _) | (with_reducible refine Kd.C_drewN ?_ _) | (with_reducible refine Kd.C_drew ?_))); (case side2 => exact HC0.out); rintro e w33 ⟨rfl, hb⟩; have n0_ := Aside0.mk (below_step hb_ hb); clear HB; have HB := n0_; clear n0_; (try clear hb); (try clear hb2); (try clear hk); (try clear hi))); go_meet
       case rel => exact ⟨_, (!t309), rf_, H', ⟨by first | omega | exact Nat.le_refl _⟩, ⟨hb_⟩⟩
     ·replace c30 := Bool.eq_false_iff.mpr c30
      subst c30; (have H1 : (if t304 = 0 then (lustrumlaw04_RunsNext.j0 k l0 a1 t301 t302 false t304 false false) else (lustrumlaw04_RunsNext.j0 k l0 a1 t301 t302 false t304 false true)) = some r := by rw [if_neg (show ¬ (false = true) by decide)] at H; exact H); clear H; have H := H1; clear H1
      by_cases c34 : t304 = 0
      ·as_aux_lemma =>
       rw [if_pos c34] at H
       have c34b0 : (t304 == 0) = true := beq_iff_eq.mpr c34; have c34b1 : (t304 != 0) = false := bne_eq_false_iff_eq.mpr c34; clear c34; have H' := Aside0.mk H; clear H; go_wp2; go_meet
       case rel => exact ⟨_, (false), rf_, H', ⟨by first | omega | exact Nat.le_refl _⟩, ⟨hb_⟩⟩
      ·as_aux_lemma =>
       rw [if_neg c34] at H
       have c34b0 : (t304 == 0) = false := beq_eq_false_iff_ne.mpr c34; have c34b1 : (t304 != 0) = true := bne_iff_ne.mpr c34; have H' := Aside0.mk H; clear H; go_wp2; go_meet
       case rel => exact ⟨_, (true), rf_, H', ⟨by first | omega | exact Nat.le_refl _⟩, ⟨hb_⟩⟩
    ·as_aux_lemma =>
     rw [if_neg c29] at H
     have c29b0 : (t302 == 0) = false := beq_eq_false_iff_ne.mpr c29; have c29b1 : (t302 != 0) = true := bne_iff_ne.mpr c29; have H' := Aside0.mk H; clear H; go_wp2; go_meet
     case rel => exact ⟨_, (true), rf_, H', ⟨by first | omega | exact Nat.le_refl _⟩, ⟨hb_⟩⟩
  case rest =>
   clear HC8; (try clear c1); (try clear c2); (try clear p2); (try clear c3); (try clear c4); (try clear c4b0); (try clear c4b1); (try clear c8); (try clear c12); (try clear c13); (try clear c14); (try clear c14b0); (try clear c16); (try clear c17); (try clear c17b0); (try clear c18); (try clear c23); (try clear c23b0); (try clear c23b1); (try clear c24); (try clear c24b0); (try clear c25); (try clear c26); (try clear c27); (try clear c29); (try clear c29b0); (try clear c29b1); (try clear c30); (try clear c31); (try clear c31b0); (try clear c34); (try clear c34b0); (try clear c34b1); obtain ⟨kq, x72_7, rfl, HA, HJ7, HB⟩ := hcut
   cases kq with
   | zero => exact absurd HA.out (by simp [lustrumlaw04_RunsNext.j0])
   | succ kj7 =>
    have H := HA.out; clear HA; simp only [lustrumlaw04_RunsNext.j0] at H
    by_cases c35 : x72_7 = true
    ·subst c35
     (have H1 : (some false) = some r := by rw [if_pos rfl] at H; exact H); clear H; have H := H1; clear H1; obtain rfl := Option.some.inj H; go_wp2; go_ret; exact ⟨re_, hb_⟩
    ·replace c35 := Bool.eq_false_iff.mpr c35
     subst c35; (have H1 : (if t303 = true then (lustrumlaw04_RunsNext.j1 kj7 l0 a1 t301 t302 t303 t304 t305 (decide (t302 > a1))) else (lustrumlaw04_RunsNext.j1 kj7 l0 a1 t301 t302 t303 t304 t305 false)) = some r := by rw [if_neg (show ¬ (false = true) by decide)] at H; exact H); clear H; have H := H1; clear H1; have HC36 := Aside0.mk H; clear H; go_upto_region 8 with (fail); go_cut [78] (fun v78 wc => ∃ (kq : Nat) (x78_35 : Bool), v78 = .bool x78_35 ∧ Aside0 (lustrumlaw04_RunsNext.j1 kq l0 a1 t301 t302 t303 t304 t305 x78_35 = some r) ∧ Aside0 (kq ≤ kj7) ∧ Aside0 (Below w.heap.size w wc))
     case first =>
      have H := HC36.out; clear HC36
      by_cases c37 : t303 = true
      ·subst c37
       (have H1 : (lustrumlaw04_RunsNext.j1 kj7 l0 a1 t301 t302 true t304 t305 (decide (t302 > a1))) = some r := by rw [if_pos rfl] at H; exact H); clear H; have H := H1; clear H1; have H' := Aside0.mk H; clear H; go_wp2; go_meet
       case rel => exact ⟨_, (decide (t302 > a1)), rf_, H', ⟨by have := HJ7.out; first | omega | exact Nat.le_refl _⟩, ⟨hb_⟩⟩
      ·replace c37 := Bool.eq_false_iff.mpr c37
       subst c37; (have H1 : (lustrumlaw04_RunsNext.j1 kj7 l0 a1 t301 t302 false t304 t305 false) = some r := by rw [if_neg (show ¬ (false = true) by decide)] at H; exact H); clear H; have H := H1; clear H1; have H' := Aside0.mk H; clear H; go_wp2; go_meet
       case rel => exact ⟨_, (false), rf_, H', ⟨by have := HJ7.out; first | omega | exact Nat.le_refl _⟩, ⟨hb_⟩⟩
     case rest =>
      clear HC36; (try clear c1); (try clear c2); (try clear p2); (try clear c3); (try clear c4); (try clear c4b0); (try clear c4b1); (try clear c8); (try clear c12); (try clear c13); (try clear c14); (try clear c14b0); (try clear c16); (try clear c17); (try clear c17b0); (try clear c18); (try clear c23); (try clear c23b0); (try clear c23b1); (try clear c24); (try clear c24b0); (try clear c25); (try clear c26); (try clear c27); (try clear c29); (try clear c29b0); (try clear c29b1); (try clear c30); (try clear c31); (try clear c31b0); (try clear c34); (try clear c34b0); (try clear c34b1); (try clear c35); (try clear c37); (try clear p2); obtain ⟨kq, x78_35, rfl, HA, HJ35, HB⟩ := hcut
      cases kq with
      | zero => exact absurd HA.out (by simp [lustrumlaw04_RunsNext.j1])
      | succ kj35 =>
       have H := HA.out; clear HA; simp only [lustrumlaw04_RunsNext.j1] at H; have HC38 := Aside0.mk H; clear H; go_upto_if 78 with (fail); go_cut [] (fun wc => ∃ (kq : Nat), Aside0 (lustrumlaw04_RunsNext.j2 kq l0 a1 t301 t302 t303 t304 t305 = some r) ∧ Aside0 (kq ≤ kj35) ∧ Aside0 (Below w.heap.size w wc))
       case first =>
        have H := HC38.out; clear HC38
        by_cases c39 : x78_35 = true
        ·subst c39
         (have H1 : ((runs_Prev.f kj35 l0 (wrap64 (t302 - 1))).bind fun bt310 => (if bt310.2 = true then (if bt310.1 ≥ a1 then (some false) else (lustrumlaw04_RunsNext.j2 kj35 l0 a1 t301 t302 t303 t304 t305)) else (lustrumlaw04_RunsNext.j2 kj35 l0 a1 t301 t302 t303 t304 t305))) = some r := by rw [if_pos rfl] at H; exact H); clear H; have H := H1; clear H1; replace H := Option.bind_eq_some_iff.mp H; obtain ⟨⟨t310, t311⟩, A400, H⟩ := H; replace H : (if t311 = true then (if t310 ≥ a1 then (some false) else (lustrumlaw04_RunsNext.j2 kj35 l0 a1 t301 t302 t303 t304 t305)) else (lustrumlaw04_RunsNext.j2 kj35 l0 a1 t301 t302 t303 t304 t305)) = some r := H; have A40 := Aside0.mk A400; clear A400
         by_cases c41 : t311 = true
         ·subst c41
          (have H1 : (if t310 ≥ a1 then (some false) else (lustrumlaw04_RunsNext.j2 kj35 l0 a1 t301 t302 t303 t304 t305)) = some r := by rw [if_pos rfl] at H; exact H); clear H; have H := H1; clear H1
          by_cases c42 : t310 ≥ a1
          ·as_aux_lemma =>
           rw [if_pos c42] at H
           have c42b0 : decide (a1 ≤ t310) = true := decide_eq_true c42; clear c42; (first | rw [c42b0] | (simp only [i64_w, i32_w]; rw [c42b0]) | skip); obtain rfl := Option.some.inj H; go_wp2_with (first | ((with_reducible refine gate_callee (f := 27) rfl ?_); refine goesL_ (some 83) rfl rfl Try.func27 (by kernel_rfl) rfl #[.slice A0 l0.length c0, .int .i64 (wrap64 (t302 - 1))] rfl ml_ ?_; (with_reducible refine (runs_Prev.calls kj35 _ _ l0 (wrap64 (t302 - 1)) t310 true _ ?side1 ?side2 A40.out).mono ?_); (case side1 => repeat (first | exact (Kd.C_below HR0.out HB.out) | (with_reducible refine Kd.C_alloc ?_ _) | (with_reducible refine Kd.C_drewN ?_ _) | (with_reducible refine Kd.C_drew ?_))); (case side2 => exact HC0.out); rintro e w43 ⟨rfl, hb⟩; refine ⟨_, rfl, ?_⟩; have n0_ := Aside0.mk (below_step hb_ hb); clear HB; have HB := n0_; clear n0_; (try clear hb); (try clear hb2); (try clear hk); (try clear hi))); go_ret; exact ⟨re_, hb_⟩
          ·as_aux_lemma =>
           rw [if_neg c42] at H
           have c42b0 : decide (a1 ≤ t310) = false := decide_eq_false c42; clear c42; (first | rw [c42b0] | (simp only [i64_w, i32_w]; rw [c42b0]) | skip); have H' := Aside0.mk H; clear H; go_wp2_with (first | ((with_reducible refine gate_callee (f := 27) rfl ?_); refine goesL_ (some 83) rfl rfl Try.func27 (by kernel_rfl) rfl #[.slice A0 l0.length c0, .int .i64 (wrap64 (t302 - 1))] rfl ml_ ?_; (with_reducible refine (runs_Prev.calls kj35 _ _ l0 (wrap64 (t302 - 1)) t310 true _ ?side1 ?side2 A40.out).mono ?_); (case side1 => repeat (first | exact (Kd.C_below HR0.out HB.out) | (with_reducible refine Kd.C_alloc ?_ _) | (with_reducible refine Kd.C_drewN ?_ _) | (with_reducible refine Kd.C_drew ?_))); (case side2 => exact HC0.out); rintro e w44 ⟨rfl, hb⟩; refine ⟨_, rfl, ?_⟩; have n0_ := Aside0.mk (below_step hb_ hb); clear HB; have HB := n0_; clear n0_; (try clear hb); (try clear hb2); (try clear hk); (try clear hi))); go_meet
           case rel => exact ⟨_, H', ⟨by have := HJ7.out; have := HJ35.out; first | omega | exact Nat.le_refl _⟩, ⟨hb_⟩⟩
         ·replace c41 := Bool.eq_false_iff.mpr c41
          subst c41; (have H1 : (lustrumlaw04_RunsNext.j2 kj35 l0 a1 t301 t302 t303 t304 t305) = some r := by rw [if_neg (show ¬ (false = true) by decide)] at H; exact H); clear H; have H := H1; clear H1; have H' := Aside0.mk H; clear H; go_wp2_with (first | ((with_reducible refine gate_callee (f := 27) rfl ?_); refine goesL_ (some 83) rfl rfl Try.func27 (by kernel_rfl) rfl #[.slice A0 l0.length c0, .int .i64 (wrap64 (t302 - 1))] rfl ml_ ?_; (with_reducible refine (runs_Prev.calls kj35 _ _ l0 (wrap64 (t302 - 1)) t310 false _ ?side1 ?side2 A40.out).mono ?_); (case side1 => repeat (first | exact (Kd.C_below HR0.out HB.out) | (with_reducible refine Kd.C_alloc ?_ _) | (with_reducible refine Kd.C_drewN ?_ _) | (with_reducible refine Kd.C_drew ?_))); (case side2 => exact HC0.out); rintro e w45 ⟨rfl, hb⟩; refine ⟨_, rfl, ?_⟩; have n0_ := Aside0.mk (below_step hb_ hb); clear HB; have HB := n0_; clear n0_; (try clear hb); (try clear hb2); (try clear hk); (try clear hi))); go_meet
          case rel => exact ⟨_, H', ⟨by have := HJ7.out; have := HJ35.out; first | omega | exact Nat.le_refl _⟩, ⟨hb_⟩⟩
        ·replace c39 := Bool.eq_false_iff.mpr c39
         subst c39; (have H1 : (lustrumlaw04_RunsNext.j2 kj35 l0 a1 t301 t302 t303 t304 t305) = some r := by rw [if_neg (show ¬ (false = true) by decide)] at H; exact H); clear H; have H := H1; clear H1; have H' := Aside0.mk H; clear H; go_wp2; go_meet
         case rel => exact ⟨_, H', ⟨by have := HJ7.out; have := HJ35.out; first | omega | exact Nat.le_refl _⟩, ⟨hb_⟩⟩
       case rest =>
        clear HC38; (try clear c1); (try clear c2); (try clear p2); (try clear c3); (try clear c4); (try clear c4b0); (try clear c4b1); (try clear p6); (try clear c8); (try clear c12); (try clear c13); (try clear c14); (try clear c14b0); (try clear c16); (try clear c17); (try clear c17b0); (try clear c18); (try clear c23); (try clear c23b0); (try clear c23b1); (try clear c24); (try clear c24b0); (try clear c25); (try clear c26); (try clear c27); (try clear c29); (try clear c29b0); (try clear c29b1); (try clear c30); (try clear c31); (try clear c31b0); (try clear c34); (try clear c34b0); (try clear c34b1); (try clear c35); (try clear c37); (try clear c39); (try clear c41); (try clear c42); (try clear c42b0); (try clear p2); obtain ⟨kq, HA, HJ37, HB⟩ := hcut
        cases kq with
        | zero => exact absurd HA.out (by simp [lustrumlaw04_RunsNext.j2])
        | succ kj37 =>
         have H := HA.out; clear HA; simp only [lustrumlaw04_RunsNext.j2] at H; have HC46 := Aside0.mk H; clear H; go_upto_region 12 with (fail); go_cut [112] (fun v112 wc => ∃ (kq : Nat) (x112_45 : Bool), v112 = .bool x112_45 ∧ Aside0 (lustrumlaw04_RunsNext.j3 kq l0 a1 t301 t302 t303 t304 t305 x112_45 = some r) ∧ Aside0 (kq ≤ kj37) ∧ Aside0 (Below w.heap.size w wc))
         case first =>
          have H := HC46.out; clear HC46; replace H := Option.bind_eq_some_iff.mp H; obtain ⟨t312, A470, H⟩ := H; replace H : (if t312 = true then (if t303 = true then (if t305 = true then (if t302 = a1 then (lustrumlaw04_RunsNext.j3 kj37 l0 a1 t301 t302 t303 t304 t305 (t304 != a1)) else (lustrumlaw04_RunsNext.j3 kj37 l0 a1 t301 t302 t303 t304 t305 true)) else (lustrumlaw04_RunsNext.j3 kj37 l0 a1 t301 t302 t303 t304 t305 true)) else (lustrumlaw04_RunsNext.j3 kj37 l0 a1 t301 t302 t303 t304 t305 true)) else (lustrumlaw04_RunsNext.j3 kj37 l0 a1 t301 t302 t303 t304 t305 false)) = some r := H; have A47 := Aside0.mk A470; clear A470
          by_cases c48 : t312 = true
          ·subst c48
           (have H1 : (if t303 = true then (if t305 = true then (if t302 = a1 then (lustrumlaw04_RunsNext.j3 kj37 l0 a1 t301 t302 t303 t304 t305 (t304 != a1)) else (lustrumlaw04_RunsNext.j3 kj37 l0 a1 t301 t302 t303 t304 t305 true)) else (lustrumlaw04_RunsNext.j3 kj37 l0 a1 t301 t302 t303 t304 t305 true)) else (lustrumlaw04_RunsNext.j3 kj37 l0 a1 t301 t302 t303 t304 t305 true)) = some r := by rw [if_pos rfl] at H; exact H); clear H; have H := H1; clear H1
           by_cases c49 : t303 = true
           ·subst c49
            (have H1 : (if t305 = true then (if t302 = a1 then (lustrumlaw04_RunsNext.j3 kj37 l0 a1 t301 t302 true t304 t305 (t304 != a1)) else (lustrumlaw04_RunsNext.j3 kj37 l0 a1 t301 t302 true t304 t305 true)) else (lustrumlaw04_RunsNext.j3 kj37 l0 a1 t301 t302 true t304 t305 true)) = some r := by rw [if_pos rfl] at H; exact H); clear H; have H := H1; clear H1
            by_cases c50 : t305 = true
            ·subst c50
             (have H1 : (if t302 = a1 then (lustrumlaw04_RunsNext.j3 kj37 l0 a1 t301 t302 true t304 true (t304 != a1)) else (lustrumlaw04_RunsNext.j3 kj37 l0 a1 t301 t302 true t304 true true)) = some r := by rw [if_pos rfl] at H; exact H); clear H; have H := H1; clear H1
             by_cases c51 : t302 = a1
             ·as_aux_lemma =>
              rw [if_pos c51] at H
              have c51b0 : (t302 == a1) = true := beq_iff_eq.mpr c51; have c51b1 : (t302 != a1) = false := bne_eq_false_iff_eq.mpr c51; clear c51; (first | rw [c51b0] | (simp only [i64_w, i32_w]; rw [c51b0]) | skip); have H' := Aside0.mk H; clear H; go_wp2_with (first | ((with_reducible refine gate_callee (f := 22) rfl ?_); refine goesL_ (some 94) rfl rfl Try.func22 (by kernel_rfl) rfl #[.slice A0 l0.length c0, .int .i64 a1] rfl ml_ ?_; (with_reducible refine (runs_Has.calls kj37 _ _ l0 a1 true _ ?side1 ?side2 A47.out).mono ?_); (case side1 => repeat (first | exact (Kd.C_below HR0.out HB.out) | (with_reducible refine Kd.C_alloc ?_ _) | (with_reducible refine Kd.C_drewN ?_ _) | (with_reducible refine Kd.C_drew ?_))); (case side2 => exact HC0.out); rintro e w52 ⟨rfl, hb⟩; refine ⟨_, rfl, ?_⟩; have n0_ := Aside0.mk (below_step hb_ hb); clear HB; have HB := n0_; clear n0_; (try clear hb); (try clear hb2); (try clear hk); (try clear hi))); go_meet
              case rel => exact ⟨_, ((t304 != a1)), rf_, H', ⟨by have := HJ7.out; have := HJ35.out; have := HJ37.out; first | omega | exact Nat.le_refl _⟩, ⟨hb_⟩⟩
             ·as_aux_lemma =>
              rw [if_neg c51] at H
              have c51b0 : (t302 == a1) = false := beq_eq_false_iff_ne.mpr c51; have c51b1 : (t302 != a1) = true := bne_iff_ne.mpr c51; (first | rw [c51b0] | (simp only [i64_w, i32_w]; rw [c51b0]) | skip); have H' := Aside0.mk H; clear H; go_wp2_with (first | ((with_reducible refine gate_callee (f := 22) rfl ?_); refine goesL_ (some 94) rfl rfl Try.func22 (by kernel_rfl) rfl #[.slice A0 l0.length c0, .int .i64 a1] rfl ml_ ?_; (with_reducible refine (runs_Has.calls kj37 _ _ l0 a1 true _ ?side1 ?side2 A47.out).mono ?_); (case side1 => repeat (first | exact (Kd.C_below HR0.out HB.out) | (with_reducible refine Kd.C_alloc ?_ _) | (with_reducible refine Kd.C_drewN ?_ _) | (with_reducible refine Kd.C_drew ?_))); (case side2 => exact HC0.out); rintro e w53 ⟨rfl, hb⟩; refine ⟨_, rfl, ?_⟩; have n0_ := Aside0.mk (below_step hb_ hb); clear HB; have HB := n0_; clear n0_; (try clear hb); (try clear hb2); (try clear hk); (try clear hi))); go_meet
              case rel => exact ⟨_, (true), rf_, H', ⟨by have := HJ7.out; have := HJ35.out; have := HJ37.out; first | omega | exact Nat.le_refl _⟩, ⟨hb_⟩⟩
            ·replace c50 := Bool.eq_false_iff.mpr c50
             subst c50; (have H1 : (lustrumlaw04_RunsNext.j3 kj37 l0 a1 t301 t302 true t304 false true) = some r := by rw [if_neg (show ¬ (false = true) by decide)] at H; exact H); clear H; have H := H1; clear H1; have H' := Aside0.mk H; clear H; go_wp2_with (first | ((with_reducible refine gate_callee (f := 22) rfl ?_); refine goesL_ (some 94) rfl rfl Try.func22 (by kernel_rfl) rfl #[.slice A0 l0.length c0, .int .i64 a1] rfl ml_ ?_; (with_reducible refine (runs_Has.calls kj37 _ _ l0 a1 true _ ?side1 ?side2 A47.out).mono ?_); (case side1 => repeat (first | exact (Kd.C_below HR0.out HB.out) | (with_reducible refine Kd.C_alloc ?_ _) | (with_reducible refine Kd.C_drewN ?_ _) | (with_reducible refine Kd.C_drew ?_))); (case side2 => exact HC0.out); rintro e w54 ⟨rfl, hb⟩; refine ⟨_, rfl, ?_⟩; have n0_ := Aside0.mk (below_step hb_ hb); clear HB; have HB := n0_; clear n0_; (try clear hb); (try clear hb2); (try clear hk); (try clear hi))); go_meet
             case rel => exact ⟨_, (true), rf_, H', ⟨by have := HJ7.out; have := HJ35.out; have := HJ37.out; first | omega | exact Nat.le_refl _⟩, ⟨hb_⟩⟩
           ·replace c49 := Bool.eq_false_iff.mpr c49
            subst c49; (have H1 : (lustrumlaw04_RunsNext.j3 kj37 l0 a1 t301 t302 false t304 t305 true) = some r := by rw [if_neg (show ¬ (false = true) by decide)] at H; exact H); clear H; have H := H1; clear H1; have H' := Aside0.mk H; clear H; go_wp2_with (first | ((with_reducible refine gate_callee (f := 22) rfl ?_); refine goesL_ (some 94) rfl rfl Try.func22 (by kernel_rfl) rfl #[.slice A0 l0.length c0, .int .i64 a1] rfl ml_ ?_; (with_reducible refine (runs_Has.calls kj37 _ _ l0 a1 true _ ?side1 ?side2 A47.out).mono ?_); (case side1 => repeat (first | exact (Kd.C_below HR0.out HB.out) | (with_reducible refine Kd.C_alloc ?_ _) | (with_reducible refine Kd.C_drewN ?_ _) | (with_reducible refine Kd.C_drew ?_))); (case side2 => exact HC0.out); rintro e w55 ⟨rfl, hb⟩; refine ⟨_, rfl, ?_⟩; have n0_ := Aside0.mk (below_step hb_ hb); clear HB; have HB := n0_; clear n0_; (try clear hb); (try clear hb2); (try clear hk); (try clear hi))); go_meet
            case rel => exact ⟨_, (true), rf_, H', ⟨by have := HJ7.out; have := HJ35.out; have := HJ37.out; first | omega | exact Nat.le_refl _⟩, ⟨hb_⟩⟩
          ·replace c48 := Bool.eq_false_iff.mpr c48
           subst c48; (have H1 : (lustrumlaw04_RunsNext.j3 kj37 l0 a1 t301 t302 t303 t304 t305 false) = some r := by rw [if_neg (show ¬ (false = true) by decide)] at H; exact H); clear H; have H := H1; clear H1; have H' := Aside0.mk H; clear H; go_wp2_with (first | ((with_reducible refine gate_callee (f := 22) rfl ?_); refine goesL_ (some 94) rfl rfl Try.func22 (by kernel_rfl) rfl #[.slice A0 l0.length c0, .int .i64 a1] rfl ml_ ?_; (with_reducible refine (runs_Has.calls kj37 _ _ l0 a1 false _ ?side1 ?side2 A47.out).mono ?_); (case side1 => repeat (first | exact (Kd.C_below HR0.out HB.out) | (with_reducible refine Kd.C_alloc ?_ _) | (with_reducible refine Kd.C_drewN ?_ _) | (with_reducible refine Kd.C_drew ?_))); (case side2 => exact HC0.out); rintro e w56 ⟨rfl, hb⟩; refine ⟨_, rfl, ?_⟩; have n0_ := Aside0.mk (below_step hb_ hb); clear HB; have HB := n0_; clear n0_; (try clear hb); (try clear hb2); (try clear hk); (try clear hi))); go_meet
           case rel => exact ⟨_, (false), rf_, H', ⟨by have := HJ7.out; have := HJ35.out; have := HJ37.out; first | omega | exact Nat.le_refl _⟩, ⟨hb_⟩⟩
         case rest =>
          clear HC46; (try clear c1); (try clear c2); (try clear p2); (try clear c3); (try clear c4); (try clear c4b0); (try clear c4b1); (try clear c5); (try clear p6); (try clear c8); (try clear c12); (try clear c13); (try clear c14); (try clear c14b0); (try clear c16); (try clear c17); (try clear c17b0); (try clear c18); (try clear c22); (try clear c23); (try clear c23b0); (try clear c23b1); (try clear c24); (try clear c24b0); (try clear c25); (try clear c26); (try clear c27); (try clear c29); (try clear c29b0); (try clear c29b1); (try clear c30); (try clear c31); (try clear c31b0); (try clear c34); (try clear c34b0); (try clear c34b1); (try clear c35); (try clear c37); (try clear c39); (try clear c41); (try clear c42); (try clear c42b0); (try clear c48); (try clear c49); (try clear c50); (try clear c51); (try clear c51b0); (try clear c51b1); (try clear p2); (try clear p6); obtain ⟨kq, x112_45, rfl, HA, HJ45, HB⟩ := hcut
          cases kq with
          | zero => exact absurd HA.out (by simp [lustrumlaw04_RunsNext.j3])
          | succ kj45 =>
           have H := HA.out; clear HA; simp only [lustrumlaw04_RunsNext.j3] at H
           by_cases c57 : x112_45 = true
           ·subst c57
            (have H1 : (some false) = some r := by rw [if_pos rfl] at H; exact H); clear H; have H := H1; clear H1; obtain rfl := Option.some.inj H; go_wp2; go_ret; exact ⟨re_, hb_⟩
           ·replace c57 := Bool.eq_false_iff.mpr c57
            subst c57; (have H1 : ((runs_Make.f l0).bind fun t313 => (lustrumlaw04_RunsNext.l0 kj45 a1 t301 t302 t303 t304 t305 t313 0)) = some r := by rw [if_neg (show ¬ (false = true) by decide)] at H; exact H); clear H; have H := H1; clear H1; replace H := Option.bind_eq_some_iff.mp H; obtain ⟨t313, A580, H⟩ := H; replace H : (lustrumlaw04_RunsNext.l0 kj45 a1 t301 t302 t303 t304 t305 t313 0) = some r := H; have A58 := Aside0.mk A580; clear A580; have H' := Aside0.mk H; clear H; go_wp2_with (first | ((with_reducible refine gate_callee (f := 19) rfl ?_); refine goesL_ (some 114) rfl rfl Try.func19 (by kernel_rfl) rfl #[.slice A0 l0.length c0] rfl ml_ ?_; (with_reducible refine (runs_Make.calls _ _ l0 t313 _ ?side1 ?side2 A58.out).mono ?_); (case side1 => repeat (first | exact (Kd.C_below HR0.out HB.out) | (with_reducible refine Kd.C_alloc ?_ _) | (with_reducible refine Kd.C_drewN ?_ _) | (with_reducible refine Kd.C_drew ?_))); (case side2 => exact HC0.out); rintro e w59 ⟨v314, rfl, ho0, hb⟩; refine ⟨_, rfl, ?_⟩; have n0_ := Aside0.mk (Kd.R_lower ho0 (below_size hb_)); have n1_ := Aside0.mk (below_step hb_ hb); clear HB; have HO315 := n0_; have HB := n1_; clear n0_ n1_; (try clear hb); (try clear hb2); (try clear hk); (try clear hi); (try clear ho0))); go_loopg [13] kj45 (fun kq v13 w' => ∃ (x13_5 : Int), v13 = .int .i64 x13_5 ∧ Aside0 (lustrumlaw04_RunsNext.l0 kq a1 t301 t302 t303 t304 t305 t313 x13_5 = some r) ∧ Aside0 (kq ≤ kj45) ∧ Aside0 (Kd.R k25 25 w' w.heap.size (fun _ => True) v314 t313) ∧ Aside0 (Below w.heap.size w w'))
            case atStart => exact ⟨(0), rf_, H', ⟨Nat.le_refl _⟩, ⟨by (with_reducible repeat (first | apply Kd.R_alloc | apply Kd.R_drewN | apply Kd.R_drew)); exact HO315.out⟩, ⟨hb_⟩⟩
            case round =>
             clear H'; (try clear c1); (try clear c2); (try clear p2); (try clear c3); (try clear c4); (try clear c4b0); (try clear c4b1); (try clear c5); (try clear p6); (try clear c8); (try clear c12); (try clear c13); (try clear c14); (try clear c14b0); (try clear c16); (try clear c17); (try clear c17b0); (try clear c18); (try clear c19); (try clear c22); (try clear c23); (try clear c23b0); (try clear c23b1); (try clear c24); (try clear c24b0); (try clear c25); (try clear c26); (try clear c27); (try clear c29); (try clear c29b0); (try clear c29b1); (try clear c30); (try clear c31); (try clear c31b0); (try clear c34); (try clear c34b0); (try clear c34b1); (try clear c35); (try clear c37); (try clear c39); (try clear c41); (try clear c42); (try clear c42b0); (try clear c48); (try clear c49); (try clear c50); (try clear c51); (try clear c51b0); (try clear c51b1); (try clear c57); (try clear p2); (try clear p6); obtain ⟨x13_5, rfl, HA, HK5, HO_12, HB⟩ := hrel
             cases gk with
             | zero => exact absurd HA.out (by simp [lustrumlaw04_RunsNext.l0])
             | succ k5 =>
              have H := HA.out; clear HA; simp only [lustrumlaw04_RunsNext.l0] at H
              by_cases c60 : x13_5 < (t313.length : Int)
              ·as_aux_lemma =>
               rw [if_pos c60] at H
               have c60b0 : decide (x13_5 < (t313.length : Int)) = true := decide_eq_true c60; clear c60
               by_cases c61 : 0 ≤ x13_5
               ·as_aux_lemma =>
                rw [if_pos c61] at H
                have c61b0 : decide (0 ≤ x13_5) = true := decide_eq_true c61; clear c61
                by_cases c62 : ((rd_T25 t313 x13_5).f1) ≥ a1
                ·as_aux_lemma =>
                 rw [if_pos c62] at H
                 have c62b0 : decide (a1 ≤ ((rd_T25 t313 x13_5).f1)) = true := decide_eq_true c62; clear c62
                 by_cases c63 : t303 = true
                 ·subst c63
                  (have H1 : (if t302 > (mx ((rd_T25 t313 x13_5).f0) a1) then (some false) else (if ((rd_T25 t313 x13_5).f0) ≤ a1 then (if t305 = true then (if t304 < (mn ((rd_T25 t313 x13_5).f1) a1) then (some false) else (lustrumlaw04_RunsNext.l0 k5 a1 t301 t302 true t304 t305 t313 (wrap64 (x13_5 + 1)))) else (some false)) else (lustrumlaw04_RunsNext.l0 k5 a1 t301 t302 true t304 t305 t313 (wrap64 (x13_5 + 1))))) = some r := by rw [if_pos rfl] at H; exact H); clear H; have H := H1; clear H1; obtain ⟨ji64, hji64⟩ : ∃ j_ : Int, (mx ((rd_T25 t313 x13_5).f0) a1) = j_ := ⟨_, rfl⟩; (replace H : (if t302 > (ji64) then (some false) else (if ((rd_T25 t313 x13_5).f0) ≤ a1 then (if t305 = true then (if t304 < (mn ((rd_T25 t313 x13_5).f1) a1) then (some false) else (lustrumlaw04_RunsNext.l0 k5 a1 t301 t302 true t304 t305 t313 (wrap64 (x13_5 + 1)))) else (some false)) else (lustrumlaw04_RunsNext.l0 k5 a1 t301 t302 true t304 t305 t313 (wrap64 (x13_5 + 1))))) = some r := by first | (rw [hji64] at H; exact H) | (simp only [hji64] at H ⊢; exact H)); have hji64_ : (if ((rd_T25 t313 x13_5).f0) < a1 then a1 else ((rd_T25 t313 x13_5).f0)) = ji64 := hji64
                  by_cases c65 : t302 > (ji64)
                  ·as_aux_lemma =>
                   rw [if_pos c65] at H
                   have c65b0 : decide ((ji64) < t302) = true := decide_eq_true c65; clear c65; obtain rfl := Option.some.inj H; obtain ⟨Ao66, co66, eo66⟩ := Kd.R_slice HO_12.out; subst eo66; have p316 : 0 ≤ (x13_5 : Int) := od_; have q316 : x13_5 < (t313.length : Int) := od_; obtain ⟨ad316, e316, hx316_0, hx316_1⟩ := at_T25 (Kd.R_reads' HO_12.out).2.2 x13_5 p316 q316
                   cases e316
                   replace p316 := eq_true p316; replace q316 := eq_true q316; have p317 : 0 ≤ (x13_5 : Int) := od_; have q317 : x13_5 < (t313.length : Int) := od_; obtain ⟨ad317, e317, hx317_0, hx317_1⟩ := at_T25 (Kd.R_reads' HO_12.out).2.2 x13_5 p317 q317; obtain rfl : ad316 = ad317 := (by injection e317); replace p317 := eq_true p317; replace q317 := eq_true q317; go_wp2; go_ret; exact ⟨by first | rfl | (simp [errW_none, errW_some] <;> rfl) | (simp only [← hji64]; first | rfl | (simp [errW_none, errW_some] <;> rfl)) | (simp [*, errW_none, errW_some] <;> rfl), hb_⟩
                  ·as_aux_lemma =>
                   rw [if_neg c65] at H
                   have c65b0 : decide ((ji64) < t302) = false := decide_eq_false c65; clear c65
                   by_cases c67 : ((rd_T25 t313 x13_5).f0) ≤ a1
                   ·as_aux_lemma =>
                    rw [if_pos c67] at H
                    have c67b0 : decide (((rd_T25 t313 x13_5).f0) ≤ a1) = true := decide_eq_true c67; clear c67
                    by_cases c68 : t305 = true
                    ·subst c68
                     (have H1 : (if t304 < (mn ((rd_T25 t313 x13_5).f1) a1) then (some false) else (lustrumlaw04_RunsNext.l0 k5 a1 t301 t302 true t304 true t313 (wrap64 (x13_5 + 1)))) = some r := by rw [if_pos rfl] at H; exact H); clear H; have H := H1; clear H1; obtain ⟨ji69, hji69⟩ : ∃ j_ : Int, (mn ((rd_T25 t313 x13_5).f1) a1) = j_ := ⟨_, rfl⟩; (replace H : (if t304 < (ji69) then (some false) else (lustrumlaw04_RunsNext.l0 k5 a1 t301 t302 true t304 true t313 (wrap64 (x13_5 + 1)))) = some r := by first | (rw [hji69] at H; exact H) | (simp only [hji69] at H ⊢; exact H)); have hji69_ : (if a1 < ((rd_T25 t313 x13_5).f1) then a1 else ((rd_T25 t313 x13_5).f1)) = ji69 := hji69
                     by_cases c70 : t304 < (ji69)
                     ·as_aux_lemma =>
                      rw [if_pos c70] at H
                      have c70b0 : decide (t304 < (ji69)) = true := decide_eq_true c70; clear c70; obtain rfl := Option.some.inj H; obtain ⟨Ao71, co71, eo71⟩ := Kd.R_slice HO_12.out; subst eo71; have p316 : 0 ≤ (x13_5 : Int) := od_; have q316 : x13_5 < (t313.length : Int) := od_; obtain ⟨ad316, e316, hx316_0, hx316_1⟩ := at_T25 (Kd.R_reads' HO_12.out).2.2 x13_5 p316 q316
                      cases e316
                      replace p316 := eq_true p316; replace q316 := eq_true q316; have p317 : 0 ≤ (x13_5 : Int) := od_; have q317 : x13_5 < (t313.length : Int) := od_; obtain ⟨ad317, e317, hx317_0, hx317_1⟩ := at_T25 (Kd.R_reads' HO_12.out).2.2 x13_5 p317 q317; obtain rfl : ad316 = ad317 := (by injection e317); replace p317 := eq_true p317; replace q317 := eq_true q317; have p318 : 0 ≤ (x13_5 : Int) := od_; have q318 : x13_5 < (t313.length : Int) := od_; obtain ⟨ad318, e318, hx318_0, hx318_1⟩ := at_T25 (Kd.R_reads' HO_12.out).2.2 x13_5 p318 q318; obtain rfl : ad316 = ad318 := (by injection e318); replace p318 := eq_true p318; replace q318 := eq_true q318; have p319 : 0 ≤ (x13_5 : Int) := od_; have q319 : x13_5 < (t313.length : Int) := od_; obtain ⟨ad319, e319, hx319_0, hx319_1⟩ := at_T25 (Kd.R_reads' HO_12.out).2.2 x13_5 p319 q319; obtain rfl : ad316 = ad319 := (by injection e319); replace p319 := eq_true p319; replace q319 := eq_true q319; go_wp2; go_ret; exact ⟨by first | rfl | (simp [errW_none, errW_some] <;> rfl) | (simp only [← hji64, ← hji69]; first | rfl | (simp [errW_none, errW_some] <;> rfl)) | (simp [*, errW_none, errW_some] <;> rfl), hb_⟩
                     ·as_aux_lemma =>
                      rw [if_neg c70] at H
                      have c70b0 : decide (t304 < (ji69)) = false := decide_eq_false c70; clear c70; have H' := Aside0.mk H; clear H; obtain ⟨Ao72, co72, eo72⟩ := Kd.R_slice HO_12.out; subst eo72; have p316 : 0 ≤ (x13_5 : Int) := od_; have q316 : x13_5 < (t313.length : Int) := od_; obtain ⟨ad316, e316, hx316_0, hx316_1⟩ := at_T25 (Kd.R_reads' HO_12.out).2.2 x13_5 p316 q316
                      cases e316
                      replace p316 := eq_true p316; replace q316 := eq_true q316; have p317 : 0 ≤ (x13_5 : Int) := od_; have q317 : x13_5 < (t313.length : Int) := od_; obtain ⟨ad317, e317, hx317_0, hx317_1⟩ := at_T25 (Kd.R_reads' HO_12.out).2.2 x13_5 p317 q317; obtain rfl : ad316 = ad317 := (by injection e317); replace p317 := eq_true p317; replace q317 := eq_true q317; have p318 : 0 ≤ (x13_5 : Int) := od_; have q318 : x13_5 < (t313.length : Int) := od_; obtain ⟨ad318, e318, hx318_0, hx318_1⟩ := at_T25 (Kd.R_reads' HO_12.out).2.2 x13_5 p318 q318; obtain rfl : ad316 = ad318 := (by injection e318); replace p318 := eq_true p318; replace q318 := eq_true q318; have p319 : 0 ≤ (x13_5 : Int) := od_; have q319 : x13_5 < (t313.length : Int) := od_; obtain ⟨ad319, e319, hx319_0, hx319_1⟩ := at_T25 (Kd.R_reads' HO_12.out).2.2 x13_5 p319 q319; obtain rfl : ad316 = ad319 := (by injection e319); replace p319 := eq_true p319; replace q319 := eq_true q319; go_wp2; go_roundg k5
                      case measure => have := HJ7.out; have := HJ35.out; have := HJ37.out; have := HJ45.out; have := HK5.out; omega
                      case rel => exact ⟨(wrap64 (x13_5 + 1)), rf_, H', ⟨by have := HJ7.out; have := HJ35.out; have := HJ37.out; have := HJ45.out; have := HK5.out; omega⟩, ⟨by (with_reducible repeat (first | apply Kd.R_alloc | apply Kd.R_drewN | apply Kd.R_drew)); exact HO_12.out⟩, ⟨hb_⟩⟩
                    ·replace c68 := Bool.eq_false_iff.mpr c68
                     subst c68; (have H1 : (some false) = some r := by rw [if_neg (show ¬ (false = true) by decide)] at H; exact H); clear H; have H := H1; clear H1; obtain rfl := Option.some.inj H; obtain ⟨Ao73, co73, eo73⟩ := Kd.R_slice HO_12.out; subst eo73; have p316 : 0 ≤ (x13_5 : Int) := od_; have q316 : x13_5 < (t313.length : Int) := od_; obtain ⟨ad316, e316, hx316_0, hx316_1⟩ := at_T25 (Kd.R_reads' HO_12.out).2.2 x13_5 p316 q316
                     cases e316
                     replace p316 := eq_true p316; replace q316 := eq_true q316; have p317 : 0 ≤ (x13_5 : Int) := od_; have q317 : x13_5 < (t313.length : Int) := od_; obtain ⟨ad317, e317, hx317_0, hx317_1⟩ := at_T25 (Kd.R_reads' HO_12.out).2.2 x13_5 p317 q317; obtain rfl : ad316 = ad317 := (by injection e317); replace p317 := eq_true p317; replace q317 := eq_true q317; have p318 : 0 ≤ (x13_5 : Int) := od_; have q318 : x13_5 < (t313.length : Int) := od_; obtain ⟨ad318, e318, hx318_0, hx318_1⟩ := at_T25 (Kd.R_reads' HO_12.out).2.2 x13_5 p318 q318; obtain rfl : ad316 = ad318 := (by injection e318); replace p318 := eq_true p318; replace q318 := eq_true q318; go_wp2; go_ret; exact ⟨by first | rfl | (simp [errW_none, errW_some] <;> rfl) | (simp only [← hji64]; first | rfl | (simp [errW_none, errW_some] <;> rfl)) | (simp [*, errW_none, errW_some] <;> rfl), hb_⟩
                   ·as_aux_lemma =>
                    rw [if_neg c67] at H
                    have c67b0 : decide (((rd_T25 t313 x13_5).f0) ≤ a1) = false := decide_eq_false c67; clear c67; have H' := Aside0.mk H; clear H; obtain ⟨Ao74, co74, eo74⟩ := Kd.R_slice HO_12.out; subst eo74; have p316 : 0 ≤ (x13_5 : Int) := od_; have q316 : x13_5 < (t313.length : Int) := od_; obtain ⟨ad316, e316, hx316_0, hx316_1⟩ := at_T25 (Kd.R_reads' HO_12.out).2.2 x13_5 p316 q316
                    cases e316
                    replace p316 := eq_true p316; replace q316 := eq_true q316; have p317 : 0 ≤ (x13_5 : Int) := od_; have q317 : x13_5 < (t313.length : Int) := od_; obtain ⟨ad317, e317, hx317_0, hx317_1⟩ := at_T25 (Kd.R_reads' HO_12.out).2.2 x13_5 p317 q317; obtain rfl : ad316 = ad317 := (by injection e317); replace p317 := eq_true p317; replace q317 := eq_true q317; have p318 : 0 ≤ (x13_5 : Int) := od_; have q318 : x13_5 < (t313.length : Int) := od_; obtain ⟨ad318, e318, hx318_0, hx318_1⟩ := at_T25 (Kd.R_reads' HO_12.out).2.2 x13_5 p318 q318; obtain rfl : ad316 = ad318 := (by injection e318); replace p318 := eq_true p318; replace q318 := eq_true q318; go_wp2; go_roundg k5
                    case measure => have := HJ7.out; have := HJ35.out; have := HJ37.out; have := HJ45.out; have := HK5.out; omega
                    case rel => exact ⟨(wrap64 (x13_5 + 1)), rf_, H', ⟨by have := HJ7.out; have := HJ35.out; have := HJ37.out; have := HJ45.out; have := HK5.out; omega⟩, ⟨by (with_reducible repeat (first | apply Kd.R_alloc | apply Kd.R_drewN | apply Kd.R_drew)); exact HO_12.out⟩, ⟨hb_⟩⟩
                 ·replace c63 := Bool.eq_false_iff.mpr c63
                  subst c63; (have H1 : (some false) = some r := by rw [if_neg (show ¬ (false = true) by decide)] at H; exact H); clear H; have H := H1; clear H1; obtain rfl := Option.some.inj H; obtain ⟨Ao75, co75, eo75⟩ := Kd.R_slice HO_12.out; subst eo75; have p316 : 0 ≤ (x13_5 : Int) := od_; have q316 : x13_5 < (t313.length : Int) := od_; obtain ⟨ad316, e316, hx316_0, hx316_1⟩ := at_T25 (Kd.R_reads' HO_12.out).2.2 x13_5 p316 q316
                  cases e316
                  replace p316 := eq_true p316; replace q316 := eq_true q316; go_wp2; go_ret; exact ⟨re_, hb_⟩
                ·as_aux_lemma =>
                 rw [if_neg c62] at H
                 have c62b0 : decide (a1 ≤ ((rd_T25 t313 x13_5).f1)) = false := decide_eq_false c62; clear c62
                 by_cases c76 : ((rd_T25 t313 x13_5).f0) ≤ a1
                 ·as_aux_lemma =>
                  rw [if_pos c76] at H
                  have c76b0 : decide (((rd_T25 t313 x13_5).f0) ≤ a1) = true := decide_eq_true c76; clear c76
                  by_cases c77 : t305 = true
                  ·subst c77
                   (have H1 : (if t304 < (mn ((rd_T25 t313 x13_5).f1) a1) then (some false) else (lustrumlaw04_RunsNext.l0 k5 a1 t301 t302 t303 t304 true t313 (wrap64 (x13_5 + 1)))) = some r := by rw [if_pos rfl] at H; exact H); clear H; have H := H1; clear H1; obtain ⟨ji78, hji78⟩ : ∃ j_ : Int, (mn ((rd_T25 t313 x13_5).f1) a1) = j_ := ⟨_, rfl⟩; (replace H : (if t304 < (ji78) then (some false) else (lustrumlaw04_RunsNext.l0 k5 a1 t301 t302 t303 t304 true t313 (wrap64 (x13_5 + 1)))) = some r := by first | (rw [hji78] at H; exact H) | (simp only [hji78] at H ⊢; exact H)); have hji78_ : (if a1 < ((rd_T25 t313 x13_5).f1) then a1 else ((rd_T25 t313 x13_5).f1)) = ji78 := hji78
                   by_cases c79 : t304 < (ji78)
                   ·as_aux_lemma =>
                    rw [if_pos c79] at H
                    have c79b0 : decide (t304 < (ji78)) = true := decide_eq_true c79; clear c79; obtain rfl := Option.some.inj H; obtain ⟨Ao80, co80, eo80⟩ := Kd.R_slice HO_12.out; subst eo80; have p316 : 0 ≤ (x13_5 : Int) := od_; have q316 : x13_5 < (t313.length : Int) := od_; obtain ⟨ad316, e316, hx316_0, hx316_1⟩ := at_T25 (Kd.R_reads' HO_12.out).2.2 x13_5 p316 q316
                    cases e316
                    replace p316 := eq_true p316; replace q316 := eq_true q316; have p320 : 0 ≤ (x13_5 : Int) := od_; have q320 : x13_5 < (t313.length : Int) := od_; obtain ⟨ad320, e320, hx320_0, hx320_1⟩ := at_T25 (Kd.R_reads' HO_12.out).2.2 x13_5 p320 q320; obtain rfl : ad316 = ad320 := (by injection e320); replace p320 := eq_true p320; replace q320 := eq_true q320; have p321 : 0 ≤ (x13_5 : Int) := od_; have q321 : x13_5 < (t313.length : Int) := od_; obtain ⟨ad321, e321, hx321_0, hx321_1⟩ := at_T25 (Kd.R_reads' HO_12.out).2.2 x13_5 p321 q321; obtain rfl : ad316 = ad321 := (by injection e321); replace p321 := eq_true p321; replace q321 := eq_true q321; go_wp2; go_ret; exact ⟨by first | rfl | (simp [errW_none, errW_some] <;> rfl) | (simp only [← hji78]; first | rfl | (simp [errW_none, errW_some] <;> rfl)) | (simp [*, errW_none, errW_some] <;> rfl), hb_⟩
                   ·as_aux_lemma =>
                    rw [if_neg c79] at H
                    have c79b0 : decide (t304 < (ji78)) = false := decide_eq_false c79; clear c79; have H' := Aside0.mk H; clear H; obtain ⟨Ao81, co81, eo81⟩ := Kd.R_slice HO_12.out; subst eo81; have p316 : 0 ≤ (x13_5 : Int) := od_; have q316 : x13_5 < (t313.length : Int) := od_; obtain ⟨ad316, e316, hx316_0, hx316_1⟩ := at_T25 (Kd.R_reads' HO_12.out).2.2 x13_5 p316 q316
                    cases e316
                    replace p316 := eq_true p316; replace q316 := eq_true q316; have p320 : 0 ≤ (x13_5 : Int) := od_; have q320 : x13_5 < (t313.length : Int) := od_; obtain ⟨ad320, e320, hx320_0, hx320_1⟩ := at_T25 (Kd.R_reads' HO_12.out).2.2 x13_5 p320 q320; obtain rfl : ad316 = ad320 := (by injection e320); replace p320 := eq_true p320; replace q320 := eq_true q320; have p321 : 0 ≤ (x13_5 : Int) := od_; have q321 : x13_5 < (t313.length : Int) := od_; obtain ⟨ad321, e321, hx321_0, hx321_1⟩ := at_T25 (Kd.R_reads' HO_12.out).2.2 x13_5 p321 q321; obtain rfl : ad316 = ad321 := (by injection e321); replace p321 := eq_true p321; replace q321 := eq_true q321; go_wp2; go_roundg k5
                    case measure => have := HJ7.out; have := HJ35.out; have := HJ37.out; have := HJ45.out; have := HK5.out; omega
                    case rel => exact ⟨(wrap64 (x13_5 + 1)), rf_, H', ⟨by have := HJ7.out; have := HJ35.out; have := HJ37.out; have := HJ45.out; have := HK5.out; omega⟩, ⟨by (with_reducible repeat (first | apply Kd.R_alloc | apply Kd.R_drewN | apply Kd.R_drew)); exact HO_12.out⟩, ⟨hb_⟩⟩
                  ·replace c77 := Bool.eq_false_iff.mpr c77
                   subst c77; (have H1 : (some false) = some r := by rw [if_neg (show ¬ (false = true) by decide)] at H; exact H); clear H; have H := H1; clear H1; obtain rfl := Option.some.inj H; obtain ⟨Ao82, co82, eo82⟩ := Kd.R_slice HO_12.out; subst eo82; have p316 : 0 ≤ (x13_5 : Int) := od_; have q316 : x13_5 < (t313.length : Int) := od_; obtain ⟨ad316, e316, hx316_0, hx316_1⟩ := at_T25 (Kd.R_reads' HO_12.out).2.2 x13_5 p316 q316
                   cases e316
                   replace p316 := eq_true p316; replace q316 := eq_true q316; have p320 : 0 ≤ (x13_5 : Int) := od_; have q320 : x13_5 < (t313.length : Int) := od_; obtain ⟨ad320, e320, hx320_0, hx320_1⟩ := at_T25 (Kd.R_reads' HO_12.out).2.2 x13_5 p320 q320; obtain rfl : ad316 = ad320 := (by injection e320); replace p320 := eq_true p320; replace q320 := eq_true q320; go_wp2; go_ret; exact ⟨re_, hb_⟩
                 ·as_aux_lemma =>
                  rw [if_neg c76] at H
                  have c76b0 : decide (((rd_T25 t313 x13_5).f0) ≤ a1) = false := decide_eq_false c76; clear c76; have H' := Aside0.mk H; clear H; obtain ⟨Ao83, co83, eo83⟩ := Kd.R_slice HO_12.out; subst eo83; have p316 : 0 ≤ (x13_5 : Int) := od_; have q316 : x13_5 < (t313.length : Int) := od_; obtain ⟨ad316, e316, hx316_0, hx316_1⟩ := at_T25 (Kd.R_reads' HO_12.out).2.2 x13_5 p316 q316
                  cases e316
                  replace p316 := eq_true p316; replace q316 := eq_true q316; have p320 : 0 ≤ (x13_5 : Int) := od_; have q320 : x13_5 < (t313.length : Int) := od_; obtain ⟨ad320, e320, hx320_0, hx320_1⟩ := at_T25 (Kd.R_reads' HO_12.out).2.2 x13_5 p320 q320; obtain rfl : ad316 = ad320 := (by injection e320); replace p320 := eq_true p320; replace q320 := eq_true q320; go_wp2; go_roundg k5
                  case measure => have := HJ7.out; have := HJ35.out; have := HJ37.out; have := HJ45.out; have := HK5.out; omega
                  case rel => exact ⟨(wrap64 (x13_5 + 1)), rf_, H', ⟨by have := HJ7.out; have := HJ35.out; have := HJ37.out; have := HJ45.out; have := HK5.out; omega⟩, ⟨by (with_reducible repeat (first | apply Kd.R_alloc | apply Kd.R_drewN | apply Kd.R_drew)); exact HO_12.out⟩, ⟨hb_⟩⟩
               ·as_aux_lemma =>
                rw [if_neg c61] at H
                exact absurd H (by simp)
              ·as_aux_lemma =>
               rw [if_neg c60] at H
               have c60b0 : decide (x13_5 < (t313.length : Int)) = false := decide_eq_false c60; clear c60
               by_cases c84 : t301 = true
               ·subst c84
                (have H1 : (if t303 = true then (some true) else (if t305 = true then (some true) else (some ((t313.length : Int) == 0)))) = some r := by rw [if_pos rfl] at H; exact H); clear H; have H := H1; clear H1
                by_cases c85 : t303 = true
                ·subst c85
                 (have H1 : (some true) = some r := by rw [if_pos rfl] at H; exact H); clear H; have H := H1; clear H1; obtain rfl := Option.some.inj H; obtain ⟨Ao86, co86, eo86⟩ := Kd.R_slice HO_12.out; subst eo86; go_wp2; go_ret; exact ⟨re_, hb_⟩
                ·replace c85 := Bool.eq_false_iff.mpr c85
                 subst c85; (have H1 : (if t305 = true then (some true) else (some ((t313.length : Int) == 0))) = some r := by rw [if_neg (show ¬ (false = true) by decide)] at H; exact H); clear H; have H := H1; clear H1
                 by_cases c87 : t305 = true
                 ·subst c87
                  (have H1 : (some true) = some r := by rw [if_pos rfl] at H; exact H); clear H; have H := H1; clear H1; obtain rfl := Option.some.inj H; obtain ⟨Ao88, co88, eo88⟩ := Kd.R_slice HO_12.out; subst eo88; go_wp2; go_ret; exact ⟨re_, hb_⟩
                 ·replace c87 := Bool.eq_false_iff.mpr c87
                  subst c87; (have H1 : (some ((t313.length : Int) == 0)) = some r := by rw [if_neg (show ¬ (false = true) by decide)] at H; exact H); clear H; have H := H1; clear H1; obtain rfl := Option.some.inj H; obtain ⟨Ao89, co89, eo89⟩ := Kd.R_slice HO_12.out; subst eo89; go_wp2; go_ret; exact ⟨re_, hb_⟩
               ·replace c84 := Bool.eq_false_iff.mpr c84
                subst c84; (have H1 : (some false) = some r := by rw [if_neg (show ¬ (false = true) by decide)] at H; exact H); clear H; have H := H1; clear H1; obtain rfl := Option.some.inj H; obtain ⟨Ao90, co90, eo90⟩ := Kd.R_slice HO_12.out; subst eo90; go_wp2; go_ret; exact ⟨re_, hb_⟩
end Go.Proofs.Ytkbcmjejfbbcpaa.A

namespace Go.Proofs.Ytkbcmjejfbbcpaa.A
open Go.RowKit Go.Proofs.YtkbcmjejfbbcpaaW.PrintWords Go.Proofs.YtkbcmjejfbbcpaaW.PrintLast Go.Proofs.YtkbcmjejfbbcpaaW.PrintMore
set_option linter.unusedVariables false
theorem w64 {x : Int} (h1 : -9223372036854775808 ≤ x) (h2 : x ≤ 9223372036854775807) : wrap64 x = x := by unfold wrap64; omega
theorem at_rd (p : List S25) (r : S25) (t : List S25) : rd_T25 (p ++ r :: t) (p.length : Int) = r := by simp [rd_T25]
theorem at_lt {α : Type} (p : List α) (r : α) (t : List α) : (p.length : Int) < ((p ++ r :: t).length : Int) := by simp; omega
theorem at_end {α : Type} (p : List α) : ¬ (p.length : Int) < ((p ++ []).length : Int) := by simp
theorem at_0 {α : Type} (p : List α) : 0 ≤ (p.length : Int) := Int.natCast_nonneg _
theorem at_next {α : Type} {p : List α} {r : α} {t : List α} (h : (p ++ r :: t).length ≤ 4611686018427387904) : wrap64 ((p.length : Int) + 1) = ((p ++ [r]).length : Int) := by
  simp at h
  rw [w64 (by omega) (by omega)]
  simp
theorem at_app {α : Type} (p : List α) (r : α) (t : List α) : p ++ r :: t = (p ++ [r]) ++ t := by simp
theorem Ev.ift {α : Type} {c : Prop} [Decidable c] {g f : Nat → Option α} {r : α} (hc : c) (h : Ev g r) : Ev (fun k => if c then g k else f k) r := Ev.congr (fun k => if_pos hc) h
theorem Ev.iff_ {α : Type} {c : Prop} [Decidable c] {g f : Nat → Option α} {r : α} (hc : ¬ c) (h : Ev f r) : Ev (fun k => if c then g k else f k) r := Ev.congr (fun k => if_neg hc) h
theorem Ev.bnow {α β : Type} {a : Option α} {f : Nat → α → Option β} {x : α} {r : β} (h : a = some x) (k : Ev (fun n => f n x) r) : Ev (fun n => a.bind (f n)) r := Ev.congr (fun n => by rw [h]; rfl) k
theorem Ev.eq {α : Type} {g : Nat → Option α} {r q : α} (h : Ev g r) (e : r = q) : Ev g q := e ▸ h
theorem Sane_l0 : ∀ (t p : List S25) (last : Int), (p ++ t).length ≤ 4611686018427387904 → -lim - 2 ≤ last → last ≤ lim →
    ∃ b, Ev (fun k => runs_Sane.l0 k last (p ++ t) ((p ++ t).length : Int) (p.length : Int)) b ∧ (b = true ↔ saneF last t)
  | [], p, last, _, _, _ => ⟨true, Ev.step (f := fun _ => some true) (fun k => by simp only [runs_Sane.l0]; rw [if_neg (at_end p)]) (Ev.now true), by simp [saneF]⟩
  | r :: t, p, last, hn, h1, h2 => by
    have e : ∀ k, runs_Sane.l0 (k + 1) last (p ++ r :: t) ((p ++ r :: t).length : Int) (p.length : Int) = (if r.f0 > r.f1 then some false else if r.f0 < last + 2 then some false else if r.f1 > 1099511627776 then some false else runs_Sane.l0 k r.f1 (p ++ r :: t) ((p ++ r :: t).length : Int) ((p ++ [r]).length : Int)) := fun k => by
      simp only [runs_Sane.l0]
      rw [if_pos (at_lt p r t), if_pos (at_0 p), if_pos (at_lt p r t), at_rd, at_next hn, w64 (by unfold lim at h1; omega) (by unfold lim at h2; omega)]
    by_cases c1 : r.f0 > r.f1
    · exact ⟨false, Ev.step (f := fun _ => some false) (fun k => by rw [e, if_pos c1]) (Ev.now _), by simp [saneF]; omega⟩
    by_cases c2 : r.f0 < last + 2
    · exact ⟨false, Ev.step (f := fun _ => some false) (fun k => by rw [e, if_neg c1, if_pos c2]) (Ev.now _), by simp [saneF]; omega⟩
    by_cases c3 : r.f1 > 1099511627776
    · exact ⟨false, Ev.step (f := fun _ => some false) (fun k => by rw [e, if_neg c1, if_neg c2, if_pos c3]) (Ev.now _), by simp [saneF, lim]; omega⟩
    obtain ⟨b, hb, hs⟩ := Sane_l0 t (p ++ [r]) r.f1 (by rw [← at_app]; exact hn) (by omega) (by unfold lim; omega)
    rw [← at_app] at hb
    refine ⟨b, Ev.step (fun k => by rw [e, if_neg c1, if_neg c2, if_neg c3]) hb, ?_⟩
    rw [hs, saneF]
    unfold lim
    exact ⟨fun h => ⟨by omega, by omega, by omega, h⟩, fun h => h.2.2.2⟩
theorem Sane_f (l : List S25) (hn : l.length ≤ 4611686018427387904) : ∃ b, Ev (fun k => runs_Sane.f k l) b ∧ (b = true ↔ sane l) := by
  obtain ⟨b, hb, hs⟩ := Sane_l0 l [] (-lim - 2) (by simpa using hn) (by omega) (by unfold lim; omega)
  exact ⟨b, hb, hs⟩
theorem Make_f {l : List S25} (hn : l.length < 4398046511104) : Ev (fun _ => runs_Make.f l) (norm l) := ⟨0, fun _ _ => by unfold runs_Make.f; rw [if_pos hn]⟩
theorem known_f (l : List S25) (hn : l.length < 4398046511104) : Ev (fun k => runs_known.f k l) (norm l) := by
  obtain ⟨b, hb, hs⟩ := Sane_f l (by omega)
  refine Ev.bind hb ?_
  cases b with
  | true => exact Ev.congr (fun k => by rw [if_pos rfl, norm_of_sane (hs.1 rfl)]) (Ev.now (norm l))
  | false => exact Ev.congr (f := fun k => (runs_Make.f l).bind fun t => some t) (fun k => by rw [if_neg (by simp)]) (Ev.bind (Make_f hn) (Ev.now _))
theorem ins_len : ∀ (s : List S25) (x : S25), (ins x s).length ≤ s.length + 1
  | [], x => by unfold ins; simp
  | q :: t, x => by
    unfold ins
    split
    · have := ins_len t x; simp; omega
    · split
      · simp
      · have := ins_len t ⟨min x.f0 q.f0, max x.f1 q.f1⟩; simp; omega
theorem fold_len : ∀ (l s : List S25), (l.foldl step s).length ≤ s.length + l.length
  | [], s => by simp
  | r :: l, s => by
    have h1 := fold_len l (step s r)
    have h2 : (step s r).length ≤ s.length + 1 := by unfold step; split; exact ins_len _ _; omega
    simp; omega
theorem norm_len (l : List S25) : (norm l).length ≤ l.length := by have := fold_len l []; simpa [norm] using this
theorem saneF_rising : ∀ {a : Int} {l : List S25}, saneF a l → risingHi l = true ∧ ∀ q, q ∈ l → a < q.f1
  | _, [], _ => ⟨rfl, fun q h => by simp at h⟩
  | a, r :: t, ⟨h1, h2, h3, h4⟩ => by
    obtain ⟨i1, i2⟩ := saneF_rising h4
    refine ⟨?_, ?_⟩
    · unfold risingHi
      rw [i1, Bool.and_true, List.all_eq_true]
      intro q hq
      have := i2 q hq
      simp; omega
    · intro q hq
      rcases List.mem_cons.1 hq with rfl | hq
      · omega
      · have := i2 q hq; omega
theorem at_f {l : List S25} (h : sane l) (hn : l.length < 4398046511104) (n : Int) : runs_at.f l n = some ((l.countP fun r => decide (r.f1 < n) : Nat) : Int) := by
  unfold runs_at.f
  rw [if_pos ⟨(saneF_rising h).1, hn⟩]
theorem parted : ∀ {a : Int} {l : List S25} (_ : saneF a l) (n : Int), ∃ p t, l = p ++ t ∧ p.length = l.countP (fun r => decide (r.f1 < n)) ∧ (∀ r, r ∈ p → r.f1 < n) ∧ (∀ r, r ∈ t → n ≤ r.f1)
  | _, [], _, n => ⟨[], [], rfl, rfl, fun r h => by simp at h, fun r h => by simp at h⟩
  | a, r :: t, ⟨h1, h2, h3, h4⟩, n => by
    by_cases c : r.f1 < n
    · obtain ⟨p, s, e1, e2, e3, e4⟩ := parted h4 n
      refine ⟨r :: p, s, by rw [e1]; rfl, ?_, ?_, e4⟩
      · rw [List.countP_cons_of_pos (by simpa using c), ← e2]; rfl
      · intro q hq
        rcases List.mem_cons.1 hq with rfl | hq
        · exact c
        · exact e3 q hq
    · have hall : ∀ q, q ∈ r :: t → n ≤ q.f1 := fun q hq => by
        rcases List.mem_cons.1 hq with rfl | hq
        · omega
        · have := (saneF_rising h4).2 q hq; omega
      refine ⟨[], r :: t, rfl, ?_, fun q h => by simp at h, hall⟩
      rw [eq_comm, List.length_nil, List.countP_eq_zero]
      intro q hq
      have := hall q hq
      simp; omega
theorem mx_max (a b : Int) : mx a b = max a b := by unfold mx; omega
theorem mn_min (a b : Int) : mn a b = min a b := by unfold mn; omega
def nextOf (s : List S25) (n : Int) (r : Int × Bool) : Prop := (r.2 = true ∧ mem s r.1 ∧ n ≤ r.1 ∧ ∀ m, mem s m → n ≤ m → r.1 ≤ m) ∨ (r = (0, false) ∧ ∀ m, mem s m → m < n)
theorem nextOf_at {a : Int} {p t : List S25} {r : S25} {n : Int} (h : saneF a (p ++ r :: t)) (hp : ∀ q, q ∈ p → q.f1 < n) (hr : n ≤ r.f1) : nextOf (p ++ r :: t) n (max n r.f0, true) := by
  have hs : ∀ {a : Int} {p : List S25}, saneF a (p ++ r :: t) → (∃ b, saneF b (r :: t)) := by
    intro a p
    induction p generalizing a with
    | nil => exact fun h => ⟨a, h⟩
    | cons q p ih => exact fun h => ih h.2.2.2
  obtain ⟨b, h1, h2, h3, h4⟩ := hs h
  left
  refine ⟨rfl, ?_, by simp only; omega, ?_⟩
  · rw [mem_append, mem_cons]
    right; left; simp only; omega
  · intro m hm hn
    rw [mem_append, mem_cons] at hm
    rcases hm with ⟨q, hq, hm⟩ | hm | hm
    · have := hp q hq; omega
    · simp only; omega
    · have := saneF_mem h4 hm; simp only; omega
theorem nextOf_none {s : List S25} {n : Int} (h : ∀ q, q ∈ s → q.f1 < n) : nextOf s n (0, false) :=
  .inr ⟨rfl, fun m ⟨q, hq, hm⟩ => by have := h q hq; omega⟩
theorem Next_f (l : List S25) (hn : l.length < 4398046511104) (n : Int) : ∃ r, Ev (fun k => runs_Next.f k l n) r ∧ nextOf (norm l) n r := by
  have hs := norm_sane l
  have hl := norm_len l
  obtain ⟨p, t, e1, e2, e3, e4⟩ := parted hs n
  have hat := at_f hs (by omega) n
  rw [← e2] at hat
  cases t with
  | nil =>
    refine ⟨(0, false), Ev.bind (known_f l hn) (Ev.congr (fun k => ?_) (Ev.now (0, false))), nextOf_none (by rw [e1]; simpa using e3)⟩
    rw [hat, Option.bind_some, if_pos (by rw [e1]; simp)]
  | cons r t =>
    have h1 := nextOf_at (n := n) (by rw [← e1]; exact hs) e3 (e4 r List.mem_cons_self)
    rw [← e1] at h1
    refine ⟨_, Ev.bind (known_f l hn) (Ev.congr (fun k => ?_) (Ev.now _)), h1⟩
    rw [hat, Option.bind_some, e1, if_neg (by simp; omega), if_pos (at_0 p), if_pos (at_lt p r t), at_rd, mx_max]
theorem nextOf_has {s : List S25} {n : Int} {r : Int × Bool} (h : nextOf s n r) : (r.2 = true ∧ r.1 = n) ↔ mem s n := by
  constructor
  · rintro ⟨h1, h2⟩
    rcases h with ⟨_, h, _⟩ | ⟨h, _⟩
    · rwa [h2] at h
    · rw [h] at h1; simp at h1
  · intro hm
    rcases h with ⟨h1, h2, h3, h4⟩ | ⟨_, h⟩
    · have := h4 n hm (Int.le_refl _)
      exact ⟨h1, by omega⟩
    · have := h n hm; omega
theorem Has_f (l : List S25) (hn : l.length < 4398046511104) (n : Int) : ∃ b, Ev (fun k => runs_Has.f k l n) b ∧ (b = true ↔ mem (norm l) n) := by
  obtain ⟨⟨m, ok⟩, hr, h⟩ := Next_f l hn n
  rw [← nextOf_has h]
  cases ok with
  | true => exact ⟨m == n, Ev.bind hr (Ev.congr (fun k => by rw [if_pos rfl]) (Ev.now _)), by simp⟩
  | false => exact ⟨false, Ev.bind hr (Ev.congr (fun k => by rw [if_neg (by simp)]) (Ev.now _)), by simp⟩
end Go.Proofs.Ytkbcmjejfbbcpaa.A

namespace Go.Proofs.Ytkbcmjejfbbcpaa.A
open Go.RowKit Go.Proofs.YtkbcmjejfbbcpaaW.PrintWords Go.Proofs.YtkbcmjejfbbcpaaW.PrintLast Go.Proofs.YtkbcmjejfbbcpaaW.PrintMore
set_option linter.unusedVariables false
def prevOf (s : List S25) (n : Int) (r : Int × Bool) : Prop := (r.2 = true ∧ mem s r.1 ∧ r.1 ≤ n ∧ ∀ m, mem s m → m ≤ n → m ≤ r.1) ∨ (r = (0, false) ∧ ∀ m, mem s m → n < m)
theorem saneF_tail : ∀ {p : List S25} {a : Int} {t : List S25}, saneF a (p ++ t) → ∃ b, saneF b t ∧ a ≤ b ∧ ∀ q, q ∈ p → q.f1 ≤ b
  | [], a, t, h => ⟨a, h, Int.le_refl _, fun q hq => by simp at hq⟩
  | r :: p, a, t, ⟨h1, h2, h3, h4⟩ => by
    obtain ⟨b, e1, e2, e3⟩ := saneF_tail (p := p) h4
    exact ⟨b, e1, by omega, fun q hq => by
      rcases List.mem_cons.1 hq with rfl | hq
      · exact e2
      · exact e3 q hq⟩
theorem prev_in {a : Int} {p t : List S25} {r : S25} {n : Int} (h : saneF a (p ++ r :: t)) (h1 : r.f0 ≤ n) (h2 : n ≤ r.f1) : prevOf (p ++ r :: t) n (n, true) :=
  .inl ⟨rfl, ⟨r, by simp, h1, h2⟩, Int.le_refl _, fun m _ hm => hm⟩
theorem prev_ahead {a : Int} {p t : List S25} {n : Int} (h : saneF a (p ++ t)) (hp : ∀ r, r ∈ p → r.f1 < n) (ht : ∀ r, r ∈ t → n < r.f0) : (p = [] → prevOf (p ++ t) n (0, false)) ∧ ∀ q r, p = q ++ [r] → prevOf (p ++ t) n (r.f1, true) := by
  have hm : ∀ m, mem (p ++ t) m → m ≤ n → mem p m := fun m h1 h2 => by
    rcases (mem_append _ _ _).1 h1 with h1 | ⟨r, hr, h3, h4⟩
    · exact h1
    · have := ht r hr; omega
  constructor
  · rintro rfl
    refine .inr ⟨rfl, fun m h1 => ?_⟩
    by_cases h : n < m
    · exact h
    · exact absurd (hm m h1 (by omega)) (mem_nil _)
  · rintro q r rfl
    rw [List.append_assoc] at h
    obtain ⟨b, ⟨e1, e2, e3, e4⟩, _, e5⟩ := saneF_tail h
    have hr := hp r (by simp)
    refine .inl ⟨rfl, ⟨r, by simp, by simp only; omega, by simp only; omega⟩, by simp only; omega, fun m h1 h2 => ?_⟩
    rcases (mem_append _ _ _).1 (hm m h1 h2) with ⟨s, hs, h3, h4⟩ | h3
    · have := e5 s hs; simp only; omega
    · rcases (mem_cons _ _ _).1 h3 with h3 | h3
      · exact h3.2
      · exact absurd h3 (mem_nil _)
theorem Prev_f (l : List S25) (hn : l.length < 4398046511104) (n : Int) : ∃ r, Ev (fun k => runs_Prev.f k l n) r ∧ prevOf (norm l) n r := by
  have hs := norm_sane l
  have hl := norm_len l
  obtain ⟨p, t, e1, e2, e3, e4⟩ := parted hs n
  have hat := at_f hs (by omega) n
  rw [← e2] at hat
  have hback : ∀ (hh : ∀ r, r ∈ t → n < r.f0), ∃ r, Ev (fun k => runs_Prev.j0 k (norm l) n (p.length : Int) false) r ∧ prevOf (norm l) n r := fun hh => by
    obtain ⟨g1, g2⟩ := prev_ahead (n := n) (by rw [← e1]; exact hs) e3 hh
    rw [← e1] at g1 g2
    rcases List.eq_nil_or_concat p with hp | ⟨q, r, hp⟩
    · refine ⟨(0, false), Ev.step (f := fun _ => some (0, false)) (fun k => ?_) (Ev.now _), g1 hp⟩
      simp only [runs_Prev.j0]
      rw [if_neg (by simp), if_pos (by rw [hp]; rfl)]
    · rw [List.concat_eq_append] at hp
      refine ⟨(r.f1, true), Ev.step (f := fun _ => some (r.f1, true)) (fun k => ?_) (Ev.now _), g2 q r hp⟩
      have hlen : (norm l).length = q.length + 1 + t.length := by rw [e1, hp]; simp; omega
      simp only [runs_Prev.j0]
      have hpl : p.length = q.length + 1 := by rw [hp]; simp
      rw [if_neg (by simp), if_neg (by omega), w64 (by omega) (by omega), show ((p.length : Nat) : Int) - 1 = (q.length : Int) by omega, if_pos (by omega), if_pos (by omega), e1, hp, List.append_assoc]
      simp only [List.cons_append, List.nil_append]
      rw [at_rd]
  cases t with
  | nil =>
    obtain ⟨r, hr, h⟩ := hback (fun r hr => by simp at hr)
    refine ⟨r, Ev.bind (known_f l hn) (Ev.congr (fun k => ?_) hr), h⟩
    rw [hat, Option.bind_some, if_neg (by rw [e1]; simp)]
  | cons r t =>
    by_cases c : r.f0 ≤ n
    · refine ⟨(n, true), Ev.bind (known_f l hn) (Ev.congr (fun k => ?_) (Ev.step (g := fun k => runs_Prev.j0 k (norm l) n (p.length : Int) true) (f := fun _ => some (n, true)) (fun k => by simp [runs_Prev.j0]) (Ev.now _))), ?_⟩
      · rw [hat, Option.bind_some, if_pos (by rw [e1]; exact at_lt p r t), if_pos (at_0 p)]
        rw [show rd_T25 (norm l) (p.length : Int) = r by rw [e1]; exact at_rd p r t, decide_eq_true c]
      · rw [e1]; exact prev_in (by rw [← e1]; exact hs) c (e4 r List.mem_cons_self)
    · obtain ⟨x, hx, h⟩ := hback (fun q hq => by
        obtain ⟨b, ⟨g1, g2, g3, g4⟩, _⟩ := saneF_tail (p := p) (by rw [← e1]; exact hs)
        rcases List.mem_cons.1 hq with rfl | hq
        · omega
        · have : mem t q.f0 := by
            obtain ⟨u, v, hu⟩ := List.append_of_mem hq
            rw [hu] at g4 ⊢
            obtain ⟨b', ⟨k1, k2, _⟩, _⟩ := saneF_tail g4
            exact ⟨q, by simp, by omega, by omega⟩
          have := saneF_mem g4 this
          omega)
      refine ⟨x, Ev.bind (known_f l hn) (Ev.congr (fun k => ?_) hx), h⟩
      rw [hat, Option.bind_some, if_pos (by rw [e1]; exact at_lt p r t), if_pos (at_0 p)]
      rw [show rd_T25 (norm l) (p.length : Int) = r by rw [e1]; exact at_rd p r t, decide_eq_false c]
end Go.Proofs.Ytkbcmjejfbbcpaa.A

namespace Go.Proofs.Ytkbcmjejfbbcpaa.A
open Go.RowKit Go.Proofs.YtkbcmjejfbbcpaaW.PrintWords Go.Proofs.YtkbcmjejfbbcpaaW.PrintLast Go.Proofs.YtkbcmjejfbbcpaaW.PrintMore
set_option linter.unusedVariables false
theorem saneF_all : ∀ {a : Int} {l : List S25}, saneF a l → ∀ q, q ∈ l → a + 2 ≤ q.f0 ∧ q.f0 ≤ q.f1 ∧ q.f1 ≤ lim
  | _, [], _, q, h => by simp at h
  | a, r :: t, ⟨h1, h2, h3, h4⟩, q, hq => by
    rcases List.mem_cons.1 hq with rfl | hq
    · exact ⟨h1, h2, h3⟩
    · have := saneF_all h4 q hq; omega
end Go.Proofs.Ytkbcmjejfbbcpaa.A

namespace Go.Proofs.Ytkbcmjejfbbcpaa.A
open Go.RowKit Go.Proofs.YtkbcmjejfbbcpaaW.PrintWords Go.Proofs.YtkbcmjejfbbcpaaW.PrintLast Go.Proofs.YtkbcmjejfbbcpaaW.PrintMore
set_option linter.unusedVariables false
theorem awake4 : Ev (fun k => lustrumlaw04_awake.f k) true := Ev.of lustrumlaw04_awake.mono (k := 8) (by decide +kernel)
theorem RunsNext_l0 (n : Int) (s : List S25) (a : Int) (ok : Bool) (b : Int) (is : Bool) (hs : sane s) (hl : s.length ≤ 40) (ha : nextOf s n (a, ok)) (hb : prevOf s n (b, is)) : ∀ (t p : List S25), p ++ t = s →
    Ev (fun k => lustrumlaw04_RunsNext.l0 k n true a ok b is (p ++ t) (p.length : Int)) true
  | [], p, e => by
    refine Ev.step (fun k => by rw [lustrumlaw04_RunsNext.l0]) ?_
    refine Ev.iff_ (at_end p) (Ev.ift rfl ?_)
    cases ok with
    | true => exact Ev.ift rfl (Ev.now _)
    | false =>
      refine Ev.iff_ (by simp) ?_
      cases is with
      | true => exact Ev.ift rfl (Ev.now _)
      | false =>
        refine Ev.iff_ (by simp) (Ev.eq (Ev.now _) ?_)
        rw [e]
        cases s with
        | nil => rfl
        | cons r s =>
          obtain ⟨h1, h2, _⟩ := hs
          have hm : mem (r :: s) r.f0 := ⟨r, List.mem_cons_self, Int.le_refl _, h2⟩
          rcases ha with ⟨h, _⟩ | ⟨_, h⟩
          · simp at h
          rcases hb with ⟨h', _⟩ | ⟨_, h'⟩
          · simp at h'
          have := h _ hm
          have := h' _ hm
          omega
  | r :: t, p, e => by
    have hlen : (p ++ r :: t).length ≤ 4611686018427387904 := by rw [e]; omega
    have ih := RunsNext_l0 n s a ok b is hs hl ha hb t (p ++ [r]) (by rw [← at_app]; exact e)
    rw [← at_app] at ih
    have hr : r ∈ s := by rw [← e]; simp
    have hr1 : r.f0 ≤ r.f1 := (saneF_all hs r hr).2.1
    refine Ev.step (fun k => by rw [lustrumlaw04_RunsNext.l0]) ?_
    refine Ev.ift (at_lt p r t) (Ev.ift (at_0 p) ?_)
    simp only [at_rd, at_next hlen, mx_max, mn_min]
    have hlow : Ev (fun k => if r.f0 ≤ n then if is = true then if b < min r.f1 n then some false else lustrumlaw04_RunsNext.l0 k n true a ok b is (p ++ r :: t) ((p ++ [r]).length : Int) else some false else lustrumlaw04_RunsNext.l0 k n true a ok b is (p ++ r :: t) ((p ++ [r]).length : Int)) true := by
      by_cases c : r.f0 ≤ n
      · have hm : mem s (min r.f1 n) := ⟨r, hr, by omega, by omega⟩
        rcases hb with ⟨h1, h2, h3, h4⟩ | ⟨h1, h2⟩
        · have := h4 _ hm (by omega)
          exact Ev.ift c (Ev.ift h1 (Ev.iff_ (by simp only at this; omega) ih))
        · have := h2 _ hm; omega
      · exact Ev.iff_ c ih
    by_cases c : r.f1 ≥ n
    · have hm : mem s (max r.f0 n) := ⟨r, hr, by omega, by omega⟩
      rcases ha with ⟨h1, h2, h3, h4⟩ | ⟨h1, h2⟩
      · have := h4 _ hm (by omega)
        exact Ev.ift c (Ev.ift h1 (Ev.iff_ (by simp only at this; omega) hlow))
      · have := h2 _ hm; omega
    · exact Ev.iff_ c hlow
theorem RunsNext_j3 (l : List S25) (n a b : Int) (ok is : Bool) (hl : l.length ≤ 40) (ha : nextOf (norm l) n (a, ok)) (hb : prevOf (norm l) n (b, is)) : Ev (fun k => lustrumlaw04_RunsNext.j3 k l n true a ok b is false) true := by
  refine Ev.step (fun k => by rw [lustrumlaw04_RunsNext.j3]) ?_
  exact Ev.iff_ (by simp) (Ev.bind (Make_f (l := l) (by omega)) (RunsNext_l0 n (norm l) a ok b is (norm_sane l) (by have := norm_len l; omega) ha hb (norm l) [] rfl))
theorem RunsNext_j2 (l : List S25) (n a b : Int) (ok is : Bool) (hl : l.length ≤ 40) (ha : nextOf (norm l) n (a, ok)) (hb : prevOf (norm l) n (b, is)) : Ev (fun k => lustrumlaw04_RunsNext.j2 k l n true a ok b is) true := by
  have h3 := RunsNext_j3 l n a b ok is hl ha hb
  obtain ⟨x, hx, hs⟩ := Has_f l (by omega) n
  refine Ev.step (fun k => by rw [lustrumlaw04_RunsNext.j2]) ?_
  refine Ev.bind hx ?_
  cases x with
  | false => exact Ev.iff_ (by simp) h3
  | true =>
    have hm := hs.1 rfl
    rcases ha with ⟨h1, h2, h3', h4⟩ | ⟨h1, h2⟩
    · rcases hb with ⟨k1, k2, k3, k4⟩ | ⟨k1, k2⟩
      · have e1 : a ≤ n := h4 _ hm (Int.le_refl _)
        have e2 : n ≤ b := k4 _ hm (Int.le_refl _)
        have e3 : n ≤ a := h3'
        have e4 : b ≤ n := k3
        obtain rfl : a = n := by omega
        obtain rfl : b = a := by omega
        refine Ev.ift rfl (Ev.ift h1 (Ev.ift k1 (Ev.ift rfl ?_)))
        rw [bne_self_eq_false]
        exact h3
      · have := k2 _ hm; omega
    · have := h2 _ hm; omega
theorem RunsNext_j0 (l : List S25) (n a b : Int) (ok is : Bool) (hl : l.length ≤ 40) (ha : nextOf (norm l) n (a, ok)) (hb : prevOf (norm l) n (b, is)) : Ev (fun k => lustrumlaw04_RunsNext.j0 k l n true a ok b is false) true := by
  have h2 := RunsNext_j2 l n a b ok is hl ha hb
  have h1 : ∀ x, (x = true → ok = true ∧ a > n) → Ev (fun k => lustrumlaw04_RunsNext.j1 k l n true a ok b is x) true := fun x hx => by
    refine Ev.step (fun k => by rw [lustrumlaw04_RunsNext.j1]) ?_
    cases x with
    | false => exact Ev.iff_ (by simp) h2
    | true =>
      obtain ⟨h3, h4⟩ := hx rfl
      rcases ha with ⟨_, g2, g3, g4⟩ | ⟨g1, _⟩
      · have hbd := sane_mem (norm_sane l) g2
        unfold lim at hbd
        simp only at hbd g2 g3 g4
        obtain ⟨⟨c, has⟩, hq, hp⟩ := Prev_f l (by omega) (a - 1)
        refine Ev.ift rfl ?_
        rw [w64 (by omega) (by omega)]
        refine Ev.bind hq ?_
        rcases hp with ⟨p1, p2, p3, p4⟩ | ⟨p1, _⟩
        · refine Ev.ift p1 (Ev.iff_ ?_ h2)
          simp only at p2 p3 ⊢
          intro h
          have := g4 c p2 h
          omega
        · injection p1 with p1 p2
          subst p2
          exact Ev.iff_ (by simp) h2
      · injection g1 with g1 g2
        subst g2
        simp at h3
  refine Ev.step (fun k => by rw [lustrumlaw04_RunsNext.j0]) ?_
  refine Ev.iff_ (by simp) ?_
  by_cases c : ok = true
  · exact Ev.ift c (h1 _ fun h => ⟨c, of_decide_eq_true h⟩)
  · exact Ev.iff_ c (h1 false (by simp))
theorem RunsNext_t (l : List S25) (n : Int) : Ev (fun k => lustrumlaw04_RunsNext.f k l n) true := by
  refine Ev.bind awake4 ?_
  by_cases cl : l.length ≤ 40
  · refine Ev.iff_ (by omega) ?_
    obtain ⟨⟨a, ok⟩, h1, ha⟩ := Next_f l (by omega) n
    obtain ⟨⟨b, is⟩, h2, hb⟩ := Prev_f l (by omega) n
    have h0 := RunsNext_j0 l n a b ok is cl ha hb
    refine Ev.bind h1 (Ev.bind h2 ?_)
    have hasA : ok = true → Ev (fun k => runs_Has.f k l a) true ∧ ¬ a < n := fun h => by
      obtain ⟨x, hx, hs⟩ := Has_f l (by omega) a
      rcases ha with ⟨_, g2, g3, _⟩ | ⟨g1, _⟩
      · rw [hs.2 g2] at hx
        exact ⟨hx, by simp only at g3; omega⟩
      · injection g1 with _ g2; rw [g2] at h; simp at h
    have hasB : is = true → Ev (fun k => runs_Has.f k l b) true ∧ ¬ b > n := fun h => by
      obtain ⟨x, hx, hs⟩ := Has_f l (by omega) b
      rcases hb with ⟨_, g2, g3, _⟩ | ⟨g1, _⟩
      · rw [hs.2 g2] at hx
        exact ⟨hx, by simp only at g3; omega⟩
      · injection g1 with _ g2; rw [g2] at h; simp at h
    have zeroA : ok = false → a = 0 := fun h => by
      rcases ha with ⟨g1, _⟩ | ⟨g1, _⟩
      · simp only at g1; rw [g1] at h; simp at h
      · injection g1
    have zeroB : is = false → b = 0 := fun h => by
      rcases hb with ⟨g1, _⟩ | ⟨g1, _⟩
      · simp only at g1; rw [g1] at h; simp at h
      · injection g1
    cases ok with
    | true =>
      obtain ⟨a1, a2⟩ := hasA rfl
      refine Ev.ift rfl ?_
      cases is with
      | true =>
        obtain ⟨b1, b2⟩ := hasB rfl
        exact Ev.ift rfl (Ev.iff_ a2 (Ev.bind a1 (Ev.ift rfl (Ev.iff_ b2 (Ev.bind b1 h0)))))
      | false => exact Ev.iff_ (by simp) (Ev.ift (zeroB rfl) (Ev.iff_ a2 (Ev.bind a1 (Ev.ift rfl h0))))
    | false =>
      refine Ev.iff_ (by simp) (Ev.ift (zeroA rfl) ?_)
      cases is with
      | true =>
        obtain ⟨b1, b2⟩ := hasB rfl
        exact Ev.ift rfl (Ev.iff_ b2 (Ev.bind b1 h0))
      | false => exact Ev.iff_ (by simp) (Ev.ift (zeroB rfl) h0)
  · exact Ev.ift (by omega) (Ev.now true)
section
variable (l : List Int) (n : Int) (hl : l.length ≤ 40)
include hl
end
end Go.Proofs.Ytkbcmjejfbbcpaa.A
