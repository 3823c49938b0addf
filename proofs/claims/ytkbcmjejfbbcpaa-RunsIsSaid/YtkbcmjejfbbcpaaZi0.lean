/- Walks of functions, and plain facts about what they compute. No conditions. -/
import Derived.Test.YtkbcmjejfbbcpaaZs3
import Derived.Deep.Slices
import Derived.SizedLaws
import Derived.ChangeArms
import Derived.Test.YtkbcmjejfbbcpaaRows
import Derived.ChangeSame
set_option linter.unusedVariables false
set_option linter.unusedSimpArgs false
namespace Go.Proofs.Ytkbcmjejfbbcpaa.Rd
open Go.RowKit Go.Deep Go.Proofs.YtkbcmjejfbbcpaaW.PrintWords
set_option linter.unusedVariables false
def RdF {α : Type} (P : Program) (t : TypeId) (d : Kd α) (wf : α → Prop) (f : Nat) : Prop :=
  ∀ {H : Type} (enc : TypeId × Value → H) (W : World) (cs : List Value) (x : DataW H × List MemPlace),
    DataW.trod enc P W 0 (fun _ => true) true f t cs = some x → (x.1.weights P t).all (· ≤ reachBytes) = true → ∃ a, d.K W a cs ∧ wf a
def Rd {α : Type} (P : Program) (t : TypeId) (d : Kd α) (wf : α → Prop) : Prop := ∀ f, RdF P t d wf f
section
variable {P : Program} {t e : TypeId} {α : Type} {d : Kd α} {wf : α → Prop}
theorem Rd.int {k : IntKind} (ht : P.underlying t = some (.int k)) : Rd P t (Kd.int k) (fun a => (Lit.int k a).wf = true) := by
  intro f H enc W cs x h _
  obtain ⟨n, rfl, _, hw⟩ := DataW.trod_int ht h
  exact ⟨n, rfl, hw⟩
theorem Rd.bool (ht : P.underlying t = some .bool) : Rd P t Kd.bool (fun _ => True) := by
  intro f H enc W cs x h _
  obtain ⟨b, rfl, _⟩ := DataW.trod_bool ht h
  exact ⟨b, rfl, trivial⟩
theorem all_weights {H : Type} {l : List (DataW H)} (h : (DataW.weightsAll P e l).all (· ≤ reachBytes) = true) : ∀ x, x ∈ l → (x.weights P e).all (· ≤ reachBytes) = true := by
  induction l with
  | nil => intro x hx; simp at hx
  | cons y l ih =>
    simp only [DataW.weightsAll, List.all_append, Bool.and_eq_true] at h
    intro x hx
    rcases List.mem_cons.1 hx with rfl | hx
    · exact h.1
    · exact ih h.2 x hx
theorem list_of {β : Type} (Q : Nat → β → Prop) : ∀ (n : Nat), (∀ i, i < n → ∃ b, Q i b) → ∃ l : List β, l.length = n ∧ ∀ i b, l[i]? = some b → Q i b
  | 0, _ => ⟨[], rfl, fun i b h => by simp at h⟩
  | n + 1, h => by
    obtain ⟨l, hl, hq⟩ := list_of Q n (fun i hi => h i (by omega))
    obtain ⟨b, hb⟩ := h n (by omega)
    refine ⟨l ++ [b], by simp [hl], fun i c hc => ?_⟩
    rcases Nat.lt_or_ge i l.length with hi | hi
    · rw [List.getElem?_append_left hi] at hc
      exact hq i c hc
    · have hlt := (List.getElem?_eq_some_iff.1 hc).1
      rw [List.length_append, List.length_singleton] at hlt
      have : i = n := by omega
      subst this
      rw [List.getElem?_append_right hi, hl, Nat.sub_self] at hc
      simp at hc
      subst hc
      exact hb
theorem RdF.slice (ht : P.underlying t = some (.slice e)) (hc : P.cellsOf e = d.sz) {f : Nat} (hd : ∀ g, g < f → RdF P e d wf g) : RdF P t (Kd.slice e d) (fun l => l.length * P.bytesOf e ≤ 140737488351232 ∧ ∀ x, x ∈ l → wf x) f := by
  intro H enc W cs x h hw
  rcases DataW.trod_slice ht h with ⟨rfl, rfl⟩ | ⟨a, len, cap, elems, rest, n, rfl, rfl, rfl, _, hlc, hm, hlen, hel, _, _⟩
  · exact ⟨[], ⟨none, 0, rfl, Nat.le_refl _, rfl, by simp, fun h => absurd h (by simp)⟩, by simp, fun x h => by simp at h⟩
  simp only [DataW.weights, ht, List.all_cons, List.all_append, Bool.and_eq_true, decide_eq_true_eq] at hw
  obtain ⟨hb, hw1, _⟩ := hw
  rw [List.length_map, List.length_map] at hb
  obtain ⟨l, hl, hq⟩ := list_of (fun i b => ∃ c, c.length = d.sz ∧ d.K W b c ∧ wf b ∧ ∀ j u, c[j]? = some u → W.cell? (a.add (i * d.sz + j)) = some u) len fun i hi => by
    have hi' : i < elems.length := by omega
    have h1 := hel i hi
    rw [List.getElem?_eq_getElem hi'] at h1
    obtain ⟨c, hc1, hc2⟩ := Option.bind_eq_some_iff.1 h1
    obtain ⟨_, hcl, hcell⟩ := World.cells?_some hc1
    obtain ⟨b, hk, hwf⟩ := hd n (Nat.lt_succ_self n) enc W c _ hc2 (all_weights hw1 _ (List.mem_map.2 ⟨_, List.getElem_mem hi', rfl⟩))
    refine ⟨b, c, by rw [hcl, hc], hk, hwf, fun j u hj => ?_⟩
    have hjl := (List.getElem?_eq_some_iff.1 hj).1
    have h2 := hcell j (by omega)
    rw [hj, hc] at h2
    rw [← h2]
    congr 1
    exact (Deep.add_add _ _ _).symm
  refine ⟨l, ⟨some a, cap, by rw [hl], by rw [hl]; exact hlc, hl ▸ rfl, by unfold maxLen at hm; omega, fun _ => ⟨a, rfl, fun j p hj => ?_⟩⟩, ?_, fun x hx => ?_⟩
  · obtain ⟨c, h1, h2, _, h4⟩ := hq j p hj
    exact ⟨c, h1, h2, h4⟩
  · have : l.length * P.bytesOf e ≤ (elems.length + rest.length) * P.bytesOf e := Nat.mul_le_mul_right _ (by omega)
    unfold reachBytes at hb
    omega
  · obtain ⟨i, hi⟩ := List.getElem?_of_mem hx
    obtain ⟨c, _, _, h3, _⟩ := hq i x hi
    exact h3
theorem Rd.slice (ht : P.underlying t = some (.slice e)) (hc : P.cellsOf e = d.sz) (hd : Rd P e d wf) : Rd P t (Kd.slice e d) (fun l => l.length * P.bytesOf e ≤ 140737488351232 ∧ ∀ x, x ∈ l → wf x) :=
  fun f => RdF.slice ht hc (fun g _ => hd g)
theorem Rd.arg {H : Type} {enc : TypeId × Value → H} {W : World} {ts : List TypeId} {ds : List (DataW H)} {j : Nat} {v : Value} {x : DataW H} {ps : List MemPlace} (hr : Rd P t d wf) (hsz : (DataW.weightsEach P ts ds).all (· ≤ reachBytes) = true) (ht : ts[j]? = some t) (hd : ds[j]? = some x)
    (h : DataW.Trod enc P W 0 (fun _ => true) true t v x ps) : ∃ a, d.K W a v.cells.toList ∧ wf a := by
  obtain ⟨f, hf⟩ := h
  refine hr f enc W _ _ hf ?_
  rw [List.all_eq_true] at hsz ⊢
  exact fun n hn => hsz n (DataW.weights_mem_each ht hd n hn)
end
end Go.Proofs.Ytkbcmjejfbbcpaa.Rd

namespace Go.Proofs.Ytkbcmjejfbbcpaa.Rd
open Go.RowKit Go.Deep Go.Proofs.YtkbcmjejfbbcpaaW.PrintWords Go.Proofs.Ytkbcmjejfbbcpaa.A
set_option linter.unusedVariables false
def wfI (n : Int) : Prop := -9223372036854775808 ≤ n ∧ n ≤ 9223372036854775807
theorem wfI_of {n : Int} (h : (Lit.int .i64 n).wf = true) : wfI n := by
  have h1 := of_decide_eq_true (p := _ ∧ _) (by simpa [Lit.wf, IntKind.signed, IntKind.bits, Bool.and_eq_true, decide_eq_true_eq] using h)
  exact h1
theorem Rd.i64 : Rd Try.prog 3 (Kd.int .i64) wfI := by
  intro f H enc W cs x h hw
  obtain ⟨a, h1, h2⟩ := Rd.int Try.underlying3 f enc W cs x h hw
  exact ⟨a, h1, wfI_of h2⟩
theorem Rd.run : Rd Try.prog 25 k25 (fun r => wfI r.f0 ∧ wfI r.f1) := by
  intro f H enc W cs x h hw
  obtain ⟨y0, y1, n, rfl, hl, h0, h1⟩ := Go.ChangeShapes.trod_struct2 Try.underlying25 h
  obtain ⟨a, ha, _, wa⟩ := DataW.trod_int Try.underlying3 h0
  obtain ⟨b, hb, _, wb⟩ := DataW.trod_int Try.underlying3 h1
  refine ⟨⟨a, b⟩, ⟨[.int .i64 a], [.int .i64 b], ?_, rfl, rfl⟩, wfI_of wa, wfI_of wb⟩
  have e1 : Try.prog.cellsOf 25 = 2 := by kernel_rfl
  have e2 : Try.prog.cellsOf 3 = 1 := by kernel_rfl
  rw [e1] at hl
  rw [e2] at ha hb
  match cs, hl with
  | [u, v], _ =>
    simp at ha hb
    rw [ha, hb]; rfl
theorem Rd.runs : Rd Try.prog 23 (Kd.slice 25 k25) (fun l => l.length ≤ 8796093022208 ∧ ∀ r, r ∈ l → wfI r.f0 ∧ wfI r.f1) := by
  intro f H enc W cs x h hw
  obtain ⟨a, h1, h2, h3⟩ := Rd.slice Try.underlying23 (by kernel_rfl) Rd.run f enc W cs x h hw
  have e : Try.prog.bytesOf 25 = 16 := by kernel_rfl
  rw [e] at h2
  exact ⟨a, h1, by omega, h3⟩
theorem Rd.ints : Rd Try.prog 31 (Kd.slice 3 (Kd.int .i64)) (fun l => l.length ≤ 17592186044416 ∧ ∀ n, n ∈ l → wfI n) := by
  intro f H enc W cs x h hw
  obtain ⟨a, h1, h2, h3⟩ := Rd.slice Try.underlying31 (by kernel_rfl) Rd.i64 f enc W cs x h hw
  have e : Try.prog.bytesOf 3 = 8 := by kernel_rfl
  rw [e] at h2
  exact ⟨a, h1, by omega, h3⟩
theorem arg_slice {α : Type} {e : Nat} {d : Kd α} {W : World} {l : List α} {a : Option Addr} {n c : Nat} (h : (Kd.slice e d).K W l (Value.slice a n c).cells.toList) : n = l.length ∧ l.length ≤ c ∧ Kd.C d W a l.length l := by
  obtain ⟨A, c', e, h1, h2⟩ := h
  simp [Value.cells] at e
  obtain ⟨rfl, rfl, rfl⟩ := e
  exact ⟨rfl, h1, h2⟩
end Go.Proofs.Ytkbcmjejfbbcpaa.Rd

namespace Go.Proofs.Ytkbcmjejfbbcpaa.A
open Go.RowKit Go.Proofs.YtkbcmjejfbbcpaaW.PrintWords Go.Proofs.YtkbcmjejfbbcpaaW.PrintLast Go.Proofs.YtkbcmjejfbbcpaaW.PrintMore
attribute [local go_sem] max2_int min2_int max_two min_two max_three min_three max_four min_four
set_option linter.unusedVariables false
set_option linter.unusedSimpArgs false
def runs_Sane.l0 : Nat → Int → List (S25) → Int → Int → Option (Bool)
  | 0, _, _, _, _ => none
  | k + 1, x3, x6, x7, x8 => if x8 < x7 then (if 0 ≤ x8 then (if x8 < (x6.length : Int) then (if ((rd_T25 x6 x8).f0) > ((rd_T25 x6 x8).f1) then (some false) else (if ((rd_T25 x6 x8).f0) < (wrap64 (x3 + 2)) then (some false) else (if ((rd_T25 x6 x8).f1) > 1099511627776 then (some false) else (runs_Sane.l0 k ((rd_T25 x6 x8).f1) x6 x7 (wrap64 (x8 + 1)))))) else (none)) else (none)) else (some true)
def runs_Sane.f (k : Nat) (l0 : List (S25)) : Option (Bool) := runs_Sane.l0 k (-1099511627778) l0 (l0.length : Int) 0
theorem runs_Sane.mono_l : ∀ k, (∀ y0 y1 y2 y3, LeO (runs_Sane.l0 k y0 y1 y2 y3) (runs_Sane.l0 (k + 1) y0 y1 y2 y3))
  | 0 => fun _ _ _ _ r h => by simp [runs_Sane.l0] at h
  | k + 1 => by
    have ih0 := runs_Sane.mono_l k
    · intro y0 y1 y2 y3
      unfold runs_Sane.l0
      repeat' first
      | (with_reducible exact ih0 _ _ _ _)
      | (with_reducible exact LeO.refl _)
      | (with_reducible exact LeO.none _)
      | (with_reducible refine LeO.ite ?_ ?_)
      | (with_reducible refine LeO.bind ?_ (fun _ => ?_))
      | exact ih0 _ _ _ _
      | exact LeO.none _
      | refine LeO.ite ?_ ?_
      | refine LeO.bind ?_ (fun _ => ?_)
theorem runs_Sane.mono : ∀ a0 k, LeO (runs_Sane.f k a0) (runs_Sane.f (k + 1) a0) := by
  intro a0 k
  have ih0 := runs_Sane.mono_l k
  unfold runs_Sane.f
  repeat' first
      | (with_reducible exact ih0 _ _ _ _)
      | (with_reducible exact LeO.refl _)
      | (with_reducible exact LeO.none _)
      | (with_reducible refine LeO.ite ?_ ?_)
      | (with_reducible refine LeO.bind ?_ (fun _ => ?_))
      | exact ih0 _ _ _ _
      | exact LeO.none _
      | refine LeO.ite ?_ ?_
      | refine LeO.bind ?_ (fun _ => ?_)
def runs_known.f (k : Nat) (l0 : List (S25)) : Option ((List (S25))) := (runs_Sane.f k l0).bind fun t103 => (if t103 = true then (some l0) else ((runs_Make.f l0).bind fun t104 => (some t104)))
theorem runs_known.mono : ∀ a0 k, LeO (runs_known.f k a0) (runs_known.f (k + 1) a0) := by
  intro a0 k
  unfold runs_known.f
  repeat' first
      | (with_reducible exact runs_Sane.mono _ _)
      | (with_reducible exact LeO.refl _)
      | (with_reducible exact LeO.none _)
      | (with_reducible refine LeO.ite ?_ ?_)
      | (with_reducible refine LeO.bind ?_ (fun _ => ?_))
      | exact runs_Sane.mono _ _
      | exact LeO.none _
      | refine LeO.ite ?_ ?_
      | refine LeO.bind ?_ (fun _ => ?_)
def runs_Next.f (k : Nat) (l0 : List (S25)) (a1 : Int) : Option (Int × Bool) := (runs_known.f k l0).bind fun t107 => ((runs_at.f t107 a1).bind fun t110 => (if t110 = (t107.length : Int) then (some (0, false)) else (if 0 ≤ t110 then (if t110 < (t107.length : Int) then (some (mx a1 ((rd_T25 t107 t110).f0), true)) else (none)) else (none))))
theorem runs_Next.mono : ∀ a0 a1 k, LeO (runs_Next.f k a0 a1) (runs_Next.f (k + 1) a0 a1) := by
  intro a0 a1 k
  unfold runs_Next.f
  repeat' first
      | (with_reducible exact runs_known.mono _ _)
      | (with_reducible exact LeO.refl _)
      | (with_reducible exact LeO.none _)
      | (with_reducible refine LeO.ite ?_ ?_)
      | (with_reducible refine LeO.bind ?_ (fun _ => ?_))
      | exact runs_known.mono _ _
      | exact LeO.none _
      | refine LeO.ite ?_ ?_
      | refine LeO.bind ?_ (fun _ => ?_)
def runs_Has.f (k : Nat) (l0 : List (S25)) (a1 : Int) : Option (Bool) := (runs_Next.f k l0 a1).bind fun bt112 => (if bt112.2 = true then (some (bt112.1 == a1)) else (some false))
theorem runs_Has.mono : ∀ a0 a1 k, LeO (runs_Has.f k a0 a1) (runs_Has.f (k + 1) a0 a1) := by
  intro a0 a1 k
  unfold runs_Has.f
  repeat' first
      | (with_reducible exact runs_Next.mono _ _ _)
      | (with_reducible exact LeO.refl _)
      | (with_reducible exact LeO.none _)
      | (with_reducible refine LeO.ite ?_ ?_)
      | (with_reducible refine LeO.bind ?_ (fun _ => ?_))
      | exact runs_Next.mono _ _ _
      | exact LeO.none _
      | refine LeO.ite ?_ ?_
      | refine LeO.bind ?_ (fun _ => ?_)
def runs_Of.l0 : Nat → List (S25) → List Int → Int → Int → Option ((List (S25)))
  | 0, _, _, _, _ => none
  | k + 1, x3, x6, x7, x8 => if x8 < x7 then (if 0 ≤ x8 then (if x8 < (x6.length : Int) then (if x3.length < 8796093022208 then (runs_Of.l0 k (x3 ++ [(⟨rd x6 x8, rd x6 x8⟩ : S25)]) x6 x7 (wrap64 (x8 + 1))) else (none)) else (none)) else (none)) else ((runs_Make.f x3).bind fun t118 => (some t118))
def runs_Of.f (k : Nat) (l0 : List Int) : Option ((List (S25))) := runs_Of.l0 k ([] : List (S25)) l0 (l0.length : Int) 0
theorem runs_Of.mono_l : ∀ k, (∀ y0 y1 y2 y3, LeO (runs_Of.l0 k y0 y1 y2 y3) (runs_Of.l0 (k + 1) y0 y1 y2 y3))
  | 0 => fun _ _ _ _ r h => by simp [runs_Of.l0] at h
  | k + 1 => by
    have ih0 := runs_Of.mono_l k
    · intro y0 y1 y2 y3
      unfold runs_Of.l0
      repeat' first
      | (with_reducible exact ih0 _ _ _ _)
      | (with_reducible exact LeO.refl _)
      | (with_reducible exact LeO.none _)
      | (with_reducible refine LeO.ite ?_ ?_)
      | (with_reducible refine LeO.bind ?_ (fun _ => ?_))
      | exact ih0 _ _ _ _
      | exact LeO.none _
      | refine LeO.ite ?_ ?_
      | refine LeO.bind ?_ (fun _ => ?_)
theorem runs_Of.mono : ∀ a0 k, LeO (runs_Of.f k a0) (runs_Of.f (k + 1) a0) := by
  intro a0 k
  have ih0 := runs_Of.mono_l k
  unfold runs_Of.f
  repeat' first
      | (with_reducible exact ih0 _ _ _ _)
      | (with_reducible exact LeO.refl _)
      | (with_reducible exact LeO.none _)
      | (with_reducible refine LeO.ite ?_ ?_)
      | (with_reducible refine LeO.bind ?_ (fun _ => ?_))
      | exact ih0 _ _ _ _
      | exact LeO.none _
      | refine LeO.ite ?_ ?_
      | refine LeO.bind ?_ (fun _ => ?_)
def runs_Count.l0 : Nat → Int → List (S25) → Int → Int → Option (Int)
  | 0, _, _, _, _ => none
  | k + 1, x3, x7, x8, x9 => if x9 < x8 then (if 0 ≤ x9 then (if x9 < (x7.length : Int) then (runs_Count.l0 k (wrap64 (x3 + (wrap64 ((wrap64 (((rd_T25 x7 x9).f1) - ((rd_T25 x7 x9).f0))) + 1)))) x7 x8 (wrap64 (x9 + 1))) else (none)) else (none)) else (some x3)
def runs_Count.f (k : Nat) (l0 : List (S25)) : Option (Int) := (runs_known.f k l0).bind fun t121 => (runs_Count.l0 k 0 t121 (t121.length : Int) 0)
theorem runs_Count.mono_l : ∀ k, (∀ y0 y1 y2 y3, LeO (runs_Count.l0 k y0 y1 y2 y3) (runs_Count.l0 (k + 1) y0 y1 y2 y3))
  | 0 => fun _ _ _ _ r h => by simp [runs_Count.l0] at h
  | k + 1 => by
    have ih0 := runs_Count.mono_l k
    · intro y0 y1 y2 y3
      unfold runs_Count.l0
      repeat' first
      | (with_reducible exact ih0 _ _ _ _)
      | (with_reducible exact runs_known.mono _ _)
      | (with_reducible exact LeO.refl _)
      | (with_reducible exact LeO.none _)
      | (with_reducible refine LeO.ite ?_ ?_)
      | (with_reducible refine LeO.bind ?_ (fun _ => ?_))
      | exact ih0 _ _ _ _
      | exact runs_known.mono _ _
      | exact LeO.none _
      | refine LeO.ite ?_ ?_
      | refine LeO.bind ?_ (fun _ => ?_)
theorem runs_Count.mono : ∀ a0 k, LeO (runs_Count.f k a0) (runs_Count.f (k + 1) a0) := by
  intro a0 k
  have ih0 := runs_Count.mono_l k
  unfold runs_Count.f
  repeat' first
      | (with_reducible exact ih0 _ _ _ _)
      | (with_reducible exact runs_known.mono _ _)
      | (with_reducible exact LeO.refl _)
      | (with_reducible exact LeO.none _)
      | (with_reducible refine LeO.ite ?_ ?_)
      | (with_reducible refine LeO.bind ?_ (fun _ => ?_))
      | exact ih0 _ _ _ _
      | exact runs_known.mono _ _
      | exact LeO.none _
      | refine LeO.ite ?_ ?_
      | refine LeO.bind ?_ (fun _ => ?_)
def lustrumlaw04_awake.f (k : Nat)  : Option (Bool) := (runs_Make.f (([(⟨5, 7⟩ : S25), (⟨1, 2⟩ : S25), (⟨3, 3⟩ : S25)] : List (S25)))).bind fun t129 => (if (t129.length : Int) = 2 then (if 0 < (t129.length : Int) then (if ((rd_T25 t129 0).f0) = 1 then (if ((rd_T25 t129 0).f1) = 3 then (if 1 < (t129.length : Int) then (if ((rd_T25 t129 1).f0) = 5 then (if ((rd_T25 t129 1).f1) = 7 then ((runs_Sane.f k t129).bind fun t136 => (if t136 = true then ((runs_Has.f k t129 6).bind fun t137 => (if t137 = true then ((runs_Count.f k t129).bind fun t138 => (if t138 = 6 then ((runs_Of.f k (([3] : List Int))).bind fun t142 => (some ((t142.length : Int) == 1))) else (some false))) else (some false))) else (some false))) else (some false)) else (some false)) else (none)) else (some false)) else (some false)) else (none)) else (some false))
theorem lustrumlaw04_awake.mono : ∀ k, LeO (lustrumlaw04_awake.f k ) (lustrumlaw04_awake.f (k + 1) ) := by
  intro  k
  unfold lustrumlaw04_awake.f
  repeat' first
      | (with_reducible exact runs_Count.mono _ _)
      | (with_reducible exact runs_Has.mono _ _ _)
      | (with_reducible exact runs_Of.mono _ _)
      | (with_reducible exact runs_Sane.mono _ _)
      | (with_reducible exact LeO.refl _)
      | (with_reducible exact LeO.none _)
      | (with_reducible refine LeO.ite ?_ ?_)
      | (with_reducible refine LeO.bind ?_ (fun _ => ?_))
      | exact runs_Count.mono _ _
      | exact runs_Has.mono _ _ _
      | exact runs_Of.mono _ _
      | exact runs_Sane.mono _ _
      | exact LeO.none _
      | refine LeO.ite ?_ ?_
      | refine LeO.bind ?_ (fun _ => ?_)
end Go.Proofs.Ytkbcmjejfbbcpaa.A

namespace Go.Proofs.Ytkbcmjejfbbcpaa.A
open Go.RowKit Go.Proofs.YtkbcmjejfbbcpaaW.PrintWords Go.Proofs.YtkbcmjejfbbcpaaW.PrintLast Go.Proofs.YtkbcmjejfbbcpaaW.PrintMore
attribute [local go_sem] max2_int min2_int max_two min_two max_three min_three max_four min_four
set_option linter.unusedVariables false
set_option linter.unusedSimpArgs false
def lustrumref04_Same.l0 : Nat → List (S25) → List (S25) → Int → Option (Bool)
  | 0, _, _, _ => none
  | k + 1, x0, x1, x5 => if x5 < (x0.length : Int) then (if 0 ≤ x5 then (if x5 < (x1.length : Int) then (if (!(((rd_T25 x0 x5).f0) == ((rd_T25 x1 x5).f0)) || (!(((rd_T25 x0 x5).f1) == ((rd_T25 x1 x5).f1)))) = true then (some false) else (lustrumref04_Same.l0 k x0 x1 (wrap64 (x5 + 1)))) else (none)) else (none)) else (some true)
def lustrumref04_Same.f (k : Nat) (l0 : List (S25)) (l1 : List (S25)) : Option (Bool) := if (l0.length : Int) = (l1.length : Int) then (lustrumref04_Same.l0 k l0 l1 0) else (some false)
theorem lustrumref04_Same.mono_l : ∀ k, (∀ y0 y1 y2, LeO (lustrumref04_Same.l0 k y0 y1 y2) (lustrumref04_Same.l0 (k + 1) y0 y1 y2))
  | 0 => fun _ _ _ r h => by simp [lustrumref04_Same.l0] at h
  | k + 1 => by
    have ih0 := lustrumref04_Same.mono_l k
    · intro y0 y1 y2
      unfold lustrumref04_Same.l0
      repeat' first
      | (with_reducible exact ih0 _ _ _)
      | (with_reducible exact LeO.refl _)
      | (with_reducible exact LeO.none _)
      | (with_reducible refine LeO.ite ?_ ?_)
      | (with_reducible refine LeO.bind ?_ (fun _ => ?_))
      | exact ih0 _ _ _
      | exact LeO.none _
      | refine LeO.ite ?_ ?_
      | refine LeO.bind ?_ (fun _ => ?_)
theorem lustrumref04_Same.mono : ∀ a0 a1 k, LeO (lustrumref04_Same.f k a0 a1) (lustrumref04_Same.f (k + 1) a0 a1) := by
  intro a0 a1 k
  have ih0 := lustrumref04_Same.mono_l k
  unfold lustrumref04_Same.f
  repeat' first
      | (with_reducible exact ih0 _ _ _)
      | (with_reducible exact LeO.refl _)
      | (with_reducible exact LeO.none _)
      | (with_reducible refine LeO.ite ?_ ?_)
      | (with_reducible refine LeO.bind ?_ (fun _ => ?_))
      | exact ih0 _ _ _
      | exact LeO.none _
      | refine LeO.ite ?_ ?_
      | refine LeO.bind ?_ (fun _ => ?_)
end Go.Proofs.Ytkbcmjejfbbcpaa.A

namespace Go.Proofs.Ytkbcmjejfbbcpaa.A
open Go.RowKit Go.Proofs.YtkbcmjejfbbcpaaW.PrintWords Go.Proofs.YtkbcmjejfbbcpaaW.PrintLast Go.Proofs.YtkbcmjejfbbcpaaW.PrintMore
attribute [local go_sem] max2_int min2_int max_two min_two max_three min_three max_four min_four
set_option linter.unusedVariables false
set_option linter.unusedSimpArgs false
def lustrumref04_Sane.l0 : Nat → List (S25) → Int → Option (Bool)
  | 0, _, _ => none
  | k + 1, x0, x3 => if x3 < (x0.length : Int) then (if 0 ≤ x3 then (if ((rd_T25 x0 x3).f0) > ((rd_T25 x0 x3).f1) then (some false) else (if ((rd_T25 x0 x3).f0) < (-1099511627776) then (some false) else (if ((rd_T25 x0 x3).f1) > 1099511627776 then (some false) else (if x3 > 0 then (if 0 ≤ (wrap64 (x3 - 1)) then (if (wrap64 (x3 - 1)) < (x0.length : Int) then (if (wrap64 (((rd_T25 x0 x3).f0) - 1)) ≤ ((rd_T25 x0 (wrap64 (x3 - 1))).f1) then (some false) else (lustrumref04_Sane.l0 k x0 (wrap64 (x3 + 1)))) else (none)) else (none)) else (lustrumref04_Sane.l0 k x0 (wrap64 (x3 + 1))))))) else (none)) else (some true)
def lustrumref04_Sane.f (k : Nat) (l0 : List (S25)) : Option (Bool) := lustrumref04_Sane.l0 k l0 0
theorem lustrumref04_Sane.mono_l : ∀ k, (∀ y0 y1, LeO (lustrumref04_Sane.l0 k y0 y1) (lustrumref04_Sane.l0 (k + 1) y0 y1))
  | 0 => fun _ _ r h => by simp [lustrumref04_Sane.l0] at h
  | k + 1 => by
    have ih0 := lustrumref04_Sane.mono_l k
    · intro y0 y1
      unfold lustrumref04_Sane.l0
      repeat' first
      | (with_reducible exact ih0 _ _)
      | (with_reducible exact LeO.refl _)
      | (with_reducible exact LeO.none _)
      | (with_reducible refine LeO.ite ?_ ?_)
      | (with_reducible refine LeO.bind ?_ (fun _ => ?_))
      | exact ih0 _ _
      | exact LeO.none _
      | refine LeO.ite ?_ ?_
      | refine LeO.bind ?_ (fun _ => ?_)
theorem lustrumref04_Sane.mono : ∀ a0 k, LeO (lustrumref04_Sane.f k a0) (lustrumref04_Sane.f (k + 1) a0) := by
  intro a0 k
  have ih0 := lustrumref04_Sane.mono_l k
  unfold lustrumref04_Sane.f
  repeat' first
      | (with_reducible exact ih0 _ _)
      | (with_reducible exact LeO.refl _)
      | (with_reducible exact LeO.none _)
      | (with_reducible refine LeO.ite ?_ ?_)
      | (with_reducible refine LeO.bind ?_ (fun _ => ?_))
      | exact ih0 _ _
      | exact LeO.none _
      | refine LeO.ite ?_ ?_
      | refine LeO.bind ?_ (fun _ => ?_)
end Go.Proofs.Ytkbcmjejfbbcpaa.A

namespace Go.Proofs.Ytkbcmjejfbbcpaa.A
open Go.RowKit Go.Proofs.YtkbcmjejfbbcpaaW.PrintWords Go.Proofs.YtkbcmjejfbbcpaaW.PrintLast Go.Proofs.YtkbcmjejfbbcpaaW.PrintMore
attribute [local go_sem] max2_int min2_int max_two min_two max_three min_three max_four min_four
set_option linter.unusedVariables false
set_option linter.unusedSimpArgs false
def lustrumref04_put.l0 : Nat → List (S25) → List (S25) → List (S25) → Int → Int → Int → Option ((List (S25)))
  | 0, _, _, _, _, _, _ => none
  | k + 1, x0, x6, x7, x8, x215000, x215001 => if x8 < (x0.length : Int) then (if 0 ≤ x8 then (if ((rd_T25 x0 x8).f1) < (wrap64 (x215000 - 1)) then (if x6.length < 8796093022208 then (lustrumref04_put.l0 k x0 (x6 ++ [(⟨(rd_T25 x0 x8).f0, (rd_T25 x0 x8).f1⟩ : S25)]) x7 (wrap64 (x8 + 1)) x215000 x215001) else (none)) else (if ((rd_T25 x0 x8).f0) > (wrap64 (x215001 + 1)) then (if x7.length < 8796093022208 then (lustrumref04_put.l0 k x0 x6 (x7 ++ [(⟨(rd_T25 x0 x8).f0, (rd_T25 x0 x8).f1⟩ : S25)]) (wrap64 (x8 + 1)) x215000 x215001) else (none)) else (lustrumref04_put.l0 k x0 x6 x7 (wrap64 (x8 + 1)) (mn x215000 ((rd_T25 x0 x8).f0)) (mx x215001 ((rd_T25 x0 x8).f1))))) else (none)) else (if x6.length < 8796093022208 then ((some (x6 ++ [(⟨x215000, x215001⟩ : S25)] : List (S25))).bind fun y215 => (if y215.length + x7.length < 8796093022208 then (some (y215 ++ x7)) else (none))) else (none))
def lustrumref04_put.f (k : Nat) (l0 : List (S25)) (a1_0 : Int) (a1_1 : Int) : Option ((List (S25))) := if (mx a1_0 (-1099511627776)) > (mn a1_1 1099511627776) then (some l0) else (lustrumref04_put.l0 k l0 ([] : List (S25)) ([] : List (S25)) 0 (mx a1_0 (-1099511627776)) (mn a1_1 1099511627776))
theorem lustrumref04_put.mono_l : ∀ k, (∀ y0 y1 y2 y3 y4 y5, LeO (lustrumref04_put.l0 k y0 y1 y2 y3 y4 y5) (lustrumref04_put.l0 (k + 1) y0 y1 y2 y3 y4 y5))
  | 0 => fun _ _ _ _ _ _ r h => by simp [lustrumref04_put.l0] at h
  | k + 1 => by
    have ih0 := lustrumref04_put.mono_l k
    · intro y0 y1 y2 y3 y4 y5
      unfold lustrumref04_put.l0
      repeat' first
      | (with_reducible exact ih0 _ _ _ _ _ _)
      | (with_reducible exact LeO.refl _)
      | (with_reducible exact LeO.none _)
      | (with_reducible refine LeO.ite ?_ ?_)
      | (with_reducible refine LeO.bind ?_ (fun _ => ?_))
      | exact ih0 _ _ _ _ _ _
      | exact LeO.none _
      | refine LeO.ite ?_ ?_
      | refine LeO.bind ?_ (fun _ => ?_)
theorem lustrumref04_put.mono : ∀ a0 a1 a2 k, LeO (lustrumref04_put.f k a0 a1 a2) (lustrumref04_put.f (k + 1) a0 a1 a2) := by
  intro a0 a1 a2 k
  have ih0 := lustrumref04_put.mono_l k
  unfold lustrumref04_put.f
  repeat' first
      | (with_reducible exact ih0 _ _ _ _ _ _)
      | (with_reducible exact LeO.refl _)
      | (with_reducible exact LeO.none _)
      | (with_reducible refine LeO.ite ?_ ?_)
      | (with_reducible refine LeO.bind ?_ (fun _ => ?_))
      | exact ih0 _ _ _ _ _ _
      | exact LeO.none _
      | refine LeO.ite ?_ ?_
      | refine LeO.bind ?_ (fun _ => ?_)
end Go.Proofs.Ytkbcmjejfbbcpaa.A

namespace Go.Proofs.Ytkbcmjejfbbcpaa.A
open Go.RowKit Go.Proofs.YtkbcmjejfbbcpaaW.PrintWords Go.Proofs.YtkbcmjejfbbcpaaW.PrintLast Go.Proofs.YtkbcmjejfbbcpaaW.PrintMore
attribute [local go_sem] max2_int min2_int max_two min_two max_three min_three max_four min_four
set_option linter.unusedVariables false
set_option linter.unusedSimpArgs false
def lustrumref04_Make.l0 : Nat → List (S25) → List (S25) → Int → Option ((List (S25)))
  | 0, _, _, _ => none
  | k + 1, x0, x3, x4 => if x4 < (x0.length : Int) then (if 0 ≤ x4 then ((lustrumref04_put.f k x3 ((rd_T25 x0 x4).f0) ((rd_T25 x0 x4).f1)).bind fun t234 => (lustrumref04_Make.l0 k x0 t234 (wrap64 (x4 + 1)))) else (none)) else (some x3)
def lustrumref04_Make.f (k : Nat) (l0 : List (S25)) : Option ((List (S25))) := lustrumref04_Make.l0 k l0 ([] : List (S25)) 0
theorem lustrumref04_Make.mono_l : ∀ k, (∀ y0 y1 y2, LeO (lustrumref04_Make.l0 k y0 y1 y2) (lustrumref04_Make.l0 (k + 1) y0 y1 y2))
  | 0 => fun _ _ _ r h => by simp [lustrumref04_Make.l0] at h
  | k + 1 => by
    have ih0 := lustrumref04_Make.mono_l k
    · intro y0 y1 y2
      unfold lustrumref04_Make.l0
      repeat' first
      | (with_reducible exact ih0 _ _ _)
      | (with_reducible exact lustrumref04_put.mono _ _ _ _)
      | (with_reducible exact LeO.refl _)
      | (with_reducible exact LeO.none _)
      | (with_reducible refine LeO.ite ?_ ?_)
      | (with_reducible refine LeO.bind ?_ (fun _ => ?_))
      | exact ih0 _ _ _
      | exact lustrumref04_put.mono _ _ _ _
      | exact LeO.none _
      | refine LeO.ite ?_ ?_
      | refine LeO.bind ?_ (fun _ => ?_)
theorem lustrumref04_Make.mono : ∀ a0 k, LeO (lustrumref04_Make.f k a0) (lustrumref04_Make.f (k + 1) a0) := by
  intro a0 k
  have ih0 := lustrumref04_Make.mono_l k
  unfold lustrumref04_Make.f
  repeat' first
      | (with_reducible exact ih0 _ _ _)
      | (with_reducible exact lustrumref04_put.mono _ _ _ _)
      | (with_reducible exact LeO.refl _)
      | (with_reducible exact LeO.none _)
      | (with_reducible refine LeO.ite ?_ ?_)
      | (with_reducible refine LeO.bind ?_ (fun _ => ?_))
      | exact ih0 _ _ _
      | exact lustrumref04_put.mono _ _ _ _
      | exact LeO.none _
      | refine LeO.ite ?_ ?_
      | refine LeO.bind ?_ (fun _ => ?_)
def lustrumref04_As.f (k : Nat) (l0 : List (S25)) : Option ((List (S25))) := (lustrumref04_Sane.f k l0).bind fun t237 => (if t237 = true then (some l0) else ((lustrumref04_Make.f k l0).bind fun t238 => (some t238)))
theorem lustrumref04_As.mono : ∀ a0 k, LeO (lustrumref04_As.f k a0) (lustrumref04_As.f (k + 1) a0) := by
  intro a0 k
  unfold lustrumref04_As.f
  repeat' first
      | (with_reducible exact lustrumref04_Make.mono _ _)
      | (with_reducible exact lustrumref04_Sane.mono _ _)
      | (with_reducible exact LeO.refl _)
      | (with_reducible exact LeO.none _)
      | (with_reducible refine LeO.ite ?_ ?_)
      | (with_reducible refine LeO.bind ?_ (fun _ => ?_))
      | exact lustrumref04_Make.mono _ _
      | exact lustrumref04_Sane.mono _ _
      | exact LeO.none _
      | refine LeO.ite ?_ ?_
      | refine LeO.bind ?_ (fun _ => ?_)
def lustrumref04_Next.l0 : Nat → Int → List (S25) → Int → Option (Int × Bool)
  | 0, _, _, _ => none
  | k + 1, x1, x6, x7 => if x7 < (x6.length : Int) then (if 0 ≤ x7 then (if ((rd_T25 x6 x7).f1) ≥ x1 then (some (mx x1 ((rd_T25 x6 x7).f0), true)) else (lustrumref04_Next.l0 k x1 x6 (wrap64 (x7 + 1)))) else (none)) else (some (0, false))
def lustrumref04_Next.f (k : Nat) (l0 : List (S25)) (a1 : Int) : Option (Int × Bool) := (lustrumref04_As.f k l0).bind fun t241 => (lustrumref04_Next.l0 k a1 t241 0)
theorem lustrumref04_Next.mono_l : ∀ k, (∀ y0 y1 y2, LeO (lustrumref04_Next.l0 k y0 y1 y2) (lustrumref04_Next.l0 (k + 1) y0 y1 y2))
  | 0 => fun _ _ _ r h => by simp [lustrumref04_Next.l0] at h
  | k + 1 => by
    have ih0 := lustrumref04_Next.mono_l k
    · intro y0 y1 y2
      unfold lustrumref04_Next.l0
      repeat' first
      | (with_reducible exact ih0 _ _ _)
      | (with_reducible exact lustrumref04_As.mono _ _)
      | (with_reducible exact LeO.refl _)
      | (with_reducible exact LeO.none _)
      | (with_reducible refine LeO.ite ?_ ?_)
      | (with_reducible refine LeO.bind ?_ (fun _ => ?_))
      | exact ih0 _ _ _
      | exact lustrumref04_As.mono _ _
      | exact LeO.none _
      | refine LeO.ite ?_ ?_
      | refine LeO.bind ?_ (fun _ => ?_)
theorem lustrumref04_Next.mono : ∀ a0 a1 k, LeO (lustrumref04_Next.f k a0 a1) (lustrumref04_Next.f (k + 1) a0 a1) := by
  intro a0 a1 k
  have ih0 := lustrumref04_Next.mono_l k
  unfold lustrumref04_Next.f
  repeat' first
      | (with_reducible exact ih0 _ _ _)
      | (with_reducible exact lustrumref04_As.mono _ _)
      | (with_reducible exact LeO.refl _)
      | (with_reducible exact LeO.none _)
      | (with_reducible refine LeO.ite ?_ ?_)
      | (with_reducible refine LeO.bind ?_ (fun _ => ?_))
      | exact ih0 _ _ _
      | exact lustrumref04_As.mono _ _
      | exact LeO.none _
      | refine LeO.ite ?_ ?_
      | refine LeO.bind ?_ (fun _ => ?_)
def runs_Prev.j0 : Nat → List (S25) → Int → Int → Bool → Option (Int × Bool)
  | 0, _, _, _, _ => none
  | k + 1, x0, x1, x6, x24 => if x24 = true then (some (x1, true)) else (if x6 = 0 then (some (0, false)) else (if 0 ≤ (wrap64 (x6 - 1)) then (if (wrap64 (x6 - 1)) < (x0.length : Int) then (some ((rd_T25 x0 (wrap64 (x6 - 1))).f1, true)) else (none)) else (none)))
def runs_Prev.f (k : Nat) (l0 : List (S25)) (a1 : Int) : Option (Int × Bool) := (runs_known.f k l0).bind fun t246 => ((runs_at.f t246 a1).bind fun t249 => (if t249 < (t246.length : Int) then (if 0 ≤ t249 then (runs_Prev.j0 k t246 a1 t249 (decide (((rd_T25 t246 t249).f0) ≤ a1))) else (none)) else (runs_Prev.j0 k t246 a1 t249 false)))
theorem runs_Prev.mono_l : ∀ k, (∀ y0 y1 y2 y3, LeO (runs_Prev.j0 k y0 y1 y2 y3) (runs_Prev.j0 (k + 1) y0 y1 y2 y3))
  | 0 => fun _ _ _ _ r h => by simp [runs_Prev.j0] at h
  | k + 1 => by
    have ih0 := runs_Prev.mono_l k
    · intro y0 y1 y2 y3
      unfold runs_Prev.j0
      repeat' first
      | (with_reducible exact ih0 _ _ _ _)
      | (with_reducible exact runs_known.mono _ _)
      | (with_reducible exact LeO.refl _)
      | (with_reducible exact LeO.none _)
      | (with_reducible refine LeO.ite ?_ ?_)
      | (with_reducible refine LeO.bind ?_ (fun _ => ?_))
      | exact ih0 _ _ _ _
      | exact runs_known.mono _ _
      | exact LeO.none _
      | refine LeO.ite ?_ ?_
      | refine LeO.bind ?_ (fun _ => ?_)
theorem runs_Prev.mono : ∀ a0 a1 k, LeO (runs_Prev.f k a0 a1) (runs_Prev.f (k + 1) a0 a1) := by
  intro a0 a1 k
  have ih0 := runs_Prev.mono_l k
  unfold runs_Prev.f
  repeat' first
      | (with_reducible exact ih0 _ _ _ _)
      | (with_reducible exact runs_known.mono _ _)
      | (with_reducible exact LeO.refl _)
      | (with_reducible exact LeO.none _)
      | (with_reducible refine LeO.ite ?_ ?_)
      | (with_reducible refine LeO.bind ?_ (fun _ => ?_))
      | exact ih0 _ _ _ _
      | exact runs_known.mono _ _
      | exact LeO.none _
      | refine LeO.ite ?_ ?_
      | refine LeO.bind ?_ (fun _ => ?_)
def lustrumref04_Prev.l0 : Nat → Int → List (S25) → Int → Option (Int × Bool)
  | 0, _, _, _ => none
  | k + 1, x1, x6, x7 => if x7 ≥ 0 then (if 0 ≤ x7 then (if x7 < (x6.length : Int) then (if ((rd_T25 x6 x7).f0) ≤ x1 then (some (mn x1 ((rd_T25 x6 x7).f1), true)) else (lustrumref04_Prev.l0 k x1 x6 (wrap64 (x7 - 1)))) else (none)) else (none)) else (some (0, false))
def lustrumref04_Prev.f (k : Nat) (l0 : List (S25)) (a1 : Int) : Option (Int × Bool) := (lustrumref04_As.f k l0).bind fun t252 => (lustrumref04_Prev.l0 k a1 t252 (wrap64 ((t252.length : Int) - 1)))
theorem lustrumref04_Prev.mono_l : ∀ k, (∀ y0 y1 y2, LeO (lustrumref04_Prev.l0 k y0 y1 y2) (lustrumref04_Prev.l0 (k + 1) y0 y1 y2))
  | 0 => fun _ _ _ r h => by simp [lustrumref04_Prev.l0] at h
  | k + 1 => by
    have ih0 := lustrumref04_Prev.mono_l k
    · intro y0 y1 y2
      unfold lustrumref04_Prev.l0
      repeat' first
      | (with_reducible exact ih0 _ _ _)
      | (with_reducible exact lustrumref04_As.mono _ _)
      | (with_reducible exact LeO.refl _)
      | (with_reducible exact LeO.none _)
      | (with_reducible refine LeO.ite ?_ ?_)
      | (with_reducible refine LeO.bind ?_ (fun _ => ?_))
      | exact ih0 _ _ _
      | exact lustrumref04_As.mono _ _
      | exact LeO.none _
      | refine LeO.ite ?_ ?_
      | refine LeO.bind ?_ (fun _ => ?_)
theorem lustrumref04_Prev.mono : ∀ a0 a1 k, LeO (lustrumref04_Prev.f k a0 a1) (lustrumref04_Prev.f (k + 1) a0 a1) := by
  intro a0 a1 k
  have ih0 := lustrumref04_Prev.mono_l k
  unfold lustrumref04_Prev.f
  repeat' first
      | (with_reducible exact ih0 _ _ _)
      | (with_reducible exact lustrumref04_As.mono _ _)
      | (with_reducible exact LeO.refl _)
      | (with_reducible exact LeO.none _)
      | (with_reducible refine LeO.ite ?_ ?_)
      | (with_reducible refine LeO.bind ?_ (fun _ => ?_))
      | exact ih0 _ _ _
      | exact lustrumref04_As.mono _ _
      | exact LeO.none _
      | refine LeO.ite ?_ ?_
      | refine LeO.bind ?_ (fun _ => ?_)
def lustrumref04_Of.l0 : Nat → List Int → List (S25) → Int → Option ((List (S25)))
  | 0, _, _, _ => none
  | k + 1, x0, x3, x4 => if x4 < (x0.length : Int) then (if 0 ≤ x4 then ((lustrumref04_put.f k x3 (rd x0 x4) (rd x0 x4)).bind fun t259 => (lustrumref04_Of.l0 k x0 t259 (wrap64 (x4 + 1)))) else (none)) else (some x3)
def lustrumref04_Of.f (k : Nat) (l0 : List Int) : Option ((List (S25))) := lustrumref04_Of.l0 k l0 ([] : List (S25)) 0
theorem lustrumref04_Of.mono_l : ∀ k, (∀ y0 y1 y2, LeO (lustrumref04_Of.l0 k y0 y1 y2) (lustrumref04_Of.l0 (k + 1) y0 y1 y2))
  | 0 => fun _ _ _ r h => by simp [lustrumref04_Of.l0] at h
  | k + 1 => by
    have ih0 := lustrumref04_Of.mono_l k
    · intro y0 y1 y2
      unfold lustrumref04_Of.l0
      repeat' first
      | (with_reducible exact ih0 _ _ _)
      | (with_reducible exact lustrumref04_put.mono _ _ _ _)
      | (with_reducible exact LeO.refl _)
      | (with_reducible exact LeO.none _)
      | (with_reducible refine LeO.ite ?_ ?_)
      | (with_reducible refine LeO.bind ?_ (fun _ => ?_))
      | exact ih0 _ _ _
      | exact lustrumref04_put.mono _ _ _ _
      | exact LeO.none _
      | refine LeO.ite ?_ ?_
      | refine LeO.bind ?_ (fun _ => ?_)
theorem lustrumref04_Of.mono : ∀ a0 k, LeO (lustrumref04_Of.f k a0) (lustrumref04_Of.f (k + 1) a0) := by
  intro a0 k
  have ih0 := lustrumref04_Of.mono_l k
  unfold lustrumref04_Of.f
  repeat' first
      | (with_reducible exact ih0 _ _ _)
      | (with_reducible exact lustrumref04_put.mono _ _ _ _)
      | (with_reducible exact LeO.refl _)
      | (with_reducible exact LeO.none _)
      | (with_reducible refine LeO.ite ?_ ?_)
      | (with_reducible refine LeO.bind ?_ (fun _ => ?_))
      | exact ih0 _ _ _
      | exact lustrumref04_put.mono _ _ _ _
      | exact LeO.none _
      | refine LeO.ite ?_ ?_
      | refine LeO.bind ?_ (fun _ => ?_)
end Go.Proofs.Ytkbcmjejfbbcpaa.A

namespace Go.Proofs.Ytkbcmjejfbbcpaa.A
open Go.RowKit Go.Proofs.YtkbcmjejfbbcpaaW.PrintWords Go.Proofs.YtkbcmjejfbbcpaaW.PrintLast Go.Proofs.YtkbcmjejfbbcpaaW.PrintMore
attribute [local go_sem] max2_int min2_int max_two min_two max_three min_three max_four min_four
set_option linter.unusedVariables false
set_option linter.unusedSimpArgs false
def lustrumref04_Has.l0 : Nat → Int → List (S25) → Int → Option (Bool)
  | 0, _, _, _ => none
  | k + 1, x1, x5, x6 => if x6 < (x5.length : Int) then (if 0 ≤ x6 then (if x1 ≥ ((rd_T25 x5 x6).f0) then (if x1 ≤ ((rd_T25 x5 x6).f1) then (some true) else (lustrumref04_Has.l0 k x1 x5 (wrap64 (x6 + 1)))) else (lustrumref04_Has.l0 k x1 x5 (wrap64 (x6 + 1)))) else (none)) else (some false)
def lustrumref04_Has.f (k : Nat) (l0 : List (S25)) (a1 : Int) : Option (Bool) := (lustrumref04_As.f k l0).bind fun t262 => (lustrumref04_Has.l0 k a1 t262 0)
theorem lustrumref04_Has.mono_l : ∀ k, (∀ y0 y1 y2, LeO (lustrumref04_Has.l0 k y0 y1 y2) (lustrumref04_Has.l0 (k + 1) y0 y1 y2))
  | 0 => fun _ _ _ r h => by simp [lustrumref04_Has.l0] at h
  | k + 1 => by
    have ih0 := lustrumref04_Has.mono_l k
    · intro y0 y1 y2
      unfold lustrumref04_Has.l0
      repeat' first
      | (with_reducible exact ih0 _ _ _)
      | (with_reducible exact lustrumref04_As.mono _ _)
      | (with_reducible exact LeO.refl _)
      | (with_reducible exact LeO.none _)
      | (with_reducible refine LeO.ite ?_ ?_)
      | (with_reducible refine LeO.bind ?_ (fun _ => ?_))
      | exact ih0 _ _ _
      | exact lustrumref04_As.mono _ _
      | exact LeO.none _
      | refine LeO.ite ?_ ?_
      | refine LeO.bind ?_ (fun _ => ?_)
theorem lustrumref04_Has.mono : ∀ a0 a1 k, LeO (lustrumref04_Has.f k a0 a1) (lustrumref04_Has.f (k + 1) a0 a1) := by
  intro a0 a1 k
  have ih0 := lustrumref04_Has.mono_l k
  unfold lustrumref04_Has.f
  repeat' first
      | (with_reducible exact ih0 _ _ _)
      | (with_reducible exact lustrumref04_As.mono _ _)
      | (with_reducible exact LeO.refl _)
      | (with_reducible exact LeO.none _)
      | (with_reducible refine LeO.ite ?_ ?_)
      | (with_reducible refine LeO.bind ?_ (fun _ => ?_))
      | exact ih0 _ _ _
      | exact lustrumref04_As.mono _ _
      | exact LeO.none _
      | refine LeO.ite ?_ ?_
      | refine LeO.bind ?_ (fun _ => ?_)
def lustrumref04_Count.l0 : Nat → List (S25) → Int → Int → Option (Int)
  | 0, _, _, _ => none
  | k + 1, x3, x4, x5 => if x5 < (x3.length : Int) then (if 0 ≤ x5 then (lustrumref04_Count.l0 k x3 (wrap64 ((wrap64 ((wrap64 (x4 + ((rd_T25 x3 x5).f1))) - ((rd_T25 x3 x5).f0))) + 1)) (wrap64 (x5 + 1))) else (none)) else (some x4)
def lustrumref04_Count.f (k : Nat) (l0 : List (S25)) : Option (Int) := (lustrumref04_As.f k l0).bind fun t267 => (lustrumref04_Count.l0 k t267 0 0)
theorem lustrumref04_Count.mono_l : ∀ k, (∀ y0 y1 y2, LeO (lustrumref04_Count.l0 k y0 y1 y2) (lustrumref04_Count.l0 (k + 1) y0 y1 y2))
  | 0 => fun _ _ _ r h => by simp [lustrumref04_Count.l0] at h
  | k + 1 => by
    have ih0 := lustrumref04_Count.mono_l k
    · intro y0 y1 y2
      unfold lustrumref04_Count.l0
      repeat' first
      | (with_reducible exact ih0 _ _ _)
      | (with_reducible exact lustrumref04_As.mono _ _)
      | (with_reducible exact LeO.refl _)
      | (with_reducible exact LeO.none _)
      | (with_reducible refine LeO.ite ?_ ?_)
      | (with_reducible refine LeO.bind ?_ (fun _ => ?_))
      | exact ih0 _ _ _
      | exact lustrumref04_As.mono _ _
      | exact LeO.none _
      | refine LeO.ite ?_ ?_
      | refine LeO.bind ?_ (fun _ => ?_)
theorem lustrumref04_Count.mono : ∀ a0 k, LeO (lustrumref04_Count.f k a0) (lustrumref04_Count.f (k + 1) a0) := by
  intro a0 k
  have ih0 := lustrumref04_Count.mono_l k
  unfold lustrumref04_Count.f
  repeat' first
      | (with_reducible exact ih0 _ _ _)
      | (with_reducible exact lustrumref04_As.mono _ _)
      | (with_reducible exact LeO.refl _)
      | (with_reducible exact LeO.none _)
      | (with_reducible refine LeO.ite ?_ ?_)
      | (with_reducible refine LeO.bind ?_ (fun _ => ?_))
      | exact ih0 _ _ _
      | exact lustrumref04_As.mono _ _
      | exact LeO.none _
      | refine LeO.ite ?_ ?_
      | refine LeO.bind ?_ (fun _ => ?_)
mutual
def lustrumlaw04_RunsIs.j0 : Nat → List (S25) → List Int → Int → Bool → Bool → Option (Bool)
  | 0, _, _, _, _, _ => none
  | k + 1, x0, x1, x2, x7, x24 => if x24 = true then (some x7) else ((runs_Next.f k x0 x2).bind fun bt273 => ((lustrumref04_Next.f k x0 x2).bind fun bt275 => ((runs_Prev.f k x0 x2).bind fun bt277 => ((lustrumref04_Prev.f k x0 x2).bind fun bt279 => (if bt273.1 = bt275.1 then (if (bt273.2 != bt275.2) = true then (lustrumlaw04_RunsIs.j1 k x0 x1 x2 x7 true) else (if bt277.1 = bt279.1 then (lustrumlaw04_RunsIs.j1 k x0 x1 x2 x7 (bt277.2 != bt279.2)) else (lustrumlaw04_RunsIs.j1 k x0 x1 x2 x7 true))) else (lustrumlaw04_RunsIs.j1 k x0 x1 x2 x7 true))))))
def lustrumlaw04_RunsIs.j1 : Nat → List (S25) → List Int → Int → Bool → Bool → Option (Bool)
  | 0, _, _, _, _, _ => none
  | k + 1, x0, x1, x2, x7, x67 => if x67 = true then (some false) else (if x7 = true then ((runs_Sane.f k x0).bind fun t281 => ((lustrumref04_Sane.f k x0).bind fun t282 => (if (t281 == t282) = true then ((runs_Make.f x0).bind fun t283 => ((lustrumref04_Make.f k x0).bind fun t286 => ((lustrumref04_Same.f k t283 t286).bind fun t289 => (if t289 = true then ((runs_Of.f k x1).bind fun t290 => ((lustrumref04_Of.f k x1).bind fun t293 => ((lustrumref04_Same.f k t290 t293).bind fun t296 => (if t296 = true then ((runs_Has.f k x0 x2).bind fun t297 => ((lustrumref04_Has.f k x0 x2).bind fun t298 => (if (t297 == t298) = true then ((runs_Count.f k x0).bind fun t299 => ((lustrumref04_Count.f k x0).bind fun t300 => (some (t299 == t300)))) else (some false)))) else (some false))))) else (some false))))) else (some false)))) else (some false))
end
def lustrumlaw04_RunsIs.f (k : Nat) (l0 : List (S25)) (l1 : List Int) (a2 : Int) : Option (Bool) := (lustrumlaw04_awake.f k).bind fun t272 => (if (l0.length : Int) > 40 then (lustrumlaw04_RunsIs.j0 k l0 l1 a2 t272 true) else (lustrumlaw04_RunsIs.j0 k l0 l1 a2 t272 (decide ((l1.length : Int) > 40))))
theorem lustrumlaw04_RunsIs.mono_l : ∀ k, (∀ y0 y1 y2 y3 y4, LeO (lustrumlaw04_RunsIs.j0 k y0 y1 y2 y3 y4) (lustrumlaw04_RunsIs.j0 (k + 1) y0 y1 y2 y3 y4)) ∧ (∀ y0 y1 y2 y3 y4, LeO (lustrumlaw04_RunsIs.j1 k y0 y1 y2 y3 y4) (lustrumlaw04_RunsIs.j1 (k + 1) y0 y1 y2 y3 y4))
  | 0 => ⟨fun _ _ _ _ _ r h => by simp [lustrumlaw04_RunsIs.j0] at h, fun _ _ _ _ _ r h => by simp [lustrumlaw04_RunsIs.j1] at h⟩
  | k + 1 => by
    obtain ⟨ih0, ih1⟩ := lustrumlaw04_RunsIs.mono_l k
    refine ⟨?_, ?_⟩
    · intro y0 y1 y2 y3 y4
      unfold lustrumlaw04_RunsIs.j0
      repeat' first
      | (with_reducible exact ih0 _ _ _ _ _)
      | (with_reducible exact ih1 _ _ _ _ _)
      | (with_reducible exact lustrumlaw04_awake.mono _)
      | (with_reducible exact lustrumref04_Count.mono _ _)
      | (with_reducible exact lustrumref04_Has.mono _ _ _)
      | (with_reducible exact lustrumref04_Make.mono _ _)
      | (with_reducible exact lustrumref04_Next.mono _ _ _)
      | (with_reducible exact lustrumref04_Of.mono _ _)
      | (with_reducible exact lustrumref04_Prev.mono _ _ _)
      | (with_reducible exact lustrumref04_Same.mono _ _ _)
      | (with_reducible exact lustrumref04_Sane.mono _ _)
      | (with_reducible exact runs_Count.mono _ _)
      | (with_reducible exact runs_Has.mono _ _ _)
      | (with_reducible exact runs_Next.mono _ _ _)
      | (with_reducible exact runs_Of.mono _ _)
      | (with_reducible exact runs_Prev.mono _ _ _)
      | (with_reducible exact runs_Sane.mono _ _)
      | (with_reducible exact LeO.refl _)
      | (with_reducible exact LeO.none _)
      | (with_reducible refine LeO.ite ?_ ?_)
      | (with_reducible refine LeO.bind ?_ (fun _ => ?_))
      | exact ih0 _ _ _ _ _
      | exact ih1 _ _ _ _ _
      | exact lustrumlaw04_awake.mono _
      | exact lustrumref04_Count.mono _ _
      | exact lustrumref04_Has.mono _ _ _
      | exact lustrumref04_Make.mono _ _
      | exact lustrumref04_Next.mono _ _ _
      | exact lustrumref04_Of.mono _ _
      | exact lustrumref04_Prev.mono _ _ _
      | exact lustrumref04_Same.mono _ _ _
      | exact lustrumref04_Sane.mono _ _
      | exact runs_Count.mono _ _
      | exact runs_Has.mono _ _ _
      | exact runs_Next.mono _ _ _
      | exact runs_Of.mono _ _
      | exact runs_Prev.mono _ _ _
      | exact runs_Sane.mono _ _
      | exact LeO.none _
      | refine LeO.ite ?_ ?_
      | refine LeO.bind ?_ (fun _ => ?_)
    · intro y0 y1 y2 y3 y4
      unfold lustrumlaw04_RunsIs.j1
      repeat' first
      | (with_reducible exact ih0 _ _ _ _ _)
      | (with_reducible exact ih1 _ _ _ _ _)
      | (with_reducible exact lustrumlaw04_awake.mono _)
      | (with_reducible exact lustrumref04_Count.mono _ _)
      | (with_reducible exact lustrumref04_Has.mono _ _ _)
      | (with_reducible exact lustrumref04_Make.mono _ _)
      | (with_reducible exact lustrumref04_Next.mono _ _ _)
      | (with_reducible exact lustrumref04_Of.mono _ _)
      | (with_reducible exact lustrumref04_Prev.mono _ _ _)
      | (with_reducible exact lustrumref04_Same.mono _ _ _)
      | (with_reducible exact lustrumref04_Sane.mono _ _)
      | (with_reducible exact runs_Count.mono _ _)
      | (with_reducible exact runs_Has.mono _ _ _)
      | (with_reducible exact runs_Next.mono _ _ _)
      | (with_reducible exact runs_Of.mono _ _)
      | (with_reducible exact runs_Prev.mono _ _ _)
      | (with_reducible exact runs_Sane.mono _ _)
      | (with_reducible exact LeO.refl _)
      | (with_reducible exact LeO.none _)
      | (with_reducible refine LeO.ite ?_ ?_)
      | (with_reducible refine LeO.bind ?_ (fun _ => ?_))
      | exact ih0 _ _ _ _ _
      | exact ih1 _ _ _ _ _
      | exact lustrumlaw04_awake.mono _
      | exact lustrumref04_Count.mono _ _
      | exact lustrumref04_Has.mono _ _ _
      | exact lustrumref04_Make.mono _ _
      | exact lustrumref04_Next.mono _ _ _
      | exact lustrumref04_Of.mono _ _
      | exact lustrumref04_Prev.mono _ _ _
      | exact lustrumref04_Same.mono _ _ _
      | exact lustrumref04_Sane.mono _ _
      | exact runs_Count.mono _ _
      | exact runs_Has.mono _ _ _
      | exact runs_Next.mono _ _ _
      | exact runs_Of.mono _ _
      | exact runs_Prev.mono _ _ _
      | exact runs_Sane.mono _ _
      | exact LeO.none _
      | refine LeO.ite ?_ ?_
      | refine LeO.bind ?_ (fun _ => ?_)
theorem lustrumlaw04_RunsIs.mono : ∀ a0 a1 a2 k, LeO (lustrumlaw04_RunsIs.f k a0 a1 a2) (lustrumlaw04_RunsIs.f (k + 1) a0 a1 a2) := by
  intro a0 a1 a2 k
  obtain ⟨ih0, ih1⟩ := lustrumlaw04_RunsIs.mono_l k
  unfold lustrumlaw04_RunsIs.f
  repeat' first
      | (with_reducible exact ih0 _ _ _ _ _)
      | (with_reducible exact ih1 _ _ _ _ _)
      | (with_reducible exact lustrumlaw04_awake.mono _)
      | (with_reducible exact lustrumref04_Count.mono _ _)
      | (with_reducible exact lustrumref04_Has.mono _ _ _)
      | (with_reducible exact lustrumref04_Make.mono _ _)
      | (with_reducible exact lustrumref04_Next.mono _ _ _)
      | (with_reducible exact lustrumref04_Of.mono _ _)
      | (with_reducible exact lustrumref04_Prev.mono _ _ _)
      | (with_reducible exact lustrumref04_Same.mono _ _ _)
      | (with_reducible exact lustrumref04_Sane.mono _ _)
      | (with_reducible exact runs_Count.mono _ _)
      | (with_reducible exact runs_Has.mono _ _ _)
      | (with_reducible exact runs_Next.mono _ _ _)
      | (with_reducible exact runs_Of.mono _ _)
      | (with_reducible exact runs_Prev.mono _ _ _)
      | (with_reducible exact runs_Sane.mono _ _)
      | (with_reducible exact LeO.refl _)
      | (with_reducible exact LeO.none _)
      | (with_reducible refine LeO.ite ?_ ?_)
      | (with_reducible refine LeO.bind ?_ (fun _ => ?_))
      | exact ih0 _ _ _ _ _
      | exact ih1 _ _ _ _ _
      | exact lustrumlaw04_awake.mono _
      | exact lustrumref04_Count.mono _ _
      | exact lustrumref04_Has.mono _ _ _
      | exact lustrumref04_Make.mono _ _
      | exact lustrumref04_Next.mono _ _ _
      | exact lustrumref04_Of.mono _ _
      | exact lustrumref04_Prev.mono _ _ _
      | exact lustrumref04_Same.mono _ _ _
      | exact lustrumref04_Sane.mono _ _
      | exact runs_Count.mono _ _
      | exact runs_Has.mono _ _ _
      | exact runs_Next.mono _ _ _
      | exact runs_Of.mono _ _
      | exact runs_Prev.mono _ _ _
      | exact runs_Sane.mono _ _
      | exact LeO.none _
      | refine LeO.ite ?_ ?_
      | refine LeO.bind ?_ (fun _ => ?_)
end Go.Proofs.Ytkbcmjejfbbcpaa.A

namespace Go.Proofs.Ytkbcmjejfbbcpaa.A.At
open Go.RowKit Go.Proofs.YtkbcmjejfbbcpaaW.PrintWords Go.Proofs.YtkbcmjejfbbcpaaW.PrintLast Go.Proofs.YtkbcmjejfbbcpaaW.PrintMore
attribute [local go_sem] max2_int min2_int max_two min_two max_three min_three max_four min_four
set_option linter.unusedVariables false
set_option linter.unusedSimpArgs false
def cmp_isNaN_int.f (a0 : Int) : Option (Bool) := some (a0 != a0)
def cmp_Compare_int.f (a0 : Int) (a1 : Int) : Option (Int) := (cmp_isNaN_int.f a0).bind fun t101 => ((cmp_isNaN_int.f a1).bind fun t102 => (if t101 = true then (if t102 = true then (some 0) else (some (-1))) else (if t102 = true then (some 1) else (if a0 < a1 then (some (-1)) else (if a0 > a1 then (some 1) else (some 0))))))
def runs_at_1.f (a0_0 : Int) (a0_1 : Int) (a1 : Int) : Option (Int) := (cmp_Compare_int.f a0_1 a1).bind fun t104 => (some t104)
def api_Run_int.l0 : Nat → List (S25) → Int → Int → Int → Int → Option (Int × Bool)
  | 0, _, _, _, _, _ => none
  | k + 1, x0, x1, x8, x9, x10 => if x9 < x10 then (if 0 ≤ (wrap64 ((IntKind.u64.wrap (wrap64 (x9 + x10))) / 2)) then (if (wrap64 ((IntKind.u64.wrap (wrap64 (x9 + x10))) / 2)) < (x0.length : Int) then ((runs_at_1.f ((rd_T25 x0 (wrap64 ((IntKind.u64.wrap (wrap64 (x9 + x10))) / 2))).f0) ((rd_T25 x0 (wrap64 ((IntKind.u64.wrap (wrap64 (x9 + x10))) / 2))).f1) x1).bind fun t106 => (if t106 < 0 then (api_Run_int.l0 k x0 x1 x8 (wrap64 ((wrap64 ((IntKind.u64.wrap (wrap64 (x9 + x10))) / 2)) + 1)) x10) else (api_Run_int.l0 k x0 x1 x8 x9 (wrap64 ((IntKind.u64.wrap (wrap64 (x9 + x10))) / 2))))) else (none)) else (none)) else (if x9 < x8 then (if 0 ≤ x9 then (if x9 < (x0.length : Int) then ((runs_at_1.f ((rd_T25 x0 x9).f0) ((rd_T25 x0 x9).f1) x1).bind fun t108 => (some (x9, (t108 == 0)))) else (none)) else (none)) else (some (x9, false)))
def api_Run_int.f (k : Nat) (l0 : List (S25)) (a1 : Int)  : Option (Int × Bool) := api_Run_int.l0 k l0 a1 (l0.length : Int) 0 (l0.length : Int)
theorem api_Run_int.mono_l : ∀ k, (∀ y0 y1 y2 y3 y4, LeO (api_Run_int.l0 k y0 y1 y2 y3 y4) (api_Run_int.l0 (k + 1) y0 y1 y2 y3 y4))
  | 0 => fun _ _ _ _ _ r h => by simp [api_Run_int.l0] at h
  | k + 1 => by
    have ih0 := api_Run_int.mono_l k
    · intro y0 y1 y2 y3 y4
      unfold api_Run_int.l0
      repeat' first
      | (with_reducible exact ih0 _ _ _ _ _)
      | (with_reducible exact LeO.refl _)
      | (with_reducible exact LeO.none _)
      | (with_reducible refine LeO.ite ?_ ?_)
      | (with_reducible refine LeO.bind ?_ (fun _ => ?_))
      | exact ih0 _ _ _ _ _
      | exact LeO.none _
      | refine LeO.ite ?_ ?_
      | refine LeO.bind ?_ (fun _ => ?_)
theorem api_Run_int.mono : ∀ a0 a1 k, LeO (api_Run_int.f k a0 a1) (api_Run_int.f (k + 1) a0 a1) := by
  intro a0 a1 k
  have ih0 := api_Run_int.mono_l k
  unfold api_Run_int.f
  repeat' first
      | (with_reducible exact ih0 _ _ _ _ _)
      | (with_reducible exact LeO.refl _)
      | (with_reducible exact LeO.none _)
      | (with_reducible refine LeO.ite ?_ ?_)
      | (with_reducible refine LeO.bind ?_ (fun _ => ?_))
      | exact ih0 _ _ _ _ _
      | exact LeO.none _
      | refine LeO.ite ?_ ?_
      | refine LeO.bind ?_ (fun _ => ?_)
def runs_at.f (k : Nat) (l0 : List (S25)) (a1 : Int) : Option (Int) := (api_Run_int.f k l0 a1).bind fun bt109 => (some bt109.1)
theorem runs_at.mono : ∀ a0 a1 k, LeO (runs_at.f k a0 a1) (runs_at.f (k + 1) a0 a1) := by
  intro a0 a1 k
  unfold runs_at.f
  repeat' first
      | (with_reducible exact api_Run_int.mono _ _ _)
      | (with_reducible exact LeO.refl _)
      | (with_reducible exact LeO.none _)
      | (with_reducible refine LeO.ite ?_ ?_)
      | (with_reducible refine LeO.bind ?_ (fun _ => ?_))
      | exact api_Run_int.mono _ _ _
      | exact LeO.none _
      | refine LeO.ite ?_ ?_
      | refine LeO.bind ?_ (fun _ => ?_)
end Go.Proofs.Ytkbcmjejfbbcpaa.A.At

namespace Go.Proofs.Ytkbcmjejfbbcpaa.A.At
open Go.RowKit Go.Proofs.YtkbcmjejfbbcpaaW.PrintWords Go.Proofs.YtkbcmjejfbbcpaaW.PrintLast Go.Proofs.YtkbcmjejfbbcpaaW.PrintMore
attribute [local go_sem] max2_int min2_int max_two min_two max_three min_three max_four min_four
set_option linter.unusedVariables false
set_option linter.unusedSimpArgs false
attribute [local go_sem] isSome_setCell
set_option maxHeartbeats 8000000 in
set_option maxRecDepth 100000 in
theorem cmp_isNaN_int.calls (a0 : Int) (r : Bool) (w : World) (h : cmp_isNaN_int.f a0 = some r) :
  Calls Try.prog 63 #[.int .i64 a0] w fun e w' => e = .returned (.bool r) ∧ Drawn0 w w' := by
 have H : (some (a0 != a0)) = some r := h; clear h; obtain rfl := Option.some.inj H; go_enter Try.func63, Try.ntmps63; go_wp2; go_ret; exact ⟨by first | rfl | (simp; done) | (simp [*]; done), by repeat (first | exact Drawn0.refl _ | apply Drawn0.step)⟩
set_option maxHeartbeats 8000000 in
set_option maxRecDepth 100000 in
theorem cmp_Compare_int.calls (a0 : Int) (a1 : Int) (r : Int) (w : World) (h : cmp_Compare_int.f a0 a1 = some r) :
  Calls Try.prog 57 #[.int .i64 a0, .int .i64 a1] w fun e w' => e = .returned (.int .i64 r) ∧ Drawn0 w w' := by
 have H : ((cmp_isNaN_int.f a0).bind fun t101 => ((cmp_isNaN_int.f a1).bind fun t102 => (if t101 = true then (if t102 = true then (some 0) else (some (-1))) else (if t102 = true then (some 1) else (if a0 < a1 then (some (-1)) else (if a0 > a1 then (some 1) else (some 0))))))) = some r := h; clear h; replace H := Option.bind_eq_some_iff.mp H; obtain ⟨t101, A30, H⟩ := H; replace H : ((cmp_isNaN_int.f a1).bind fun t102 => (if t101 = true then (if t102 = true then (some 0) else (some (-1))) else (if t102 = true then (some 1) else (if a0 < a1 then (some (-1)) else (if a0 > a1 then (some 1) else (some 0)))))) = some r := H; have A3 := Aside0.mk A30; clear A30; replace H := Option.bind_eq_some_iff.mp H; obtain ⟨t102, A40, H⟩ := H; replace H : (if t101 = true then (if t102 = true then (some 0) else (some (-1))) else (if t102 = true then (some 1) else (if a0 < a1 then (some (-1)) else (if a0 > a1 then (some 1) else (some 0))))) = some r := H; have A4 := Aside0.mk A40; clear A40
 by_cases c5 : t101 = true
 ·subst c5
  (have H1 : (if t102 = true then (some 0) else (some (-1))) = some r := by rw [if_pos rfl] at H; exact H); clear H; have H := H1; clear H1
  by_cases c6 : t102 = true
  ·subst c6
   (have H1 : (some 0) = some r := by rw [if_pos rfl] at H; exact H); clear H; have H := H1; clear H1; obtain rfl := Option.some.inj H; go_enter Try.func57, Try.ntmps57; go_wp2_with (first | ((with_reducible refine gate_callee (f := 63) rfl ?_); refine goesL_ (some 8) rfl rfl Try.func63 (by kernel_rfl) rfl #[.int .i64 a0] rfl ml_ ?_; (with_reducible refine (cmp_isNaN_int.calls a0 true _ A3.out).mono ?_); rintro e w' ⟨rfl, ⟨nd, rfl⟩⟩; refine ⟨_, rfl, ?_⟩) | ((with_reducible refine gate_callee (f := 63) rfl ?_); refine goesL_ (some 10) rfl rfl Try.func63 (by kernel_rfl) rfl #[.int .i64 a1] rfl ml_ ?_; (with_reducible refine (cmp_isNaN_int.calls a1 true _ A4.out).mono ?_); rintro e w' ⟨rfl, ⟨nd, rfl⟩⟩; refine ⟨_, rfl, ?_⟩)); go_ret; exact ⟨by first | rfl | (simp; done) | (simp [*]; done), by repeat (first | exact Drawn0.refl _ | apply Drawn0.step)⟩
  ·replace c6 := Bool.eq_false_iff.mpr c6
   subst c6; (have H1 : (some (-1)) = some r := by rw [if_neg (show ¬ (false = true) by decide)] at H; exact H); clear H; have H := H1; clear H1; obtain rfl := Option.some.inj H; go_enter Try.func57, Try.ntmps57; go_wp2_with (first | ((with_reducible refine gate_callee (f := 63) rfl ?_); refine goesL_ (some 8) rfl rfl Try.func63 (by kernel_rfl) rfl #[.int .i64 a0] rfl ml_ ?_; (with_reducible refine (cmp_isNaN_int.calls a0 true _ A3.out).mono ?_); rintro e w' ⟨rfl, ⟨nd, rfl⟩⟩; refine ⟨_, rfl, ?_⟩) | ((with_reducible refine gate_callee (f := 63) rfl ?_); refine goesL_ (some 10) rfl rfl Try.func63 (by kernel_rfl) rfl #[.int .i64 a1] rfl ml_ ?_; (with_reducible refine (cmp_isNaN_int.calls a1 false _ A4.out).mono ?_); rintro e w' ⟨rfl, ⟨nd, rfl⟩⟩; refine ⟨_, rfl, ?_⟩)); go_ret; exact ⟨by first | rfl | (simp; done) | (simp [*]; done), by repeat (first | exact Drawn0.refl _ | apply Drawn0.step)⟩
 ·replace c5 := Bool.eq_false_iff.mpr c5
  subst c5; (have H1 : (if t102 = true then (some 1) else (if a0 < a1 then (some (-1)) else (if a0 > a1 then (some 1) else (some 0)))) = some r := by rw [if_neg (show ¬ (false = true) by decide)] at H; exact H); clear H; have H := H1; clear H1
  by_cases c7 : t102 = true
  ·subst c7
   (have H1 : (some 1) = some r := by rw [if_pos rfl] at H; exact H); clear H; have H := H1; clear H1; obtain rfl := Option.some.inj H; go_enter Try.func57, Try.ntmps57; go_wp2_with (first | ((with_reducible refine gate_callee (f := 63) rfl ?_); refine goesL_ (some 8) rfl rfl Try.func63 (by kernel_rfl) rfl #[.int .i64 a0] rfl ml_ ?_; (with_reducible refine (cmp_isNaN_int.calls a0 false _ A3.out).mono ?_); rintro e w' ⟨rfl, ⟨nd, rfl⟩⟩; refine ⟨_, rfl, ?_⟩) | ((with_reducible refine gate_callee (f := 63) rfl ?_); refine goesL_ (some 10) rfl rfl Try.func63 (by kernel_rfl) rfl #[.int .i64 a1] rfl ml_ ?_; (with_reducible refine (cmp_isNaN_int.calls a1 true _ A4.out).mono ?_); rintro e w' ⟨rfl, ⟨nd, rfl⟩⟩; refine ⟨_, rfl, ?_⟩)); go_ret; exact ⟨by first | rfl | (simp; done) | (simp [*]; done), by repeat (first | exact Drawn0.refl _ | apply Drawn0.step)⟩
  ·replace c7 := Bool.eq_false_iff.mpr c7
   subst c7; (have H1 : (if a0 < a1 then (some (-1)) else (if a0 > a1 then (some 1) else (some 0))) = some r := by rw [if_neg (show ¬ (false = true) by decide)] at H; exact H); clear H; have H := H1; clear H1
   by_cases c8 : a0 < a1
   ·rw [if_pos c8] at H
    have c8b0 : decide (a0 < a1) = true := decide_eq_true c8; clear c8; obtain rfl := Option.some.inj H; go_enter Try.func57, Try.ntmps57; go_wp2_with (first | ((with_reducible refine gate_callee (f := 63) rfl ?_); refine goesL_ (some 8) rfl rfl Try.func63 (by kernel_rfl) rfl #[.int .i64 a0] rfl ml_ ?_; (with_reducible refine (cmp_isNaN_int.calls a0 false _ A3.out).mono ?_); rintro e w' ⟨rfl, ⟨nd, rfl⟩⟩; refine ⟨_, rfl, ?_⟩) | ((with_reducible refine gate_callee (f := 63) rfl ?_); refine goesL_ (some 10) rfl rfl Try.func63 (by kernel_rfl) rfl #[.int .i64 a1] rfl ml_ ?_; (with_reducible refine (cmp_isNaN_int.calls a1 false _ A4.out).mono ?_); rintro e w' ⟨rfl, ⟨nd, rfl⟩⟩; refine ⟨_, rfl, ?_⟩)); go_ret; exact ⟨by first | rfl | (simp; done) | (simp [*]; done), by repeat (first | exact Drawn0.refl _ | apply Drawn0.step)⟩
   ·rw [if_neg c8] at H
    have c8b0 : decide (a0 < a1) = false := decide_eq_false c8; clear c8
    by_cases c9 : a0 > a1
    ·rw [if_pos c9] at H
     have c9b0 : decide (a1 < a0) = true := decide_eq_true c9; clear c9; obtain rfl := Option.some.inj H; go_enter Try.func57, Try.ntmps57; go_wp2_with (first | ((with_reducible refine gate_callee (f := 63) rfl ?_); refine goesL_ (some 8) rfl rfl Try.func63 (by kernel_rfl) rfl #[.int .i64 a0] rfl ml_ ?_; (with_reducible refine (cmp_isNaN_int.calls a0 false _ A3.out).mono ?_); rintro e w' ⟨rfl, ⟨nd, rfl⟩⟩; refine ⟨_, rfl, ?_⟩) | ((with_reducible refine gate_callee (f := 63) rfl ?_); refine goesL_ (some 10) rfl rfl Try.func63 (by kernel_rfl) rfl #[.int .i64 a1] rfl ml_ ?_; (with_reducible refine (cmp_isNaN_int.calls a1 false _ A4.out).mono ?_); rintro e w' ⟨rfl, ⟨nd, rfl⟩⟩; refine ⟨_, rfl, ?_⟩)); go_ret; exact ⟨by first | rfl | (simp; done) | (simp [*]; done), by repeat (first | exact Drawn0.refl _ | apply Drawn0.step)⟩
    ·rw [if_neg c9] at H
     have c9b0 : decide (a1 < a0) = false := decide_eq_false c9; clear c9; obtain rfl := Option.some.inj H; go_enter Try.func57, Try.ntmps57; go_wp2_with (first | ((with_reducible refine gate_callee (f := 63) rfl ?_); refine goesL_ (some 8) rfl rfl Try.func63 (by kernel_rfl) rfl #[.int .i64 a0] rfl ml_ ?_; (with_reducible refine (cmp_isNaN_int.calls a0 false _ A3.out).mono ?_); rintro e w' ⟨rfl, ⟨nd, rfl⟩⟩; refine ⟨_, rfl, ?_⟩) | ((with_reducible refine gate_callee (f := 63) rfl ?_); refine goesL_ (some 10) rfl rfl Try.func63 (by kernel_rfl) rfl #[.int .i64 a1] rfl ml_ ?_; (with_reducible refine (cmp_isNaN_int.calls a1 false _ A4.out).mono ?_); rintro e w' ⟨rfl, ⟨nd, rfl⟩⟩; refine ⟨_, rfl, ?_⟩)); go_ret; exact ⟨by first | rfl | (simp; done) | (simp [*]; done), by repeat (first | exact Drawn0.refl _ | apply Drawn0.step)⟩
set_option maxHeartbeats 8000000 in
set_option maxRecDepth 100000 in
theorem runs_at_1.calls (a0_0 : Int) (a0_1 : Int) (a1 : Int) (r : Int) (w : World) (h : runs_at_1.f a0_0 a0_1 a1 = some r) :
  Calls Try.prog 61 #[.agg #[.int .i64 a0_0, .int .i64 a0_1], .int .i64 a1] w fun e w' => e = .returned (.int .i64 r) ∧ Below w.heap.size w w' := by
 have hu25 := Try.underlying25; have HB := Aside0.mk (Below.refl w.heap.size w); have H : ((cmp_Compare_int.f a0_1 a1).bind fun t104 => (some t104)) = some r := h; clear h; replace H := Option.bind_eq_some_iff.mp H; obtain ⟨t104, A30, H⟩ := H; replace H : (some t104) = some r := H; have A3 := Aside0.mk A30; clear A30; obtain rfl := Option.some.inj H; go_enter Try.func61, Try.ntmps61; go_wp2_with (first | ((with_reducible refine gate_dst (N := 2) rfl ?_); refine box_event ?hg (N := 2) ?hd (cs := #[.int .i64 a0_0, .int .i64 a0_1]) (t := 25) ?hr ?_; (case hd => rfl); (case hg => rfl); (case hr => first | (go_simp; done) | (go_simp; rfl)); intro gb103 hg w4 hbox hb; have n0_ := Aside0.mk (below_step hb_ hb); have n1_ := Aside0.mk (hbox); have n2_ := Aside0.mk ((by rw [hg]; exact (below_size hb_) : w.heap.size ≤ gb103)); have n3_ := Aside0.mk ((by rw [hg]; exact (below_size hb_) : w.heap.size ≤ gb103)); clear HB; have HB := n0_; have BK103 := n1_; have GW103 := n2_; have GE103 := n3_; clear n0_ n1_ n2_ n3_; clear hb hbox hg; have hcz5_0 : w4.cell? ⟨gb103, 0, none⟩ = some (.int .i64 a0_0) := (blk_cell BK103.out 0).trans rfl; have hcz5_1 : w4.cell? ⟨gb103, 1, none⟩ = some (.int .i64 a0_1) := (blk_cell BK103.out 1).trans rfl; have hfz5_0 := blk_frozen BK103.out 0; have hfz5_1 := blk_frozen BK103.out 1) | ((with_reducible refine gate_callee (f := 57) rfl ?_); refine goesL_ (some 8) rfl rfl Try.func57 (by kernel_rfl) rfl #[.int .i64 a0_1, .int .i64 a1] rfl ml_ ?_; (with_reducible refine (cmp_Compare_int.calls a0_1 a1 t104 _ A3.out).mono ?_); rintro e w' ⟨rfl, ⟨nd, rfl⟩⟩; refine ⟨_, rfl, ?_⟩)); go_ret; exact ⟨re_, by repeat (first | (with_reducible first | exact HB.out | apply below_alloc | apply pw_below_drewN | apply below_drew1 | refine below_set ?_ GE103.out) | exact HB.out)⟩
set_option maxHeartbeats 8000000 in
set_option maxRecDepth 100000 in
theorem api_Run_int.calls (k : Nat) (A0 : Option Addr) (c0 : Nat) (l0 : List (S25)) (a1 : Int)  (r1 : Int) (r2 : Bool) (w : World) (hr0 : Kd.C k25 w A0 l0.length l0) (hc0 : l0.length ≤ c0) (h : api_Run_int.f k l0 a1 = some (r1, r2)) :
  Calls Try.prog 60 #[.slice A0 l0.length c0, .int .i64 a1, .func (.func 61) #[] #[]] w fun e w' => e = .returned (.tuple #[.int .i64 r1, .bool r2]) ∧ Below w.heap.size w w' := by
 have hu25 := Try.underlying25; have HR0 := Aside0.mk hr0; have HC0 := Aside0.mk hc0; clear hr0 hc0; have HB := Aside0.mk (Below.refl w.heap.size w); have H : (api_Run_int.l0 k l0 a1 (l0.length : Int) 0 (l0.length : Int)) = some (r1, r2) := h; clear h; have H' := Aside0.mk H; clear H; go_enter Try.func60, Try.ntmps60; go_wp2; go_loopg [9, 10] k (fun kq v9 v10 w' => ∃ (x9_1 : Int) (x10_1 : Int), v9 = .int .i64 x9_1 ∧ v10 = .int .i64 x10_1 ∧ Aside0 (api_Run_int.l0 kq l0 a1 (l0.length : Int) x9_1 x10_1 = some (r1, r2)) ∧ Aside0 (kq ≤ k) ∧ Aside0 (Below w.heap.size w w'))
 case atStart => exact ⟨(0), ((l0.length : Int)), rf_, rf_, H', ⟨Nat.le_refl _⟩, ⟨hb_⟩⟩
 case round =>
  clear H'; (try clear p2); obtain ⟨x9_1, x10_1, rfl, rfl, HA, HK1, HB⟩ := hrel
  cases gk with
  | zero => exact absurd HA.out (by simp [api_Run_int.l0])
  | succ k1 =>
   have H := HA.out; clear HA; simp only [api_Run_int.l0] at H
   by_cases c4 : x9_1 < x10_1
   ·rw [if_pos c4] at H
    have c4b0 : decide (x9_1 < x10_1) = true := decide_eq_true c4; clear c4; obtain ⟨ji5, hji5⟩ : ∃ j_ : Int, (wrap64 ((IntKind.u64.wrap (wrap64 (x9_1 + x10_1))) / 2)) = j_ := ⟨_, rfl⟩; (replace H : (if 0 ≤ (ji5) then (if (ji5) < (l0.length : Int) then ((runs_at_1.f ((rd_T25 l0 (ji5)).f0) ((rd_T25 l0 (ji5)).f1) a1).bind fun t106 => (if t106 < 0 then (api_Run_int.l0 k1 l0 a1 (l0.length : Int) (wrap64 ((ji5) + 1)) x10_1) else (api_Run_int.l0 k1 l0 a1 (l0.length : Int) x9_1 ji5))) else (none)) else (none)) = some (r1, r2) := by first | (rw [hji5] at H; exact H) | (simp only [hji5] at H ⊢; exact H)); have hji5w : (IntKind.i64.wrap ((IntKind.u64.wrap (wrap64 (x9_1 + x10_1))) / 2)) = ji5 := (i64_w _).trans hji5
    by_cases c6 : 0 ≤ (ji5)
    ·rw [if_pos c6] at H
     have c6b0 : decide (0 ≤ (ji5)) = true := decide_eq_true c6; clear c6
     by_cases c7 : (ji5) < (l0.length : Int)
     ·rw [if_pos c7] at H
      have c7b0 : decide ((ji5) < (l0.length : Int)) = true := decide_eq_true c7; clear c7; replace H := Option.bind_eq_some_iff.mp H; obtain ⟨t106, A80, H⟩ := H; replace H : (if t106 < 0 then (api_Run_int.l0 k1 l0 a1 (l0.length : Int) (wrap64 ((ji5) + 1)) x10_1) else (api_Run_int.l0 k1 l0 a1 (l0.length : Int) x9_1 ji5)) = some (r1, r2) := H; have A8 := Aside0.mk A80; clear A80
      by_cases c9 : t106 < 0
      ·rw [if_pos c9] at H
       have c9b0 : decide (t106 < 0) = true := decide_eq_true c9; clear c9; have H' := Aside0.mk H; clear H; have p105 : 0 ≤ ((ji5) : Int) := od_; have q105 : (ji5) < (l0.length : Int) := od_; obtain ⟨ad105, e105, hx105_0, hx105_1⟩ := at_T25 HR0.out (ji5) p105 q105
       cases e105
       replace hx105_0 := (HB.out.cell (World.block_lt_of_cell? w _ hx105_0)).trans hx105_0; replace hx105_1 := (HB.out.cell (World.block_lt_of_cell? w _ hx105_1)).trans hx105_1; replace p105 := eq_true p105; replace q105 := eq_true q105; go_wp2_with (first | (go_at_call 61; (refine (runs_at_1.calls ((rd_T25 l0 (ji5)).f0) ((rd_T25 l0 (ji5)).f1) a1 t106 _ A8.out).mono ?_); rintro e w10 ⟨rfl, hb⟩; have n0_ := Aside0.mk (below_step hb_ hb); clear HB; have HB := n0_; clear n0_; (try clear hb); (try clear hb2); (try clear hk); (try clear hi))); go_roundg k1
       case measure => have := HK1.out; omega
       case rel => exact ⟨(wrap64 ((ji5) + 1)), (x10_1), (by first | rfl | (simp; done) | (simp only [← hji5] <;> (first | rfl | simp)) | (simp [*]; done)), rf_, H', ⟨by have := HK1.out; omega⟩, ⟨hb_⟩⟩
      ·rw [if_neg c9] at H
       have c9b0 : decide (t106 < 0) = false := decide_eq_false c9; clear c9; have H' := Aside0.mk H; clear H; have p105 : 0 ≤ ((ji5) : Int) := od_; have q105 : (ji5) < (l0.length : Int) := od_; obtain ⟨ad105, e105, hx105_0, hx105_1⟩ := at_T25 HR0.out (ji5) p105 q105
       cases e105
       replace hx105_0 := (HB.out.cell (World.block_lt_of_cell? w _ hx105_0)).trans hx105_0; replace hx105_1 := (HB.out.cell (World.block_lt_of_cell? w _ hx105_1)).trans hx105_1; replace p105 := eq_true p105; replace q105 := eq_true q105; go_wp2_with (first | (go_at_call 61; (refine (runs_at_1.calls ((rd_T25 l0 (ji5)).f0) ((rd_T25 l0 (ji5)).f1) a1 t106 _ A8.out).mono ?_); rintro e w11 ⟨rfl, hb⟩; have n0_ := Aside0.mk (below_step hb_ hb); clear HB; have HB := n0_; clear n0_; (try clear hb); (try clear hb2); (try clear hk); (try clear hi))); go_roundg k1
       case measure => have := HK1.out; omega
       case rel => exact ⟨(x9_1), (ji5), rf_, (by first | rfl | (simp; done) | (simp only [← hji5] <;> (first | rfl | simp)) | (simp [*]; done)), H', ⟨by have := HK1.out; omega⟩, ⟨hb_⟩⟩
     ·rw [if_neg c7] at H
      exact absurd H (by simp)
    ·rw [if_neg c6] at H
     exact absurd H (by simp)
   ·rw [if_neg c4] at H
    have c4b0 : decide (x9_1 < x10_1) = false := decide_eq_false c4; clear c4
    by_cases c12 : x9_1 < (l0.length : Int)
    ·rw [if_pos c12] at H
     have c12b0 : decide (x9_1 < (l0.length : Int)) = true := decide_eq_true c12; clear c12
     by_cases c13 : 0 ≤ x9_1
     ·rw [if_pos c13] at H
      have c13b0 : decide (0 ≤ x9_1) = true := decide_eq_true c13; clear c13
      by_cases c14 : x9_1 < (l0.length : Int)
      ·rw [if_pos c14] at H
       have c14b0 : decide (x9_1 < (l0.length : Int)) = true := decide_eq_true c14; clear c14; replace H := Option.bind_eq_some_iff.mp H; obtain ⟨t108, A150, H⟩ := H; replace H : (some (x9_1, (t108 == 0))) = some (r1, r2) := H; have A15 := Aside0.mk A150; clear A150; simp only [Option.some.injEq, Prod.mk.injEq] at H; obtain ⟨rfl, rfl⟩ := H; have p107 : 0 ≤ (x9_1 : Int) := od_; have q107 : x9_1 < (l0.length : Int) := od_; obtain ⟨ad107, e107, hx107_0, hx107_1⟩ := at_T25 HR0.out x9_1 p107 q107
       cases e107
       replace hx107_0 := (HB.out.cell (World.block_lt_of_cell? w _ hx107_0)).trans hx107_0; replace hx107_1 := (HB.out.cell (World.block_lt_of_cell? w _ hx107_1)).trans hx107_1; replace p107 := eq_true p107; replace q107 := eq_true q107; go_wp2_with (first | (go_at_call 61; (refine (runs_at_1.calls ((rd_T25 l0 x9_1).f0) ((rd_T25 l0 x9_1).f1) a1 t108 _ A15.out).mono ?_); rintro e w16 ⟨rfl, hb⟩; have n0_ := Aside0.mk (below_step hb_ hb); clear HB; have HB := n0_; clear n0_; (try clear hb); (try clear hb2); (try clear hk); (try clear hi))); go_ret2; exact ⟨re_, hb_⟩
      ·rw [if_neg c14] at H
       exact absurd H (by simp)
     ·rw [if_neg c13] at H
      exact absurd H (by simp)
    ·rw [if_neg c12] at H
     have c12b0 : decide (x9_1 < (l0.length : Int)) = false := decide_eq_false c12; clear c12; simp only [Option.some.injEq, Prod.mk.injEq] at H; obtain ⟨rfl, rfl⟩ := H; go_wp2; go_ret2; exact ⟨re_, hb_⟩
set_option maxHeartbeats 8000000 in
set_option maxRecDepth 100000 in
theorem runs_at.calls (k : Nat) (A0 : Option Addr) (c0 : Nat) (l0 : List (S25)) (a1 : Int) (r : Int) (w : World) (hr0 : Kd.C k25 w A0 l0.length l0) (hc0 : l0.length ≤ c0) (h : runs_at.f k l0 a1 = some r) :
  Calls Try.prog 51 #[.slice A0 l0.length c0, .int .i64 a1] w fun e w' => e = .returned (.int .i64 r) ∧ Below w.heap.size w w' := by
 have HR0 := Aside0.mk hr0; have HC0 := Aside0.mk hc0; clear hr0 hc0; have HB := Aside0.mk (Below.refl w.heap.size w); have H : ((api_Run_int.f k l0 a1).bind fun bt109 => (some bt109.1)) = some r := h; clear h; replace H := Option.bind_eq_some_iff.mp H; obtain ⟨⟨t109, t110⟩, A30, H⟩ := H; replace H : (some t109) = some r := H; have A3 := Aside0.mk A30; clear A30; obtain rfl := Option.some.inj H; go_enter Try.func51, Try.ntmps51; go_wp2_with (first | ((with_reducible refine gate_callee (f := 60) rfl ?_); refine goesL_ (some 10) rfl rfl Try.func60 (by kernel_rfl) rfl #[.slice A0 l0.length c0, .int .i64 a1, .func (.func 61) #[] #[]] rfl ml_ ?_; (with_reducible refine (api_Run_int.calls k _ _ l0 a1  t109 t110 _ ?side1 ?side2 A3.out).mono ?_); (case side1 => repeat (first | exact HR0.out | (with_reducible refine Kd.C_alloc ?_ _) | (with_reducible refine Kd.C_drewN ?_ _) | (with_reducible refine Kd.C_drew ?_))); (case side2 => exact HC0.out); rintro e w4 ⟨rfl, hb⟩; refine ⟨_, rfl, ?_⟩; have n0_ := Aside0.mk (below_step hb_ hb); clear HB; have HB := n0_; clear n0_; (try clear hb); (try clear hb2); (try clear hk); (try clear hi))); go_ret; exact ⟨re_, hb_⟩
end Go.Proofs.Ytkbcmjejfbbcpaa.A.At

namespace Go.Proofs.Ytkbcmjejfbbcpaa.A
open Go.RowKit Go.Proofs.YtkbcmjejfbbcpaaW.PrintWords Go.Proofs.YtkbcmjejfbbcpaaW.PrintLast Go.Proofs.YtkbcmjejfbbcpaaW.PrintMore
set_option linter.unusedVariables false
theorem Compare_f (a b : Int) : At.cmp_Compare_int.f a b = some (if a < b then -1 else if a > b then 1 else 0) := by
  unfold At.cmp_Compare_int.f At.cmp_isNaN_int.f
  simp only [Option.bind_some, bne_self_eq_false]
  rw [if_neg (by simp), if_neg (by simp)]
  split
  · rfl
  · split <;> rfl
theorem at1_f (x y n : Int) : At.runs_at_1.f x y n = some (if y < n then -1 else if y > n then 1 else 0) := by
  unfold At.runs_at_1.f
  rw [Compare_f]; rfl
theorem rising_parted : ∀ {l : List S25} (_ : risingHi l = true) (n : Int), ∃ p t, l = p ++ t ∧ p.length = l.countP (fun r => decide (r.f1 < n)) ∧ (∀ r, r ∈ p → r.f1 < n) ∧ (∀ r, r ∈ t → n ≤ r.f1)
  | [], _, n => ⟨[], [], rfl, rfl, fun r h => by simp at h, fun r h => by simp at h⟩
  | r :: t, h, n => by
    unfold risingHi at h
    rw [Bool.and_eq_true, List.all_eq_true] at h
    obtain ⟨h1, h2⟩ := h
    by_cases c : r.f1 < n
    · obtain ⟨p, s, e1, e2, e3, e4⟩ := rising_parted h2 n
      refine ⟨r :: p, s, by rw [e1]; rfl, ?_, ?_, e4⟩
      · rw [List.countP_cons_of_pos (by simpa using c), ← e2]; rfl
      · intro q hq
        rcases List.mem_cons.1 hq with rfl | hq
        · exact c
        · exact e3 q hq
    · have hall : ∀ q, q ∈ r :: t → n ≤ q.f1 := fun q hq => by
        rcases List.mem_cons.1 hq with rfl | hq
        · omega
        · have := of_decide_eq_true (h1 q hq); omega
      refine ⟨[], r :: t, rfl, ?_, fun q h => by simp at h, hall⟩
      rw [eq_comm, List.length_nil, List.countP_eq_zero]
      intro q hq
      have := hall q hq
      simp; omega
theorem side_of {p t : List S25} {n : Int} (hp : ∀ r, r ∈ p → r.f1 < n) (ht : ∀ r, r ∈ t → n ≤ r.f1) (i : Int) (h0 : 0 ≤ i) (h1 : i < ((p ++ t).length : Int)) : (rd_T25 (p ++ t) i).f1 < n ↔ i < (p.length : Int) := by
  have hi : i.toNat < (p ++ t).length := by omega
  have e : rd_T25 (p ++ t) i = (p ++ t)[i.toNat] := by unfold rd_T25; rw [List.getD_eq_getElem?_getD, List.getElem?_eq_getElem hi, Option.getD_some]
  rw [e]
  by_cases c : i.toNat < p.length
  · rw [List.getElem_append_left c]
    exact ⟨fun _ => by omega, fun _ => hp _ (List.getElem_mem _)⟩
  · rw [List.getElem_append_right (by omega)]
    constructor
    · intro h
      have := ht _ (List.getElem_mem (l := t) (n := i.toNat - p.length) (by simp at hi; omega))
      omega
    · intro h; omega
theorem w64' {x : Int} (h1 : -9223372036854775808 ≤ x) (h2 : x ≤ 9223372036854775807) : wrap64 x = x := by unfold wrap64; omega
theorem mid_eq (i j : Int) (h0 : 0 ≤ i) (h1 : i < j) (h2 : j < 4398046511104) : wrap64 ((IntKind.u64.wrap (wrap64 (i + j))) / 2) = (i + j) / 2 := by
  rw [w64' (x := i + j) (by omega) (by omega)]
  have : IntKind.u64.wrap (i + j) = i + j := by simp [IntKind.wrap, IntKind.bits, IntKind.signed]; omega
  rw [this, w64' (by omega) (by omega)]
theorem search_l0 (p t : List S25) (n : Int) (hl : (p ++ t).length < 4398046511104) (hp : ∀ r, r ∈ p → r.f1 < n) (ht : ∀ r, r ∈ t → n ≤ r.f1) : ∀ (d : Nat) (i j : Int), (j - i).toNat ≤ d → 0 ≤ i → i ≤ (p.length : Int) → (p.length : Int) ≤ j → j ≤ ((p ++ t).length : Int) →
    ∃ b, Ev (fun k => At.api_Run_int.l0 k (p ++ t) n ((p ++ t).length : Int) i j) ((p.length : Int), b)
  | d, i, j, hd, h0, h1, h2, h3 => by
    by_cases c : i < j
    · have hm := mid_eq i j h0 c (by omega)
      have hs := side_of hp ht ((i + j) / 2) (by omega) (by omega)
      cases d with
      | zero => omega
      | succ d =>
        by_cases c2 : (rd_T25 (p ++ t) ((i + j) / 2)).f1 < n
        · have := hs.1 c2
          obtain ⟨b, hb⟩ := search_l0 p t n hl hp ht d ((i + j) / 2 + 1) j (by omega) (by omega) (by omega) h2 h3
          refine ⟨b, Ev.step (fun k => ?_) hb⟩
          rw [At.api_Run_int.l0, if_pos c, hm, if_pos (by omega), if_pos (by omega), at1_f, Option.bind_some, if_pos c2, if_pos (by omega), w64' (by omega) (by omega)]
        · have : ¬ (i + j) / 2 < (p.length : Int) := fun h => c2 (hs.2 h)
          obtain ⟨b, hb⟩ := search_l0 p t n hl hp ht d i ((i + j) / 2) (by omega) h0 (by omega) (by omega) (by omega)
          refine ⟨b, Ev.step (fun k => ?_) hb⟩
          rw [At.api_Run_int.l0, if_pos c, hm, if_pos (by omega), if_pos (by omega), at1_f, Option.bind_some, if_neg c2, if_neg (by split <;> omega)]
    · obtain rfl : i = (p.length : Int) := by omega
      by_cases c3 : (p.length : Int) < ((p ++ t).length : Int)
      · refine ⟨(if (rd_T25 (p ++ t) (p.length : Int)).f1 < n then (-1 : Int) else if (rd_T25 (p ++ t) (p.length : Int)).f1 > n then 1 else 0) == 0, Ev.step (f := fun _ => some ((p.length : Int), (if (rd_T25 (p ++ t) (p.length : Int)).f1 < n then (-1 : Int) else if (rd_T25 (p ++ t) (p.length : Int)).f1 > n then 1 else 0) == 0)) (fun k => ?_) (Ev.now _)⟩
        rw [At.api_Run_int.l0, if_neg c, if_pos c3, if_pos h0, if_pos c3, at1_f, Option.bind_some]
      · refine ⟨false, Ev.step (f := fun _ => some ((p.length : Int), false)) (fun k => ?_) (Ev.now _)⟩
        rw [At.api_Run_int.l0, if_neg c, if_neg c3]
theorem at_ev {l : List S25} {n r : Int} (h : runs_at.f l n = some r) : Ev (fun k => At.runs_at.f k l n) r := by
  unfold runs_at.f at h
  by_cases c : risingHi l = true ∧ l.length < 4398046511104
  · rw [if_pos c] at h
    obtain rfl := Option.some.inj h
    obtain ⟨p, t, e1, e2, e3, e4⟩ := rising_parted c.1 n
    rw [← e2]
    have hl := c.2
    rw [e1] at hl ⊢
    obtain ⟨b, hb⟩ := search_l0 p t n hl e3 e4 (p ++ t).length 0 ((p ++ t).length : Int) (by omega) (Int.le_refl _) (by omega) (by simp; omega) (Int.le_refl _)
    exact Ev.bind (g := fun k => At.api_Run_int.f k (p ++ t) n) (a := ((p.length : Int), b)) hb (Ev.now _)
  · rw [if_neg c] at h; simp at h
theorem runs_at.calls (A0 : Option Addr) (c0 : Nat) (l0 : List S25) (a1 : Int) (r : Int) (w : World) (hr0 : Kd.C k25 w A0 l0.length l0) (hc0 : l0.length ≤ c0) (h : runs_at.f l0 a1 = some r) :
    Calls Try.prog 51 #[.slice A0 l0.length c0, .int .i64 a1] w fun e w' => e = .returned (.int .i64 r) ∧ Below w.heap.size w w' := by
  obtain ⟨k, hk⟩ := (at_ev h).rounds
  exact At.runs_at.calls k A0 c0 l0 a1 r w hr0 hc0 hk
end Go.Proofs.Ytkbcmjejfbbcpaa.A

namespace Go.Proofs.Ytkbcmjejfbbcpaa.A
open Go.RowKit Go.Proofs.YtkbcmjejfbbcpaaW.PrintWords Go.Proofs.YtkbcmjejfbbcpaaW.PrintLast Go.Proofs.YtkbcmjejfbbcpaaW.PrintMore
attribute [local go_sem] max2_int min2_int max_two min_two max_three min_three max_four min_four
set_option linter.unusedVariables false
set_option linter.unusedSimpArgs false
attribute [local go_sem] isSome_setCell
set_option maxHeartbeats 8000000 in
set_option maxRecDepth 100000 in
theorem runs_Sane.calls (k : Nat) (A0 : Option Addr) (c0 : Nat) (l0 : List (S25)) (r : Bool) (w : World) (hr0 : Kd.C k25 w A0 l0.length l0) (hc0 : l0.length ≤ c0) (h : runs_Sane.f k l0 = some r) :
  Calls Try.prog 20 #[.slice A0 l0.length c0] w fun e w' => e = .returned (.bool r) ∧ Below w.heap.size w w' := by
 have hu25 := Try.underlying25; have HR0 := Aside0.mk hr0; have HC0 := Aside0.mk hc0; clear hr0 hc0; have HB := Aside0.mk (Below.refl w.heap.size w); have H : (runs_Sane.l0 k (-1099511627778) l0 (l0.length : Int) 0) = some r := h; clear h; have H' := Aside0.mk H; clear H; go_enter Try.func20, Try.ntmps20; go_wp2; go_loopg [3, 8] k (fun kq v3 v8 w' => ∃ (x3_1 : Int) (x8_1 : Int), v3 = .int .i64 x3_1 ∧ v8 = .int .i64 x8_1 ∧ Aside0 (runs_Sane.l0 kq x3_1 l0 (l0.length : Int) x8_1 = some r) ∧ Aside0 (kq ≤ k) ∧ Aside0 (Below w.heap.size w w'))
 case atStart => exact ⟨((-1099511627778)), (0), rf_, rf_, H', ⟨Nat.le_refl _⟩, ⟨hb_⟩⟩
 case round =>
  clear H'; obtain ⟨x3_1, x8_1, rfl, rfl, HA, HK1, HB⟩ := hrel
  cases gk with
  | zero => exact absurd HA.out (by simp [runs_Sane.l0])
  | succ k1 =>
   have H := HA.out; clear HA; simp only [runs_Sane.l0] at H
   by_cases c2 : x8_1 < (l0.length : Int)
   ·rw [if_pos c2] at H
    have c2b0 : decide (x8_1 < (l0.length : Int)) = true := decide_eq_true c2; clear c2
    by_cases c3 : 0 ≤ x8_1
    ·rw [if_pos c3] at H
     have c3b0 : decide (0 ≤ x8_1) = true := decide_eq_true c3; clear c3
     by_cases c4 : x8_1 < (l0.length : Int)
     ·rw [if_pos c4] at H
      have c4b0 : decide (x8_1 < (l0.length : Int)) = true := decide_eq_true c4; clear c4
      by_cases c5 : ((rd_T25 l0 x8_1).f0) > ((rd_T25 l0 x8_1).f1)
      ·rw [if_pos c5] at H
       have c5b0 : decide (((rd_T25 l0 x8_1).f1) < ((rd_T25 l0 x8_1).f0)) = true := decide_eq_true c5; clear c5; obtain rfl := Option.some.inj H; have p101 : 0 ≤ (x8_1 : Int) := od_; have q101 : x8_1 < (l0.length : Int) := od_; obtain ⟨ad101, e101, hx101_0, hx101_1⟩ := at_T25 HR0.out x8_1 p101 q101
       cases e101
       replace hx101_0 := (HB.out.cell (World.block_lt_of_cell? w _ hx101_0)).trans hx101_0; replace hx101_1 := (HB.out.cell (World.block_lt_of_cell? w _ hx101_1)).trans hx101_1; replace p101 := eq_true p101; replace q101 := eq_true q101; go_wp2_with (first | ((with_reducible refine gate_dst (N := 5) rfl ?_); refine box_event ?hg (N := 5) ?hd (cs := #[.int .i64 0, .int .i64 0]) (t := 25) ?hr ?_; (case hd => rfl); (case hg => rfl); (case hr => first | (go_simp; done) | (go_simp; rfl)); intro gb102 hg w6 hbox hb; have n0_ := Aside0.mk (below_step hb_ hb); have n1_ := Aside0.mk (hbox); have n2_ := Aside0.mk ((by rw [hg]; exact (below_size hb_) : w.heap.size ≤ gb102)); have n3_ := Aside0.mk ((by rw [hg]; exact (below_size hb_) : w.heap.size ≤ gb102)); clear HB; have HB := n0_; have BK102 := n1_; have GW102 := n2_; have GE102 := n3_; clear n0_ n1_ n2_ n3_; clear hb hbox hg; have hcz7_0 : w6.cell? ⟨gb102, 0, none⟩ = some (.int .i64 0) := (blk_cell BK102.out 0).trans rfl; have hcz7_1 : w6.cell? ⟨gb102, 1, none⟩ = some (.int .i64 0) := (blk_cell BK102.out 1).trans rfl; have hfz7_0 := blk_frozen BK102.out 0; have hfz7_1 := blk_frozen BK102.out 1)); go_ret; exact ⟨re_, by repeat (first | (with_reducible first | exact HB.out | apply below_alloc | apply pw_below_drewN | apply below_drew1 | refine below_set ?_ GE102.out) | exact HB.out)⟩
      ·rw [if_neg c5] at H
       have c5b0 : decide (((rd_T25 l0 x8_1).f1) < ((rd_T25 l0 x8_1).f0)) = false := decide_eq_false c5; clear c5
       by_cases c8 : ((rd_T25 l0 x8_1).f0) < (wrap64 (x3_1 + 2))
       ·rw [if_pos c8] at H
        have c8b0 : decide (((rd_T25 l0 x8_1).f0) < (wrap64 (x3_1 + 2))) = true := decide_eq_true c8; clear c8; obtain rfl := Option.some.inj H; have p101 : 0 ≤ (x8_1 : Int) := od_; have q101 : x8_1 < (l0.length : Int) := od_; obtain ⟨ad101, e101, hx101_0, hx101_1⟩ := at_T25 HR0.out x8_1 p101 q101
        cases e101
        replace hx101_0 := (HB.out.cell (World.block_lt_of_cell? w _ hx101_0)).trans hx101_0; replace hx101_1 := (HB.out.cell (World.block_lt_of_cell? w _ hx101_1)).trans hx101_1; replace p101 := eq_true p101; replace q101 := eq_true q101; go_wp2_with (first | ((with_reducible refine gate_dst (N := 5) rfl ?_); refine box_event ?hg (N := 5) ?hd (cs := #[.int .i64 0, .int .i64 0]) (t := 25) ?hr ?_; (case hd => rfl); (case hg => rfl); (case hr => first | (go_simp; done) | (go_simp; rfl)); intro gb102 hg w9 hbox hb; have n0_ := Aside0.mk (below_step hb_ hb); have n1_ := Aside0.mk (hbox); have n2_ := Aside0.mk ((by rw [hg]; exact (below_size hb_) : w.heap.size ≤ gb102)); have n3_ := Aside0.mk ((by rw [hg]; exact (below_size hb_) : w.heap.size ≤ gb102)); clear HB; have HB := n0_; have BK102 := n1_; have GW102 := n2_; have GE102 := n3_; clear n0_ n1_ n2_ n3_; clear hb hbox hg; have hcz10_0 : w9.cell? ⟨gb102, 0, none⟩ = some (.int .i64 0) := (blk_cell BK102.out 0).trans rfl; have hcz10_1 : w9.cell? ⟨gb102, 1, none⟩ = some (.int .i64 0) := (blk_cell BK102.out 1).trans rfl; have hfz10_0 := blk_frozen BK102.out 0; have hfz10_1 := blk_frozen BK102.out 1)); go_ret; exact ⟨re_, by repeat (first | (with_reducible first | exact HB.out | apply below_alloc | apply pw_below_drewN | apply below_drew1 | refine below_set ?_ GE102.out) | exact HB.out)⟩
       ·rw [if_neg c8] at H
        have c8b0 : decide (((rd_T25 l0 x8_1).f0) < (wrap64 (x3_1 + 2))) = false := decide_eq_false c8; clear c8
        by_cases c11 : ((rd_T25 l0 x8_1).f1) > 1099511627776
        ·rw [if_pos c11] at H
         have c11b0 : decide (1099511627776 < ((rd_T25 l0 x8_1).f1)) = true := decide_eq_true c11; clear c11; obtain rfl := Option.some.inj H; have p101 : 0 ≤ (x8_1 : Int) := od_; have q101 : x8_1 < (l0.length : Int) := od_; obtain ⟨ad101, e101, hx101_0, hx101_1⟩ := at_T25 HR0.out x8_1 p101 q101
         cases e101
         replace hx101_0 := (HB.out.cell (World.block_lt_of_cell? w _ hx101_0)).trans hx101_0; replace hx101_1 := (HB.out.cell (World.block_lt_of_cell? w _ hx101_1)).trans hx101_1; replace p101 := eq_true p101; replace q101 := eq_true q101; go_wp2_with (first | ((with_reducible refine gate_dst (N := 5) rfl ?_); refine box_event ?hg (N := 5) ?hd (cs := #[.int .i64 0, .int .i64 0]) (t := 25) ?hr ?_; (case hd => rfl); (case hg => rfl); (case hr => first | (go_simp; done) | (go_simp; rfl)); intro gb102 hg w12 hbox hb; have n0_ := Aside0.mk (below_step hb_ hb); have n1_ := Aside0.mk (hbox); have n2_ := Aside0.mk ((by rw [hg]; exact (below_size hb_) : w.heap.size ≤ gb102)); have n3_ := Aside0.mk ((by rw [hg]; exact (below_size hb_) : w.heap.size ≤ gb102)); clear HB; have HB := n0_; have BK102 := n1_; have GW102 := n2_; have GE102 := n3_; clear n0_ n1_ n2_ n3_; clear hb hbox hg; have hcz13_0 : w12.cell? ⟨gb102, 0, none⟩ = some (.int .i64 0) := (blk_cell BK102.out 0).trans rfl; have hcz13_1 : w12.cell? ⟨gb102, 1, none⟩ = some (.int .i64 0) := (blk_cell BK102.out 1).trans rfl; have hfz13_0 := blk_frozen BK102.out 0; have hfz13_1 := blk_frozen BK102.out 1)); go_ret; exact ⟨re_, by repeat (first | (with_reducible first | exact HB.out | apply below_alloc | apply pw_below_drewN | apply below_drew1 | refine below_set ?_ GE102.out) | exact HB.out)⟩
        ·rw [if_neg c11] at H
         have c11b0 : decide (1099511627776 < ((rd_T25 l0 x8_1).f1)) = false := decide_eq_false c11; clear c11; have H' := Aside0.mk H; clear H; have p101 : 0 ≤ (x8_1 : Int) := od_; have q101 : x8_1 < (l0.length : Int) := od_; obtain ⟨ad101, e101, hx101_0, hx101_1⟩ := at_T25 HR0.out x8_1 p101 q101
         cases e101
         replace hx101_0 := (HB.out.cell (World.block_lt_of_cell? w _ hx101_0)).trans hx101_0; replace hx101_1 := (HB.out.cell (World.block_lt_of_cell? w _ hx101_1)).trans hx101_1; replace p101 := eq_true p101; replace q101 := eq_true q101; go_wp2_with (first | ((with_reducible refine gate_dst (N := 5) rfl ?_); refine box_event ?hg (N := 5) ?hd (cs := #[.int .i64 0, .int .i64 0]) (t := 25) ?hr ?_; (case hd => rfl); (case hg => rfl); (case hr => first | (go_simp; done) | (go_simp; rfl)); intro gb102 hg w14 hbox hb; have n0_ := Aside0.mk (below_step hb_ hb); have n1_ := Aside0.mk (hbox); have n2_ := Aside0.mk ((by rw [hg]; exact (below_size hb_) : w.heap.size ≤ gb102)); have n3_ := Aside0.mk ((by rw [hg]; exact (below_size hb_) : w.heap.size ≤ gb102)); clear HB; have HB := n0_; have BK102 := n1_; have GW102 := n2_; have GE102 := n3_; clear n0_ n1_ n2_ n3_; clear hb hbox hg; have hcz15_0 : w14.cell? ⟨gb102, 0, none⟩ = some (.int .i64 0) := (blk_cell BK102.out 0).trans rfl; have hcz15_1 : w14.cell? ⟨gb102, 1, none⟩ = some (.int .i64 0) := (blk_cell BK102.out 1).trans rfl; have hfz15_0 := blk_frozen BK102.out 0; have hfz15_1 := blk_frozen BK102.out 1)); go_roundg k1
         case measure => have := HK1.out; omega
         case rel => exact ⟨((rd_T25 l0 x8_1).f1), (wrap64 (x8_1 + 1)), rf_, rf_, H', ⟨by have := HK1.out; omega⟩, ⟨by repeat (first | (with_reducible first | exact HB.out | apply below_alloc | apply pw_below_drewN | apply below_drew1 | refine below_set ?_ GE102.out) | exact HB.out)⟩⟩
     ·rw [if_neg c4] at H
      exact absurd H (by simp)
    ·rw [if_neg c3] at H
     exact absurd H (by simp)
   ·rw [if_neg c2] at H
    have c2b0 : decide (x8_1 < (l0.length : Int)) = false := decide_eq_false c2; clear c2; obtain rfl := Option.some.inj H; go_wp2; go_ret; exact ⟨re_, hb_⟩
set_option maxHeartbeats 8000000 in
set_option maxRecDepth 100000 in
theorem runs_known.calls (k : Nat) (P0_ : Nat → Prop) (A0 : Option Addr) (c0 : Nat) (l0 : List (S25)) (r : List (S25)) (w : World) (hs0 : Kd.V k25 25 w w.heap.size (fun k_ => P0_ k_) (.slice A0 l0.length c0) l0) (h : runs_known.f k l0 = some r) :
  Calls Try.prog 50 #[.slice A0 l0.length c0] w fun e w' => ∃ v0_ : Value, e = .returned (v0_) ∧ Kd.V k25 25 w' w.heap.size (fun k_ => (P0_ k_ ∨ w.heap.size ≤ k_)) v0_ r ∧ Below w.heap.size w w' := by
 have HO0 := Aside0.mk (show Kd.V k25 25 w w.heap.size (fun k_ => (P0_ k_ ∨ w.heap.size ≤ k_)) (.slice A0 l0.length c0) l0 from Kd.V_mono hs0 (fun k_ hk => .inl hk)); have HB := Aside0.mk (Below.refl w.heap.size w); have H : ((runs_Sane.f k l0).bind fun t103 => (if t103 = true then (some l0) else ((runs_Make.f l0).bind fun t104 => (some t104)))) = some r := h; clear h; replace H := Option.bind_eq_some_iff.mp H; obtain ⟨t103, A20, H⟩ := H; replace H : (if t103 = true then (some l0) else ((runs_Make.f l0).bind fun t104 => (some t104))) = some r := H; have A2 := Aside0.mk A20; clear A20
 by_cases c3 : t103 = true
 ·subst c3
  (have H1 : (some l0) = some r := by rw [if_pos rfl] at H; exact H); clear H; have H := H1; clear H1; obtain rfl := Option.some.inj H; go_enter Try.func50, Try.ntmps50; go_wp2_with (first | ((with_reducible refine gate_callee (f := 20) rfl ?_); refine goesL_ (some 4) rfl rfl Try.func20 (by kernel_rfl) rfl #[.slice A0 l0.length c0] rfl ml_ ?_; (with_reducible refine (runs_Sane.calls k _ _ l0 true _ ?side1 ?side2 A2.out).mono ?_); (case side1 => repeat (first | exact (Kd.V_reads' HO0.out).2.2 | (with_reducible refine Kd.C_alloc ?_ _) | (with_reducible refine Kd.C_drewN ?_ _) | (with_reducible refine Kd.C_drew ?_))); (case side2 => exact (Kd.V_reads' HO0.out).2.1); rintro e w4 ⟨rfl, hb⟩; refine ⟨_, rfl, ?_⟩; have n0_ := Aside0.mk (Kd.V_below (by (with_reducible repeat (first | apply Kd.V_alloc | apply Kd.V_drewN | apply Kd.V_drew)); exact HO0.out) hb); have n1_ := Aside0.mk (below_step hb_ hb); clear HO0; clear HB; have HO0 := n0_; have HB := n1_; clear n0_ n1_; (try clear hb); (try clear hb2); (try clear hk); (try clear hi))); go_ret; exact ⟨_, by first | rfl | (simp [errW_none, errW_some] <;> rfl) | (simp [*, errW_none, errW_some] <;> rfl), by (with_reducible repeat (first | apply Kd.V_alloc | apply Kd.V_drewN | apply Kd.V_drew)); exact HO0.out, hb_⟩
 ·replace c3 := Bool.eq_false_iff.mpr c3
  subst c3; (have H1 : ((runs_Make.f l0).bind fun t104 => (some t104)) = some r := by rw [if_neg (show ¬ (false = true) by decide)] at H; exact H); clear H; have H := H1; clear H1; replace H := Option.bind_eq_some_iff.mp H; obtain ⟨t104, A50, H⟩ := H; replace H : (some t104) = some r := H; have A5 := Aside0.mk A50; clear A50; obtain rfl := Option.some.inj H; go_enter Try.func50, Try.ntmps50; go_wp2_with (first | ((with_reducible refine gate_callee (f := 20) rfl ?_); refine goesL_ (some 4) rfl rfl Try.func20 (by kernel_rfl) rfl #[.slice A0 l0.length c0] rfl ml_ ?_; (with_reducible refine (runs_Sane.calls k _ _ l0 false _ ?side1 ?side2 A2.out).mono ?_); (case side1 => repeat (first | exact (Kd.V_reads' HO0.out).2.2 | (with_reducible refine Kd.C_alloc ?_ _) | (with_reducible refine Kd.C_drewN ?_ _) | (with_reducible refine Kd.C_drew ?_))); (case side2 => exact (Kd.V_reads' HO0.out).2.1); rintro e w6 ⟨rfl, hb⟩; refine ⟨_, rfl, ?_⟩; have n0_ := Aside0.mk (Kd.V_below (by (with_reducible repeat (first | apply Kd.V_alloc | apply Kd.V_drewN | apply Kd.V_drew)); exact HO0.out) hb); have n1_ := Aside0.mk (below_step hb_ hb); clear HO0; clear HB; have HO0 := n0_; have HB := n1_; clear n0_ n1_; (try clear hb); (try clear hb2); (try clear hk); (try clear hi)) | ((with_reducible refine gate_callee (f := 19) rfl ?_); refine goesL_ (some 7) rfl rfl Try.func19 (by kernel_rfl) rfl #[.slice A0 l0.length c0] rfl ml_ ?_; (with_reducible refine (runs_Make.calls _ _ l0 t104 _ ?side1 ?side2 A5.out).mono ?_); (case side1 => repeat (first | exact (Kd.V_reads' HO0.out).2.2 | (with_reducible refine Kd.C_alloc ?_ _) | (with_reducible refine Kd.C_drewN ?_ _) | (with_reducible refine Kd.C_drew ?_))); (case side2 => exact (Kd.V_reads' HO0.out).2.1); rintro e w7 ⟨v105, rfl, ho0, hb⟩; refine ⟨_, rfl, ?_⟩; have n0_ := Aside0.mk (Kd.V_elder' (by (with_reducible repeat (first | apply Kd.V_alloc | apply Kd.V_drewN | apply Kd.V_drew)); exact HO0.out) (Kd.R_base ho0) hb); have n1_ := Aside0.mk (Kd.R_lower (Kd.R_newM (M := fun k_ => (w.heap.size ≤ k_)) ho0 (below_size hb_) (fun k_ h_ => h_)) (below_size hb_)); have n2_ := Aside0.mk (below_step hb_ hb); clear HO0; clear HB; have HO0 := n0_; have HO106 := n1_; have HB := n2_; clear n0_ n1_ n2_; (try clear hb); (try clear hb2); (try clear hk); (try clear hi); (try clear ho0))); go_ret; exact ⟨_, by first | rfl | (simp [errW_none, errW_some] <;> rfl) | (simp [*, errW_none, errW_some] <;> rfl), Kd.V_mono (Kd.R_V (by (with_reducible repeat (first | apply Kd.R_alloc | apply Kd.R_drewN | apply Kd.R_drew)); exact Kd.R_mono HO106.out (fun _ hk => hk.1))) (fun k_ hk => by first | exact ⟨(.inr (hk.1)), hk.2⟩ | exact (.inr (hk))), hb_⟩
set_option maxHeartbeats 8000000 in
set_option maxRecDepth 100000 in
theorem runs_Next.calls (k : Nat) (A0 : Option Addr) (c0 : Nat) (l0 : List (S25)) (a1 : Int) (r1 : Int) (r2 : Bool) (w : World) (hr0 : Kd.C k25 w A0 l0.length l0) (hc0 : l0.length ≤ c0) (h : runs_Next.f k l0 a1 = some (r1, r2)) :
  Calls Try.prog 25 #[.slice A0 l0.length c0, .int .i64 a1] w fun e w' => e = .returned (.tuple #[.int .i64 r1, .bool r2]) ∧ Below w.heap.size w w' := by
 have HR0 := Aside0.mk hr0; have HC0 := Aside0.mk hc0; clear hr0 hc0; have HB := Aside0.mk (Below.refl w.heap.size w); have H : ((runs_known.f k l0).bind fun t107 => ((runs_at.f t107 a1).bind fun t110 => (if t110 = (t107.length : Int) then (some (0, false)) else (if 0 ≤ t110 then (if t110 < (t107.length : Int) then (some (mx a1 ((rd_T25 t107 t110).f0), true)) else (none)) else (none))))) = some (r1, r2) := h; clear h; replace H := Option.bind_eq_some_iff.mp H; obtain ⟨t107, A30, H⟩ := H; replace H : ((runs_at.f t107 a1).bind fun t110 => (if t110 = (t107.length : Int) then (some (0, false)) else (if 0 ≤ t110 then (if t110 < (t107.length : Int) then (some (mx a1 ((rd_T25 t107 t110).f0), true)) else (none)) else (none)))) = some (r1, r2) := H; have A3 := Aside0.mk A30; clear A30; replace H := Option.bind_eq_some_iff.mp H; obtain ⟨t110, A40, H⟩ := H; replace H : (if t110 = (t107.length : Int) then (some (0, false)) else (if 0 ≤ t110 then (if t110 < (t107.length : Int) then (some (mx a1 ((rd_T25 t107 t110).f0), true)) else (none)) else (none))) = some (r1, r2) := H; have A4 := Aside0.mk A40; clear A40
 by_cases c5 : t110 = (t107.length : Int)
 ·rw [if_pos c5] at H
  have c5b0 : (t110 == (t107.length : Int)) = true := beq_iff_eq.mpr c5; have c5b1 : (t110 != (t107.length : Int)) = false := bne_eq_false_iff_eq.mpr c5; clear c5; simp only [Option.some.injEq, Prod.mk.injEq] at H; obtain ⟨rfl, rfl⟩ := H; go_enter Try.func25, Try.ntmps25; go_wp2_with (first | ((with_reducible refine gate_callee (f := 50) rfl ?_); refine goesL_ (some 8) rfl rfl Try.func50 (by kernel_rfl) rfl #[.slice A0 l0.length c0] rfl ml_ ?_; (with_reducible refine (runs_known.calls k (fun k_ => k_ < w.heap.size) _ _ l0 t107 _ ?side1 A3.out).mono ?_); (case side1 => exact Kd.V_mk HC0.out (Kd.F_below (Kd.C_F k25_heap HR0.out) hb_)); rintro e w6 ⟨v108, rfl, ho0, hb⟩; refine ⟨_, rfl, ?_⟩; have n0_ := Aside0.mk (Kd.V_lower (Kd.V_mono (ok' := fun k_ => True) ho0 (fun k_ hk_ => trivial)) (below_size hb_)); have n1_ := Aside0.mk (below_step hb_ hb); clear HB; have HO109 := n0_; have HB := n1_; clear n0_ n1_; (try clear hb); (try clear hb2); (try clear hk); (try clear hi); (try clear ho0); obtain ⟨Ao7, co7, eo7⟩ := Kd.V_slice HO109.out; subst eo7) | ((with_reducible refine gate_callee (f := 51) rfl ?_); refine goesL_ (some 11) rfl rfl Try.func51 (by kernel_rfl) rfl #[.slice Ao7 t107.length co7, .int .i64 a1] rfl ml_ ?_; (with_reducible refine (runs_at.calls _ _ t107 a1 t110 _ ?side1 ?side2 A4.out).mono ?_); (case side1 => repeat (first | exact (Kd.V_reads' HO109.out).2.2 | (with_reducible refine Kd.C_alloc ?_ _) | (with_reducible refine Kd.C_drewN ?_ _) | (with_reducible refine Kd.C_drew ?_))); (case side2 => exact (Kd.V_reads' HO109.out).2.1); rintro e w8 ⟨rfl, hb⟩; refine ⟨_, rfl, ?_⟩; have n0_ := Aside0.mk (Kd.V_below (by (with_reducible repeat (first | apply Kd.V_alloc | apply Kd.V_drewN | apply Kd.V_drew)); exact HO109.out) hb); have n1_ := Aside0.mk (below_step hb_ hb); clear HO109; clear HB; have HO109 := n0_; have HB := n1_; clear n0_ n1_; (try clear hb); (try clear hb2); (try clear hk); (try clear hi))); go_ret2; exact ⟨re_, hb_⟩
 ·rw [if_neg c5] at H
  have c5b0 : (t110 == (t107.length : Int)) = false := beq_eq_false_iff_ne.mpr c5; have c5b1 : (t110 != (t107.length : Int)) = true := bne_iff_ne.mpr c5
  by_cases c9 : 0 ≤ t110
  ·rw [if_pos c9] at H
   have c9b0 : decide (0 ≤ t110) = true := decide_eq_true c9; clear c9
   by_cases c10 : t110 < (t107.length : Int)
   ·rw [if_pos c10] at H
    have c10b0 : decide (t110 < (t107.length : Int)) = true := decide_eq_true c10; clear c10; obtain ⟨ji11, hji11⟩ : ∃ j_ : Int, (mx a1 ((rd_T25 t107 t110).f0)) = j_ := ⟨_, rfl⟩; (replace H : (some (ji11, true)) = some (r1, r2) := by first | (rw [hji11] at H; exact H) | (simp only [hji11] at H ⊢; exact H)); (try rw [hji11] at A3); (try rw [hji11] at A4); have hji11_ : (if a1 < ((rd_T25 t107 t110).f0) then ((rd_T25 t107 t110).f0) else a1) = ji11 := hji11; simp only [Option.some.injEq, Prod.mk.injEq] at H; obtain ⟨rfl, rfl⟩ := H; go_enter Try.func25, Try.ntmps25; go_wp2_with (first | ((with_reducible refine gate_callee (f := 50) rfl ?_); refine goesL_ (some 8) rfl rfl Try.func50 (by kernel_rfl) rfl #[.slice A0 l0.length c0] rfl ml_ ?_; (with_reducible refine (runs_known.calls k (fun k_ => k_ < w.heap.size) _ _ l0 t107 _ ?side1 A3.out).mono ?_); (case side1 => exact Kd.V_mk HC0.out (Kd.F_below (Kd.C_F k25_heap HR0.out) hb_)); rintro e w12 ⟨v108, rfl, ho0, hb⟩; refine ⟨_, rfl, ?_⟩; have n0_ := Aside0.mk (Kd.V_lower (Kd.V_mono (ok' := fun k_ => True) ho0 (fun k_ hk_ => trivial)) (below_size hb_)); have n1_ := Aside0.mk (below_step hb_ hb); clear HB; have HO109 := n0_; have HB := n1_; clear n0_ n1_; (try clear hb); (try clear hb2); (try clear hk); (try clear hi); (try clear ho0); obtain ⟨Ao13, co13, eo13⟩ := Kd.V_slice HO109.out; subst eo13) | ((with_reducible refine gate_callee (f := 51) rfl ?_); refine goesL_ (some 11) rfl rfl Try.func51 (by kernel_rfl) rfl #[.slice Ao13 t107.length co13, .int .i64 a1] rfl ml_ ?_; (with_reducible refine (runs_at.calls _ _ t107 a1 t110 _ ?side1 ?side2 A4.out).mono ?_); (case side1 => repeat (first | exact (Kd.V_reads' HO109.out).2.2 | (with_reducible refine Kd.C_alloc ?_ _) | (with_reducible refine Kd.C_drewN ?_ _) | (with_reducible refine Kd.C_drew ?_))); (case side2 => exact (Kd.V_reads' HO109.out).2.1); rintro e w14 ⟨rfl, hb⟩; refine ⟨_, rfl, ?_⟩; have n0_ := Aside0.mk (Kd.V_below (by (with_reducible repeat (first | apply Kd.V_alloc | apply Kd.V_drewN | apply Kd.V_drew)); exact HO109.out) hb); have n1_ := Aside0.mk (below_step hb_ hb); clear HO109; clear HB; have HO109 := n0_; have HB := n1_; clear n0_ n1_; (try clear hb); (try clear hb2); (try clear hk); (try clear hi); have p111 : 0 ≤ (t110 : Int) := od_; have q111 : t110 < (t107.length : Int) := od_; obtain ⟨ad111, e111, hx111_0, hx111_1⟩ := at_T25 (Kd.V_reads' HO109.out).2.2 t110 p111 q111; cases e111; replace p111 := eq_true p111; replace q111 := eq_true q111)); go_ret2; exact ⟨by first | rfl | (simp [errW_none, errW_some] <;> rfl) | (simp only [← hji11]; first | rfl | (simp [errW_none, errW_some] <;> rfl)) | (simp [*, errW_none, errW_some] <;> rfl), hb_⟩
   ·rw [if_neg c10] at H
    exact absurd H (by simp)
  ·rw [if_neg c9] at H
   exact absurd H (by simp)
set_option maxHeartbeats 8000000 in
set_option maxRecDepth 100000 in
theorem runs_Has.calls (k : Nat) (A0 : Option Addr) (c0 : Nat) (l0 : List (S25)) (a1 : Int) (r : Bool) (w : World) (hr0 : Kd.C k25 w A0 l0.length l0) (hc0 : l0.length ≤ c0) (h : runs_Has.f k l0 a1 = some r) :
  Calls Try.prog 22 #[.slice A0 l0.length c0, .int .i64 a1] w fun e w' => e = .returned (.bool r) ∧ Below w.heap.size w w' := by
 have HR0 := Aside0.mk hr0; have HC0 := Aside0.mk hc0; clear hr0 hc0; have HB := Aside0.mk (Below.refl w.heap.size w); have H : ((runs_Next.f k l0 a1).bind fun bt112 => (if bt112.2 = true then (some (bt112.1 == a1)) else (some false))) = some r := h; clear h; replace H := Option.bind_eq_some_iff.mp H; obtain ⟨⟨t112, t113⟩, A30, H⟩ := H; replace H : (if t113 = true then (some (t112 == a1)) else (some false)) = some r := H; have A3 := Aside0.mk A30; clear A30
 by_cases c4 : t113 = true
 ·subst c4
  (have H1 : (some (t112 == a1)) = some r := by rw [if_pos rfl] at H; exact H); clear H; have H := H1; clear H1; obtain rfl := Option.some.inj H; go_enter Try.func22, Try.ntmps22; go_wp2_with (first | ((with_reducible refine gate_callee (f := 25) rfl ?_); refine goesL_ (some 10) rfl rfl Try.func25 (by kernel_rfl) rfl #[.slice A0 l0.length c0, .int .i64 a1] rfl ml_ ?_; (with_reducible refine (runs_Next.calls k _ _ l0 a1 t112 true _ ?side1 ?side2 A3.out).mono ?_); (case side1 => repeat (first | exact HR0.out | (with_reducible refine Kd.C_alloc ?_ _) | (with_reducible refine Kd.C_drewN ?_ _) | (with_reducible refine Kd.C_drew ?_))); (case side2 => exact HC0.out); rintro e w5 ⟨rfl, hb⟩; refine ⟨_, rfl, ?_⟩; have n0_ := Aside0.mk (below_step hb_ hb); clear HB; have HB := n0_; clear n0_; (try clear hb); (try clear hb2); (try clear hk); (try clear hi))); go_ret; exact ⟨re_, hb_⟩
 ·replace c4 := Bool.eq_false_iff.mpr c4
  subst c4; (have H1 : (some false) = some r := by rw [if_neg (show ¬ (false = true) by decide)] at H; exact H); clear H; have H := H1; clear H1; obtain rfl := Option.some.inj H; go_enter Try.func22, Try.ntmps22; go_wp2_with (first | ((with_reducible refine gate_callee (f := 25) rfl ?_); refine goesL_ (some 10) rfl rfl Try.func25 (by kernel_rfl) rfl #[.slice A0 l0.length c0, .int .i64 a1] rfl ml_ ?_; (with_reducible refine (runs_Next.calls k _ _ l0 a1 t112 false _ ?side1 ?side2 A3.out).mono ?_); (case side1 => repeat (first | exact HR0.out | (with_reducible refine Kd.C_alloc ?_ _) | (with_reducible refine Kd.C_drewN ?_ _) | (with_reducible refine Kd.C_drew ?_))); (case side2 => exact HC0.out); rintro e w6 ⟨rfl, hb⟩; refine ⟨_, rfl, ?_⟩; have n0_ := Aside0.mk (below_step hb_ hb); clear HB; have HB := n0_; clear n0_; (try clear hb); (try clear hb2); (try clear hk); (try clear hi))); go_ret; exact ⟨re_, hb_⟩
set_option maxHeartbeats 8000000 in
set_option maxRecDepth 100000 in
theorem runs_Of.calls (k : Nat) (A0 : Option Addr) (c0 : Nat) (l0 : List Int) (r : List (S25)) (w : World) (hr0 : Kd.C (Kd.int .i64) w A0 l0.length l0) (hc0 : l0.length ≤ c0) (h : runs_Of.f k l0 = some r) :
  Calls Try.prog 23 #[.slice A0 l0.length c0] w fun e w' => ∃ v0_ : Value, e = .returned (v0_) ∧ Kd.R k25 25 w' w.heap.size (fun _ => True) v0_ r ∧ Below w.heap.size w w' := by
 have hu25 := Try.underlying25; have HR0 := Aside0.mk hr0; have HC0 := Aside0.mk hc0; clear hr0 hc0; have HB := Aside0.mk (Below.refl w.heap.size w); have H : (runs_Of.l0 k ([] : List (S25)) l0 (l0.length : Int) 0) = some r := h; clear h; have H' := Aside0.mk H; clear H; go_enter Try.func23, Try.ntmps23; go_wp2; go_loopg [3, 8] k (fun kq v3 v8 w' => ∃ (x3_1 : List (S25)) (x8_1 : Int), v8 = .int .i64 x8_1 ∧ Aside0 (runs_Of.l0 kq x3_1 l0 (l0.length : Int) x8_1 = some r) ∧ Aside0 (kq ≤ k) ∧ Aside0 (Kd.R k25 25 w' w.heap.size (fun _ => True) v3 x3_1) ∧ Aside0 (Below w.heap.size w w'))
 case atStart => exact ⟨(([] : List (S25))), (0), rf_, H', ⟨Nat.le_refl _⟩, ⟨by first | exact Kd.R_nil _ _ _ _ _ | exact Kd.N_nil _ _ _ _ _ | exact Kd.V_nil _ _ _ _ _ | exact Kd.Q_nil _ _ _ _ _ | exact Kd.S_nil _ _ _ _ _⟩, ⟨hb_⟩⟩
 case round =>
  clear H'; obtain ⟨x3_1, x8_1, rfl, HA, HK1, HO_3, HB⟩ := hrel
  cases gk with
  | zero => exact absurd HA.out (by simp [runs_Of.l0])
  | succ k1 =>
   have H := HA.out; clear HA; simp only [runs_Of.l0] at H
   by_cases c2 : x8_1 < (l0.length : Int)
   ·rw [if_pos c2] at H
    have c2b0 : decide (x8_1 < (l0.length : Int)) = true := decide_eq_true c2; clear c2
    by_cases c3 : 0 ≤ x8_1
    ·rw [if_pos c3] at H
     have c3b0 : decide (0 ≤ x8_1) = true := decide_eq_true c3; clear c3
     by_cases c4 : x8_1 < (l0.length : Int)
     ·rw [if_pos c4] at H
      have c4b0 : decide (x8_1 < (l0.length : Int)) = true := decide_eq_true c4; clear c4
      by_cases c5 : x3_1.length < 8796093022208
      ·rw [if_pos c5] at H
       have LMc5 := Aside0.mk c5; clear c5; obtain ⟨y115, hy115⟩ : ∃ y_ : List (S25), y_ = (x3_1 ++ [(⟨rd l0 x8_1, rd l0 x8_1⟩ : S25)]) := ⟨_, rfl⟩; (replace H : (runs_Of.l0 k1 y115 l0 (l0.length : Int) (wrap64 (x8_1 + 1))) = some r := by first | (rw [hy115]; with_reducible exact H) | (have H2_ := (Option.bind_some _ _).symm.trans H; rw [hy115]; with_reducible exact H2_) | (have H2_ := (Option.bind_some _ _).symm.trans H; with_reducible exact H2_) | with_reducible exact H | (rw [hy115]; exact H) | exact H); have Ny115 := Aside0.mk hy115; clear hy115; have H' := Aside0.mk H; clear H; have p114 : 0 ≤ (x8_1 : Int) := od_; have q114 : x8_1 < (l0.length : Int) := od_; obtain ⟨ad114, e114, hx114_0⟩ := Kd.at_int HR0.out x8_1 p114 q114
       cases e114
       replace hx114_0 := (HB.out.cell (World.block_lt_of_cell? w _ hx114_0)).trans hx114_0; replace p114 := eq_true p114; replace q114 := eq_true q114; go_wp2_with (first | ((with_reducible refine gate_builtin (b := .append) (xs := #[.tmp 12, .tmp 16]) rfl ?_); at_builtin; refine Kd.R_append k25 (w0 := w) w.heap.size rfl (.tmp 12) (.tmp 16) 23 25 (.agg #[(.int .i64 0), (.int .i64 0)]) 16 rfl Try.underlying23 info25 rfl (by decide) (by omega) u3 x3_1 (⟨rd l0 x8_1, rd l0 x8_1⟩ : S25) [.int .i64 (rd l0 x8_1), .int .i64 (rd l0 x8_1)] (fun _ => True) (fun _ => False) rfl rfl ?aP (fun _ hk => hk.elim) ?aF ?aO ?aB ?aS ?aL ?_; (case aP => exact k25_mkM _ _ _ (⟨rd l0 x8_1, rd l0 x8_1⟩ : S25)); (case aB => exact hb_); (case aF => exact (fun _ _ => trivial)); (case aO => exact (by (with_reducible repeat (first | apply Kd.R_alloc | apply Kd.R_drewN | apply Kd.R_drew)); exact HO_3.out)); (case aS => exact (below_size hb_)); (case aL => have := LMc5.out; omega); intro v116 w6 ho hb hg hat; rw [← Ny115.out] at ho; have n0_ := Aside0.mk (hb); have n1_ := Aside0.mk (ho); clear HB; clear HO_3; have HB := n0_; have HO117 := n1_; clear n0_ n1_; clear ho hb hg hat)); go_roundg k1
       case measure => have := HK1.out; omega
       case rel => exact ⟨(y115), (wrap64 (x8_1 + 1)), rf_, H', ⟨by have := HK1.out; omega⟩, ⟨by (with_reducible repeat (first | apply Kd.R_alloc | apply Kd.R_drewN | apply Kd.R_drew)); exact HO117.out⟩, ⟨hb_⟩⟩
      ·rw [if_neg c5] at H
       exact absurd H (by simp)
     ·rw [if_neg c4] at H
      exact absurd H (by simp)
    ·rw [if_neg c3] at H
     exact absurd H (by simp)
   ·rw [if_neg c2] at H
    have c2b0 : decide (x8_1 < (l0.length : Int)) = false := decide_eq_false c2; clear c2; replace H := Option.bind_eq_some_iff.mp H; obtain ⟨t118, A70, H⟩ := H; replace H : (some t118) = some r := H; have A7 := Aside0.mk A70; clear A70; obtain rfl := Option.some.inj H; obtain ⟨Ao8, co8, eo8⟩ := Kd.R_slice HO_3.out; subst eo8; go_wp2_with (first | ((with_reducible refine gate_callee (f := 19) rfl ?_); refine goesL_ (some 20) rfl rfl Try.func19 (by kernel_rfl) rfl #[.slice Ao8 x3_1.length co8] rfl ml_ ?_; (with_reducible refine (runs_Make.calls _ _ x3_1 t118 _ ?side1 ?side2 A7.out).mono ?_); (case side1 => repeat (first | exact (Kd.R_reads' HO_3.out).2.2 | (with_reducible refine Kd.C_alloc ?_ _) | (with_reducible refine Kd.C_drewN ?_ _) | (with_reducible refine Kd.C_drew ?_))); (case side2 => exact (Kd.R_reads' HO_3.out).2.1); rintro e w9 ⟨v119, rfl, ho0, hb⟩; refine ⟨_, rfl, ?_⟩; have n0_ := Aside0.mk (Kd.R_elder' (by (with_reducible repeat (first | apply Kd.R_alloc | apply Kd.R_drewN | apply Kd.R_drew)); exact HO_3.out) (Kd.R_base ho0) hb); have n1_ := Aside0.mk (Kd.R_lower (Kd.R_new' ho0 (Kd.R_lt (by (with_reducible repeat (first | apply Kd.R_alloc | apply Kd.R_drewN | apply Kd.R_drew)); exact HO_3.out))) (below_size hb_)); have n2_ := Aside0.mk (below_step hb_ hb); clear HO_3; clear HB; have HO_3 := n0_; have HO120 := n1_; have HB := n2_; clear n0_ n1_ n2_; (try clear hb); (try clear hb2); (try clear hk); (try clear hi); (try clear ho0))); go_ret; exact ⟨_, by first | rfl | (simp [errW_none, errW_some] <;> rfl) | (simp [*, errW_none, errW_some] <;> rfl), by (with_reducible repeat (first | apply Kd.R_alloc | apply Kd.R_drewN | apply Kd.R_drew)); exact Kd.R_mono HO120.out (fun _ hk => trivial), hb_⟩
set_option maxHeartbeats 8000000 in
set_option maxRecDepth 100000 in
theorem runs_Count.calls (k : Nat) (A0 : Option Addr) (c0 : Nat) (l0 : List (S25)) (r : Int) (w : World) (hr0 : Kd.C k25 w A0 l0.length l0) (hc0 : l0.length ≤ c0) (h : runs_Count.f k l0 = some r) :
  Calls Try.prog 24 #[.slice A0 l0.length c0] w fun e w' => e = .returned (.int .i64 r) ∧ Below w.heap.size w w' := by
 have hu25 := Try.underlying25; have HR0 := Aside0.mk hr0; have HC0 := Aside0.mk hc0; clear hr0 hc0; have HB := Aside0.mk (Below.refl w.heap.size w); have H : ((runs_known.f k l0).bind fun t121 => (runs_Count.l0 k 0 t121 (t121.length : Int) 0)) = some r := h; clear h; replace H := Option.bind_eq_some_iff.mp H; obtain ⟨t121, A20, H⟩ := H; replace H : (runs_Count.l0 k 0 t121 (t121.length : Int) 0) = some r := H; have A2 := Aside0.mk A20; clear A20; have H' := Aside0.mk H; clear H; go_enter Try.func24, Try.ntmps24; go_wp2_with (first | ((with_reducible refine gate_callee (f := 50) rfl ?_); refine goesL_ (some 7) rfl rfl Try.func50 (by kernel_rfl) rfl #[.slice A0 l0.length c0] rfl ml_ ?_; (with_reducible refine (runs_known.calls k (fun k_ => k_ < w.heap.size) _ _ l0 t121 _ ?side1 A2.out).mono ?_); (case side1 => exact Kd.V_mk HC0.out (Kd.F_below (Kd.C_F k25_heap HR0.out) hb_)); rintro e w3 ⟨v122, rfl, ho0, hb⟩; refine ⟨_, rfl, ?_⟩; have n0_ := Aside0.mk (Kd.V_lower (Kd.V_mono (ok' := fun k_ => True) ho0 (fun k_ hk_ => trivial)) (below_size hb_)); have n1_ := Aside0.mk (below_step hb_ hb); clear HB; have HO123 := n0_; have HB := n1_; clear n0_ n1_; (try clear hb); (try clear hb2); (try clear hk); (try clear hi); (try clear ho0); obtain ⟨Ao4, co4, eo4⟩ := Kd.V_slice HO123.out; subst eo4)); go_loopg [3, 9] k (fun kq v3 v9 w' => ∃ (x3_1 : Int) (x9_1 : Int), v3 = .int .i64 x3_1 ∧ v9 = .int .i64 x9_1 ∧ Aside0 (runs_Count.l0 kq x3_1 t121 (t121.length : Int) x9_1 = some r) ∧ Aside0 (kq ≤ k) ∧ Aside0 (Kd.V k25 25 w' w.heap.size (fun _ => True) (.slice Ao4 t121.length co4) t121) ∧ Aside0 (Below w.heap.size w w'))
 case atStart => exact ⟨(0), (0), rf_, rf_, H', ⟨Nat.le_refl _⟩, ⟨by (with_reducible repeat (first | apply Kd.V_alloc | apply Kd.V_drewN | apply Kd.V_drew)); exact HO123.out⟩, ⟨hb_⟩⟩
 case round =>
  clear H'; (try clear c2); (try clear p2); obtain ⟨x3_1, x9_1, rfl, rfl, HA, HK1, HO_7, HB⟩ := hrel
  cases gk with
  | zero => exact absurd HA.out (by simp [runs_Count.l0])
  | succ k1 =>
   have H := HA.out; clear HA; simp only [runs_Count.l0] at H
   by_cases c5 : x9_1 < (t121.length : Int)
   ·rw [if_pos c5] at H
    have c5b0 : decide (x9_1 < (t121.length : Int)) = true := decide_eq_true c5; clear c5
    by_cases c6 : 0 ≤ x9_1
    ·rw [if_pos c6] at H
     have c6b0 : decide (0 ≤ x9_1) = true := decide_eq_true c6; clear c6
     by_cases c7 : x9_1 < (t121.length : Int)
     ·rw [if_pos c7] at H
      have c7b0 : decide (x9_1 < (t121.length : Int)) = true := decide_eq_true c7; clear c7; have H' := Aside0.mk H; clear H; have p124 : 0 ≤ (x9_1 : Int) := od_; have q124 : x9_1 < (t121.length : Int) := od_; obtain ⟨ad124, e124, hx124_0, hx124_1⟩ := at_T25 (Kd.V_reads' HO_7.out).2.2 x9_1 p124 q124
      cases e124
      replace p124 := eq_true p124; replace q124 := eq_true q124; go_wp2_with (first | ((with_reducible refine gate_dst (N := 5) rfl ?_); refine box_event ?hg (N := 5) ?hd (cs := #[.int .i64 0, .int .i64 0]) (t := 25) ?hr ?_; (case hd => rfl); (case hg => rfl); (case hr => first | (go_simp; done) | (go_simp; rfl)); intro gb125 hg w8 hbox hb; have n0_ := Aside0.mk (Kd.V_below (Kd.V_elderB (by (with_reducible repeat (first | apply Kd.V_alloc | apply Kd.V_drewN | apply Kd.V_drew)); exact HO_7.out) gb125 (Nat.le_of_eq hg.symm)) hb); have n1_ := Aside0.mk (below_step hb_ hb); have n2_ := Aside0.mk (hbox); have n3_ := Aside0.mk ((by rw [hg]; exact (below_size hb_) : w.heap.size ≤ gb125)); have n4_ := Aside0.mk ((by rw [hg]; exact (below_size hb_) : w.heap.size ≤ gb125)); clear HO_7; clear HB; have HO_7 := n0_; have HB := n1_; have BK125 := n2_; have GW125 := n3_; have GE125 := n4_; clear n0_ n1_ n2_ n3_ n4_; clear hb hbox hg; have hcz9_0 : w8.cell? ⟨gb125, 0, none⟩ = some (.int .i64 0) := (blk_cell BK125.out 0).trans rfl; have hcz9_1 : w8.cell? ⟨gb125, 1, none⟩ = some (.int .i64 0) := (blk_cell BK125.out 1).trans rfl; have hfz9_0 := blk_frozen BK125.out 0; have hfz9_1 := blk_frozen BK125.out 1)); go_roundg k1
      case measure => have := HK1.out; omega
      case rel => exact ⟨(wrap64 (x3_1 + (wrap64 ((wrap64 (((rd_T25 t121 x9_1).f1) - ((rd_T25 t121 x9_1).f0))) + 1)))), (wrap64 (x9_1 + 1)), rf_, rf_, H', ⟨by have := HK1.out; omega⟩, ⟨by (with_reducible repeat (first | apply Kd.V_alloc | apply Kd.V_drewN | apply Kd.V_drew)); exact Kd.V_mono (Kd.V_far (p := ⟨gb125, 1, none⟩) (Kd.V_far (p := ⟨gb125, 0, none⟩) (Kd.V_mono HO_7.out (fun k_ hk => (⟨hk, hk.2⟩ : _ ∧ k_ ≠ gb125))) (fun _ hk => hk.2) (.int .i64 ((rd_T25 t121 x9_1).f0))) (fun _ hk => hk.2) (.int .i64 ((rd_T25 t121 x9_1).f1))) (fun _ hk => trivial)⟩, ⟨by repeat (first | (with_reducible first | exact HB.out | apply below_alloc | apply pw_below_drewN | apply below_drew1 | refine below_set ?_ GE125.out) | exact HB.out)⟩⟩
     ·rw [if_neg c7] at H
      exact absurd H (by simp)
    ·rw [if_neg c6] at H
     exact absurd H (by simp)
   ·rw [if_neg c5] at H
    have c5b0 : decide (x9_1 < (t121.length : Int)) = false := decide_eq_false c5; clear c5; obtain rfl := Option.some.inj H; go_wp2; go_ret; exact ⟨re_, hb_⟩
set_option maxHeartbeats 8000000 in
set_option maxRecDepth 100000 in
theorem lustrumlaw04_awake.calls (k : Nat)  (r : Bool) (w : World) (h : lustrumlaw04_awake.f k  = some r) :
  Calls Try.prog 18 #[] w fun e w' => e = .returned (.bool r) ∧ Below w.heap.size w w' := by
 have hu25 := Try.underlying25; have HB := Aside0.mk (Below.refl w.heap.size w); have H : ((runs_Make.f (([(⟨5, 7⟩ : S25), (⟨1, 2⟩ : S25), (⟨3, 3⟩ : S25)] : List (S25)))).bind fun t129 => (if (t129.length : Int) = 2 then (if 0 < (t129.length : Int) then (if ((rd_T25 t129 0).f0) = 1 then (if ((rd_T25 t129 0).f1) = 3 then (if 1 < (t129.length : Int) then (if ((rd_T25 t129 1).f0) = 5 then (if ((rd_T25 t129 1).f1) = 7 then ((runs_Sane.f k t129).bind fun t136 => (if t136 = true then ((runs_Has.f k t129 6).bind fun t137 => (if t137 = true then ((runs_Count.f k t129).bind fun t138 => (if t138 = 6 then ((runs_Of.f k (([3] : List Int))).bind fun t142 => (some ((t142.length : Int) == 1))) else (some false))) else (some false))) else (some false))) else (some false)) else (some false)) else (none)) else (some false)) else (some false)) else (none)) else (some false))) = some r := h; clear h; obtain ⟨y126, hy126⟩ : ∃ y_ : List (S25), y_ = (([(⟨5, 7⟩ : S25), (⟨1, 2⟩ : S25), (⟨3, 3⟩ : S25)] : List (S25))) := ⟨_, rfl⟩; (replace H : ((runs_Make.f y126).bind fun t129 => (if (t129.length : Int) = 2 then (if 0 < (t129.length : Int) then (if ((rd_T25 t129 0).f0) = 1 then (if ((rd_T25 t129 0).f1) = 3 then (if 1 < (t129.length : Int) then (if ((rd_T25 t129 1).f0) = 5 then (if ((rd_T25 t129 1).f1) = 7 then ((runs_Sane.f k t129).bind fun t136 => (if t136 = true then ((runs_Has.f k t129 6).bind fun t137 => (if t137 = true then ((runs_Count.f k t129).bind fun t138 => (if t138 = 6 then ((runs_Of.f k (([3] : List Int))).bind fun t142 => (some ((t142.length : Int) == 1))) else (some false))) else (some false))) else (some false))) else (some false)) else (some false)) else (none)) else (some false)) else (some false)) else (none)) else (some false))) = some r := by first | (rw [hy126]; with_reducible exact H) | (have H2_ := (Option.bind_some _ _).symm.trans H; rw [hy126]; with_reducible exact H2_) | (have H2_ := (Option.bind_some _ _).symm.trans H; with_reducible exact H2_) | with_reducible exact H | (rw [hy126]; exact H) | exact H); have Ny126 := Aside0.mk hy126; clear hy126; replace H := Option.bind_eq_some_iff.mp H; obtain ⟨t129, A10, H⟩ := H; replace H : (if (t129.length : Int) = 2 then (if 0 < (t129.length : Int) then (if ((rd_T25 t129 0).f0) = 1 then (if ((rd_T25 t129 0).f1) = 3 then (if 1 < (t129.length : Int) then (if ((rd_T25 t129 1).f0) = 5 then (if ((rd_T25 t129 1).f1) = 7 then ((runs_Sane.f k t129).bind fun t136 => (if t136 = true then ((runs_Has.f k t129 6).bind fun t137 => (if t137 = true then ((runs_Count.f k t129).bind fun t138 => (if t138 = 6 then ((runs_Of.f k (([3] : List Int))).bind fun t142 => (some ((t142.length : Int) == 1))) else (some false))) else (some false))) else (some false))) else (some false)) else (some false)) else (none)) else (some false)) else (some false)) else (none)) else (some false)) = some r := H; have A1 := Aside0.mk A10; clear A10
 by_cases c2 : (t129.length : Int) = 2
 ·rw [if_pos c2] at H
  have c2b0 : ((t129.length : Int) == 2) = true := beq_iff_eq.mpr c2; have c2b1 : ((t129.length : Int) != 2) = false := bne_eq_false_iff_eq.mpr c2; clear c2
  by_cases c3 : 0 < (t129.length : Int)
  ·rw [if_pos c3] at H
   have c3b0 : decide (0 < (t129.length : Int)) = true := decide_eq_true c3; have c3b1 : decide (0 < t129.length) = true := decide_eq_true (by omega); clear c3
   by_cases c4 : ((rd_T25 t129 0).f0) = 1
   ·rw [if_pos c4] at H
    have c4b0 : (((rd_T25 t129 0).f0) == 1) = true := beq_iff_eq.mpr c4; have c4b1 : (((rd_T25 t129 0).f0) != 1) = false := bne_eq_false_iff_eq.mpr c4; clear c4
    by_cases c5 : ((rd_T25 t129 0).f1) = 3
    ·rw [if_pos c5] at H
     have c5b0 : (((rd_T25 t129 0).f1) == 3) = true := beq_iff_eq.mpr c5; have c5b1 : (((rd_T25 t129 0).f1) != 3) = false := bne_eq_false_iff_eq.mpr c5; clear c5
     by_cases c6 : 1 < (t129.length : Int)
     ·rw [if_pos c6] at H
      have c6b0 : decide (1 < (t129.length : Int)) = true := decide_eq_true c6; have c6b1 : decide (1 < t129.length) = true := decide_eq_true (by omega); clear c6
      by_cases c7 : ((rd_T25 t129 1).f0) = 5
      ·rw [if_pos c7] at H
       have c7b0 : (((rd_T25 t129 1).f0) == 5) = true := beq_iff_eq.mpr c7; have c7b1 : (((rd_T25 t129 1).f0) != 5) = false := bne_eq_false_iff_eq.mpr c7; clear c7
       by_cases c8 : ((rd_T25 t129 1).f1) = 7
       ·rw [if_pos c8] at H
        have c8b0 : (((rd_T25 t129 1).f1) == 7) = true := beq_iff_eq.mpr c8; have c8b1 : (((rd_T25 t129 1).f1) != 7) = false := bne_eq_false_iff_eq.mpr c8; clear c8; replace H := Option.bind_eq_some_iff.mp H; obtain ⟨t136, A90, H⟩ := H; replace H : (if t136 = true then ((runs_Has.f k t129 6).bind fun t137 => (if t137 = true then ((runs_Count.f k t129).bind fun t138 => (if t138 = 6 then ((runs_Of.f k (([3] : List Int))).bind fun t142 => (some ((t142.length : Int) == 1))) else (some false))) else (some false))) else (some false)) = some r := H; have A9 := Aside0.mk A90; clear A90
        by_cases c10 : t136 = true
        ·subst c10
         (have H1 : ((runs_Has.f k t129 6).bind fun t137 => (if t137 = true then ((runs_Count.f k t129).bind fun t138 => (if t138 = 6 then ((runs_Of.f k (([3] : List Int))).bind fun t142 => (some ((t142.length : Int) == 1))) else (some false))) else (some false))) = some r := by rw [if_pos rfl] at H; exact H); clear H; have H := H1; clear H1; replace H := Option.bind_eq_some_iff.mp H; obtain ⟨t137, A110, H⟩ := H; replace H : (if t137 = true then ((runs_Count.f k t129).bind fun t138 => (if t138 = 6 then ((runs_Of.f k (([3] : List Int))).bind fun t142 => (some ((t142.length : Int) == 1))) else (some false))) else (some false)) = some r := H; have A11 := Aside0.mk A110; clear A110
         by_cases c12 : t137 = true
         ·subst c12
          (have H1 : ((runs_Count.f k t129).bind fun t138 => (if t138 = 6 then ((runs_Of.f k (([3] : List Int))).bind fun t142 => (some ((t142.length : Int) == 1))) else (some false))) = some r := by rw [if_pos rfl] at H; exact H); clear H; have H := H1; clear H1; replace H := Option.bind_eq_some_iff.mp H; obtain ⟨t138, A130, H⟩ := H; replace H : (if t138 = 6 then ((runs_Of.f k (([3] : List Int))).bind fun t142 => (some ((t142.length : Int) == 1))) else (some false)) = some r := H; have A13 := Aside0.mk A130; clear A130
          by_cases c14 : t138 = 6
          ·rw [if_pos c14] at H
           have c14b0 : (t138 == 6) = true := beq_iff_eq.mpr c14; have c14b1 : (t138 != 6) = false := bne_eq_false_iff_eq.mpr c14; clear c14; obtain ⟨y139, hy139⟩ : ∃ y_ : List Int, y_ = (([3] : List Int)) := ⟨_, rfl⟩; (replace H : ((runs_Of.f k y139).bind fun t142 => (some ((t142.length : Int) == 1))) = some r := by first | (rw [hy139]; with_reducible exact H) | (have H2_ := (Option.bind_some _ _).symm.trans H; rw [hy139]; with_reducible exact H2_) | (have H2_ := (Option.bind_some _ _).symm.trans H; with_reducible exact H2_) | with_reducible exact H | (rw [hy139]; exact H) | exact H); have Ny139 := Aside0.mk hy139; clear hy139; replace H := Option.bind_eq_some_iff.mp H; obtain ⟨t142, A150, H⟩ := H; replace H : (some ((t142.length : Int) == 1)) = some r := H; have A15 := Aside0.mk A150; clear A150; obtain rfl := Option.some.inj H; go_enter Try.func18, Try.ntmps18; go_wp2_with (first | ((with_reducible refine gate_dst (N := 5) rfl ?_); (try (refine gate_guard (by rfl) ?_; dsimp only)); refine Kd.R_lit k25 _ 25 ?hg (N := 5) ?hd (xs := ([(⟨5, 7⟩ : S25), (⟨1, 2⟩ : S25), (⟨3, 3⟩ : S25)] : List (S25))) (inner := [.int .i64 5, .int .i64 7, .int .i64 1, .int .i64 2, .int .i64 3, .int .i64 3]) (ok := fun _ => True) (okp := fun _ => True) ?hr ?hp (fun _ hk => hk) trivial (Below.refl _ _) (Nat.le_refl _) (by simp) ?_; (case hd => rfl); (case hg => rfl); (case hr => first | (go_simp; done) | (go_simp; rfl)); (case hp => exact (Reps.c2 (show Kd.M k25 _ _ _ (⟨5, 7⟩ : S25) [.int .i64 5, .int .i64 7] from (k25_mkM _ _ _ (⟨5, 7⟩ : S25) )) (Reps.c2 (show Kd.M k25 _ _ _ (⟨1, 2⟩ : S25) [.int .i64 1, .int .i64 2] from (k25_mkM _ _ _ (⟨1, 2⟩ : S25) )) (Reps.c2 (show Kd.M k25 _ _ _ (⟨3, 3⟩ : S25) [.int .i64 3, .int .i64 3] from (k25_mkM _ _ _ (⟨3, 3⟩ : S25) )) (Reps.none _ _))))); intro v127 w16 ho17 hb hg_ hnew_; clear hg_ hnew_; (first | rw [← Ny126.out] at ho17 | (simp only [Int.reduceToNat] at ho17; rw [← Ny126.out] at ho17)); have n0_ := Aside0.mk (Kd.R_lower ho17 (below_size hb_)); have n1_ := Aside0.mk (below_step hb_ hb); clear HB; have HO128 := n0_; have HB := n1_; clear n0_ n1_; clear hb ho17; obtain ⟨Ao18, co18, eo18⟩ := Kd.R_slice HO128.out; subst eo18) | ((with_reducible refine gate_callee (f := 19) rfl ?_); refine goesL_ (some 6) rfl rfl Try.func19 (by kernel_rfl) rfl #[.slice Ao18 y126.length co18] rfl ml_ ?_; (with_reducible refine (runs_Make.calls _ _ y126 t129 _ ?side1 ?side2 A1.out).mono ?_); (case side1 => repeat (first | exact (Kd.R_reads' HO128.out).2.2 | (with_reducible refine Kd.C_alloc ?_ _) | (with_reducible refine Kd.C_drewN ?_ _) | (with_reducible refine Kd.C_drew ?_))); (case side2 => exact (Kd.R_reads' HO128.out).2.1); rintro e w19 ⟨v130, rfl, ho0, hb⟩; refine ⟨_, rfl, ?_⟩; have n0_ := Aside0.mk (Kd.R_elder' (by (with_reducible repeat (first | apply Kd.R_alloc | apply Kd.R_drewN | apply Kd.R_drew)); exact HO128.out) (Kd.R_base ho0) hb); have n1_ := Aside0.mk (Kd.R_lower (Kd.R_new' ho0 (Kd.R_lt (by (with_reducible repeat (first | apply Kd.R_alloc | apply Kd.R_drewN | apply Kd.R_drew)); exact HO128.out))) (below_size hb_)); have n2_ := Aside0.mk (below_step hb_ hb); clear HO128; clear HB; have HO128 := n0_; have HO131 := n1_; have HB := n2_; clear n0_ n1_ n2_; (try clear hb); (try clear hb2); (try clear hk); (try clear hi); (try clear ho0); obtain ⟨Ao20, co20, eo20⟩ := Kd.R_slice HO131.out; subst eo20; have p132 : 0 ≤ (0 : Int) := (by omega); have q132 : 0 < (t129.length : Int) := od_; obtain ⟨ad132, e132, hx132_0, hx132_1⟩ := at_T25 (Kd.R_reads' HO131.out).2.2 0 p132 q132; cases e132; have qi132 : (0 < t129.length) = True := eq_true (by omega); (try rw [show ((0 : Int)).toNat = 0 from rfl] at hx132_0); (try rw [show 0 * 2 = 0 from rfl] at hx132_0); (try rw [Addr.add_zero'] at hx132_0); (try rw [show ((0 : Int)).toNat = 0 from rfl] at hx132_1); (try rw [show 0 * 2 = 0 from rfl] at hx132_1); (try rw [Addr.add_zero'] at hx132_1); replace p132 := eq_true p132; replace q132 := eq_true q132; have p133 : 0 ≤ (0 : Int) := (by omega); have q133 : 0 < (t129.length : Int) := od_; obtain ⟨ad133, e133, hx133_0, hx133_1⟩ := at_T25 (Kd.R_reads' HO131.out).2.2 0 p133 q133; obtain rfl : ad132 = ad133 := (by injection e133); have qi133 : (0 < t129.length) = True := eq_true (by omega); (try rw [show ((0 : Int)).toNat = 0 from rfl] at hx133_0); (try rw [show 0 * 2 = 0 from rfl] at hx133_0); (try rw [Addr.add_zero'] at hx133_0); (try rw [show ((0 : Int)).toNat = 0 from rfl] at hx133_1); (try rw [show 0 * 2 = 0 from rfl] at hx133_1); (try rw [Addr.add_zero'] at hx133_1); replace p133 := eq_true p133; replace q133 := eq_true q133; have p134 : 0 ≤ (1 : Int) := (by omega); have q134 : 1 < (t129.length : Int) := od_; obtain ⟨ad134, e134, hx134_0, hx134_1⟩ := at_T25 (Kd.R_reads' HO131.out).2.2 1 p134 q134; obtain rfl : ad132 = ad134 := (by injection e134); (try simp only [show (1 : Int).toNat = 1 from rfl, Nat.reduceMul, Nat.reduceEqDiff, Go.Addr.add, ↓reduceIte] at hx134_0); (try simp only [show (1 : Int).toNat = 1 from rfl, Nat.reduceMul, Nat.reduceEqDiff, Go.Addr.add, ↓reduceIte] at hx134_1); have qi134 : (1 < t129.length) = True := eq_true (by omega); (try rw [show ((1 : Int)).toNat = 1 from rfl] at hx134_0); (try rw [show 1 * 2 = 2 from rfl] at hx134_0); (try rw [show ((1 : Int)).toNat = 1 from rfl] at hx134_1); (try rw [show 1 * 2 = 2 from rfl] at hx134_1); replace p134 := eq_true p134; replace q134 := eq_true q134; have p135 : 0 ≤ (1 : Int) := (by omega); have q135 : 1 < (t129.length : Int) := od_; obtain ⟨ad135, e135, hx135_0, hx135_1⟩ := at_T25 (Kd.R_reads' HO131.out).2.2 1 p135 q135; obtain rfl : ad132 = ad135 := (by injection e135); (try simp only [show (1 : Int).toNat = 1 from rfl, Nat.reduceMul, Nat.reduceEqDiff, Go.Addr.add, ↓reduceIte] at hx135_0); (try simp only [show (1 : Int).toNat = 1 from rfl, Nat.reduceMul, Nat.reduceEqDiff, Go.Addr.add, ↓reduceIte] at hx135_1); have qi135 : (1 < t129.length) = True := eq_true (by omega); (try rw [show ((1 : Int)).toNat = 1 from rfl] at hx135_0); (try rw [show 1 * 2 = 2 from rfl] at hx135_0); (try rw [show ((1 : Int)).toNat = 1 from rfl] at hx135_1); (try rw [show 1 * 2 = 2 from rfl] at hx135_1); replace p135 := eq_true p135; replace q135 := eq_true q135) | (go_at_call 20; (with_reducible refine (runs_Sane.calls k _ _ t129 true _ ?side1 ?side2 A9.out).mono ?_); (case side1 => repeat (first | exact (Kd.R_reads' HO131.out).2.2 | (with_reducible refine Kd.C_alloc ?_ _) | (with_reducible refine Kd.C_drewN ?_ _) | (with_reducible refine Kd.C_drew ?_))); (case side2 => exact (Kd.R_reads' HO131.out).2.1); rintro e w21 ⟨rfl, hb⟩; have n0_ := Aside0.mk (Kd.R_below (by (with_reducible repeat (first | apply Kd.R_alloc | apply Kd.R_drewN | apply Kd.R_drew)); exact HO128.out) hb); have n1_ := Aside0.mk (Kd.R_below (by (with_reducible repeat (first | apply Kd.R_alloc | apply Kd.R_drewN | apply Kd.R_drew)); exact HO131.out) hb); have n2_ := Aside0.mk (below_step hb_ hb); clear HO128; clear HO131; clear HB; have HO128 := n0_; have HO131 := n1_; have HB := n2_; clear n0_ n1_ n2_; (try clear hb); (try clear hb2); (try clear hk); (try clear hi)) | (go_at_call 22; (with_reducible refine (runs_Has.calls k _ _ t129 6 true _ ?side1 ?side2 A11.out).mono ?_); (case side1 => repeat (first | exact (Kd.R_reads' HO131.out).2.2 | (with_reducible refine Kd.C_alloc ?_ _) | (with_reducible refine Kd.C_drewN ?_ _) | (with_reducible refine Kd.C_drew ?_))); (case side2 => exact (Kd.R_reads' HO131.out).2.1); rintro e w22 ⟨rfl, hb⟩; have n0_ := Aside0.mk (Kd.R_below (by (with_reducible repeat (first | apply Kd.R_alloc | apply Kd.R_drewN | apply Kd.R_drew)); exact HO128.out) hb); have n1_ := Aside0.mk (Kd.R_below (by (with_reducible repeat (first | apply Kd.R_alloc | apply Kd.R_drewN | apply Kd.R_drew)); exact HO131.out) hb); have n2_ := Aside0.mk (below_step hb_ hb); clear HO128; clear HO131; clear HB; have HO128 := n0_; have HO131 := n1_; have HB := n2_; clear n0_ n1_ n2_; (try clear hb); (try clear hb2); (try clear hk); (try clear hi)) | (go_at_call 24; (with_reducible refine (runs_Count.calls k _ _ t129 t138 _ ?side1 ?side2 A13.out).mono ?_); (case side1 => repeat (first | exact (Kd.R_reads' HO131.out).2.2 | (with_reducible refine Kd.C_alloc ?_ _) | (with_reducible refine Kd.C_drewN ?_ _) | (with_reducible refine Kd.C_drew ?_))); (case side2 => exact (Kd.R_reads' HO131.out).2.1); rintro e w23 ⟨rfl, hb⟩; have n0_ := Aside0.mk (Kd.R_below (by (with_reducible repeat (first | apply Kd.R_alloc | apply Kd.R_drewN | apply Kd.R_drew)); exact HO128.out) hb); have n1_ := Aside0.mk (Kd.R_below (by (with_reducible repeat (first | apply Kd.R_alloc | apply Kd.R_drewN | apply Kd.R_drew)); exact HO131.out) hb); have n2_ := Aside0.mk (below_step hb_ hb); clear HO128; clear HO131; clear HB; have HO128 := n0_; have HO131 := n1_; have HB := n2_; clear n0_ n1_ n2_; (try clear hb); (try clear hb2); (try clear hk); (try clear hi)) | ((with_reducible refine gate_dst (N := 52) rfl ?_); (try (refine gate_guard (by rfl) ?_; dsimp only)); refine Kd.R_lit (Kd.int .i64) _ 3 ?hg (N := 52) ?hd (xs := ([3] : List Int)) (inner := [.int .i64 3]) (ok := fun _ => True) (okp := fun _ => True) ?hr ?hp (fun _ hk => hk) trivial (Below.refl _ _) (Nat.le_refl _) (by simp) ?_; (case hd => rfl); (case hg => rfl); (case hr => first | (go_simp; done) | (go_simp; rfl)); (case hp => exact (Reps.one (show Kd.M (Kd.int .i64) _ _ _ 3 [.int .i64 3] from rfl) (Reps.none _ _))); intro v140 w24 ho25 hb hg_ hnew_; clear hg_ hnew_; (first | rw [← Ny139.out] at ho25 | (simp only [Int.reduceToNat] at ho25; rw [← Ny139.out] at ho25)); have n0_ := Aside0.mk (Kd.R_below (by (with_reducible repeat (first | apply Kd.R_alloc | apply Kd.R_drewN | apply Kd.R_drew)); exact HO128.out) hb); have n1_ := Aside0.mk (Kd.R_below (by (with_reducible repeat (first | apply Kd.R_alloc | apply Kd.R_drewN | apply Kd.R_drew)); exact HO131.out) hb); have n2_ := Aside0.mk (Kd.R_lower ho25 (below_size hb_)); have n3_ := Aside0.mk (below_step hb_ hb); clear HO128; clear HO131; clear HB; have HO128 := n0_; have HO131 := n1_; have HO141 := n2_; have HB := n3_; clear n0_ n1_ n2_ n3_; clear hb ho25; obtain ⟨Ao26, co26, eo26⟩ := Kd.R_slice HO141.out; subst eo26) | (go_at_call 23; (with_reducible refine (runs_Of.calls k _ _ y139 t142 _ ?side1 ?side2 A15.out).mono ?_); (case side1 => repeat (first | exact (Kd.R_reads' HO141.out).2.2 | (with_reducible refine Kd.C_alloc ?_ _) | (with_reducible refine Kd.C_drewN ?_ _) | (with_reducible refine Kd.C_drew ?_))); (case side2 => exact (Kd.R_reads' HO141.out).2.1); rintro e w27 ⟨v143, rfl, ho0, hb⟩; have n0_ := Aside0.mk (Kd.R_elder' (by (with_reducible repeat (first | apply Kd.R_alloc | apply Kd.R_drewN | apply Kd.R_drew)); exact HO128.out) (Kd.R_base ho0) hb); have n1_ := Aside0.mk (Kd.R_elder' (by (with_reducible repeat (first | apply Kd.R_alloc | apply Kd.R_drewN | apply Kd.R_drew)); exact HO131.out) (Kd.R_base ho0) hb); have n2_ := Aside0.mk (Kd.R_below (by (with_reducible repeat (first | apply Kd.R_alloc | apply Kd.R_drewN | apply Kd.R_drew)); exact HO141.out) hb); have n3_ := Aside0.mk (Kd.R_lower (Kd.R_new' (Kd.R_new' ho0 (Kd.R_lt (by (with_reducible repeat (first | apply Kd.R_alloc | apply Kd.R_drewN | apply Kd.R_drew)); exact HO128.out))) (Kd.R_lt (by (with_reducible repeat (first | apply Kd.R_alloc | apply Kd.R_drewN | apply Kd.R_drew)); exact HO131.out))) (below_size hb_)); have n4_ := Aside0.mk (below_step hb_ hb); clear HO128; clear HO131; clear HO141; clear HB; have HO128 := n0_; have HO131 := n1_; have HO141 := n2_; have HO144 := n3_; have HB := n4_; clear n0_ n1_ n2_ n3_ n4_; (try clear hb); (try clear hb2); (try clear hk); (try clear hi); (try clear ho0); obtain ⟨Ao28, co28, eo28⟩ := Kd.R_slice HO144.out; subst eo28))
           go_ret; exact ⟨re_, hb_⟩
          ·rw [if_neg c14] at H
           have c14b0 : (t138 == 6) = false := beq_eq_false_iff_ne.mpr c14; have c14b1 : (t138 != 6) = true := bne_iff_ne.mpr c14; obtain rfl := Option.some.inj H; go_enter Try.func18, Try.ntmps18; go_wp2_with (first | ((with_reducible refine gate_dst (N := 5) rfl ?_); (try (refine gate_guard (by rfl) ?_; dsimp only)); refine Kd.R_lit k25 _ 25 ?hg (N := 5) ?hd (xs := ([(⟨5, 7⟩ : S25), (⟨1, 2⟩ : S25), (⟨3, 3⟩ : S25)] : List (S25))) (inner := [.int .i64 5, .int .i64 7, .int .i64 1, .int .i64 2, .int .i64 3, .int .i64 3]) (ok := fun _ => True) (okp := fun _ => True) ?hr ?hp (fun _ hk => hk) trivial (Below.refl _ _) (Nat.le_refl _) (by simp) ?_; (case hd => rfl); (case hg => rfl); (case hr => first | (go_simp; done) | (go_simp; rfl)); (case hp => exact (Reps.c2 (show Kd.M k25 _ _ _ (⟨5, 7⟩ : S25) [.int .i64 5, .int .i64 7] from (k25_mkM _ _ _ (⟨5, 7⟩ : S25) )) (Reps.c2 (show Kd.M k25 _ _ _ (⟨1, 2⟩ : S25) [.int .i64 1, .int .i64 2] from (k25_mkM _ _ _ (⟨1, 2⟩ : S25) )) (Reps.c2 (show Kd.M k25 _ _ _ (⟨3, 3⟩ : S25) [.int .i64 3, .int .i64 3] from (k25_mkM _ _ _ (⟨3, 3⟩ : S25) )) (Reps.none _ _))))); intro v127 w29 ho30 hb hg_ hnew_; clear hg_ hnew_; (first | rw [← Ny126.out] at ho30 | (simp only [Int.reduceToNat] at ho30; rw [← Ny126.out] at ho30)); have n0_ := Aside0.mk (Kd.R_lower ho30 (below_size hb_)); have n1_ := Aside0.mk (below_step hb_ hb); clear HB; have HO128 := n0_; have HB := n1_; clear n0_ n1_; clear hb ho30; obtain ⟨Ao31, co31, eo31⟩ := Kd.R_slice HO128.out; subst eo31) | ((with_reducible refine gate_callee (f := 19) rfl ?_); refine goesL_ (some 6) rfl rfl Try.func19 (by kernel_rfl) rfl #[.slice Ao31 y126.length co31] rfl ml_ ?_; (with_reducible refine (runs_Make.calls _ _ y126 t129 _ ?side1 ?side2 A1.out).mono ?_); (case side1 => repeat (first | exact (Kd.R_reads' HO128.out).2.2 | (with_reducible refine Kd.C_alloc ?_ _) | (with_reducible refine Kd.C_drewN ?_ _) | (with_reducible refine Kd.C_drew ?_))); (case side2 => exact (Kd.R_reads' HO128.out).2.1); rintro e w32 ⟨v130, rfl, ho0, hb⟩; refine ⟨_, rfl, ?_⟩; have n0_ := Aside0.mk (Kd.R_elder' (by (with_reducible repeat (first | apply Kd.R_alloc | apply Kd.R_drewN | apply Kd.R_drew)); exact HO128.out) (Kd.R_base ho0) hb); have n1_ := Aside0.mk (Kd.R_lower (Kd.R_new' ho0 (Kd.R_lt (by (with_reducible repeat (first | apply Kd.R_alloc | apply Kd.R_drewN | apply Kd.R_drew)); exact HO128.out))) (below_size hb_)); have n2_ := Aside0.mk (below_step hb_ hb); clear HO128; clear HB; have HO128 := n0_; have HO131 := n1_; have HB := n2_; clear n0_ n1_ n2_; (try clear hb); (try clear hb2); (try clear hk); (try clear hi); (try clear ho0); obtain ⟨Ao33, co33, eo33⟩ := Kd.R_slice HO131.out; subst eo33; have p132 : 0 ≤ (0 : Int) := (by omega); have q132 : 0 < (t129.length : Int) := od_; obtain ⟨ad132, e132, hx132_0, hx132_1⟩ := at_T25 (Kd.R_reads' HO131.out).2.2 0 p132 q132; cases e132; have qi132 : (0 < t129.length) = True := eq_true (by omega); (try rw [show ((0 : Int)).toNat = 0 from rfl] at hx132_0); (try rw [show 0 * 2 = 0 from rfl] at hx132_0); (try rw [Addr.add_zero'] at hx132_0); (try rw [show ((0 : Int)).toNat = 0 from rfl] at hx132_1); (try rw [show 0 * 2 = 0 from rfl] at hx132_1); (try rw [Addr.add_zero'] at hx132_1); replace p132 := eq_true p132; replace q132 := eq_true q132; have p133 : 0 ≤ (0 : Int) := (by omega); have q133 : 0 < (t129.length : Int) := od_; obtain ⟨ad133, e133, hx133_0, hx133_1⟩ := at_T25 (Kd.R_reads' HO131.out).2.2 0 p133 q133; obtain rfl : ad132 = ad133 := (by injection e133); have qi133 : (0 < t129.length) = True := eq_true (by omega); (try rw [show ((0 : Int)).toNat = 0 from rfl] at hx133_0); (try rw [show 0 * 2 = 0 from rfl] at hx133_0); (try rw [Addr.add_zero'] at hx133_0); (try rw [show ((0 : Int)).toNat = 0 from rfl] at hx133_1); (try rw [show 0 * 2 = 0 from rfl] at hx133_1); (try rw [Addr.add_zero'] at hx133_1); replace p133 := eq_true p133; replace q133 := eq_true q133; have p134 : 0 ≤ (1 : Int) := (by omega); have q134 : 1 < (t129.length : Int) := od_; obtain ⟨ad134, e134, hx134_0, hx134_1⟩ := at_T25 (Kd.R_reads' HO131.out).2.2 1 p134 q134; obtain rfl : ad132 = ad134 := (by injection e134); (try simp only [show (1 : Int).toNat = 1 from rfl, Nat.reduceMul, Nat.reduceEqDiff, Go.Addr.add, ↓reduceIte] at hx134_0); (try simp only [show (1 : Int).toNat = 1 from rfl, Nat.reduceMul, Nat.reduceEqDiff, Go.Addr.add, ↓reduceIte] at hx134_1); have qi134 : (1 < t129.length) = True := eq_true (by omega); (try rw [show ((1 : Int)).toNat = 1 from rfl] at hx134_0); (try rw [show 1 * 2 = 2 from rfl] at hx134_0); (try rw [show ((1 : Int)).toNat = 1 from rfl] at hx134_1); (try rw [show 1 * 2 = 2 from rfl] at hx134_1); replace p134 := eq_true p134; replace q134 := eq_true q134; have p135 : 0 ≤ (1 : Int) := (by omega); have q135 : 1 < (t129.length : Int) := od_; obtain ⟨ad135, e135, hx135_0, hx135_1⟩ := at_T25 (Kd.R_reads' HO131.out).2.2 1 p135 q135; obtain rfl : ad132 = ad135 := (by injection e135); (try simp only [show (1 : Int).toNat = 1 from rfl, Nat.reduceMul, Nat.reduceEqDiff, Go.Addr.add, ↓reduceIte] at hx135_0); (try simp only [show (1 : Int).toNat = 1 from rfl, Nat.reduceMul, Nat.reduceEqDiff, Go.Addr.add, ↓reduceIte] at hx135_1); have qi135 : (1 < t129.length) = True := eq_true (by omega); (try rw [show ((1 : Int)).toNat = 1 from rfl] at hx135_0); (try rw [show 1 * 2 = 2 from rfl] at hx135_0); (try rw [show ((1 : Int)).toNat = 1 from rfl] at hx135_1); (try rw [show 1 * 2 = 2 from rfl] at hx135_1); replace p135 := eq_true p135; replace q135 := eq_true q135) | (go_at_call 20; (with_reducible refine (runs_Sane.calls k _ _ t129 true _ ?side1 ?side2 A9.out).mono ?_); (case side1 => repeat (first | exact (Kd.R_reads' HO131.out).2.2 | (with_reducible refine Kd.C_alloc ?_ _) | (with_reducible refine Kd.C_drewN ?_ _) | (with_reducible refine Kd.C_drew ?_))); (case side2 => exact (Kd.R_reads' HO131.out).2.1); rintro e w34 ⟨rfl, hb⟩; have n0_ := Aside0.mk (Kd.R_below (by (with_reducible repeat (first | apply Kd.R_alloc | apply Kd.R_drewN | apply Kd.R_drew)); exact HO128.out) hb); have n1_ := Aside0.mk (Kd.R_below (by (with_reducible repeat (first | apply Kd.R_alloc | apply Kd.R_drewN | apply Kd.R_drew)); exact HO131.out) hb); have n2_ := Aside0.mk (below_step hb_ hb); clear HO128; clear HO131; clear HB; have HO128 := n0_; have HO131 := n1_; have HB := n2_; clear n0_ n1_ n2_; (try clear hb); (try clear hb2); (try clear hk); (try clear hi)) | (go_at_call 22; (with_reducible refine (runs_Has.calls k _ _ t129 6 true _ ?side1 ?side2 A11.out).mono ?_); (case side1 => repeat (first | exact (Kd.R_reads' HO131.out).2.2 | (with_reducible refine Kd.C_alloc ?_ _) | (with_reducible refine Kd.C_drewN ?_ _) | (with_reducible refine Kd.C_drew ?_))); (case side2 => exact (Kd.R_reads' HO131.out).2.1); rintro e w35 ⟨rfl, hb⟩; have n0_ := Aside0.mk (Kd.R_below (by (with_reducible repeat (first | apply Kd.R_alloc | apply Kd.R_drewN | apply Kd.R_drew)); exact HO128.out) hb); have n1_ := Aside0.mk (Kd.R_below (by (with_reducible repeat (first | apply Kd.R_alloc | apply Kd.R_drewN | apply Kd.R_drew)); exact HO131.out) hb); have n2_ := Aside0.mk (below_step hb_ hb); clear HO128; clear HO131; clear HB; have HO128 := n0_; have HO131 := n1_; have HB := n2_; clear n0_ n1_ n2_; (try clear hb); (try clear hb2); (try clear hk); (try clear hi)) | (go_at_call 24; (with_reducible refine (runs_Count.calls k _ _ t129 t138 _ ?side1 ?side2 A13.out).mono ?_); (case side1 => repeat (first | exact (Kd.R_reads' HO131.out).2.2 | (with_reducible refine Kd.C_alloc ?_ _) | (with_reducible refine Kd.C_drewN ?_ _) | (with_reducible refine Kd.C_drew ?_))); (case side2 => exact (Kd.R_reads' HO131.out).2.1); rintro e w36 ⟨rfl, hb⟩; have n0_ := Aside0.mk (Kd.R_below (by (with_reducible repeat (first | apply Kd.R_alloc | apply Kd.R_drewN | apply Kd.R_drew)); exact HO128.out) hb); have n1_ := Aside0.mk (Kd.R_below (by (with_reducible repeat (first | apply Kd.R_alloc | apply Kd.R_drewN | apply Kd.R_drew)); exact HO131.out) hb); have n2_ := Aside0.mk (below_step hb_ hb); clear HO128; clear HO131; clear HB; have HO128 := n0_; have HO131 := n1_; have HB := n2_; clear n0_ n1_ n2_; (try clear hb); (try clear hb2); (try clear hk); (try clear hi)))
           go_ret; exact ⟨re_, hb_⟩
         ·replace c12 := Bool.eq_false_iff.mpr c12
          subst c12; (have H1 : (some false) = some r := by rw [if_neg (show ¬ (false = true) by decide)] at H; exact H); clear H; have H := H1; clear H1; obtain rfl := Option.some.inj H; go_enter Try.func18, Try.ntmps18; go_wp2_with (first | ((with_reducible refine gate_dst (N := 5) rfl ?_); (try (refine gate_guard (by rfl) ?_; dsimp only)); refine Kd.R_lit k25 _ 25 ?hg (N := 5) ?hd (xs := ([(⟨5, 7⟩ : S25), (⟨1, 2⟩ : S25), (⟨3, 3⟩ : S25)] : List (S25))) (inner := [.int .i64 5, .int .i64 7, .int .i64 1, .int .i64 2, .int .i64 3, .int .i64 3]) (ok := fun _ => True) (okp := fun _ => True) ?hr ?hp (fun _ hk => hk) trivial (Below.refl _ _) (Nat.le_refl _) (by simp) ?_; (case hd => rfl); (case hg => rfl); (case hr => first | (go_simp; done) | (go_simp; rfl)); (case hp => exact (Reps.c2 (show Kd.M k25 _ _ _ (⟨5, 7⟩ : S25) [.int .i64 5, .int .i64 7] from (k25_mkM _ _ _ (⟨5, 7⟩ : S25) )) (Reps.c2 (show Kd.M k25 _ _ _ (⟨1, 2⟩ : S25) [.int .i64 1, .int .i64 2] from (k25_mkM _ _ _ (⟨1, 2⟩ : S25) )) (Reps.c2 (show Kd.M k25 _ _ _ (⟨3, 3⟩ : S25) [.int .i64 3, .int .i64 3] from (k25_mkM _ _ _ (⟨3, 3⟩ : S25) )) (Reps.none _ _))))); intro v127 w37 ho38 hb hg_ hnew_; clear hg_ hnew_; (first | rw [← Ny126.out] at ho38 | (simp only [Int.reduceToNat] at ho38; rw [← Ny126.out] at ho38)); have n0_ := Aside0.mk (Kd.R_lower ho38 (below_size hb_)); have n1_ := Aside0.mk (below_step hb_ hb); clear HB; have HO128 := n0_; have HB := n1_; clear n0_ n1_; clear hb ho38; obtain ⟨Ao39, co39, eo39⟩ := Kd.R_slice HO128.out; subst eo39) | ((with_reducible refine gate_callee (f := 19) rfl ?_); refine goesL_ (some 6) rfl rfl Try.func19 (by kernel_rfl) rfl #[.slice Ao39 y126.length co39] rfl ml_ ?_; (with_reducible refine (runs_Make.calls _ _ y126 t129 _ ?side1 ?side2 A1.out).mono ?_); (case side1 => repeat (first | exact (Kd.R_reads' HO128.out).2.2 | (with_reducible refine Kd.C_alloc ?_ _) | (with_reducible refine Kd.C_drewN ?_ _) | (with_reducible refine Kd.C_drew ?_))); (case side2 => exact (Kd.R_reads' HO128.out).2.1); rintro e w40 ⟨v130, rfl, ho0, hb⟩; refine ⟨_, rfl, ?_⟩; have n0_ := Aside0.mk (Kd.R_elder' (by (with_reducible repeat (first | apply Kd.R_alloc | apply Kd.R_drewN | apply Kd.R_drew)); exact HO128.out) (Kd.R_base ho0) hb); have n1_ := Aside0.mk (Kd.R_lower (Kd.R_new' ho0 (Kd.R_lt (by (with_reducible repeat (first | apply Kd.R_alloc | apply Kd.R_drewN | apply Kd.R_drew)); exact HO128.out))) (below_size hb_)); have n2_ := Aside0.mk (below_step hb_ hb); clear HO128; clear HB; have HO128 := n0_; have HO131 := n1_; have HB := n2_; clear n0_ n1_ n2_; (try clear hb); (try clear hb2); (try clear hk); (try clear hi); (try clear ho0); obtain ⟨Ao41, co41, eo41⟩ := Kd.R_slice HO131.out; subst eo41; have p132 : 0 ≤ (0 : Int) := (by omega); have q132 : 0 < (t129.length : Int) := od_; obtain ⟨ad132, e132, hx132_0, hx132_1⟩ := at_T25 (Kd.R_reads' HO131.out).2.2 0 p132 q132; cases e132; have qi132 : (0 < t129.length) = True := eq_true (by omega); (try rw [show ((0 : Int)).toNat = 0 from rfl] at hx132_0); (try rw [show 0 * 2 = 0 from rfl] at hx132_0); (try rw [Addr.add_zero'] at hx132_0); (try rw [show ((0 : Int)).toNat = 0 from rfl] at hx132_1); (try rw [show 0 * 2 = 0 from rfl] at hx132_1); (try rw [Addr.add_zero'] at hx132_1); replace p132 := eq_true p132; replace q132 := eq_true q132; have p133 : 0 ≤ (0 : Int) := (by omega); have q133 : 0 < (t129.length : Int) := od_; obtain ⟨ad133, e133, hx133_0, hx133_1⟩ := at_T25 (Kd.R_reads' HO131.out).2.2 0 p133 q133; obtain rfl : ad132 = ad133 := (by injection e133); have qi133 : (0 < t129.length) = True := eq_true (by omega); (try rw [show ((0 : Int)).toNat = 0 from rfl] at hx133_0); (try rw [show 0 * 2 = 0 from rfl] at hx133_0); (try rw [Addr.add_zero'] at hx133_0); (try rw [show ((0 : Int)).toNat = 0 from rfl] at hx133_1); (try rw [show 0 * 2 = 0 from rfl] at hx133_1); (try rw [Addr.add_zero'] at hx133_1); replace p133 := eq_true p133; replace q133 := eq_true q133; have p134 : 0 ≤ (1 : Int) := (by omega); have q134 : 1 < (t129.length : Int) := od_; obtain ⟨ad134, e134, hx134_0, hx134_1⟩ := at_T25 (Kd.R_reads' HO131.out).2.2 1 p134 q134; obtain rfl : ad132 = ad134 := (by injection e134); (try simp only [show (1 : Int).toNat = 1 from rfl, Nat.reduceMul, Nat.reduceEqDiff, Go.Addr.add, ↓reduceIte] at hx134_0); (try simp only [show (1 : Int).toNat = 1 from rfl, Nat.reduceMul, Nat.reduceEqDiff, Go.Addr.add, ↓reduceIte] at hx134_1); have qi134 : (1 < t129.length) = True := eq_true (by omega); (try rw [show ((1 : Int)).toNat = 1 from rfl] at hx134_0); (try rw [show 1 * 2 = 2 from rfl] at hx134_0); (try rw [show ((1 : Int)).toNat = 1 from rfl] at hx134_1); (try rw [show 1 * 2 = 2 from rfl] at hx134_1); replace p134 := eq_true p134; replace q134 := eq_true q134; have p135 : 0 ≤ (1 : Int) := (by omega); have q135 : 1 < (t129.length : Int) := od_; obtain ⟨ad135, e135, hx135_0, hx135_1⟩ := at_T25 (Kd.R_reads' HO131.out).2.2 1 p135 q135; obtain rfl : ad132 = ad135 := (by injection e135); (try simp only [show (1 : Int).toNat = 1 from rfl, Nat.reduceMul, Nat.reduceEqDiff, Go.Addr.add, ↓reduceIte] at hx135_0); (try simp only [show (1 : Int).toNat = 1 from rfl, Nat.reduceMul, Nat.reduceEqDiff, Go.Addr.add, ↓reduceIte] at hx135_1); have qi135 : (1 < t129.length) = True := eq_true (by omega); (try rw [show ((1 : Int)).toNat = 1 from rfl] at hx135_0); (try rw [show 1 * 2 = 2 from rfl] at hx135_0); (try rw [show ((1 : Int)).toNat = 1 from rfl] at hx135_1); (try rw [show 1 * 2 = 2 from rfl] at hx135_1); replace p135 := eq_true p135; replace q135 := eq_true q135) | (go_at_call 20; (with_reducible refine (runs_Sane.calls k _ _ t129 true _ ?side1 ?side2 A9.out).mono ?_); (case side1 => repeat (first | exact (Kd.R_reads' HO131.out).2.2 | (with_reducible refine Kd.C_alloc ?_ _) | (with_reducible refine Kd.C_drewN ?_ _) | (with_reducible refine Kd.C_drew ?_))); (case side2 => exact (Kd.R_reads' HO131.out).2.1); rintro e w42 ⟨rfl, hb⟩; have n0_ := Aside0.mk (Kd.R_below (by (with_reducible repeat (first | apply Kd.R_alloc | apply Kd.R_drewN | apply Kd.R_drew)); exact HO128.out) hb); have n1_ := Aside0.mk (Kd.R_below (by (with_reducible repeat (first | apply Kd.R_alloc | apply Kd.R_drewN | apply Kd.R_drew)); exact HO131.out) hb); have n2_ := Aside0.mk (below_step hb_ hb); clear HO128; clear HO131; clear HB; have HO128 := n0_; have HO131 := n1_; have HB := n2_; clear n0_ n1_ n2_; (try clear hb); (try clear hb2); (try clear hk); (try clear hi)) | (go_at_call 22; (with_reducible refine (runs_Has.calls k _ _ t129 6 false _ ?side1 ?side2 A11.out).mono ?_); (case side1 => repeat (first | exact (Kd.R_reads' HO131.out).2.2 | (with_reducible refine Kd.C_alloc ?_ _) | (with_reducible refine Kd.C_drewN ?_ _) | (with_reducible refine Kd.C_drew ?_))); (case side2 => exact (Kd.R_reads' HO131.out).2.1); rintro e w43 ⟨rfl, hb⟩; have n0_ := Aside0.mk (Kd.R_below (by (with_reducible repeat (first | apply Kd.R_alloc | apply Kd.R_drewN | apply Kd.R_drew)); exact HO128.out) hb); have n1_ := Aside0.mk (Kd.R_below (by (with_reducible repeat (first | apply Kd.R_alloc | apply Kd.R_drewN | apply Kd.R_drew)); exact HO131.out) hb); have n2_ := Aside0.mk (below_step hb_ hb); clear HO128; clear HO131; clear HB; have HO128 := n0_; have HO131 := n1_; have HB := n2_; clear n0_ n1_ n2_; (try clear hb); (try clear hb2); (try clear hk); (try clear hi)))
          go_ret; exact ⟨re_, hb_⟩
        ·replace c10 := Bool.eq_false_iff.mpr c10
         subst c10; (have H1 : (some false) = some r := by rw [if_neg (show ¬ (false = true) by decide)] at H; exact H); clear H; have H := H1; clear H1; obtain rfl := Option.some.inj H; go_enter Try.func18, Try.ntmps18; go_wp2_with (first | ((with_reducible refine gate_dst (N := 5) rfl ?_); (try (refine gate_guard (by rfl) ?_; dsimp only)); refine Kd.R_lit k25 _ 25 ?hg (N := 5) ?hd (xs := ([(⟨5, 7⟩ : S25), (⟨1, 2⟩ : S25), (⟨3, 3⟩ : S25)] : List (S25))) (inner := [.int .i64 5, .int .i64 7, .int .i64 1, .int .i64 2, .int .i64 3, .int .i64 3]) (ok := fun _ => True) (okp := fun _ => True) ?hr ?hp (fun _ hk => hk) trivial (Below.refl _ _) (Nat.le_refl _) (by simp) ?_; (case hd => rfl); (case hg => rfl); (case hr => first | (go_simp; done) | (go_simp; rfl)); (case hp => exact (Reps.c2 (show Kd.M k25 _ _ _ (⟨5, 7⟩ : S25) [.int .i64 5, .int .i64 7] from (k25_mkM _ _ _ (⟨5, 7⟩ : S25) )) (Reps.c2 (show Kd.M k25 _ _ _ (⟨1, 2⟩ : S25) [.int .i64 1, .int .i64 2] from (k25_mkM _ _ _ (⟨1, 2⟩ : S25) )) (Reps.c2 (show Kd.M k25 _ _ _ (⟨3, 3⟩ : S25) [.int .i64 3, .int .i64 3] from (k25_mkM _ _ _ (⟨3, 3⟩ : S25) )) (Reps.none _ _))))); intro v127 w44 ho45 hb hg_ hnew_; clear hg_ hnew_; (first | rw [← Ny126.out] at ho45 | (simp only [Int.reduceToNat] at ho45; rw [← Ny126.out] at ho45)); have n0_ := Aside0.mk (Kd.R_lower ho45 (below_size hb_)); have n1_ := Aside0.mk (below_step hb_ hb); clear HB; have HO128 := n0_; have HB := n1_; clear n0_ n1_; clear hb ho45; obtain ⟨Ao46, co46, eo46⟩ := Kd.R_slice HO128.out; subst eo46) | ((with_reducible refine gate_callee (f := 19) rfl ?_); refine goesL_ (some 6) rfl rfl Try.func19 (by kernel_rfl) rfl #[.slice Ao46 y126.length co46] rfl ml_ ?_; (with_reducible refine (runs_Make.calls _ _ y126 t129 _ ?side1 ?side2 A1.out).mono ?_); (case side1 => repeat (first | exact (Kd.R_reads' HO128.out).2.2 | (with_reducible refine Kd.C_alloc ?_ _) | (with_reducible refine Kd.C_drewN ?_ _) | (with_reducible refine Kd.C_drew ?_))); (case side2 => exact (Kd.R_reads' HO128.out).2.1); rintro e w47 ⟨v130, rfl, ho0, hb⟩; refine ⟨_, rfl, ?_⟩; have n0_ := Aside0.mk (Kd.R_elder' (by (with_reducible repeat (first | apply Kd.R_alloc | apply Kd.R_drewN | apply Kd.R_drew)); exact HO128.out) (Kd.R_base ho0) hb); have n1_ := Aside0.mk (Kd.R_lower (Kd.R_new' ho0 (Kd.R_lt (by (with_reducible repeat (first | apply Kd.R_alloc | apply Kd.R_drewN | apply Kd.R_drew)); exact HO128.out))) (below_size hb_)); have n2_ := Aside0.mk (below_step hb_ hb); clear HO128; clear HB; have HO128 := n0_; have HO131 := n1_; have HB := n2_; clear n0_ n1_ n2_; (try clear hb); (try clear hb2); (try clear hk); (try clear hi); (try clear ho0); obtain ⟨Ao48, co48, eo48⟩ := Kd.R_slice HO131.out; subst eo48; have p132 : 0 ≤ (0 : Int) := (by omega); have q132 : 0 < (t129.length : Int) := od_; obtain ⟨ad132, e132, hx132_0, hx132_1⟩ := at_T25 (Kd.R_reads' HO131.out).2.2 0 p132 q132; cases e132; have qi132 : (0 < t129.length) = True := eq_true (by omega); (try rw [show ((0 : Int)).toNat = 0 from rfl] at hx132_0); (try rw [show 0 * 2 = 0 from rfl] at hx132_0); (try rw [Addr.add_zero'] at hx132_0); (try rw [show ((0 : Int)).toNat = 0 from rfl] at hx132_1); (try rw [show 0 * 2 = 0 from rfl] at hx132_1); (try rw [Addr.add_zero'] at hx132_1); replace p132 := eq_true p132; replace q132 := eq_true q132; have p133 : 0 ≤ (0 : Int) := (by omega); have q133 : 0 < (t129.length : Int) := od_; obtain ⟨ad133, e133, hx133_0, hx133_1⟩ := at_T25 (Kd.R_reads' HO131.out).2.2 0 p133 q133; obtain rfl : ad132 = ad133 := (by injection e133); have qi133 : (0 < t129.length) = True := eq_true (by omega); (try rw [show ((0 : Int)).toNat = 0 from rfl] at hx133_0); (try rw [show 0 * 2 = 0 from rfl] at hx133_0); (try rw [Addr.add_zero'] at hx133_0); (try rw [show ((0 : Int)).toNat = 0 from rfl] at hx133_1); (try rw [show 0 * 2 = 0 from rfl] at hx133_1); (try rw [Addr.add_zero'] at hx133_1); replace p133 := eq_true p133; replace q133 := eq_true q133; have p134 : 0 ≤ (1 : Int) := (by omega); have q134 : 1 < (t129.length : Int) := od_; obtain ⟨ad134, e134, hx134_0, hx134_1⟩ := at_T25 (Kd.R_reads' HO131.out).2.2 1 p134 q134; obtain rfl : ad132 = ad134 := (by injection e134); (try simp only [show (1 : Int).toNat = 1 from rfl, Nat.reduceMul, Nat.reduceEqDiff, Go.Addr.add, ↓reduceIte] at hx134_0); (try simp only [show (1 : Int).toNat = 1 from rfl, Nat.reduceMul, Nat.reduceEqDiff, Go.Addr.add, ↓reduceIte] at hx134_1); have qi134 : (1 < t129.length) = True := eq_true (by omega); (try rw [show ((1 : Int)).toNat = 1 from rfl] at hx134_0); (try rw [show 1 * 2 = 2 from rfl] at hx134_0); (try rw [show ((1 : Int)).toNat = 1 from rfl] at hx134_1); (try rw [show 1 * 2 = 2 from rfl] at hx134_1); replace p134 := eq_true p134; replace q134 := eq_true q134; have p135 : 0 ≤ (1 : Int) := (by omega); have q135 : 1 < (t129.length : Int) := od_; obtain ⟨ad135, e135, hx135_0, hx135_1⟩ := at_T25 (Kd.R_reads' HO131.out).2.2 1 p135 q135; obtain rfl : ad132 = ad135 := (by injection e135); (try simp only [show (1 : Int).toNat = 1 from rfl, Nat.reduceMul, Nat.reduceEqDiff, Go.Addr.add, ↓reduceIte] at hx135_0); (try simp only [show (1 : Int).toNat = 1 from rfl, Nat.reduceMul, Nat.reduceEqDiff, Go.Addr.add, ↓reduceIte] at hx135_1); have qi135 : (1 < t129.length) = True := eq_true (by omega); (try rw [show ((1 : Int)).toNat = 1 from rfl] at hx135_0); (try rw [show 1 * 2 = 2 from rfl] at hx135_0); (try rw [show ((1 : Int)).toNat = 1 from rfl] at hx135_1); (try rw [show 1 * 2 = 2 from rfl] at hx135_1); replace p135 := eq_true p135; replace q135 := eq_true q135) | (go_at_call 20; (with_reducible refine (runs_Sane.calls k _ _ t129 false _ ?side1 ?side2 A9.out).mono ?_); (case side1 => repeat (first | exact (Kd.R_reads' HO131.out).2.2 | (with_reducible refine Kd.C_alloc ?_ _) | (with_reducible refine Kd.C_drewN ?_ _) | (with_reducible refine Kd.C_drew ?_))); (case side2 => exact (Kd.R_reads' HO131.out).2.1); rintro e w49 ⟨rfl, hb⟩; have n0_ := Aside0.mk (Kd.R_below (by (with_reducible repeat (first | apply Kd.R_alloc | apply Kd.R_drewN | apply Kd.R_drew)); exact HO128.out) hb); have n1_ := Aside0.mk (Kd.R_below (by (with_reducible repeat (first | apply Kd.R_alloc | apply Kd.R_drewN | apply Kd.R_drew)); exact HO131.out) hb); have n2_ := Aside0.mk (below_step hb_ hb); clear HO128; clear HO131; clear HB; have HO128 := n0_; have HO131 := n1_; have HB := n2_; clear n0_ n1_ n2_; (try clear hb); (try clear hb2); (try clear hk); (try clear hi)))
         go_ret; exact ⟨re_, hb_⟩
       ·rw [if_neg c8] at H
        have c8b0 : (((rd_T25 t129 1).f1) == 7) = false := beq_eq_false_iff_ne.mpr c8; have c8b1 : (((rd_T25 t129 1).f1) != 7) = true := bne_iff_ne.mpr c8; obtain rfl := Option.some.inj H; go_enter Try.func18, Try.ntmps18; go_wp2_with (first | ((with_reducible refine gate_dst (N := 5) rfl ?_); (try (refine gate_guard (by rfl) ?_; dsimp only)); refine Kd.R_lit k25 _ 25 ?hg (N := 5) ?hd (xs := ([(⟨5, 7⟩ : S25), (⟨1, 2⟩ : S25), (⟨3, 3⟩ : S25)] : List (S25))) (inner := [.int .i64 5, .int .i64 7, .int .i64 1, .int .i64 2, .int .i64 3, .int .i64 3]) (ok := fun _ => True) (okp := fun _ => True) ?hr ?hp (fun _ hk => hk) trivial (Below.refl _ _) (Nat.le_refl _) (by simp) ?_; (case hd => rfl); (case hg => rfl); (case hr => first | (go_simp; done) | (go_simp; rfl)); (case hp => exact (Reps.c2 (show Kd.M k25 _ _ _ (⟨5, 7⟩ : S25) [.int .i64 5, .int .i64 7] from (k25_mkM _ _ _ (⟨5, 7⟩ : S25) )) (Reps.c2 (show Kd.M k25 _ _ _ (⟨1, 2⟩ : S25) [.int .i64 1, .int .i64 2] from (k25_mkM _ _ _ (⟨1, 2⟩ : S25) )) (Reps.c2 (show Kd.M k25 _ _ _ (⟨3, 3⟩ : S25) [.int .i64 3, .int .i64 3] from (k25_mkM _ _ _ (⟨3, 3⟩ : S25) )) (Reps.none _ _))))); intro v127 w50 ho51 hb hg_ hnew_; clear hg_ hnew_; (first | rw [← Ny126.out] at ho51 | (simp only [Int.reduceToNat] at ho51; rw [← Ny126.out] at ho51)); have n0_ := Aside0.mk (Kd.R_lower ho51 (below_size hb_)); have n1_ := Aside0.mk (below_step hb_ hb); clear HB; have HO128 := n0_; have HB := n1_; clear n0_ n1_; clear hb ho51; obtain ⟨Ao52, co52, eo52⟩ := Kd.R_slice HO128.out; subst eo52) | ((with_reducible refine gate_callee (f := 19) rfl ?_); refine goesL_ (some 6) rfl rfl Try.func19 (by kernel_rfl) rfl #[.slice Ao52 y126.length co52] rfl ml_ ?_; (with_reducible refine (runs_Make.calls _ _ y126 t129 _ ?side1 ?side2 A1.out).mono ?_); (case side1 => repeat (first | exact (Kd.R_reads' HO128.out).2.2 | (with_reducible refine Kd.C_alloc ?_ _) | (with_reducible refine Kd.C_drewN ?_ _) | (with_reducible refine Kd.C_drew ?_))); (case side2 => exact (Kd.R_reads' HO128.out).2.1); rintro e w53 ⟨v130, rfl, ho0, hb⟩; refine ⟨_, rfl, ?_⟩; have n0_ := Aside0.mk (Kd.R_elder' (by (with_reducible repeat (first | apply Kd.R_alloc | apply Kd.R_drewN | apply Kd.R_drew)); exact HO128.out) (Kd.R_base ho0) hb); have n1_ := Aside0.mk (Kd.R_lower (Kd.R_new' ho0 (Kd.R_lt (by (with_reducible repeat (first | apply Kd.R_alloc | apply Kd.R_drewN | apply Kd.R_drew)); exact HO128.out))) (below_size hb_)); have n2_ := Aside0.mk (below_step hb_ hb); clear HO128; clear HB; have HO128 := n0_; have HO131 := n1_; have HB := n2_; clear n0_ n1_ n2_; (try clear hb); (try clear hb2); (try clear hk); (try clear hi); (try clear ho0); obtain ⟨Ao54, co54, eo54⟩ := Kd.R_slice HO131.out; subst eo54; have p132 : 0 ≤ (0 : Int) := (by omega); have q132 : 0 < (t129.length : Int) := od_; obtain ⟨ad132, e132, hx132_0, hx132_1⟩ := at_T25 (Kd.R_reads' HO131.out).2.2 0 p132 q132; cases e132; have qi132 : (0 < t129.length) = True := eq_true (by omega); (try rw [show ((0 : Int)).toNat = 0 from rfl] at hx132_0); (try rw [show 0 * 2 = 0 from rfl] at hx132_0); (try rw [Addr.add_zero'] at hx132_0); (try rw [show ((0 : Int)).toNat = 0 from rfl] at hx132_1); (try rw [show 0 * 2 = 0 from rfl] at hx132_1); (try rw [Addr.add_zero'] at hx132_1); replace p132 := eq_true p132; replace q132 := eq_true q132; have p133 : 0 ≤ (0 : Int) := (by omega); have q133 : 0 < (t129.length : Int) := od_; obtain ⟨ad133, e133, hx133_0, hx133_1⟩ := at_T25 (Kd.R_reads' HO131.out).2.2 0 p133 q133; obtain rfl : ad132 = ad133 := (by injection e133); have qi133 : (0 < t129.length) = True := eq_true (by omega); (try rw [show ((0 : Int)).toNat = 0 from rfl] at hx133_0); (try rw [show 0 * 2 = 0 from rfl] at hx133_0); (try rw [Addr.add_zero'] at hx133_0); (try rw [show ((0 : Int)).toNat = 0 from rfl] at hx133_1); (try rw [show 0 * 2 = 0 from rfl] at hx133_1); (try rw [Addr.add_zero'] at hx133_1); replace p133 := eq_true p133; replace q133 := eq_true q133; have p134 : 0 ≤ (1 : Int) := (by omega); have q134 : 1 < (t129.length : Int) := od_; obtain ⟨ad134, e134, hx134_0, hx134_1⟩ := at_T25 (Kd.R_reads' HO131.out).2.2 1 p134 q134; obtain rfl : ad132 = ad134 := (by injection e134); (try simp only [show (1 : Int).toNat = 1 from rfl, Nat.reduceMul, Nat.reduceEqDiff, Go.Addr.add, ↓reduceIte] at hx134_0); (try simp only [show (1 : Int).toNat = 1 from rfl, Nat.reduceMul, Nat.reduceEqDiff, Go.Addr.add, ↓reduceIte] at hx134_1); have qi134 : (1 < t129.length) = True := eq_true (by omega); (try rw [show ((1 : Int)).toNat = 1 from rfl] at hx134_0); (try rw [show 1 * 2 = 2 from rfl] at hx134_0); (try rw [show ((1 : Int)).toNat = 1 from rfl] at hx134_1); (try rw [show 1 * 2 = 2 from rfl] at hx134_1); replace p134 := eq_true p134; replace q134 := eq_true q134; have p135 : 0 ≤ (1 : Int) := (by omega); have q135 : 1 < (t129.length : Int) := od_; obtain ⟨ad135, e135, hx135_0, hx135_1⟩ := at_T25 (Kd.R_reads' HO131.out).2.2 1 p135 q135; obtain rfl : ad132 = ad135 := (by injection e135); (try simp only [show (1 : Int).toNat = 1 from rfl, Nat.reduceMul, Nat.reduceEqDiff, Go.Addr.add, ↓reduceIte] at hx135_0); (try simp only [show (1 : Int).toNat = 1 from rfl, Nat.reduceMul, Nat.reduceEqDiff, Go.Addr.add, ↓reduceIte] at hx135_1); have qi135 : (1 < t129.length) = True := eq_true (by omega); (try rw [show ((1 : Int)).toNat = 1 from rfl] at hx135_0); (try rw [show 1 * 2 = 2 from rfl] at hx135_0); (try rw [show ((1 : Int)).toNat = 1 from rfl] at hx135_1); (try rw [show 1 * 2 = 2 from rfl] at hx135_1); replace p135 := eq_true p135; replace q135 := eq_true q135))
        go_ret; exact ⟨re_, hb_⟩
      ·rw [if_neg c7] at H
       have c7b0 : (((rd_T25 t129 1).f0) == 5) = false := beq_eq_false_iff_ne.mpr c7; have c7b1 : (((rd_T25 t129 1).f0) != 5) = true := bne_iff_ne.mpr c7; obtain rfl := Option.some.inj H; go_enter Try.func18, Try.ntmps18; go_wp2_with (first | ((with_reducible refine gate_dst (N := 5) rfl ?_); (try (refine gate_guard (by rfl) ?_; dsimp only)); refine Kd.R_lit k25 _ 25 ?hg (N := 5) ?hd (xs := ([(⟨5, 7⟩ : S25), (⟨1, 2⟩ : S25), (⟨3, 3⟩ : S25)] : List (S25))) (inner := [.int .i64 5, .int .i64 7, .int .i64 1, .int .i64 2, .int .i64 3, .int .i64 3]) (ok := fun _ => True) (okp := fun _ => True) ?hr ?hp (fun _ hk => hk) trivial (Below.refl _ _) (Nat.le_refl _) (by simp) ?_; (case hd => rfl); (case hg => rfl); (case hr => first | (go_simp; done) | (go_simp; rfl)); (case hp => exact (Reps.c2 (show Kd.M k25 _ _ _ (⟨5, 7⟩ : S25) [.int .i64 5, .int .i64 7] from (k25_mkM _ _ _ (⟨5, 7⟩ : S25) )) (Reps.c2 (show Kd.M k25 _ _ _ (⟨1, 2⟩ : S25) [.int .i64 1, .int .i64 2] from (k25_mkM _ _ _ (⟨1, 2⟩ : S25) )) (Reps.c2 (show Kd.M k25 _ _ _ (⟨3, 3⟩ : S25) [.int .i64 3, .int .i64 3] from (k25_mkM _ _ _ (⟨3, 3⟩ : S25) )) (Reps.none _ _))))); intro v127 w55 ho56 hb hg_ hnew_; clear hg_ hnew_; (first | rw [← Ny126.out] at ho56 | (simp only [Int.reduceToNat] at ho56; rw [← Ny126.out] at ho56)); have n0_ := Aside0.mk (Kd.R_lower ho56 (below_size hb_)); have n1_ := Aside0.mk (below_step hb_ hb); clear HB; have HO128 := n0_; have HB := n1_; clear n0_ n1_; clear hb ho56; obtain ⟨Ao57, co57, eo57⟩ := Kd.R_slice HO128.out; subst eo57) | ((with_reducible refine gate_callee (f := 19) rfl ?_); refine goesL_ (some 6) rfl rfl Try.func19 (by kernel_rfl) rfl #[.slice Ao57 y126.length co57] rfl ml_ ?_; (with_reducible refine (runs_Make.calls _ _ y126 t129 _ ?side1 ?side2 A1.out).mono ?_); (case side1 => repeat (first | exact (Kd.R_reads' HO128.out).2.2 | (with_reducible refine Kd.C_alloc ?_ _) | (with_reducible refine Kd.C_drewN ?_ _) | (with_reducible refine Kd.C_drew ?_))); (case side2 => exact (Kd.R_reads' HO128.out).2.1); rintro e w58 ⟨v130, rfl, ho0, hb⟩; refine ⟨_, rfl, ?_⟩; have n0_ := Aside0.mk (Kd.R_elder' (by (with_reducible repeat (first | apply Kd.R_alloc | apply Kd.R_drewN | apply Kd.R_drew)); exact HO128.out) (Kd.R_base ho0) hb); have n1_ := Aside0.mk (Kd.R_lower (Kd.R_new' ho0 (Kd.R_lt (by (with_reducible repeat (first | apply Kd.R_alloc | apply Kd.R_drewN | apply Kd.R_drew)); exact HO128.out))) (below_size hb_)); have n2_ := Aside0.mk (below_step hb_ hb); clear HO128; clear HB; have HO128 := n0_; have HO131 := n1_; have HB := n2_; clear n0_ n1_ n2_; (try clear hb); (try clear hb2); (try clear hk); (try clear hi); (try clear ho0); obtain ⟨Ao59, co59, eo59⟩ := Kd.R_slice HO131.out; subst eo59; have p132 : 0 ≤ (0 : Int) := (by omega); have q132 : 0 < (t129.length : Int) := od_; obtain ⟨ad132, e132, hx132_0, hx132_1⟩ := at_T25 (Kd.R_reads' HO131.out).2.2 0 p132 q132; cases e132; have qi132 : (0 < t129.length) = True := eq_true (by omega); (try rw [show ((0 : Int)).toNat = 0 from rfl] at hx132_0); (try rw [show 0 * 2 = 0 from rfl] at hx132_0); (try rw [Addr.add_zero'] at hx132_0); (try rw [show ((0 : Int)).toNat = 0 from rfl] at hx132_1); (try rw [show 0 * 2 = 0 from rfl] at hx132_1); (try rw [Addr.add_zero'] at hx132_1); replace p132 := eq_true p132; replace q132 := eq_true q132; have p133 : 0 ≤ (0 : Int) := (by omega); have q133 : 0 < (t129.length : Int) := od_; obtain ⟨ad133, e133, hx133_0, hx133_1⟩ := at_T25 (Kd.R_reads' HO131.out).2.2 0 p133 q133; obtain rfl : ad132 = ad133 := (by injection e133); have qi133 : (0 < t129.length) = True := eq_true (by omega); (try rw [show ((0 : Int)).toNat = 0 from rfl] at hx133_0); (try rw [show 0 * 2 = 0 from rfl] at hx133_0); (try rw [Addr.add_zero'] at hx133_0); (try rw [show ((0 : Int)).toNat = 0 from rfl] at hx133_1); (try rw [show 0 * 2 = 0 from rfl] at hx133_1); (try rw [Addr.add_zero'] at hx133_1); replace p133 := eq_true p133; replace q133 := eq_true q133; have p134 : 0 ≤ (1 : Int) := (by omega); have q134 : 1 < (t129.length : Int) := od_; obtain ⟨ad134, e134, hx134_0, hx134_1⟩ := at_T25 (Kd.R_reads' HO131.out).2.2 1 p134 q134; obtain rfl : ad132 = ad134 := (by injection e134); (try simp only [show (1 : Int).toNat = 1 from rfl, Nat.reduceMul, Nat.reduceEqDiff, Go.Addr.add, ↓reduceIte] at hx134_0); (try simp only [show (1 : Int).toNat = 1 from rfl, Nat.reduceMul, Nat.reduceEqDiff, Go.Addr.add, ↓reduceIte] at hx134_1); have qi134 : (1 < t129.length) = True := eq_true (by omega); (try rw [show ((1 : Int)).toNat = 1 from rfl] at hx134_0); (try rw [show 1 * 2 = 2 from rfl] at hx134_0); (try rw [show ((1 : Int)).toNat = 1 from rfl] at hx134_1); (try rw [show 1 * 2 = 2 from rfl] at hx134_1); replace p134 := eq_true p134; replace q134 := eq_true q134))
       go_ret; exact ⟨re_, hb_⟩
     ·rw [if_neg c6] at H
      exact absurd H (by simp)
    ·rw [if_neg c5] at H
     have c5b0 : (((rd_T25 t129 0).f1) == 3) = false := beq_eq_false_iff_ne.mpr c5; have c5b1 : (((rd_T25 t129 0).f1) != 3) = true := bne_iff_ne.mpr c5; obtain rfl := Option.some.inj H; go_enter Try.func18, Try.ntmps18; go_wp2_with (first | ((with_reducible refine gate_dst (N := 5) rfl ?_); (try (refine gate_guard (by rfl) ?_; dsimp only)); refine Kd.R_lit k25 _ 25 ?hg (N := 5) ?hd (xs := ([(⟨5, 7⟩ : S25), (⟨1, 2⟩ : S25), (⟨3, 3⟩ : S25)] : List (S25))) (inner := [.int .i64 5, .int .i64 7, .int .i64 1, .int .i64 2, .int .i64 3, .int .i64 3]) (ok := fun _ => True) (okp := fun _ => True) ?hr ?hp (fun _ hk => hk) trivial (Below.refl _ _) (Nat.le_refl _) (by simp) ?_; (case hd => rfl); (case hg => rfl); (case hr => first | (go_simp; done) | (go_simp; rfl)); (case hp => exact (Reps.c2 (show Kd.M k25 _ _ _ (⟨5, 7⟩ : S25) [.int .i64 5, .int .i64 7] from (k25_mkM _ _ _ (⟨5, 7⟩ : S25) )) (Reps.c2 (show Kd.M k25 _ _ _ (⟨1, 2⟩ : S25) [.int .i64 1, .int .i64 2] from (k25_mkM _ _ _ (⟨1, 2⟩ : S25) )) (Reps.c2 (show Kd.M k25 _ _ _ (⟨3, 3⟩ : S25) [.int .i64 3, .int .i64 3] from (k25_mkM _ _ _ (⟨3, 3⟩ : S25) )) (Reps.none _ _))))); intro v127 w60 ho61 hb hg_ hnew_; clear hg_ hnew_; (first | rw [← Ny126.out] at ho61 | (simp only [Int.reduceToNat] at ho61; rw [← Ny126.out] at ho61)); have n0_ := Aside0.mk (Kd.R_lower ho61 (below_size hb_)); have n1_ := Aside0.mk (below_step hb_ hb); clear HB; have HO128 := n0_; have HB := n1_; clear n0_ n1_; clear hb ho61; obtain ⟨Ao62, co62, eo62⟩ := Kd.R_slice HO128.out; subst eo62) | ((with_reducible refine gate_callee (f := 19) rfl ?_); refine goesL_ (some 6) rfl rfl Try.func19 (by kernel_rfl) rfl #[.slice Ao62 y126.length co62] rfl ml_ ?_; (with_reducible refine (runs_Make.calls _ _ y126 t129 _ ?side1 ?side2 A1.out).mono ?_); (case side1 => repeat (first | exact (Kd.R_reads' HO128.out).2.2 | (with_reducible refine Kd.C_alloc ?_ _) | (with_reducible refine Kd.C_drewN ?_ _) | (with_reducible refine Kd.C_drew ?_))); (case side2 => exact (Kd.R_reads' HO128.out).2.1); rintro e w63 ⟨v130, rfl, ho0, hb⟩; refine ⟨_, rfl, ?_⟩; have n0_ := Aside0.mk (Kd.R_elder' (by (with_reducible repeat (first | apply Kd.R_alloc | apply Kd.R_drewN | apply Kd.R_drew)); exact HO128.out) (Kd.R_base ho0) hb); have n1_ := Aside0.mk (Kd.R_lower (Kd.R_new' ho0 (Kd.R_lt (by (with_reducible repeat (first | apply Kd.R_alloc | apply Kd.R_drewN | apply Kd.R_drew)); exact HO128.out))) (below_size hb_)); have n2_ := Aside0.mk (below_step hb_ hb); clear HO128; clear HB; have HO128 := n0_; have HO131 := n1_; have HB := n2_; clear n0_ n1_ n2_; (try clear hb); (try clear hb2); (try clear hk); (try clear hi); (try clear ho0); obtain ⟨Ao64, co64, eo64⟩ := Kd.R_slice HO131.out; subst eo64; have p132 : 0 ≤ (0 : Int) := (by omega); have q132 : 0 < (t129.length : Int) := od_; obtain ⟨ad132, e132, hx132_0, hx132_1⟩ := at_T25 (Kd.R_reads' HO131.out).2.2 0 p132 q132; cases e132; have qi132 : (0 < t129.length) = True := eq_true (by omega); (try rw [show ((0 : Int)).toNat = 0 from rfl] at hx132_0); (try rw [show 0 * 2 = 0 from rfl] at hx132_0); (try rw [Addr.add_zero'] at hx132_0); (try rw [show ((0 : Int)).toNat = 0 from rfl] at hx132_1); (try rw [show 0 * 2 = 0 from rfl] at hx132_1); (try rw [Addr.add_zero'] at hx132_1); replace p132 := eq_true p132; replace q132 := eq_true q132; have p133 : 0 ≤ (0 : Int) := (by omega); have q133 : 0 < (t129.length : Int) := od_; obtain ⟨ad133, e133, hx133_0, hx133_1⟩ := at_T25 (Kd.R_reads' HO131.out).2.2 0 p133 q133; obtain rfl : ad132 = ad133 := (by injection e133); have qi133 : (0 < t129.length) = True := eq_true (by omega); (try rw [show ((0 : Int)).toNat = 0 from rfl] at hx133_0); (try rw [show 0 * 2 = 0 from rfl] at hx133_0); (try rw [Addr.add_zero'] at hx133_0); (try rw [show ((0 : Int)).toNat = 0 from rfl] at hx133_1); (try rw [show 0 * 2 = 0 from rfl] at hx133_1); (try rw [Addr.add_zero'] at hx133_1); replace p133 := eq_true p133; replace q133 := eq_true q133)); go_ret; exact ⟨re_, hb_⟩
   ·rw [if_neg c4] at H
    have c4b0 : (((rd_T25 t129 0).f0) == 1) = false := beq_eq_false_iff_ne.mpr c4; have c4b1 : (((rd_T25 t129 0).f0) != 1) = true := bne_iff_ne.mpr c4; obtain rfl := Option.some.inj H; go_enter Try.func18, Try.ntmps18; go_wp2_with (first | ((with_reducible refine gate_dst (N := 5) rfl ?_); (try (refine gate_guard (by rfl) ?_; dsimp only)); refine Kd.R_lit k25 _ 25 ?hg (N := 5) ?hd (xs := ([(⟨5, 7⟩ : S25), (⟨1, 2⟩ : S25), (⟨3, 3⟩ : S25)] : List (S25))) (inner := [.int .i64 5, .int .i64 7, .int .i64 1, .int .i64 2, .int .i64 3, .int .i64 3]) (ok := fun _ => True) (okp := fun _ => True) ?hr ?hp (fun _ hk => hk) trivial (Below.refl _ _) (Nat.le_refl _) (by simp) ?_; (case hd => rfl); (case hg => rfl); (case hr => first | (go_simp; done) | (go_simp; rfl)); (case hp => exact (Reps.c2 (show Kd.M k25 _ _ _ (⟨5, 7⟩ : S25) [.int .i64 5, .int .i64 7] from (k25_mkM _ _ _ (⟨5, 7⟩ : S25) )) (Reps.c2 (show Kd.M k25 _ _ _ (⟨1, 2⟩ : S25) [.int .i64 1, .int .i64 2] from (k25_mkM _ _ _ (⟨1, 2⟩ : S25) )) (Reps.c2 (show Kd.M k25 _ _ _ (⟨3, 3⟩ : S25) [.int .i64 3, .int .i64 3] from (k25_mkM _ _ _ (⟨3, 3⟩ : S25) )) (Reps.none _ _))))); intro v127 w65 ho66 hb hg_ hnew_; clear hg_ hnew_; (first | rw [← Ny126.out] at ho66 | (simp only [Int.reduceToNat] at ho66; rw [← Ny126.out] at ho66)); have n0_ := Aside0.mk (Kd.R_lower ho66 (below_size hb_)); have n1_ := Aside0.mk (below_step hb_ hb); clear HB; have HO128 := n0_; have HB := n1_; clear n0_ n1_; clear hb ho66; obtain ⟨Ao67, co67, eo67⟩ := Kd.R_slice HO128.out; subst eo67) | ((with_reducible refine gate_callee (f := 19) rfl ?_); refine goesL_ (some 6) rfl rfl Try.func19 (by kernel_rfl) rfl #[.slice Ao67 y126.length co67] rfl ml_ ?_; (with_reducible refine (runs_Make.calls _ _ y126 t129 _ ?side1 ?side2 A1.out).mono ?_); (case side1 => repeat (first | exact (Kd.R_reads' HO128.out).2.2 | (with_reducible refine Kd.C_alloc ?_ _) | (with_reducible refine Kd.C_drewN ?_ _) | (with_reducible refine Kd.C_drew ?_))); (case side2 => exact (Kd.R_reads' HO128.out).2.1); rintro e w68 ⟨v130, rfl, ho0, hb⟩; refine ⟨_, rfl, ?_⟩; have n0_ := Aside0.mk (Kd.R_elder' (by (with_reducible repeat (first | apply Kd.R_alloc | apply Kd.R_drewN | apply Kd.R_drew)); exact HO128.out) (Kd.R_base ho0) hb); have n1_ := Aside0.mk (Kd.R_lower (Kd.R_new' ho0 (Kd.R_lt (by (with_reducible repeat (first | apply Kd.R_alloc | apply Kd.R_drewN | apply Kd.R_drew)); exact HO128.out))) (below_size hb_)); have n2_ := Aside0.mk (below_step hb_ hb); clear HO128; clear HB; have HO128 := n0_; have HO131 := n1_; have HB := n2_; clear n0_ n1_ n2_; (try clear hb); (try clear hb2); (try clear hk); (try clear hi); (try clear ho0); obtain ⟨Ao69, co69, eo69⟩ := Kd.R_slice HO131.out; subst eo69; have p132 : 0 ≤ (0 : Int) := (by omega); have q132 : 0 < (t129.length : Int) := od_; obtain ⟨ad132, e132, hx132_0, hx132_1⟩ := at_T25 (Kd.R_reads' HO131.out).2.2 0 p132 q132; cases e132; have qi132 : (0 < t129.length) = True := eq_true (by omega); (try rw [show ((0 : Int)).toNat = 0 from rfl] at hx132_0); (try rw [show 0 * 2 = 0 from rfl] at hx132_0); (try rw [Addr.add_zero'] at hx132_0); (try rw [show ((0 : Int)).toNat = 0 from rfl] at hx132_1); (try rw [show 0 * 2 = 0 from rfl] at hx132_1); (try rw [Addr.add_zero'] at hx132_1); replace p132 := eq_true p132; replace q132 := eq_true q132)); go_ret; exact ⟨re_, hb_⟩
  ·rw [if_neg c3] at H
   exact absurd H (by simp)
 ·rw [if_neg c2] at H
  have c2b0 : ((t129.length : Int) == 2) = false := beq_eq_false_iff_ne.mpr c2; have c2b1 : ((t129.length : Int) != 2) = true := bne_iff_ne.mpr c2; obtain rfl := Option.some.inj H; go_enter Try.func18, Try.ntmps18; go_wp2_with (first | ((with_reducible refine gate_dst (N := 5) rfl ?_); (try (refine gate_guard (by rfl) ?_; dsimp only)); refine Kd.R_lit k25 _ 25 ?hg (N := 5) ?hd (xs := ([(⟨5, 7⟩ : S25), (⟨1, 2⟩ : S25), (⟨3, 3⟩ : S25)] : List (S25))) (inner := [.int .i64 5, .int .i64 7, .int .i64 1, .int .i64 2, .int .i64 3, .int .i64 3]) (ok := fun _ => True) (okp := fun _ => True) ?hr ?hp (fun _ hk => hk) trivial (Below.refl _ _) (Nat.le_refl _) (by simp) ?_; (case hd => rfl); (case hg => rfl); (case hr => first | (go_simp; done) | (go_simp; rfl)); (case hp => exact (Reps.c2 (show Kd.M k25 _ _ _ (⟨5, 7⟩ : S25) [.int .i64 5, .int .i64 7] from (k25_mkM _ _ _ (⟨5, 7⟩ : S25) )) (Reps.c2 (show Kd.M k25 _ _ _ (⟨1, 2⟩ : S25) [.int .i64 1, .int .i64 2] from (k25_mkM _ _ _ (⟨1, 2⟩ : S25) )) (Reps.c2 (show Kd.M k25 _ _ _ (⟨3, 3⟩ : S25) [.int .i64 3, .int .i64 3] from (k25_mkM _ _ _ (⟨3, 3⟩ : S25) )) (Reps.none _ _))))); intro v127 w70 ho71 hb hg_ hnew_; clear hg_ hnew_; (first | rw [← Ny126.out] at ho71 | (simp only [Int.reduceToNat] at ho71; rw [← Ny126.out] at ho71)); have n0_ := Aside0.mk (Kd.R_lower ho71 (below_size hb_)); have n1_ := Aside0.mk (below_step hb_ hb); clear HB; have HO128 := n0_; have HB := n1_; clear n0_ n1_; clear hb ho71; obtain ⟨Ao72, co72, eo72⟩ := Kd.R_slice HO128.out; subst eo72) | ((with_reducible refine gate_callee (f := 19) rfl ?_); refine goesL_ (some 6) rfl rfl Try.func19 (by kernel_rfl) rfl #[.slice Ao72 y126.length co72] rfl ml_ ?_; (with_reducible refine (runs_Make.calls _ _ y126 t129 _ ?side1 ?side2 A1.out).mono ?_); (case side1 => repeat (first | exact (Kd.R_reads' HO128.out).2.2 | (with_reducible refine Kd.C_alloc ?_ _) | (with_reducible refine Kd.C_drewN ?_ _) | (with_reducible refine Kd.C_drew ?_))); (case side2 => exact (Kd.R_reads' HO128.out).2.1); rintro e w73 ⟨v130, rfl, ho0, hb⟩; refine ⟨_, rfl, ?_⟩; have n0_ := Aside0.mk (Kd.R_elder' (by (with_reducible repeat (first | apply Kd.R_alloc | apply Kd.R_drewN | apply Kd.R_drew)); exact HO128.out) (Kd.R_base ho0) hb); have n1_ := Aside0.mk (Kd.R_lower (Kd.R_new' ho0 (Kd.R_lt (by (with_reducible repeat (first | apply Kd.R_alloc | apply Kd.R_drewN | apply Kd.R_drew)); exact HO128.out))) (below_size hb_)); have n2_ := Aside0.mk (below_step hb_ hb); clear HO128; clear HB; have HO128 := n0_; have HO131 := n1_; have HB := n2_; clear n0_ n1_ n2_; (try clear hb); (try clear hb2); (try clear hk); (try clear hi); (try clear ho0); obtain ⟨Ao74, co74, eo74⟩ := Kd.R_slice HO131.out; subst eo74)); go_ret; exact ⟨re_, hb_⟩
end Go.Proofs.Ytkbcmjejfbbcpaa.A

namespace Go.Proofs.Ytkbcmjejfbbcpaa.A
open Go.RowKit Go.Proofs.YtkbcmjejfbbcpaaW.PrintWords Go.Proofs.YtkbcmjejfbbcpaaW.PrintLast Go.Proofs.YtkbcmjejfbbcpaaW.PrintMore
attribute [local go_sem] max2_int min2_int max_two min_two max_three min_three max_four min_four
set_option linter.unusedVariables false
set_option linter.unusedSimpArgs false
theorem eqA25 (d : Nat) (w : World) (x0 y0 : Int) (x1 y1 : Int) :
  (Op.equalIn (d + 2) 25 (.agg #[.int .i64 x0, .int .i64 x1]) (.agg #[.int .i64 y0, .int .i64 y1])).run Try.prog w = .ok (x0 == y0 && (x1 == y1)) w := by
 refine eqA_of Try.underlying25 (by kernel_rfl) ?_; refine eqf_cons (by rfl) (by go_simp; rfl) (by go_simp; rfl) (by go_simp) ?_; exact eqf_last (by rfl) (by go_simp; rfl) (by go_simp; rfl) (by go_simp)
end Go.Proofs.Ytkbcmjejfbbcpaa.A

namespace Go.Proofs.Ytkbcmjejfbbcpaa.A
open Go.RowKit Go.Proofs.YtkbcmjejfbbcpaaW.PrintWords Go.Proofs.YtkbcmjejfbbcpaaW.PrintLast Go.Proofs.YtkbcmjejfbbcpaaW.PrintMore
attribute [local go_sem] max2_int min2_int max_two min_two max_three min_three max_four min_four
set_option linter.unusedVariables false
set_option linter.unusedSimpArgs false
attribute [local go_sem high] eqA25
set_option maxHeartbeats 8000000 in
set_option maxRecDepth 100000 in
theorem lustrumref04_Same.calls (k : Nat) (A0 : Option Addr) (c0 : Nat) (l0 : List (S25)) (A1 : Option Addr) (c1 : Nat) (l1 : List (S25)) (r : Bool) (w : World) (hr0 : Kd.C k25 w A0 l0.length l0) (hc0 : l0.length ≤ c0) (hr1 : Kd.C k25 w A1 l1.length l1) (hc1 : l1.length ≤ c1) (h : lustrumref04_Same.f k l0 l1 = some r) :
  Calls Try.prog 21 #[.slice A0 l0.length c0, .slice A1 l1.length c1] w fun e w' => e = .returned (.bool r) ∧ Drawn0 w w' := by
 have hu25 := Try.underlying25; have HR0 := Aside0.mk hr0; have HC0 := Aside0.mk hc0; clear hr0 hc0; have HR1 := Aside0.mk hr1; have HC1 := Aside0.mk hc1; clear hr1 hc1; have H : (if (l0.length : Int) = (l1.length : Int) then (lustrumref04_Same.l0 k l0 l1 0) else (some false)) = some r := h; clear h
 by_cases c3 : (l0.length : Int) = (l1.length : Int)
 ·rw [if_pos c3] at H
  have c3b0 : ((l0.length : Int) == (l1.length : Int)) = true := beq_iff_eq.mpr c3; have c3b1 : ((l0.length : Int) != (l1.length : Int)) = false := bne_eq_false_iff_eq.mpr c3; (have c3b2 : (l0.length == l1.length) = true := by first | simpa using c3 | (simp at c3 ⊢; omega)); clear c3; have H' := Aside0.mk H; clear H; go_enter Try.func21, Try.ntmps21; go_wp2
  repeat (go_quiet (fail); try go_wp2)
  go_loopg [5] k (fun kq v5 w' => ∃ (x5_1 : Int), v5 = .int .i64 x5_1 ∧ Aside0 (lustrumref04_Same.l0 kq l0 l1 x5_1 = some r) ∧ Aside0 (kq ≤ k) ∧ Drawn0 w w')
  case atStart => exact ⟨(0), rf_, H', ⟨Nat.le_refl _⟩, by repeat (first | exact Drawn0.refl _ | apply Drawn0.step)⟩
  case round =>
   clear H'; (try clear c1); (try clear c2); (try clear p2); (try clear c3); (try clear c3b0); (try clear c3b1); (try clear c3b2); obtain ⟨x5_1, rfl, HA, HK1, ⟨m1, rfl⟩⟩ := hrel
   cases gk with
   | zero => exact absurd HA.out (by simp [lustrumref04_Same.l0])
   | succ k1 =>
    have H := HA.out; clear HA; simp only [lustrumref04_Same.l0] at H
    by_cases c4 : x5_1 < (l0.length : Int)
    ·rw [if_pos c4] at H
     have c4b0 : decide (x5_1 < (l0.length : Int)) = true := decide_eq_true c4; clear c4
     by_cases c5 : 0 ≤ x5_1
     ·rw [if_pos c5] at H
      have c5b0 : decide (0 ≤ x5_1) = true := decide_eq_true c5; clear c5
      by_cases c6 : x5_1 < (l1.length : Int)
      ·rw [if_pos c6] at H
       have c6b0 : decide (x5_1 < (l1.length : Int)) = true := decide_eq_true c6; clear c6
       by_cases c7 : (!(((rd_T25 l0 x5_1).f0) == ((rd_T25 l1 x5_1).f0)) || (!(((rd_T25 l0 x5_1).f1) == ((rd_T25 l1 x5_1).f1)))) = true
       ·rw [if_pos c7] at H
        have c7b0 : (!(((rd_T25 l0 x5_1).f0) == ((rd_T25 l1 x5_1).f0)) || (!(((rd_T25 l0 x5_1).f1) == ((rd_T25 l1 x5_1).f1)))) = true := c7; clear c7; obtain rfl := Option.some.inj H; have p145 : 0 ≤ (x5_1 : Int) := od_; have q145 : x5_1 < (l0.length : Int) := od_; obtain ⟨ad145, e145, hx145_0, hx145_1⟩ := at_T25 HR0.out x5_1 p145 q145
        cases e145
        replace p145 := eq_true p145; replace q145 := eq_true q145; have p146 : 0 ≤ (x5_1 : Int) := od_; have q146 : x5_1 < (l1.length : Int) := od_; obtain ⟨ad146, e146, hx146_0, hx146_1⟩ := at_T25 HR1.out x5_1 p146 q146
        cases e146
        replace p146 := eq_true p146; replace q146 := eq_true q146; go_wp2
        repeat (go_quiet (fail); try go_wp2)
        go_ret; exact ⟨by first | rfl | (simp; done) | (simp [*]; done), by repeat (first | exact Drawn0.refl _ | apply Drawn0.step)⟩
       ·rw [if_neg c7] at H
        (have c7b0 : (!(((rd_T25 l0 x5_1).f0) == ((rd_T25 l1 x5_1).f0)) || (!(((rd_T25 l0 x5_1).f1) == ((rd_T25 l1 x5_1).f1)))) = false := by simpa using c7); clear c7; have H' := Aside0.mk H; clear H; have p145 : 0 ≤ (x5_1 : Int) := od_; have q145 : x5_1 < (l0.length : Int) := od_; obtain ⟨ad145, e145, hx145_0, hx145_1⟩ := at_T25 HR0.out x5_1 p145 q145
        cases e145
        replace p145 := eq_true p145; replace q145 := eq_true q145; have p146 : 0 ≤ (x5_1 : Int) := od_; have q146 : x5_1 < (l1.length : Int) := od_; obtain ⟨ad146, e146, hx146_0, hx146_1⟩ := at_T25 HR1.out x5_1 p146 q146
        cases e146
        replace p146 := eq_true p146; replace q146 := eq_true q146; go_wp2
        repeat (go_quiet (fail); try go_wp2)
        go_roundg k1
        case measure => have := HK1.out; omega
        case rel => exact ⟨(wrap64 (x5_1 + 1)), rf_, H', ⟨by have := HK1.out; omega⟩, by repeat (first | exact Drawn0.refl _ | apply Drawn0.step)⟩
      ·rw [if_neg c6] at H
       exact absurd H (by simp)
     ·rw [if_neg c5] at H
      exact absurd H (by simp)
    ·rw [if_neg c4] at H
     have c4b0 : decide (x5_1 < (l0.length : Int)) = false := decide_eq_false c4; clear c4; obtain rfl := Option.some.inj H; go_wp2
     repeat (go_quiet (fail); try go_wp2)
     go_ret; exact ⟨by first | rfl | (simp; done) | (simp [*]; done), by repeat (first | exact Drawn0.refl _ | apply Drawn0.step)⟩
 ·rw [if_neg c3] at H
  have c3b0 : ((l0.length : Int) == (l1.length : Int)) = false := beq_eq_false_iff_ne.mpr c3; have c3b1 : ((l0.length : Int) != (l1.length : Int)) = true := bne_iff_ne.mpr c3; (have c3b2 : (l0.length == l1.length) = false := by first | simpa using c3 | (simp at c3 ⊢; omega)); obtain rfl := Option.some.inj H; go_enter Try.func21, Try.ntmps21; go_wp2
  repeat (go_quiet (fail); try go_wp2)
  go_ret; exact ⟨by first | rfl | (simp; done) | (simp [*]; done), by repeat (first | exact Drawn0.refl _ | apply Drawn0.step)⟩
end Go.Proofs.Ytkbcmjejfbbcpaa.A

namespace Go.Proofs.Ytkbcmjejfbbcpaa.A
open Go.RowKit Go.Proofs.YtkbcmjejfbbcpaaW.PrintWords Go.Proofs.YtkbcmjejfbbcpaaW.PrintLast Go.Proofs.YtkbcmjejfbbcpaaW.PrintMore
attribute [local go_sem] max2_int min2_int max_two min_two max_three min_three max_four min_four
set_option linter.unusedVariables false
set_option linter.unusedSimpArgs false
set_option maxHeartbeats 8000000 in
set_option maxRecDepth 100000 in
theorem lustrumref04_Sane.calls (k : Nat) (A0 : Option Addr) (c0 : Nat) (l0 : List (S25)) (r : Bool) (w : World) (hr0 : Kd.C k25 w A0 l0.length l0) (hc0 : l0.length ≤ c0) (h : lustrumref04_Sane.f k l0 = some r) :
  Calls Try.prog 29 #[.slice A0 l0.length c0] w fun e w' => e = .returned (.bool r) ∧ Drawn0 w w' := by
 have HR0 := Aside0.mk hr0; have HC0 := Aside0.mk hc0; clear hr0 hc0; have H : (lustrumref04_Sane.l0 k l0 0) = some r := h; clear h; have H' := Aside0.mk H; clear H; go_enter Try.func29, Try.ntmps29; go_wp2
 repeat (go_quiet (fail); try go_wp2)
 go_loopg [3] k (fun kq v3 w' => ∃ (x3_1 : Int), v3 = .int .i64 x3_1 ∧ Aside0 (lustrumref04_Sane.l0 kq l0 x3_1 = some r) ∧ Aside0 (kq ≤ k) ∧ Drawn0 w w')
 case atStart => exact ⟨(0), rf_, H', ⟨Nat.le_refl _⟩, by repeat (first | exact Drawn0.refl _ | apply Drawn0.step)⟩
 case round =>
  clear H'; obtain ⟨x3_1, rfl, HA, HK1, ⟨m1, rfl⟩⟩ := hrel
  cases gk with
  | zero => exact absurd HA.out (by simp [lustrumref04_Sane.l0])
  | succ k1 =>
   have H := HA.out; clear HA; simp only [lustrumref04_Sane.l0] at H
   by_cases c2 : x3_1 < (l0.length : Int)
   ·rw [if_pos c2] at H
    have c2b0 : decide (x3_1 < (l0.length : Int)) = true := decide_eq_true c2; clear c2
    by_cases c3 : 0 ≤ x3_1
    ·rw [if_pos c3] at H
     have c3b0 : decide (0 ≤ x3_1) = true := decide_eq_true c3; clear c3
     by_cases c4 : ((rd_T25 l0 x3_1).f0) > ((rd_T25 l0 x3_1).f1)
     ·rw [if_pos c4] at H
      have c4b0 : decide (((rd_T25 l0 x3_1).f1) < ((rd_T25 l0 x3_1).f0)) = true := decide_eq_true c4; clear c4; obtain rfl := Option.some.inj H; have p207 : 0 ≤ (x3_1 : Int) := od_; have q207 : x3_1 < (l0.length : Int) := od_; obtain ⟨ad207, e207, hx207_0, hx207_1⟩ := at_T25 HR0.out x3_1 p207 q207
      cases e207
      replace p207 := eq_true p207; replace q207 := eq_true q207; have p208 : 0 ≤ (x3_1 : Int) := od_; have q208 : x3_1 < (l0.length : Int) := od_; obtain ⟨ad208, e208, hx208_0, hx208_1⟩ := at_T25 HR0.out x3_1 p208 q208; obtain rfl : ad207 = ad208 := (by injection e208); replace p208 := eq_true p208; replace q208 := eq_true q208; go_wp2
      repeat (go_quiet (fail); try go_wp2)
      go_ret; exact ⟨by first | rfl | (simp; done) | (simp [*]; done), by repeat (first | exact Drawn0.refl _ | apply Drawn0.step)⟩
     ·rw [if_neg c4] at H
      have c4b0 : decide (((rd_T25 l0 x3_1).f1) < ((rd_T25 l0 x3_1).f0)) = false := decide_eq_false c4; clear c4
      by_cases c5 : ((rd_T25 l0 x3_1).f0) < (-1099511627776)
      ·rw [if_pos c5] at H
       have c5b0 : decide (((rd_T25 l0 x3_1).f0) < (-1099511627776)) = true := decide_eq_true c5; clear c5; obtain rfl := Option.some.inj H; have p207 : 0 ≤ (x3_1 : Int) := od_; have q207 : x3_1 < (l0.length : Int) := od_; obtain ⟨ad207, e207, hx207_0, hx207_1⟩ := at_T25 HR0.out x3_1 p207 q207
       cases e207
       replace p207 := eq_true p207; replace q207 := eq_true q207; have p208 : 0 ≤ (x3_1 : Int) := od_; have q208 : x3_1 < (l0.length : Int) := od_; obtain ⟨ad208, e208, hx208_0, hx208_1⟩ := at_T25 HR0.out x3_1 p208 q208; obtain rfl : ad207 = ad208 := (by injection e208); replace p208 := eq_true p208; replace q208 := eq_true q208; have p209 : 0 ≤ (x3_1 : Int) := od_; have q209 : x3_1 < (l0.length : Int) := od_; obtain ⟨ad209, e209, hx209_0, hx209_1⟩ := at_T25 HR0.out x3_1 p209 q209; obtain rfl : ad207 = ad209 := (by injection e209); replace p209 := eq_true p209; replace q209 := eq_true q209; go_wp2
       repeat (go_quiet (fail); try go_wp2)
       go_ret; exact ⟨by first | rfl | (simp; done) | (simp [*]; done), by repeat (first | exact Drawn0.refl _ | apply Drawn0.step)⟩
      ·rw [if_neg c5] at H
       have c5b0 : decide (((rd_T25 l0 x3_1).f0) < (-1099511627776)) = false := decide_eq_false c5; clear c5
       by_cases c6 : ((rd_T25 l0 x3_1).f1) > 1099511627776
       ·rw [if_pos c6] at H
        have c6b0 : decide (1099511627776 < ((rd_T25 l0 x3_1).f1)) = true := decide_eq_true c6; clear c6; obtain rfl := Option.some.inj H; have p207 : 0 ≤ (x3_1 : Int) := od_; have q207 : x3_1 < (l0.length : Int) := od_; obtain ⟨ad207, e207, hx207_0, hx207_1⟩ := at_T25 HR0.out x3_1 p207 q207
        cases e207
        replace p207 := eq_true p207; replace q207 := eq_true q207; have p208 : 0 ≤ (x3_1 : Int) := od_; have q208 : x3_1 < (l0.length : Int) := od_; obtain ⟨ad208, e208, hx208_0, hx208_1⟩ := at_T25 HR0.out x3_1 p208 q208; obtain rfl : ad207 = ad208 := (by injection e208); replace p208 := eq_true p208; replace q208 := eq_true q208; have p209 : 0 ≤ (x3_1 : Int) := od_; have q209 : x3_1 < (l0.length : Int) := od_; obtain ⟨ad209, e209, hx209_0, hx209_1⟩ := at_T25 HR0.out x3_1 p209 q209; obtain rfl : ad207 = ad209 := (by injection e209); replace p209 := eq_true p209; replace q209 := eq_true q209; have p210 : 0 ≤ (x3_1 : Int) := od_; have q210 : x3_1 < (l0.length : Int) := od_; obtain ⟨ad210, e210, hx210_0, hx210_1⟩ := at_T25 HR0.out x3_1 p210 q210; obtain rfl : ad207 = ad210 := (by injection e210); replace p210 := eq_true p210; replace q210 := eq_true q210; go_wp2
        repeat (go_quiet (fail); try go_wp2)
        go_ret; exact ⟨by first | rfl | (simp; done) | (simp [*]; done), by repeat (first | exact Drawn0.refl _ | apply Drawn0.step)⟩
       ·rw [if_neg c6] at H
        have c6b0 : decide (1099511627776 < ((rd_T25 l0 x3_1).f1)) = false := decide_eq_false c6; clear c6
        by_cases c7 : x3_1 > 0
        ·rw [if_pos c7] at H
         have c7b0 : decide (0 < x3_1) = true := decide_eq_true c7; clear c7; obtain ⟨ji8, hji8⟩ : ∃ j_ : Int, (wrap64 (x3_1 - 1)) = j_ := ⟨_, rfl⟩; (replace H : (if 0 ≤ (ji8) then (if (ji8) < (l0.length : Int) then (if (wrap64 (((rd_T25 l0 x3_1).f0) - 1)) ≤ ((rd_T25 l0 (ji8)).f1) then (some false) else (lustrumref04_Sane.l0 k1 l0 (wrap64 (x3_1 + 1)))) else (none)) else (none)) = some r := by first | (rw [hji8] at H; exact H) | (simp only [hji8] at H ⊢; exact H)); have hji8w : (IntKind.i64.wrap (x3_1 - 1)) = ji8 := (i64_w _).trans hji8
         by_cases c9 : 0 ≤ (ji8)
         ·rw [if_pos c9] at H
          have c9b0 : decide (0 ≤ (ji8)) = true := decide_eq_true c9; clear c9
          by_cases c10 : (ji8) < (l0.length : Int)
          ·rw [if_pos c10] at H
           have c10b0 : decide ((ji8) < (l0.length : Int)) = true := decide_eq_true c10; clear c10
           by_cases c11 : (wrap64 (((rd_T25 l0 x3_1).f0) - 1)) ≤ ((rd_T25 l0 (ji8)).f1)
           ·rw [if_pos c11] at H
            have c11b0 : decide ((wrap64 (((rd_T25 l0 x3_1).f0) - 1)) ≤ ((rd_T25 l0 (ji8)).f1)) = true := decide_eq_true c11; clear c11; obtain rfl := Option.some.inj H; have p207 : 0 ≤ (x3_1 : Int) := od_; have q207 : x3_1 < (l0.length : Int) := od_; obtain ⟨ad207, e207, hx207_0, hx207_1⟩ := at_T25 HR0.out x3_1 p207 q207
            cases e207
            replace p207 := eq_true p207; replace q207 := eq_true q207; have p208 : 0 ≤ (x3_1 : Int) := od_; have q208 : x3_1 < (l0.length : Int) := od_; obtain ⟨ad208, e208, hx208_0, hx208_1⟩ := at_T25 HR0.out x3_1 p208 q208; obtain rfl : ad207 = ad208 := (by injection e208); replace p208 := eq_true p208; replace q208 := eq_true q208; have p209 : 0 ≤ (x3_1 : Int) := od_; have q209 : x3_1 < (l0.length : Int) := od_; obtain ⟨ad209, e209, hx209_0, hx209_1⟩ := at_T25 HR0.out x3_1 p209 q209; obtain rfl : ad207 = ad209 := (by injection e209); replace p209 := eq_true p209; replace q209 := eq_true q209; have p210 : 0 ≤ (x3_1 : Int) := od_; have q210 : x3_1 < (l0.length : Int) := od_; obtain ⟨ad210, e210, hx210_0, hx210_1⟩ := at_T25 HR0.out x3_1 p210 q210; obtain rfl : ad207 = ad210 := (by injection e210); replace p210 := eq_true p210; replace q210 := eq_true q210; have p211 : 0 ≤ (x3_1 : Int) := od_; have q211 : x3_1 < (l0.length : Int) := od_; obtain ⟨ad211, e211, hx211_0, hx211_1⟩ := at_T25 HR0.out x3_1 p211 q211; obtain rfl : ad207 = ad211 := (by injection e211); replace p211 := eq_true p211; replace q211 := eq_true q211; have p212 : 0 ≤ ((ji8) : Int) := od_; have q212 : (ji8) < (l0.length : Int) := od_; obtain ⟨ad212, e212, hx212_0, hx212_1⟩ := at_T25 HR0.out (ji8) p212 q212; obtain rfl : ad207 = ad212 := (by injection e212); replace p212 := eq_true p212; replace q212 := eq_true q212; go_wp2
            repeat (go_quiet (fail); try go_wp2)
            go_ret; exact ⟨by first | rfl | (simp; done) | (simp only [← hji8] <;> (first | rfl | simp)) | (simp [*]; done), by repeat (first | exact Drawn0.refl _ | apply Drawn0.step)⟩
           ·rw [if_neg c11] at H
            have c11b0 : decide ((wrap64 (((rd_T25 l0 x3_1).f0) - 1)) ≤ ((rd_T25 l0 (ji8)).f1)) = false := decide_eq_false c11; clear c11; have H' := Aside0.mk H; clear H; have p207 : 0 ≤ (x3_1 : Int) := od_; have q207 : x3_1 < (l0.length : Int) := od_; obtain ⟨ad207, e207, hx207_0, hx207_1⟩ := at_T25 HR0.out x3_1 p207 q207
            cases e207
            replace p207 := eq_true p207; replace q207 := eq_true q207; have p208 : 0 ≤ (x3_1 : Int) := od_; have q208 : x3_1 < (l0.length : Int) := od_; obtain ⟨ad208, e208, hx208_0, hx208_1⟩ := at_T25 HR0.out x3_1 p208 q208; obtain rfl : ad207 = ad208 := (by injection e208); replace p208 := eq_true p208; replace q208 := eq_true q208; have p209 : 0 ≤ (x3_1 : Int) := od_; have q209 : x3_1 < (l0.length : Int) := od_; obtain ⟨ad209, e209, hx209_0, hx209_1⟩ := at_T25 HR0.out x3_1 p209 q209; obtain rfl : ad207 = ad209 := (by injection e209); replace p209 := eq_true p209; replace q209 := eq_true q209; have p210 : 0 ≤ (x3_1 : Int) := od_; have q210 : x3_1 < (l0.length : Int) := od_; obtain ⟨ad210, e210, hx210_0, hx210_1⟩ := at_T25 HR0.out x3_1 p210 q210; obtain rfl : ad207 = ad210 := (by injection e210); replace p210 := eq_true p210; replace q210 := eq_true q210; have p211 : 0 ≤ (x3_1 : Int) := od_; have q211 : x3_1 < (l0.length : Int) := od_; obtain ⟨ad211, e211, hx211_0, hx211_1⟩ := at_T25 HR0.out x3_1 p211 q211; obtain rfl : ad207 = ad211 := (by injection e211); replace p211 := eq_true p211; replace q211 := eq_true q211; have p212 : 0 ≤ ((ji8) : Int) := od_; have q212 : (ji8) < (l0.length : Int) := od_; obtain ⟨ad212, e212, hx212_0, hx212_1⟩ := at_T25 HR0.out (ji8) p212 q212; obtain rfl : ad207 = ad212 := (by injection e212); replace p212 := eq_true p212; replace q212 := eq_true q212; go_wp2
            repeat (go_quiet (fail); try go_wp2)
            go_roundg k1
            case measure => have := HK1.out; omega
            case rel => exact ⟨(wrap64 (x3_1 + 1)), rf_, H', ⟨by have := HK1.out; omega⟩, by repeat (first | exact Drawn0.refl _ | apply Drawn0.step)⟩
          ·rw [if_neg c10] at H
           exact absurd H (by simp)
         ·rw [if_neg c9] at H
          exact absurd H (by simp)
        ·rw [if_neg c7] at H
         have c7b0 : decide (0 < x3_1) = false := decide_eq_false c7; clear c7; have H' := Aside0.mk H; clear H; have p207 : 0 ≤ (x3_1 : Int) := od_; have q207 : x3_1 < (l0.length : Int) := od_; obtain ⟨ad207, e207, hx207_0, hx207_1⟩ := at_T25 HR0.out x3_1 p207 q207
         cases e207
         replace p207 := eq_true p207; replace q207 := eq_true q207; have p208 : 0 ≤ (x3_1 : Int) := od_; have q208 : x3_1 < (l0.length : Int) := od_; obtain ⟨ad208, e208, hx208_0, hx208_1⟩ := at_T25 HR0.out x3_1 p208 q208; obtain rfl : ad207 = ad208 := (by injection e208); replace p208 := eq_true p208; replace q208 := eq_true q208; have p209 : 0 ≤ (x3_1 : Int) := od_; have q209 : x3_1 < (l0.length : Int) := od_; obtain ⟨ad209, e209, hx209_0, hx209_1⟩ := at_T25 HR0.out x3_1 p209 q209; obtain rfl : ad207 = ad209 := (by injection e209); replace p209 := eq_true p209; replace q209 := eq_true q209; have p210 : 0 ≤ (x3_1 : Int) := od_; have q210 : x3_1 < (l0.length : Int) := od_; obtain ⟨ad210, e210, hx210_0, hx210_1⟩ := at_T25 HR0.out x3_1 p210 q210; obtain rfl : ad207 = ad210 := (by injection e210); replace p210 := eq_true p210; replace q210 := eq_true q210; go_wp2
         repeat (go_quiet (fail); try go_wp2)
         go_roundg k1
         case measure => have := HK1.out; omega
         case rel => exact ⟨(wrap64 (x3_1 + 1)), rf_, H', ⟨by have := HK1.out; omega⟩, by repeat (first | exact Drawn0.refl _ | apply Drawn0.step)⟩
    ·rw [if_neg c3] at H
     exact absurd H (by simp)
   ·rw [if_neg c2] at H
    have c2b0 : decide (x3_1 < (l0.length : Int)) = false := decide_eq_false c2; clear c2; obtain rfl := Option.some.inj H; go_wp2
    repeat (go_quiet (fail); try go_wp2)
    go_ret; exact ⟨by first | rfl | (simp; done) | (simp [*]; done), by repeat (first | exact Drawn0.refl _ | apply Drawn0.step)⟩
end Go.Proofs.Ytkbcmjejfbbcpaa.A

namespace Go.Proofs.Ytkbcmjejfbbcpaa.A
open Go.RowKit Go.Proofs.YtkbcmjejfbbcpaaW.PrintWords Go.Proofs.YtkbcmjejfbbcpaaW.PrintLast Go.Proofs.YtkbcmjejfbbcpaaW.PrintMore
attribute [local go_sem] max2_int min2_int max_two min_two max_three min_three max_four min_four
set_option linter.unusedVariables false
set_option linter.unusedSimpArgs false
attribute [local go_sem] isSome_setCell
def lustrumref04_put.T9 : Bool × List (List Nat × List Nat) := (true, [([], []), ([0], [0]), ([], []), ([], []), ([2, 3], [2, 3]), ([4], [4]), ([5], [5]), ([1, 6], [1, 6]), ([], []), ([8], [8]), ([], []), ([], []), ([10, 11], [10, 11]), ([12], [12]), ([13], [13]), ([9, 14], [9, 14]), ([7, 15], [7, 15]), ([16, 0, 1, 2, 3, 4, 5, 6, 7, 8, 9, 10, 11, 12, 13, 14, 15, 16], [16])])
def lustrumref04_put.B9 : List Nat := [0, 1, 0, 0, 12, 28, 60, 127, 0, 256, 0, 0, 3072, 7168, 15360, 32512, 65535, 131071]
theorem lustrumref04_put.tab9 : rtab .any (opsOf Try.f53 9) = lustrumref04_put.T9 := by kernel_rfl
theorem lustrumref04_put.bits9 : waitsOk lustrumref04_put.T9.2 lustrumref04_put.B9 = true := by kernel_rfl
def lustrumref04_put.T10 : Bool × List (List Nat × List Nat) := (true, [([], []), ([], []), ([0, 1], [0, 1]), ([2], [2]), ([3], [3]), ([], []), ([5], [5]), ([6], [6]), ([4, 7], [4, 7]), ([8], [8])])
def lustrumref04_put.B10 : List Nat := [0, 0, 3, 7, 15, 0, 32, 96, 255, 511]
theorem lustrumref04_put.tab10 : rtab .any (opsOf Try.f53 10) = lustrumref04_put.T10 := by kernel_rfl
theorem lustrumref04_put.bits10 : waitsOk lustrumref04_put.T10.2 lustrumref04_put.B10 = true := by kernel_rfl
def lustrumref04_put.T12 : Bool × List (List Nat × List Nat) := (true, [([], []), ([], []), ([0, 1], [0, 1]), ([2], [2]), ([3], [3]), ([], []), ([5], [5]), ([6], [6]), ([4, 7], [4, 7]), ([8], [8])])
def lustrumref04_put.B12 : List Nat := [0, 0, 3, 7, 15, 0, 32, 96, 255, 511]
theorem lustrumref04_put.tab12 : rtab .any (opsOf Try.f53 12) = lustrumref04_put.T12 := by kernel_rfl
theorem lustrumref04_put.bits12 : waitsOk lustrumref04_put.T12.2 lustrumref04_put.B12 = true := by kernel_rfl
set_option maxHeartbeats 8000000 in
set_option maxRecDepth 100000 in
theorem lustrumref04_put.calls (k : Nat) (P0_ : Nat → Prop) (A0 : Option Addr) (c0 : Nat) (l0 : List (S25)) (a1_0 : Int) (a1_1 : Int) (r : List (S25)) (w : World) (hs0 : Kd.V k25 25 w w.heap.size (fun k_ => P0_ k_) (.slice A0 l0.length c0) l0) (h : lustrumref04_put.f k l0 a1_0 a1_1 = some r) :
  Calls Try.prog 53 #[.slice A0 l0.length c0, .agg #[.int .i64 a1_0, .int .i64 a1_1]] w fun e w' => ∃ v0_ : Value, e = .returned (v0_) ∧ Kd.V k25 25 w' w.heap.size (fun k_ => (P0_ k_ ∨ w.heap.size ≤ k_)) v0_ r ∧ Below w.heap.size w w' := by
 have hu25 := Try.underlying25; have HO0 := Aside0.mk (show Kd.V k25 25 w w.heap.size (fun k_ => (P0_ k_ ∨ w.heap.size ≤ k_)) (.slice A0 l0.length c0) l0 from Kd.V_mono hs0 (fun k_ hk => .inl hk)); have HB := Aside0.mk (Below.refl w.heap.size w); have H : (if (mx a1_0 (-1099511627776)) > (mn a1_1 1099511627776) then (some l0) else (lustrumref04_put.l0 k l0 ([] : List (S25)) ([] : List (S25)) 0 (mx a1_0 (-1099511627776)) (mn a1_1 1099511627776))) = some r := h; clear h; obtain ⟨ji3, hji3⟩ : ∃ j_ : Int, (mx a1_0 (-1099511627776)) = j_ := ⟨_, rfl⟩; (replace H : (if (ji3) > (mn a1_1 1099511627776) then (some l0) else (lustrumref04_put.l0 k l0 ([] : List (S25)) ([] : List (S25)) 0 ji3 (mn a1_1 1099511627776))) = some r := by first | (rw [hji3] at H; exact H) | (simp only [hji3] at H ⊢; exact H)); have hji3_ : (if a1_0 < (-1099511627776) then (-1099511627776) else a1_0) = ji3 := hji3; obtain ⟨ji4, hji4⟩ : ∃ j_ : Int, (mn a1_1 1099511627776) = j_ := ⟨_, rfl⟩; (replace H : (if (ji3) > (ji4) then (some l0) else (lustrumref04_put.l0 k l0 ([] : List (S25)) ([] : List (S25)) 0 ji3 ji4)) = some r := by first | (rw [hji4] at H; exact H) | (simp only [hji4] at H ⊢; exact H)); (try (have hji4h : ji4 ≤ 1099511627776 := by (rw [← hji4]; unfold mn; (repeat' split) <;> omega))); (try (have hji4g : ji4 ≤ 64 := by omega)); have hji4_ : (if 1099511627776 < a1_1 then 1099511627776 else a1_1) = ji4 := hji4
 by_cases c5 : (ji3) > (ji4)
 ·rw [if_pos c5] at H
  have c5b0 : decide ((ji4) < (ji3)) = true := decide_eq_true c5; clear c5; obtain rfl := Option.some.inj H; go_enter Try.func53, Try.ntmps53; go_wp2_with (first | ((with_reducible refine gate_dst (N := 3) rfl ?_); refine box_event ?hg (N := 3) ?hd (cs := #[.int .i64 a1_0, .int .i64 a1_1]) (t := 25) ?hr ?_; (case hd => rfl); (case hg => rfl); (case hr => first | (go_simp; done) | (go_simp; rfl)); intro gb213 hg w6 hbox hb; have n0_ := Aside0.mk (Kd.V_below (Kd.V_elderB (by (with_reducible repeat (first | apply Kd.V_alloc | apply Kd.V_drewN | apply Kd.V_drew)); exact HO0.out) gb213 (Nat.le_of_eq hg.symm)) hb); have n1_ := Aside0.mk (below_step hb_ hb); have n2_ := Aside0.mk (hbox); have n3_ := Aside0.mk ((by rw [hg]; exact (below_size hb_) : w.heap.size ≤ gb213)); have n4_ := Aside0.mk ((by rw [hg]; exact (below_size hb_) : w.heap.size ≤ gb213)); clear HO0; clear HB; have HO0 := n0_; have HB := n1_; have BK213 := n2_; have GW213 := n3_; have GE213 := n4_; clear n0_ n1_ n2_ n3_ n4_; clear hb hbox hg; have hcz7_0 : w6.cell? ⟨gb213, 0, none⟩ = some (.int .i64 a1_0) := (blk_cell BK213.out 0).trans rfl; have hcz7_1 : w6.cell? ⟨gb213, 1, none⟩ = some (.int .i64 a1_1) := (blk_cell BK213.out 1).trans rfl; have hfz7_0 := blk_frozen BK213.out 0; have hfz7_1 := blk_frozen BK213.out 1) | ((with_reducible refine gate_dst (N := 5) rfl ?_); refine box_event ?hg (N := 5) ?hd (cs := #[.int .i64 0, .int .i64 0]) (t := 25) ?hr ?_; (case hd => rfl); (case hg => rfl); (case hr => first | (go_simp; done) | (go_simp; rfl)); intro gb214 hg w8 hbox hb; have n0_ := Aside0.mk (Kd.V_below (Kd.V_elderB (by (with_reducible repeat (first | apply Kd.V_alloc | apply Kd.V_drewN | apply Kd.V_drew)); exact HO0.out) gb214 (Nat.le_of_eq hg.symm)) hb); have n1_ := Aside0.mk (blk_below (g := gb213) (o := .cells #[.int .i64 a1_0, .int .i64 a1_1] 25 (0, 0)) (by (with_reducible repeat (first | refine blk_drewN ?_ _ | refine blk_drew ?_ | refine blk_alloc ?_ _)); exact BK213.out) hb); have n2_ := Aside0.mk (below_step (by repeat (first | (with_reducible first | exact HB.out | apply below_alloc | apply pw_below_drewN | apply below_drew1 | refine below_set ?_ GE213.out) | exact HB.out)) hb); have n3_ := Aside0.mk (hbox); have n4_ := Aside0.mk ((by rw [hg]; exact (below_size (by repeat (first | (with_reducible first | exact HB.out | apply below_alloc | apply pw_below_drewN | apply below_drew1 | refine below_set ?_ GE213.out) | exact HB.out))) : w.heap.size ≤ gb214)); have n5_ := Aside0.mk ((by rw [hg]; exact (below_size (by repeat (first | (with_reducible first | exact HB.out | apply below_alloc | apply pw_below_drewN | apply below_drew1 | refine below_set ?_ GE213.out) | exact HB.out))) : w.heap.size ≤ gb214)); have n6_ := Aside0.mk ((by rw [hg]; exact Nat.ne_of_lt (blk_lt (g := gb213) (o := .cells #[.int .i64 a1_0, .int .i64 a1_1] 25 (0, 0)) (by (with_reducible repeat (first | refine blk_drewN ?_ _ | refine blk_drew ?_ | refine blk_alloc ?_ _)); exact BK213.out)) : gb213 ≠ gb214)); have n7_ := Aside0.mk ((by rw [hg]; exact Nat.ne_of_gt (blk_lt (g := gb213) (o := .cells #[.int .i64 a1_0, .int .i64 a1_1] 25 (0, 0)) (by (with_reducible repeat (first | refine blk_drewN ?_ _ | refine blk_drew ?_ | refine blk_alloc ?_ _)); exact BK213.out)) : gb214 ≠ gb213)); clear HO0; clear BK213; clear HB; have HO0 := n0_; have BK213 := n1_; have HB := n2_; have BK214 := n3_; have GW214 := n4_; have GE214 := n5_; have NB213_214 := n6_; have NB214_213 := n7_; clear n0_ n1_ n2_ n3_ n4_ n5_ n6_ n7_; clear hb hbox hg; have hnb9 := NB214_213.out; have hnc9 := NB213_214.out; have hcz10_0 : w8.cell? ⟨gb214, 0, none⟩ = some (.int .i64 0) := (blk_cell BK214.out 0).trans rfl; have hcz10_1 : w8.cell? ⟨gb214, 1, none⟩ = some (.int .i64 0) := (blk_cell BK214.out 1).trans rfl; have hfz10_0 := blk_frozen BK214.out 0; have hfz10_1 := blk_frozen BK214.out 1)); go_ret; exact ⟨_, by first | rfl | (simp [errW_none, errW_some] <;> rfl) | (simp only [← hji3, ← hji4]; first | rfl | (simp [errW_none, errW_some] <;> rfl)) | (simp [*, errW_none, errW_some] <;> rfl), by (with_reducible repeat (first | apply Kd.V_alloc | apply Kd.V_drewN | apply Kd.V_drew)); exact Kd.V_mono (Kd.V_far (p := ⟨gb214, 1, none⟩) (Kd.V_far (p := ⟨gb214, 0, none⟩) (Kd.V_mono HO0.out (fun k_ hk => (⟨hk, hk.2⟩ : _ ∧ k_ ≠ gb214))) (fun _ hk => hk.2) (.int .i64 ji3)) (fun _ hk => hk.2) (.int .i64 ji4)) (fun _ hk => hk.1.1.1), by repeat (first | (with_reducible first | exact HB.out | apply below_alloc | apply pw_below_drewN | apply below_drew1 | refine below_set ?_ GE213.out | refine below_set ?_ GE214.out) | exact HB.out)⟩
 ·rw [if_neg c5] at H
  have c5b0 : decide ((ji4) < (ji3)) = false := decide_eq_false c5; clear c5; have H' := Aside0.mk H; clear H; go_enter Try.func53, Try.ntmps53; go_wp2_with (first | ((with_reducible refine gate_dst (N := 3) rfl ?_); refine box_event ?hg (N := 3) ?hd (cs := #[.int .i64 a1_0, .int .i64 a1_1]) (t := 25) ?hr ?_; (case hd => rfl); (case hg => rfl); (case hr => first | (go_simp; done) | (go_simp; rfl)); intro gb213 hg w11 hbox hb; have n0_ := Aside0.mk (Kd.V_below (Kd.V_elderB (by (with_reducible repeat (first | apply Kd.V_alloc | apply Kd.V_drewN | apply Kd.V_drew)); exact HO0.out) gb213 (Nat.le_of_eq hg.symm)) hb); have n1_ := Aside0.mk (below_step hb_ hb); have n2_ := Aside0.mk (hbox); have n3_ := Aside0.mk ((by rw [hg]; exact (below_size hb_) : w.heap.size ≤ gb213)); have n4_ := Aside0.mk ((by rw [hg]; exact (below_size hb_) : w.heap.size ≤ gb213)); clear HO0; clear HB; have HO0 := n0_; have HB := n1_; have BK213 := n2_; have GW213 := n3_; have GE213 := n4_; clear n0_ n1_ n2_ n3_ n4_; clear hb hbox hg; have hcz12_0 : w11.cell? ⟨gb213, 0, none⟩ = some (.int .i64 a1_0) := (blk_cell BK213.out 0).trans rfl; have hcz12_1 : w11.cell? ⟨gb213, 1, none⟩ = some (.int .i64 a1_1) := (blk_cell BK213.out 1).trans rfl; have hfz12_0 := blk_frozen BK213.out 0; have hfz12_1 := blk_frozen BK213.out 1) | ((with_reducible refine gate_dst (N := 5) rfl ?_); refine box_event ?hg (N := 5) ?hd (cs := #[.int .i64 0, .int .i64 0]) (t := 25) ?hr ?_; (case hd => rfl); (case hg => rfl); (case hr => first | (go_simp; done) | (go_simp; rfl)); intro gb214 hg w13 hbox hb; have n0_ := Aside0.mk (Kd.V_below (Kd.V_elderB (by (with_reducible repeat (first | apply Kd.V_alloc | apply Kd.V_drewN | apply Kd.V_drew)); exact HO0.out) gb214 (Nat.le_of_eq hg.symm)) hb); have n1_ := Aside0.mk (blk_below (g := gb213) (o := .cells #[.int .i64 a1_0, .int .i64 a1_1] 25 (0, 0)) (by (with_reducible repeat (first | refine blk_drewN ?_ _ | refine blk_drew ?_ | refine blk_alloc ?_ _)); exact BK213.out) hb); have n2_ := Aside0.mk (below_step (by repeat (first | (with_reducible first | exact HB.out | apply below_alloc | apply pw_below_drewN | apply below_drew1 | refine below_set ?_ GE213.out) | exact HB.out)) hb); have n3_ := Aside0.mk (hbox); have n4_ := Aside0.mk ((by rw [hg]; exact (below_size (by repeat (first | (with_reducible first | exact HB.out | apply below_alloc | apply pw_below_drewN | apply below_drew1 | refine below_set ?_ GE213.out) | exact HB.out))) : w.heap.size ≤ gb214)); have n5_ := Aside0.mk ((by rw [hg]; exact (below_size (by repeat (first | (with_reducible first | exact HB.out | apply below_alloc | apply pw_below_drewN | apply below_drew1 | refine below_set ?_ GE213.out) | exact HB.out))) : w.heap.size ≤ gb214)); have n6_ := Aside0.mk ((by rw [hg]; exact Nat.ne_of_lt (blk_lt (g := gb213) (o := .cells #[.int .i64 a1_0, .int .i64 a1_1] 25 (0, 0)) (by (with_reducible repeat (first | refine blk_drewN ?_ _ | refine blk_drew ?_ | refine blk_alloc ?_ _)); exact BK213.out)) : gb213 ≠ gb214)); have n7_ := Aside0.mk ((by rw [hg]; exact Nat.ne_of_gt (blk_lt (g := gb213) (o := .cells #[.int .i64 a1_0, .int .i64 a1_1] 25 (0, 0)) (by (with_reducible repeat (first | refine blk_drewN ?_ _ | refine blk_drew ?_ | refine blk_alloc ?_ _)); exact BK213.out)) : gb214 ≠ gb213)); clear HO0; clear BK213; clear HB; have HO0 := n0_; have BK213 := n1_; have HB := n2_; have BK214 := n3_; have GW214 := n4_; have GE214 := n5_; have NB213_214 := n6_; have NB214_213 := n7_; clear n0_ n1_ n2_ n3_ n4_ n5_ n6_ n7_; clear hb hbox hg; have hnb14 := NB214_213.out; have hnc14 := NB213_214.out; have hcz15_0 : w13.cell? ⟨gb214, 0, none⟩ = some (.int .i64 0) := (blk_cell BK214.out 0).trans rfl; have hcz15_1 : w13.cell? ⟨gb214, 1, none⟩ = some (.int .i64 0) := (blk_cell BK214.out 1).trans rfl; have hfz15_0 := blk_frozen BK214.out 0; have hfz15_1 := blk_frozen BK214.out 1)); go_loopg [6, 7, 8] k (fun kq v6 v7 v8 w' => ∃ (x6_1 : List (S25)) (x7_1 : List (S25)) (x8_1 : Int) (x215000_1 : Int) (x215001_1 : Int), v8 = .int .i64 x8_1 ∧ Aside0 (lustrumref04_put.l0 kq l0 x6_1 x7_1 x8_1 x215000_1 x215001_1 = some r) ∧ Aside0 (kq ≤ k) ∧ Aside0 (Kd.V k25 25 w' w.heap.size (fun k_ => (P0_ k_ ∨ w.heap.size ≤ k_) ∧ some k_ ≠ (v6 : Value).ownBlock ∧ some k_ ≠ (v7 : Value).ownBlock ∧ k_ ≠ gb213 ∧ k_ ≠ gb214) (.slice A0 l0.length c0) l0) ∧ Aside0 (Kd.R k25 25 w' w.heap.size (fun k_ => (w.heap.size ≤ k_) ∧ some k_ ≠ (v7 : Value).ownBlock ∧ k_ ≠ gb213 ∧ k_ ≠ gb214) v6 x6_1) ∧ Aside0 (Kd.R k25 25 w' w.heap.size (fun k_ => (w.heap.size ≤ k_) ∧ some k_ ≠ (v6 : Value).ownBlock ∧ k_ ≠ gb213 ∧ k_ ≠ gb214) v7 x7_1) ∧ Aside0 (w'.heap[gb213]? = some (.cells #[.int .i64 a1_0, .int .i64 a1_1] 25 (0, 0))) ∧ Aside0 (w'.heap[gb214]? = some (.cells #[.int .i64 x215000_1, .int .i64 x215001_1] 25 (0, 0))) ∧ Aside0 (Below w.heap.size w w'))
  case atStart => exact ⟨(([] : List (S25))), (([] : List (S25))), (0), (ji3), (ji4), rf_, H', ⟨Nat.le_refl _⟩, ⟨by (with_reducible repeat (first | apply Kd.V_alloc | apply Kd.V_drewN | apply Kd.V_drew)); exact Kd.V_mono (Kd.V_far (p := ⟨gb214, 1, none⟩) (Kd.V_far (p := ⟨gb214, 0, none⟩) (Kd.V_mono HO0.out (fun k_ hk => (⟨hk, hk.2⟩ : _ ∧ k_ ≠ gb214))) (fun _ hk => hk.2) (.int .i64 ji3)) (fun _ hk => hk.2) (.int .i64 ji4)) (fun _ hk => ⟨hk.1.1.1, ⟨(by simp [Value.ownBlock]), ⟨(by simp [Value.ownBlock]), ⟨hk.1.1.2, hk.1.2⟩⟩⟩⟩)⟩, ⟨by first | exact Kd.R_nil _ _ _ _ _ | exact Kd.N_nil _ _ _ _ _ | exact Kd.V_nil _ _ _ _ _ | exact Kd.Q_nil _ _ _ _ _ | exact Kd.S_nil _ _ _ _ _⟩, ⟨by first | exact Kd.R_nil _ _ _ _ _ | exact Kd.N_nil _ _ _ _ _ | exact Kd.V_nil _ _ _ _ _ | exact Kd.Q_nil _ _ _ _ _ | exact Kd.S_nil _ _ _ _ _⟩, ⟨by (with_reducible repeat (first | refine blk_drewN ?_ _ | refine blk_drew ?_ | refine blk_alloc ?_ _)); refine blk_far ?_ NB213_214.out _; (with_reducible repeat (first | refine blk_drewN ?_ _ | refine blk_drew ?_ | refine blk_alloc ?_ _)); refine blk_far ?_ NB213_214.out _; (with_reducible repeat (first | refine blk_drewN ?_ _ | refine blk_drew ?_ | refine blk_alloc ?_ _)); exact BK213.out⟩, ⟨by (with_reducible repeat (first | refine blk_drewN ?_ _ | refine blk_drew ?_ | refine blk_alloc ?_ _)); refine blk_put (cs := #[.int .i64 ji3, .int .i64 0]) ?_ 1 _ rfl; (with_reducible repeat (first | refine blk_drewN ?_ _ | refine blk_drew ?_ | refine blk_alloc ?_ _)); refine blk_put (cs := #[.int .i64 0, .int .i64 0]) ?_ 0 _ rfl; (with_reducible repeat (first | refine blk_drewN ?_ _ | refine blk_drew ?_ | refine blk_alloc ?_ _)); exact BK214.out⟩, ⟨by repeat (first | (with_reducible first | exact HB.out | apply below_alloc | apply pw_below_drewN | apply below_drew1 | refine below_set ?_ GE213.out | refine below_set ?_ GE214.out) | exact HB.out)⟩⟩
  case round =>
   clear H'; (try clear c1); (try clear p2); (try clear c5); (try clear c5b0); (try clear c9); (try clear c14); (try clear hcz10_0); (try clear hcz10_1); (try clear hcz12_0); (try clear hcz12_1); (try clear hcz15_0); (try clear hcz15_1); (try clear hcz7_0); (try clear hcz7_1); (try clear hfz10_0); (try clear hfz10_1); (try clear hfz12_0); (try clear hfz12_1); (try clear hfz15_0); (try clear hfz15_1); (try clear hfz7_0); (try clear hfz7_1); obtain ⟨x6_1, x7_1, x8_1, x215000_1, x215001_1, rfl, HA, HK1, HO_0, HO_6, HO_7, BK213, BK214, HB⟩ := hrel
   cases gk with
   | zero => exact absurd HA.out (by simp [lustrumref04_put.l0])
   | succ k1 =>
    have H := HA.out; clear HA; simp only [lustrumref04_put.l0] at H
    by_cases c16 : x8_1 < (l0.length : Int)
    ·rw [if_pos c16] at H
     have c16b0 : decide (x8_1 < (l0.length : Int)) = true := decide_eq_true c16; clear c16
     by_cases c17 : 0 ≤ x8_1
     ·rw [if_pos c17] at H
      have c17b0 : decide (0 ≤ x8_1) = true := decide_eq_true c17; clear c17
      by_cases c18 : ((rd_T25 l0 x8_1).f1) < (wrap64 (x215000_1 - 1))
      ·rw [if_pos c18] at H
       have c18b0 : decide (((rd_T25 l0 x8_1).f1) < (wrap64 (x215000_1 - 1))) = true := decide_eq_true c18; clear c18
       by_cases c19 : x6_1.length < 8796093022208
       ·rw [if_pos c19] at H
        have LMc19 := Aside0.mk c19; clear c19; obtain ⟨y223, hy223⟩ : ∃ y_ : List (S25), y_ = (x6_1 ++ [(⟨(rd_T25 l0 x8_1).f0, (rd_T25 l0 x8_1).f1⟩ : S25)]) := ⟨_, rfl⟩; (replace H : (lustrumref04_put.l0 k1 l0 y223 x7_1 (wrap64 (x8_1 + 1)) x215000_1 x215001_1) = some r := by first | (rw [hy223]; with_reducible exact H) | (have H2_ := (Option.bind_some _ _).symm.trans H; rw [hy223]; with_reducible exact H2_) | (have H2_ := (Option.bind_some _ _).symm.trans H; with_reducible exact H2_) | with_reducible exact H | (rw [hy223]; exact H) | exact H); have Ny223 := Aside0.mk hy223; clear hy223; have H' := Aside0.mk H; clear H; (try go_wp2); replace HO_0 := Aside0.mk (Kd.V_drew HO_0.out); replace HO_6 := Aside0.mk (Kd.R_drew HO_6.out); replace HO_7 := Aside0.mk (Kd.R_drew HO_7.out); replace BK213 := Aside0.mk (blk_drew BK213.out); replace BK214 := Aside0.mk (blk_drew BK214.out); replace HB := Aside0.mk (below_drew1 HB.out); have p221 : 0 ≤ (x8_1 : Int) := od_; have q221 : x8_1 < (l0.length : Int) := od_; obtain ⟨ad221, e221, hx221_0, hx221_1⟩ := at_T25 (Kd.V_reads' HO_0.out).2.2 x8_1 p221 q221
        cases e221
        replace p221 := eq_true p221; replace q221 := eq_true q221; refine start_ (n := 10) (S := fun w' => w'.cell? ⟨gb214, 0, none⟩ = some (.int .i64 x215000_1) ∧ w'.cell? ⟨gb214, 1, none⟩ = some (.int .i64 x215001_1) ∧ w'.cell? (ad221.add ((x8_1).toNat * 2)) = some (.int .i64 ((rd_T25 l0 x8_1).f0)) ∧ w'.cell? ⟨(ad221.add ((x8_1).toNat * 2)).block, (ad221.add ((x8_1).toNat * 2)).off + 1, none⟩ = some (.int .i64 ((rd_T25 l0 x8_1).f1))) (ds := []) (ab 10 0) (by kernel_rfl) rfl rfl ⟨(blk_cell BK214.out 0).trans rfl, (blk_cell BK214.out 1).trans rfl, hx221_0, hx221_1⟩ (fun hHeld => ?_); refine with_tabW lustrumref04_put.tab10 lustrumref04_put.bits10 (fun HT_ HW_ => ?_); generalize wr.drew = w20 at HO_0 HO_6 HO_7 BK213 BK214 HB hx221_0 hx221_1 hHeld ⊢; refine pA 0 46 10 1 ?_; refine pA 1 47 10 3 ?_; refine pA 2 48 10 7 ?_; refine pA 3 49 10 15 ?_; refine pA 5 51 10 47 ?_; refine tA 4 50 10 63 ?_; refine tA 6 52 10 127 ?_; refine pA 7 53 10 255 ?_; refine pA 8 54 10 511 ?_; refine pA 9 45 10 1023 ?_; refine done_ (done_of HT_.out (by kernel_rfl)) ?_; have p222 : 0 ≤ (x8_1 : Int) := od_; have q222 : x8_1 < (l0.length : Int) := od_; obtain ⟨ad222, e222, hx222_0, hx222_1⟩ := at_T25 (Kd.V_reads' HO_0.out).2.2 x8_1 p222 q222; obtain rfl : ad221 = ad222 := (by injection e222); replace p222 := eq_true p222; replace q222 := eq_true q222; (try go_wp2_with (first | ((with_reducible refine gate_builtin (b := .append) (xs := #[.tmp 55, .tmp 60]) rfl ?_); at_builtin; refine Kd.R_append k25 (w0 := w) w.heap.size rfl (.tmp 55) (.tmp 60) 23 25 (.agg #[(.int .i64 0), (.int .i64 0)]) 16 rfl Try.underlying23 info25 rfl (by decide) (by omega) u6 x6_1 (⟨(rd_T25 l0 x8_1).f0, (rd_T25 l0 x8_1).f1⟩ : S25) [.int .i64 ((rd_T25 l0 x8_1).f0), .int .i64 ((rd_T25 l0 x8_1).f1)] (fun k_ => (w.heap.size ≤ k_) ∧ some k_ ≠ (u7 : Value).ownBlock ∧ k_ ≠ gb213 ∧ k_ ≠ gb214) (fun _ => False) rfl rfl ?aP (fun _ hk => hk.elim) ?aF ?aO ?aB ?aS ?aL ?_; (case aP => exact k25_mkM _ _ _ (⟨(rd_T25 l0 x8_1).f0, (rd_T25 l0 x8_1).f1⟩ : S25)); (case aB => exact (by repeat (first | (with_reducible first | exact HB.out | apply below_alloc | apply pw_below_drewN | apply below_drew1 | refine below_set ?_ GE213.out | refine below_set ?_ GE214.out) | exact HB.out))); (case aF => exact (fun k_ hk => ⟨(Nat.le_trans (below_size (by repeat (first | (with_reducible first | exact HB.out | apply below_alloc | apply pw_below_drewN | apply below_drew1 | refine below_set ?_ GE213.out | refine below_set ?_ GE214.out) | exact HB.out))) hk), Kd.fresh' (Kd.R_lt (by (with_reducible repeat (first | apply Kd.R_alloc | apply Kd.R_drewN | apply Kd.R_drew)); exact HO_7.out)) k_ hk, Kd.freshB (g := gb213) (o := .cells #[.int .i64 a1_0, .int .i64 a1_1] 25 (0, 0)) (by (with_reducible repeat (first | refine blk_drewN ?_ _ | refine blk_drew ?_ | refine blk_alloc ?_ _)); exact BK213.out) k_ hk, Kd.freshB (g := gb214) (o := .cells #[.int .i64 x215000_1, .int .i64 x215001_1] 25 (0, 0)) (by (with_reducible repeat (first | refine blk_drewN ?_ _ | refine blk_drew ?_ | refine blk_alloc ?_ _)); exact BK214.out) k_ hk⟩)); (case aO => exact (by (with_reducible repeat (first | apply Kd.R_alloc | apply Kd.R_drewN | apply Kd.R_drew)); exact HO_6.out)); (case aS => exact (below_size (by repeat (first | (with_reducible first | exact HB.out | apply below_alloc | apply pw_below_drewN | apply below_drew1 | refine below_set ?_ GE213.out | refine below_set ?_ GE214.out) | exact HB.out)))); (case aL => have := LMc19.out; omega); intro v224 w21 ho hb hg hat; rw [← Ny223.out] at ho; have n0_ := Aside0.mk (Kd.V_afterv (ok := (fun k_ => (P0_ k_ ∨ w.heap.size ≤ k_) ∧ some k_ ≠ (u7 : Value).ownBlock ∧ k_ ≠ gb213 ∧ k_ ≠ gb214)) (by (with_reducible repeat (first | apply Kd.V_alloc | apply Kd.V_drewN | apply Kd.V_drew)); exact Kd.V_mono HO_0.out (fun _ hk => ⟨⟨hk.1, ⟨hk.2.2.1, ⟨hk.2.2.2.1, hk.2.2.2.2⟩⟩⟩, hk.2.1⟩)) hg hat); have n1_ := Aside0.mk (Kd.R_after (ok := (fun k_ => (w.heap.size ≤ k_) ∧ k_ ≠ gb213 ∧ k_ ≠ gb214)) (by (with_reducible repeat (first | apply Kd.R_alloc | apply Kd.R_drewN | apply Kd.R_drew)); exact Kd.R_mono HO_7.out (fun _ hk => ⟨⟨hk.1, ⟨hk.2.2.1, hk.2.2.2⟩⟩, hk.2.1⟩)) hg hat); have n2_ := Aside0.mk (blk_grown (g := gb213) (o := .cells #[.int .i64 a1_0, .int .i64 a1_1] 25 (0, 0)) (by (with_reducible repeat (first | refine blk_drewN ?_ _ | refine blk_drew ?_ | refine blk_alloc ?_ _)); exact BK213.out) hg (Kd.R_away HO_6.out (fun _ hk => hk.2.2.1))); have n3_ := Aside0.mk (blk_grown (g := gb214) (o := .cells #[.int .i64 x215000_1, .int .i64 x215001_1] 25 (0, 0)) (by (with_reducible repeat (first | refine blk_drewN ?_ _ | refine blk_drew ?_ | refine blk_alloc ?_ _)); exact BK214.out) hg (Kd.R_away HO_6.out (fun _ hk => hk.2.2.2))); have n4_ := Aside0.mk (hb); have n5_ := Aside0.mk (ho); clear HO_0; clear HO_7; clear BK213; clear BK214; clear HB; clear HO_6; have HO_0 := n0_; have HO_7 := n1_; have BK213 := n2_; have BK214 := n3_; have HB := n4_; have HO225 := n5_; clear n0_ n1_ n2_ n3_ n4_ n5_; clear ho hb hg hat)))
        go_roundg k1
        case measure => have := HK1.out; omega
        case rel => exact ⟨(y223), (x7_1), (wrap64 (x8_1 + 1)), (x215000_1), (x215001_1), rf_, H', ⟨by have := HK1.out; omega⟩, ⟨by (with_reducible repeat (first | apply Kd.V_alloc | apply Kd.V_drewN | apply Kd.V_drew)); exact Kd.V_mono HO_0.out (fun _ hk => ⟨hk.1.1, ⟨hk.2, ⟨hk.1.2.1, ⟨hk.1.2.2.1, hk.1.2.2.2⟩⟩⟩⟩)⟩, ⟨by (with_reducible repeat (first | apply Kd.R_alloc | apply Kd.R_drewN | apply Kd.R_drew)); exact HO225.out⟩, ⟨by (with_reducible repeat (first | apply Kd.R_alloc | apply Kd.R_drewN | apply Kd.R_drew)); exact Kd.R_mono HO_7.out (fun _ hk => ⟨hk.1.1, ⟨hk.2, ⟨hk.1.2.1, hk.1.2.2⟩⟩⟩)⟩, ⟨by (with_reducible repeat (first | refine blk_drewN ?_ _ | refine blk_drew ?_ | refine blk_alloc ?_ _)); exact BK213.out⟩, ⟨by (with_reducible repeat (first | refine blk_drewN ?_ _ | refine blk_drew ?_ | refine blk_alloc ?_ _)); exact BK214.out⟩, ⟨by repeat (first | (with_reducible first | exact HB.out | apply below_alloc | apply pw_below_drewN | apply below_drew1 | refine below_set ?_ GE213.out | refine below_set ?_ GE214.out) | exact HB.out)⟩⟩
       ·rw [if_neg c19] at H
        exact absurd H (by simp)
      ·rw [if_neg c18] at H
       have c18b0 : decide (((rd_T25 l0 x8_1).f1) < (wrap64 (x215000_1 - 1))) = false := decide_eq_false c18; clear c18
       by_cases c22 : ((rd_T25 l0 x8_1).f0) > (wrap64 (x215001_1 + 1))
       ·rw [if_pos c22] at H
        have c22b0 : decide ((wrap64 (x215001_1 + 1)) < ((rd_T25 l0 x8_1).f0)) = true := decide_eq_true c22; clear c22
        by_cases c23 : x7_1.length < 8796093022208
        ·rw [if_pos c23] at H
         have LMc23 := Aside0.mk c23; clear c23; obtain ⟨y228, hy228⟩ : ∃ y_ : List (S25), y_ = (x7_1 ++ [(⟨(rd_T25 l0 x8_1).f0, (rd_T25 l0 x8_1).f1⟩ : S25)]) := ⟨_, rfl⟩; (replace H : (lustrumref04_put.l0 k1 l0 x6_1 y228 (wrap64 (x8_1 + 1)) x215000_1 x215001_1) = some r := by first | (rw [hy228]; with_reducible exact H) | (have H2_ := (Option.bind_some _ _).symm.trans H; rw [hy228]; with_reducible exact H2_) | (have H2_ := (Option.bind_some _ _).symm.trans H; with_reducible exact H2_) | with_reducible exact H | (rw [hy228]; exact H) | exact H); have Ny228 := Aside0.mk hy228; clear hy228; have H' := Aside0.mk H; clear H; (try go_wp2); replace HO_0 := Aside0.mk (Kd.V_drew HO_0.out); replace HO_6 := Aside0.mk (Kd.R_drew HO_6.out); replace HO_7 := Aside0.mk (Kd.R_drew HO_7.out); replace BK213 := Aside0.mk (blk_drew BK213.out); replace BK214 := Aside0.mk (blk_drew BK214.out); replace HB := Aside0.mk (below_drew1 HB.out); have p221 : 0 ≤ (x8_1 : Int) := od_; have q221 : x8_1 < (l0.length : Int) := od_; obtain ⟨ad221, e221, hx221_0, hx221_1⟩ := at_T25 (Kd.V_reads' HO_0.out).2.2 x8_1 p221 q221
         cases e221
         replace p221 := eq_true p221; replace q221 := eq_true q221; refine start_ (n := 10) (S := fun w' => w'.cell? ⟨gb214, 0, none⟩ = some (.int .i64 x215000_1) ∧ w'.cell? ⟨gb214, 1, none⟩ = some (.int .i64 x215001_1) ∧ w'.cell? (ad221.add ((x8_1).toNat * 2)) = some (.int .i64 ((rd_T25 l0 x8_1).f0)) ∧ w'.cell? ⟨(ad221.add ((x8_1).toNat * 2)).block, (ad221.add ((x8_1).toNat * 2)).off + 1, none⟩ = some (.int .i64 ((rd_T25 l0 x8_1).f1))) (ds := []) (ab 10 0) (by kernel_rfl) rfl rfl ⟨(blk_cell BK214.out 0).trans rfl, (blk_cell BK214.out 1).trans rfl, hx221_0, hx221_1⟩ (fun hHeld => ?_); refine with_tabW lustrumref04_put.tab10 lustrumref04_put.bits10 (fun HT_ HW_ => ?_); generalize wr.drew = w24 at HO_0 HO_6 HO_7 BK213 BK214 HB hx221_0 hx221_1 hHeld ⊢; refine pA 0 46 10 1 ?_; refine pA 1 47 10 3 ?_; refine pA 2 48 10 7 ?_; refine pA 3 49 10 15 ?_; refine pA 5 51 10 47 ?_; refine tA 4 50 10 63 ?_; refine tA 6 52 10 127 ?_; refine pA 7 53 10 255 ?_; refine pA 8 54 10 511 ?_; refine pA 9 45 10 1023 ?_; refine done_ (done_of HT_.out (by kernel_rfl)) ?_; (try go_wp2); replace HO_0 := Aside0.mk (Kd.V_drew HO_0.out); replace HO_6 := Aside0.mk (Kd.R_drew HO_6.out); replace HO_7 := Aside0.mk (Kd.R_drew HO_7.out); replace BK213 := Aside0.mk (blk_drew BK213.out); replace BK214 := Aside0.mk (blk_drew BK214.out); replace HB := Aside0.mk (below_drew1 HB.out); have p226 : 0 ≤ (x8_1 : Int) := od_; have q226 : x8_1 < (l0.length : Int) := od_; obtain ⟨ad226, e226, hx226_0, hx226_1⟩ := at_T25 (Kd.V_reads' HO_0.out).2.2 x8_1 p226 q226; obtain rfl : ad221 = ad226 := (by injection e226); replace p226 := eq_true p226; replace q226 := eq_true q226; refine start_ (n := 10) (S := fun w' => w'.cell? ⟨gb214, 0, none⟩ = some (.int .i64 x215000_1) ∧ w'.cell? ⟨gb214, 1, none⟩ = some (.int .i64 x215001_1) ∧ w'.cell? (ad221.add ((x8_1).toNat * 2)) = some (.int .i64 ((rd_T25 l0 x8_1).f0)) ∧ w'.cell? ⟨(ad221.add ((x8_1).toNat * 2)).block, (ad221.add ((x8_1).toNat * 2)).off + 1, none⟩ = some (.int .i64 ((rd_T25 l0 x8_1).f1))) (ds := []) (ab 10 0) (by kernel_rfl) rfl rfl ⟨(blk_cell BK214.out 0).trans rfl, (blk_cell BK214.out 1).trans rfl, hx226_0, hx226_1⟩ (fun hHeld => ?_); refine with_tabW lustrumref04_put.tab12 lustrumref04_put.bits12 (fun HT_ HW_ => ?_); generalize w24.drew = w25 at HO_0 HO_6 HO_7 BK213 BK214 HB hx226_0 hx226_1 hHeld ⊢; refine pA 0 63 10 1 ?_; refine pA 1 64 10 3 ?_; refine pA 2 65 10 7 ?_; refine pA 3 66 10 15 ?_; refine pA 5 68 10 47 ?_; refine tA 4 67 10 63 ?_; refine tA 6 69 10 127 ?_; refine pA 7 70 10 255 ?_; refine pA 8 71 10 511 ?_; refine pA 9 62 10 1023 ?_; refine done_ (done_of HT_.out (by kernel_rfl)) ?_; have p227 : 0 ≤ (x8_1 : Int) := od_; have q227 : x8_1 < (l0.length : Int) := od_; obtain ⟨ad227, e227, hx227_0, hx227_1⟩ := at_T25 (Kd.V_reads' HO_0.out).2.2 x8_1 p227 q227; obtain rfl : ad221 = ad227 := (by injection e227); replace p227 := eq_true p227; replace q227 := eq_true q227; (try go_wp2_with (first | ((with_reducible refine gate_builtin (b := .append) (xs := #[.tmp 72, .tmp 77]) rfl ?_); at_builtin; refine Kd.R_append k25 (w0 := w) w.heap.size rfl (.tmp 72) (.tmp 77) 23 25 (.agg #[(.int .i64 0), (.int .i64 0)]) 16 rfl Try.underlying23 info25 rfl (by decide) (by omega) u7 x7_1 (⟨(rd_T25 l0 x8_1).f0, (rd_T25 l0 x8_1).f1⟩ : S25) [.int .i64 ((rd_T25 l0 x8_1).f0), .int .i64 ((rd_T25 l0 x8_1).f1)] (fun k_ => (w.heap.size ≤ k_) ∧ some k_ ≠ (u6 : Value).ownBlock ∧ k_ ≠ gb213 ∧ k_ ≠ gb214) (fun _ => False) rfl rfl ?aP (fun _ hk => hk.elim) ?aF ?aO ?aB ?aS ?aL ?_; (case aP => exact k25_mkM _ _ _ (⟨(rd_T25 l0 x8_1).f0, (rd_T25 l0 x8_1).f1⟩ : S25)); (case aB => exact (by repeat (first | (with_reducible first | exact HB.out | apply below_alloc | apply pw_below_drewN | apply below_drew1 | refine below_set ?_ GE213.out | refine below_set ?_ GE214.out) | exact HB.out))); (case aF => exact (fun k_ hk => ⟨(Nat.le_trans (below_size (by repeat (first | (with_reducible first | exact HB.out | apply below_alloc | apply pw_below_drewN | apply below_drew1 | refine below_set ?_ GE213.out | refine below_set ?_ GE214.out) | exact HB.out))) hk), Kd.fresh' (Kd.R_lt (by (with_reducible repeat (first | apply Kd.R_alloc | apply Kd.R_drewN | apply Kd.R_drew)); exact HO_6.out)) k_ hk, Kd.freshB (g := gb213) (o := .cells #[.int .i64 a1_0, .int .i64 a1_1] 25 (0, 0)) (by (with_reducible repeat (first | refine blk_drewN ?_ _ | refine blk_drew ?_ | refine blk_alloc ?_ _)); exact BK213.out) k_ hk, Kd.freshB (g := gb214) (o := .cells #[.int .i64 x215000_1, .int .i64 x215001_1] 25 (0, 0)) (by (with_reducible repeat (first | refine blk_drewN ?_ _ | refine blk_drew ?_ | refine blk_alloc ?_ _)); exact BK214.out) k_ hk⟩)); (case aO => exact (by (with_reducible repeat (first | apply Kd.R_alloc | apply Kd.R_drewN | apply Kd.R_drew)); exact HO_7.out)); (case aS => exact (below_size (by repeat (first | (with_reducible first | exact HB.out | apply below_alloc | apply pw_below_drewN | apply below_drew1 | refine below_set ?_ GE213.out | refine below_set ?_ GE214.out) | exact HB.out)))); (case aL => have := LMc23.out; omega); intro v229 w26 ho hb hg hat; rw [← Ny228.out] at ho; have n0_ := Aside0.mk (Kd.V_afterv (ok := (fun k_ => (P0_ k_ ∨ w.heap.size ≤ k_) ∧ some k_ ≠ (u6 : Value).ownBlock ∧ k_ ≠ gb213 ∧ k_ ≠ gb214)) (by (with_reducible repeat (first | apply Kd.V_alloc | apply Kd.V_drewN | apply Kd.V_drew)); exact Kd.V_mono HO_0.out (fun _ hk => ⟨⟨hk.1, ⟨hk.2.1, ⟨hk.2.2.2.1, hk.2.2.2.2⟩⟩⟩, hk.2.2.1⟩)) hg hat); have n1_ := Aside0.mk (Kd.R_after (ok := (fun k_ => (w.heap.size ≤ k_) ∧ k_ ≠ gb213 ∧ k_ ≠ gb214)) (by (with_reducible repeat (first | apply Kd.R_alloc | apply Kd.R_drewN | apply Kd.R_drew)); exact Kd.R_mono HO_6.out (fun _ hk => ⟨⟨hk.1, ⟨hk.2.2.1, hk.2.2.2⟩⟩, hk.2.1⟩)) hg hat); have n2_ := Aside0.mk (blk_grown (g := gb213) (o := .cells #[.int .i64 a1_0, .int .i64 a1_1] 25 (0, 0)) (by (with_reducible repeat (first | refine blk_drewN ?_ _ | refine blk_drew ?_ | refine blk_alloc ?_ _)); exact BK213.out) hg (Kd.R_away HO_7.out (fun _ hk => hk.2.2.1))); have n3_ := Aside0.mk (blk_grown (g := gb214) (o := .cells #[.int .i64 x215000_1, .int .i64 x215001_1] 25 (0, 0)) (by (with_reducible repeat (first | refine blk_drewN ?_ _ | refine blk_drew ?_ | refine blk_alloc ?_ _)); exact BK214.out) hg (Kd.R_away HO_7.out (fun _ hk => hk.2.2.2))); have n4_ := Aside0.mk (hb); have n5_ := Aside0.mk (ho); clear HO_0; clear HO_6; clear BK213; clear BK214; clear HB; clear HO_7; have HO_0 := n0_; have HO_6 := n1_; have BK213 := n2_; have BK214 := n3_; have HB := n4_; have HO230 := n5_; clear n0_ n1_ n2_ n3_ n4_ n5_; clear ho hb hg hat)))
         go_roundg k1
         case measure => have := HK1.out; omega
         case rel => exact ⟨(x6_1), (y228), (wrap64 (x8_1 + 1)), (x215000_1), (x215001_1), rf_, H', ⟨by have := HK1.out; omega⟩, ⟨by (with_reducible repeat (first | apply Kd.V_alloc | apply Kd.V_drewN | apply Kd.V_drew)); exact Kd.V_mono HO_0.out (fun _ hk => ⟨hk.1.1, ⟨hk.1.2.1, ⟨hk.2, ⟨hk.1.2.2.1, hk.1.2.2.2⟩⟩⟩⟩)⟩, ⟨by (with_reducible repeat (first | apply Kd.R_alloc | apply Kd.R_drewN | apply Kd.R_drew)); exact Kd.R_mono HO_6.out (fun _ hk => ⟨hk.1.1, ⟨hk.2, ⟨hk.1.2.1, hk.1.2.2⟩⟩⟩)⟩, ⟨by (with_reducible repeat (first | apply Kd.R_alloc | apply Kd.R_drewN | apply Kd.R_drew)); exact HO230.out⟩, ⟨by (with_reducible repeat (first | refine blk_drewN ?_ _ | refine blk_drew ?_ | refine blk_alloc ?_ _)); exact BK213.out⟩, ⟨by (with_reducible repeat (first | refine blk_drewN ?_ _ | refine blk_drew ?_ | refine blk_alloc ?_ _)); exact BK214.out⟩, ⟨by repeat (first | (with_reducible first | exact HB.out | apply below_alloc | apply pw_below_drewN | apply below_drew1 | refine below_set ?_ GE213.out | refine below_set ?_ GE214.out) | exact HB.out)⟩⟩
        ·rw [if_neg c23] at H
         exact absurd H (by simp)
       ·rw [if_neg c22] at H
        have c22b0 : decide ((wrap64 (x215001_1 + 1)) < ((rd_T25 l0 x8_1).f0)) = false := decide_eq_false c22; clear c22; obtain ⟨ji27, hji27⟩ : ∃ j_ : Int, (mn x215000_1 ((rd_T25 l0 x8_1).f0)) = j_ := ⟨_, rfl⟩; (replace H : (lustrumref04_put.l0 k1 l0 x6_1 x7_1 (wrap64 (x8_1 + 1)) ji27 (mx x215001_1 ((rd_T25 l0 x8_1).f1))) = some r := by first | (rw [hji27] at H; exact H) | (simp only [hji27] at H ⊢; exact H)); have hji27_ : (if ((rd_T25 l0 x8_1).f0) < x215000_1 then ((rd_T25 l0 x8_1).f0) else x215000_1) = ji27 := hji27; obtain ⟨ji28, hji28⟩ : ∃ j_ : Int, (mx x215001_1 ((rd_T25 l0 x8_1).f1)) = j_ := ⟨_, rfl⟩; (replace H : (lustrumref04_put.l0 k1 l0 x6_1 x7_1 (wrap64 (x8_1 + 1)) ji27 ji28) = some r := by first | (rw [hji28] at H; exact H) | (simp only [hji28] at H ⊢; exact H)); have hji28_ : (if x215001_1 < ((rd_T25 l0 x8_1).f1) then ((rd_T25 l0 x8_1).f1) else x215001_1) = ji28 := hji28; have H' := Aside0.mk H; clear H; (try go_wp2); replace HO_0 := Aside0.mk (Kd.V_drew HO_0.out); replace HO_6 := Aside0.mk (Kd.R_drew HO_6.out); replace HO_7 := Aside0.mk (Kd.R_drew HO_7.out); replace BK213 := Aside0.mk (blk_drew BK213.out); replace BK214 := Aside0.mk (blk_drew BK214.out); replace HB := Aside0.mk (below_drew1 HB.out); have p221 : 0 ≤ (x8_1 : Int) := od_; have q221 : x8_1 < (l0.length : Int) := od_; obtain ⟨ad221, e221, hx221_0, hx221_1⟩ := at_T25 (Kd.V_reads' HO_0.out).2.2 x8_1 p221 q221
        cases e221
        replace p221 := eq_true p221; replace q221 := eq_true q221; refine start_ (n := 10) (S := fun w' => w'.cell? ⟨gb214, 0, none⟩ = some (.int .i64 x215000_1) ∧ w'.cell? ⟨gb214, 1, none⟩ = some (.int .i64 x215001_1) ∧ w'.cell? (ad221.add ((x8_1).toNat * 2)) = some (.int .i64 ((rd_T25 l0 x8_1).f0)) ∧ w'.cell? ⟨(ad221.add ((x8_1).toNat * 2)).block, (ad221.add ((x8_1).toNat * 2)).off + 1, none⟩ = some (.int .i64 ((rd_T25 l0 x8_1).f1))) (ds := []) (ab 10 0) (by kernel_rfl) rfl rfl ⟨(blk_cell BK214.out 0).trans rfl, (blk_cell BK214.out 1).trans rfl, hx221_0, hx221_1⟩ (fun hHeld => ?_); refine with_tabW lustrumref04_put.tab10 lustrumref04_put.bits10 (fun HT_ HW_ => ?_); generalize wr.drew = w29 at HO_0 HO_6 HO_7 BK213 BK214 HB hx221_0 hx221_1 hHeld ⊢; refine pA 0 46 10 1 ?_; refine pA 1 47 10 3 ?_; refine pA 2 48 10 7 ?_; refine pA 3 49 10 15 ?_; refine pA 5 51 10 47 ?_; refine tA 4 50 10 63 ?_; refine tA 6 52 10 127 ?_; refine pA 7 53 10 255 ?_; refine pA 8 54 10 511 ?_; refine pA 9 45 10 1023 ?_; refine done_ (done_of HT_.out (by kernel_rfl)) ?_; (try go_wp2); replace HO_0 := Aside0.mk (Kd.V_drew HO_0.out); replace HO_6 := Aside0.mk (Kd.R_drew HO_6.out); replace HO_7 := Aside0.mk (Kd.R_drew HO_7.out); replace BK213 := Aside0.mk (blk_drew BK213.out); replace BK214 := Aside0.mk (blk_drew BK214.out); replace HB := Aside0.mk (below_drew1 HB.out); have p226 : 0 ≤ (x8_1 : Int) := od_; have q226 : x8_1 < (l0.length : Int) := od_; obtain ⟨ad226, e226, hx226_0, hx226_1⟩ := at_T25 (Kd.V_reads' HO_0.out).2.2 x8_1 p226 q226; obtain rfl : ad221 = ad226 := (by injection e226); replace p226 := eq_true p226; replace q226 := eq_true q226; refine start_ (n := 10) (S := fun w' => w'.cell? ⟨gb214, 0, none⟩ = some (.int .i64 x215000_1) ∧ w'.cell? ⟨gb214, 1, none⟩ = some (.int .i64 x215001_1) ∧ w'.cell? (ad221.add ((x8_1).toNat * 2)) = some (.int .i64 ((rd_T25 l0 x8_1).f0)) ∧ w'.cell? ⟨(ad221.add ((x8_1).toNat * 2)).block, (ad221.add ((x8_1).toNat * 2)).off + 1, none⟩ = some (.int .i64 ((rd_T25 l0 x8_1).f1))) (ds := []) (ab 10 0) (by kernel_rfl) rfl rfl ⟨(blk_cell BK214.out 0).trans rfl, (blk_cell BK214.out 1).trans rfl, hx226_0, hx226_1⟩ (fun hHeld => ?_); refine with_tabW lustrumref04_put.tab12 lustrumref04_put.bits12 (fun HT_ HW_ => ?_); generalize w29.drew = w30 at HO_0 HO_6 HO_7 BK213 BK214 HB hx226_0 hx226_1 hHeld ⊢; refine pA 0 63 10 1 ?_; refine pA 1 64 10 3 ?_; refine pA 2 65 10 7 ?_; refine pA 3 66 10 15 ?_; refine pA 5 68 10 47 ?_; refine tA 4 67 10 63 ?_; refine tA 6 69 10 127 ?_; refine pA 7 70 10 255 ?_; refine pA 8 71 10 511 ?_; refine pA 9 62 10 1023 ?_; refine done_ (done_of HT_.out (by kernel_rfl)) ?_; (try go_wp2); replace HO_0 := Aside0.mk (Kd.V_drew HO_0.out); replace HO_6 := Aside0.mk (Kd.R_drew HO_6.out); replace HO_7 := Aside0.mk (Kd.R_drew HO_7.out); replace BK213 := Aside0.mk (blk_drew BK213.out); replace BK214 := Aside0.mk (blk_drew BK214.out); replace HB := Aside0.mk (below_drew1 HB.out); have p231 : 0 ≤ (x8_1 : Int) := od_; have q231 : x8_1 < (l0.length : Int) := od_; obtain ⟨ad231, e231, hx231_0, hx231_1⟩ := at_T25 (Kd.V_reads' HO_0.out).2.2 x8_1 p231 q231; obtain rfl : ad221 = ad231 := (by injection e231); replace p231 := eq_true p231; replace q231 := eq_true q231; have p232 : 0 ≤ (x8_1 : Int) := od_; have q232 : x8_1 < (l0.length : Int) := od_; obtain ⟨ad232, e232, hx232_0, hx232_1⟩ := at_T25 (Kd.V_reads' HO_0.out).2.2 x8_1 p232 q232; obtain rfl : ad221 = ad232 := (by injection e232); replace p232 := eq_true p232; replace q232 := eq_true q232; refine start_ (n := 18) (S := fun w' => w'.cell? ⟨gb214, 0, none⟩ = some (.int .i64 x215000_1) ∧ w'.cell? ⟨gb214, 1, none⟩ = some (.int .i64 x215001_1) ∧ w'.cell? (ad221.add ((x8_1).toNat * 2)) = some (.int .i64 ((rd_T25 l0 x8_1).f0)) ∧ w'.cell? ⟨(ad221.add ((x8_1).toNat * 2)).block, (ad221.add ((x8_1).toNat * 2)).off + 1, none⟩ = some (.int .i64 ((rd_T25 l0 x8_1).f1)) ∧ w'.cell? (ad221.add ((x8_1).toNat * 2)) = some (.int .i64 ((rd_T25 l0 x8_1).f0)) ∧ w'.cell? ⟨(ad221.add ((x8_1).toNat * 2)).block, (ad221.add ((x8_1).toNat * 2)).off + 1, none⟩ = some (.int .i64 ((rd_T25 l0 x8_1).f1))) (ds := [17]) (ab 18 0) (by kernel_rfl) rfl rfl ⟨(blk_cell BK214.out 0).trans rfl, (blk_cell BK214.out 1).trans rfl, hx231_0, hx231_1, hx232_0, hx232_1⟩ (fun hHeld => ?_); refine with_tabW lustrumref04_put.tab9 lustrumref04_put.bits9 (fun HT_ HW_ => ?_)
        generalize w30.drew = w31 at HO_0 HO_6 HO_7 BK213 BK214 HB hx231_0 hx231_1 hx232_0 hx232_1 hHeld ⊢; refine pA 0 28 18 1 ?_; refine pA 2 30 18 5 ?_; refine pA 3 31 18 13 ?_; refine pA 4 32 18 29 ?_; refine pA 5 33 18 61 ?_; refine pA 8 36 18 317 ?_; refine pA 10 38 18 1341 ?_; refine pA 11 39 18 3389 ?_; refine pA 12 40 18 7485 ?_; refine pA 13 41 18 15677 ?_; refine takeA 1 (some 29) (ab 18 15679) rfl rfl (take_ofW HT_.out HW_.out (by kernel_rfl)) (Or.inl ⟨by rfl, by rintro w' ⟨s0, s1, s2, s3, s4, s5⟩; go_simp; with_reducible rfl⟩) hHeld ?_; refine takeA 6 (some 34) (ab 18 15743) rfl rfl (take_ofW HT_.out HW_.out (by kernel_rfl)) (Or.inl ⟨by rfl, by rintro w' ⟨s0, s1, s2, s3, s4, s5⟩; go_simp; with_reducible rfl⟩) hHeld ?_; refine pA 7 35 18 15871 ?_; refine takeA 9 (some 37) (ab 18 16383) rfl rfl (take_ofW HT_.out HW_.out (by kernel_rfl)) (Or.inl ⟨by rfl, by rintro w' ⟨s0, s1, s2, s3, s4, s5⟩; go_simp; with_reducible rfl⟩) hHeld ?_; refine takeA 14 (some 42) (ab 18 32767) rfl rfl (take_ofW HT_.out HW_.out (by kernel_rfl)) (Or.inl ⟨by rfl, by rintro w' ⟨s0, s1, s2, s3, s4, s5⟩; go_simp; with_reducible rfl⟩) hHeld ?_; refine pA 15 43 18 65535 ?_; refine pA 16 44 18 131071 ?_; refine last_ (i := 17) (N := none) (ab 18 262143) rfl rfl (one_of HT_.out (by kernel_rfl)) (by decide) (fun K hK => ?_); have hs32 : w31.cell? ⟨gb214, 0, none⟩ = some (.int .i64 x215000_1) := (blk_cell BK214.out 0).trans rfl; have hfs32 := blk_frozen BK214.out 0; have hns32_0 := NB213_214.out; have hms32_0 := NB214_213.out; have hs33 : w31.cell? ⟨gb214, 1, none⟩ = some (.int .i64 x215001_1) := (blk_cell BK214.out 1).trans rfl; have hfs33 := blk_frozen BK214.out 1; have hns33_0 := NB213_214.out; have hms33_0 := NB214_213.out; refine sA ?_; refine hK.out _ _ ?_; clear hK K; refine done_ (done_of HT_.out (by kernel_rfl)) ?_; (try go_wp2); go_roundg k1
        case measure => have := HK1.out; omega
        case rel => exact ⟨(x6_1), (x7_1), (wrap64 (x8_1 + 1)), (ji27), (ji28), rf_, H', ⟨by have := HK1.out; omega⟩, ⟨by (with_reducible repeat (first | apply Kd.V_alloc | apply Kd.V_drewN | apply Kd.V_drew)); exact Kd.V_mono (Kd.V_far (p := ⟨gb214, 1, none⟩) (Kd.V_far (p := ⟨gb214, 0, none⟩) (Kd.V_mono HO_0.out (fun k_ hk => (⟨hk, hk.2.2.2.2⟩ : _ ∧ k_ ≠ gb214))) (fun _ hk => hk.2) (.int .i64 ji27)) (fun _ hk => hk.2) (.int .i64 ji28)) (fun _ hk => ⟨hk.1.1, ⟨hk.1.2.1, ⟨hk.1.2.2.1, ⟨hk.1.2.2.2.1, hk.1.2.2.2.2⟩⟩⟩⟩)⟩, ⟨by (with_reducible repeat (first | apply Kd.R_alloc | apply Kd.R_drewN | apply Kd.R_drew)); exact Kd.R_mono (Kd.R_far (p := ⟨gb214, 1, none⟩) (Kd.R_far (p := ⟨gb214, 0, none⟩) (Kd.R_mono HO_6.out (fun k_ hk => (⟨hk, hk.2.2.2⟩ : _ ∧ k_ ≠ gb214))) (fun _ hk => hk.2) (.int .i64 ji27)) (fun _ hk => hk.2) (.int .i64 ji28)) (fun _ hk => ⟨hk.1.1, ⟨hk.1.2.1, ⟨hk.1.2.2.1, hk.1.2.2.2⟩⟩⟩)⟩, ⟨by (with_reducible repeat (first | apply Kd.R_alloc | apply Kd.R_drewN | apply Kd.R_drew)); exact Kd.R_mono (Kd.R_far (p := ⟨gb214, 1, none⟩) (Kd.R_far (p := ⟨gb214, 0, none⟩) (Kd.R_mono HO_7.out (fun k_ hk => (⟨hk, hk.2.2.2⟩ : _ ∧ k_ ≠ gb214))) (fun _ hk => hk.2) (.int .i64 ji27)) (fun _ hk => hk.2) (.int .i64 ji28)) (fun _ hk => ⟨hk.1.1, ⟨hk.1.2.1, ⟨hk.1.2.2.1, hk.1.2.2.2⟩⟩⟩)⟩, ⟨by (with_reducible repeat (first | refine blk_drewN ?_ _ | refine blk_drew ?_ | refine blk_alloc ?_ _)); refine blk_far ?_ NB213_214.out _; (with_reducible repeat (first | refine blk_drewN ?_ _ | refine blk_drew ?_ | refine blk_alloc ?_ _)); refine blk_far ?_ NB213_214.out _; (with_reducible repeat (first | refine blk_drewN ?_ _ | refine blk_drew ?_ | refine blk_alloc ?_ _)); exact BK213.out⟩, ⟨by (with_reducible repeat (first | refine blk_drewN ?_ _ | refine blk_drew ?_ | refine blk_alloc ?_ _)); refine blk_put (cs := #[.int .i64 ji27, .int .i64 x215001_1]) ?_ 1 _ rfl; (with_reducible repeat (first | refine blk_drewN ?_ _ | refine blk_drew ?_ | refine blk_alloc ?_ _)); refine blk_put (cs := #[.int .i64 x215000_1, .int .i64 x215001_1]) ?_ 0 _ rfl; (with_reducible repeat (first | refine blk_drewN ?_ _ | refine blk_drew ?_ | refine blk_alloc ?_ _)); exact BK214.out⟩, ⟨by repeat (first | (with_reducible first | exact HB.out | apply below_alloc | apply pw_below_drewN | apply below_drew1 | refine below_set ?_ GE213.out | refine below_set ?_ GE214.out) | exact HB.out)⟩⟩
     ·rw [if_neg c17] at H
      exact absurd H (by simp)
    ·rw [if_neg c16] at H
     have c16b0 : decide (x8_1 < (l0.length : Int)) = false := decide_eq_false c16; clear c16
     by_cases c34 : x6_1.length < 8796093022208
     ·rw [if_pos c34] at H
      have LMc34 := Aside0.mk c34; clear c34; obtain ⟨y215, hy215⟩ : ∃ y_ : List (S25), y_ = (x6_1 ++ [(⟨x215000_1, x215001_1⟩ : S25)]) := ⟨_, rfl⟩; (replace H : (if y215.length + x7_1.length < 8796093022208 then (some (y215 ++ x7_1)) else (none)) = some r := by first | (rw [hy215]; with_reducible exact H) | (have H2_ := (Option.bind_some _ _).symm.trans H; rw [hy215]; with_reducible exact H2_) | (have H2_ := (Option.bind_some _ _).symm.trans H; with_reducible exact H2_) | with_reducible exact H | (rw [hy215]; exact H) | exact H); have Ny215 := Aside0.mk hy215; clear hy215
      by_cases c35 : y215.length + x7_1.length < 8796093022208
      ·rw [if_pos c35] at H
       have LMc35 := Aside0.mk c35; clear c35; obtain ⟨y218, hy218⟩ : ∃ y_ : List (S25), y_ = (y215 ++ x7_1) := ⟨_, rfl⟩; (replace H : (some y218) = some r := by first | (rw [hy218]; with_reducible exact H) | (have H2_ := (Option.bind_some _ _).symm.trans H; rw [hy218]; with_reducible exact H2_) | (have H2_ := (Option.bind_some _ _).symm.trans H; with_reducible exact H2_) | with_reducible exact H | (rw [hy218]; exact H) | exact H); have Ny218 := Aside0.mk hy218; clear hy218; obtain rfl := Option.some.inj H; have hnb36 := NB214_213.out; have hnc36 := NB213_214.out; have hcz37_0 : wr.cell? ⟨gb214, 0, none⟩ = some (.int .i64 x215000_1) := (blk_cell BK214.out 0).trans rfl; have hcz37_1 : wr.cell? ⟨gb214, 1, none⟩ = some (.int .i64 x215001_1) := (blk_cell BK214.out 1).trans rfl; have hfz37_0 := blk_frozen BK214.out 0; have hfz37_1 := blk_frozen BK214.out 1; go_wp2_with (first | ((with_reducible refine gate_builtin (b := .append) (xs := #[.tmp 79, .tmp 81]) rfl ?_); at_builtin; refine Kd.R_append k25 (w0 := w) w.heap.size rfl (.tmp 79) (.tmp 81) 23 25 (.agg #[(.int .i64 0), (.int .i64 0)]) 16 rfl Try.underlying23 info25 rfl (by decide) (by omega) u6 x6_1 (⟨x215000_1, x215001_1⟩ : S25) [.int .i64 x215000_1, .int .i64 x215001_1] (fun k_ => (w.heap.size ≤ k_) ∧ some k_ ≠ (u7 : Value).ownBlock ∧ k_ ≠ gb213 ∧ k_ ≠ gb214) (fun _ => False) rfl rfl ?aP (fun _ hk => hk.elim) ?aF ?aO ?aB ?aS ?aL ?_; (case aP => exact k25_mkM _ _ _ (⟨x215000_1, x215001_1⟩ : S25)); (case aB => exact (by repeat (first | (with_reducible first | exact HB.out | apply below_alloc | apply pw_below_drewN | apply below_drew1 | refine below_set ?_ GE213.out | refine below_set ?_ GE214.out) | exact HB.out))); (case aF => exact (fun k_ hk => ⟨(Nat.le_trans (below_size (by repeat (first | (with_reducible first | exact HB.out | apply below_alloc | apply pw_below_drewN | apply below_drew1 | refine below_set ?_ GE213.out | refine below_set ?_ GE214.out) | exact HB.out))) hk), Kd.fresh' (Kd.R_lt (by (with_reducible repeat (first | apply Kd.R_alloc | apply Kd.R_drewN | apply Kd.R_drew)); exact HO_7.out)) k_ hk, Kd.freshB (g := gb213) (o := .cells #[.int .i64 a1_0, .int .i64 a1_1] 25 (0, 0)) (by (with_reducible repeat (first | refine blk_drewN ?_ _ | refine blk_drew ?_ | refine blk_alloc ?_ _)); exact BK213.out) k_ hk, Kd.freshB (g := gb214) (o := .cells #[.int .i64 x215000_1, .int .i64 x215001_1] 25 (0, 0)) (by (with_reducible repeat (first | refine blk_drewN ?_ _ | refine blk_drew ?_ | refine blk_alloc ?_ _)); exact BK214.out) k_ hk⟩)); (case aO => exact (by (with_reducible repeat (first | apply Kd.R_alloc | apply Kd.R_drewN | apply Kd.R_drew)); exact HO_6.out)); (case aS => exact (below_size (by repeat (first | (with_reducible first | exact HB.out | apply below_alloc | apply pw_below_drewN | apply below_drew1 | refine below_set ?_ GE213.out | refine below_set ?_ GE214.out) | exact HB.out)))); (case aL => have := LMc34.out; omega); intro v216 w38 ho hb hg hat; rw [← Ny215.out] at ho; have n0_ := Aside0.mk (Kd.V_afterv (ok := (fun k_ => (P0_ k_ ∨ w.heap.size ≤ k_) ∧ some k_ ≠ (u7 : Value).ownBlock ∧ k_ ≠ gb213 ∧ k_ ≠ gb214)) (by (with_reducible repeat (first | apply Kd.V_alloc | apply Kd.V_drewN | apply Kd.V_drew)); exact Kd.V_mono HO_0.out (fun _ hk => ⟨⟨hk.1, ⟨hk.2.2.1, ⟨hk.2.2.2.1, hk.2.2.2.2⟩⟩⟩, hk.2.1⟩)) hg hat); have n1_ := Aside0.mk (Kd.R_after (ok := (fun k_ => (w.heap.size ≤ k_) ∧ k_ ≠ gb213 ∧ k_ ≠ gb214)) (by (with_reducible repeat (first | apply Kd.R_alloc | apply Kd.R_drewN | apply Kd.R_drew)); exact Kd.R_mono HO_7.out (fun _ hk => ⟨⟨hk.1, ⟨hk.2.2.1, hk.2.2.2⟩⟩, hk.2.1⟩)) hg hat); have n2_ := Aside0.mk (blk_grown (g := gb213) (o := .cells #[.int .i64 a1_0, .int .i64 a1_1] 25 (0, 0)) (by (with_reducible repeat (first | refine blk_drewN ?_ _ | refine blk_drew ?_ | refine blk_alloc ?_ _)); exact BK213.out) hg (Kd.R_away HO_6.out (fun _ hk => hk.2.2.1))); have n3_ := Aside0.mk (blk_grown (g := gb214) (o := .cells #[.int .i64 x215000_1, .int .i64 x215001_1] 25 (0, 0)) (by (with_reducible repeat (first | refine blk_drewN ?_ _ | refine blk_drew ?_ | refine blk_alloc ?_ _)); exact BK214.out) hg (Kd.R_away HO_6.out (fun _ hk => hk.2.2.2))); have n4_ := Aside0.mk (hb); have n5_ := Aside0.mk (ho); clear HO_0; clear HO_7; clear BK213; clear BK214; clear HB; clear HO_6; have HO_0 := n0_; have HO_7 := n1_; have BK213 := n2_; have BK214 := n3_; have HB := n4_; have HO217 := n5_; clear n0_ n1_ n2_ n3_ n4_ n5_; clear ho hb hg hat; obtain ⟨Ao40, co40, eo40⟩ := Kd.R_slice HO_7.out; subst eo40) | ((with_reducible refine gate_builtin (b := .append) (xs := #[.tmp 83, .tmp 84]) rfl ?_); at_builtin; refine Kd.R_append_rows k25 (w0 := w) w.heap.size rfl (.tmp 83) (.tmp 84) 23 25 (.agg #[(.int .i64 0), (.int .i64 0)]) 16 rfl Try.underlying23 info25 rfl (by decide) (by omega) v216 y215 x7_1 _ _ _ (fun k_ => (w.heap.size ≤ k_) ∧ some k_ ≠ (.slice Ao40 x7_1.length co40 : Value).ownBlock ∧ k_ ≠ gb213 ∧ k_ ≠ gb214) (fun _ => False) rfl rfl ?aO ?aR (fun _ _ h => h) (fun _ h => h.elim) ?aF ?aB ?aS ?aL ?_; (case aR => repeat (first | exact (Kd.R_reads' HO_7.out).2.2 | (with_reducible refine Kd.C_alloc ?_ _) | (with_reducible refine Kd.C_drewN ?_ _) | (with_reducible refine Kd.C_drew ?_))); (case aB => exact (by repeat (first | (with_reducible first | exact HB.out | apply below_alloc | apply pw_below_drewN | apply below_drew1 | refine below_set ?_ GE213.out | refine below_set ?_ GE214.out) | exact HB.out))); (case aF => exact (fun k_ hk => ⟨(Nat.le_trans (below_size (by repeat (first | (with_reducible first | exact HB.out | apply below_alloc | apply pw_below_drewN | apply below_drew1 | refine below_set ?_ GE213.out | refine below_set ?_ GE214.out) | exact HB.out))) hk), Kd.fresh' (Kd.R_lt (by (with_reducible repeat (first | apply Kd.R_alloc | apply Kd.R_drewN | apply Kd.R_drew)); exact HO_7.out)) k_ hk, Kd.freshB (g := gb213) (o := .cells #[.int .i64 a1_0, .int .i64 a1_1] 25 (0, 0)) (by (with_reducible repeat (first | refine blk_drewN ?_ _ | refine blk_drew ?_ | refine blk_alloc ?_ _)); exact BK213.out) k_ hk, Kd.freshB (g := gb214) (o := .cells #[.int .i64 x215000_1, .int .i64 x215001_1] 25 (0, 0)) (by (with_reducible repeat (first | refine blk_drewN ?_ _ | refine blk_drew ?_ | refine blk_alloc ?_ _)); exact BK214.out) k_ hk⟩)); (case aO => exact (by (with_reducible repeat (first | apply Kd.R_alloc | apply Kd.R_drewN | apply Kd.R_drew)); exact HO217.out)); (case aS => exact (below_size (by repeat (first | (with_reducible first | exact HB.out | apply below_alloc | apply pw_below_drewN | apply below_drew1 | refine below_set ?_ GE213.out | refine below_set ?_ GE214.out) | exact HB.out)))); (case aL => have := LMc35.out; omega); intro v219 w39 ho hb hg hat; rw [← Ny218.out] at ho; have n0_ := Aside0.mk (Kd.V_afterv (ok := (fun k_ => (P0_ k_ ∨ w.heap.size ≤ k_) ∧ some k_ ≠ (.slice Ao40 x7_1.length co40 : Value).ownBlock ∧ k_ ≠ gb213 ∧ k_ ≠ gb214)) (by (with_reducible repeat (first | apply Kd.V_alloc | apply Kd.V_drewN | apply Kd.V_drew)); exact HO_0.out) hg hat); have n1_ := Aside0.mk (Kd.R_after (ok := (fun k_ => (w.heap.size ≤ k_) ∧ k_ ≠ gb213 ∧ k_ ≠ gb214)) (by (with_reducible repeat (first | apply Kd.R_alloc | apply Kd.R_drewN | apply Kd.R_drew)); exact HO_7.out) hg hat); have n2_ := Aside0.mk (blk_grown (g := gb213) (o := .cells #[.int .i64 a1_0, .int .i64 a1_1] 25 (0, 0)) (by (with_reducible repeat (first | refine blk_drewN ?_ _ | refine blk_drew ?_ | refine blk_alloc ?_ _)); exact BK213.out) hg (Kd.R_away HO217.out (fun _ hk => hk.2.2.1))); have n3_ := Aside0.mk (blk_grown (g := gb214) (o := .cells #[.int .i64 x215000_1, .int .i64 x215001_1] 25 (0, 0)) (by (with_reducible repeat (first | refine blk_drewN ?_ _ | refine blk_drew ?_ | refine blk_alloc ?_ _)); exact BK214.out) hg (Kd.R_away HO217.out (fun _ hk => hk.2.2.2))); have n4_ := Aside0.mk (hb); have n5_ := Aside0.mk (ho); clear HO_0; clear HO_7; clear BK213; clear BK214; clear HB; clear HO217; have HO_0 := n0_; have HO_7 := n1_; have BK213 := n2_; have BK214 := n3_; have HB := n4_; have HO220 := n5_; clear n0_ n1_ n2_ n3_ n4_ n5_; clear ho hb hg hat))
       go_ret; exact ⟨_, by first | rfl | (simp [errW_none, errW_some] <;> rfl) | (simp only [← hji3, ← hji4]; first | rfl | (simp [errW_none, errW_some] <;> rfl)) | (simp [*, errW_none, errW_some] <;> rfl), Kd.V_mono (Kd.R_V (by (with_reducible repeat (first | apply Kd.R_alloc | apply Kd.R_drewN | apply Kd.R_drew)); exact Kd.R_mono HO220.out (fun _ hk => hk.1))) (fun k_ hk => by first | exact ⟨(.inr (hk.1)), hk.2⟩ | exact (.inr (hk))), by repeat (first | (with_reducible first | exact HB.out | apply below_alloc | apply pw_below_drewN | apply below_drew1 | refine below_set ?_ GE213.out | refine below_set ?_ GE214.out) | exact HB.out)⟩
      ·rw [if_neg c35] at H
       exact absurd H (by simp)
     ·rw [if_neg c34] at H
      exact absurd H (by simp)
end Go.Proofs.Ytkbcmjejfbbcpaa.A
