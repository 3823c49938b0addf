/- Walks of functions, and plain facts about what they compute. No conditions. -/
import Derived.Test.YtfehdlkklfcnpaaZs2
import Derived.Deep.Slices
import Derived.SizedLaws
import Derived.ChangeArms
import Derived.Test.YtfehdlkklfcnpaaRows
import Derived.ChangeSame
set_option linter.unusedVariables false
set_option linter.unusedSimpArgs false
namespace Go.Proofs.Ytfehdlkklfcnpaa.Rd
open Go.RowKit Go.Deep Go.Proofs.YtfehdlkklfcnpaaW.PrintWords
def RdF {α : Type} (P : Program) (t : TypeId) (d : Kd α) (wf : α → Prop) (f : Nat) : Prop :=
  ∀ {H : Type} (enc : TypeId × Value → H) (W : World) (cs : List Value) (x : DataW H × List MemPlace),
    DataW.trod enc P W 0 (fun _ => true) true f t cs = some x → (x.1.weights P t).all (· ≤ reachBytes) = true → ∃ a, d.K W a cs ∧ wf a
def Rd {α : Type} (P : Program) (t : TypeId) (d : Kd α) (wf : α → Prop) : Prop := ∀ f, RdF P t d wf f
section
variable {P : Program} {t e : TypeId} {α : Type} {d : Kd α} {wf : α → Prop}
theorem Rd.int {k : IntKind} (ht : P.underlying t = some (.int k)) : Rd P t (Kd.int k) (fun a => (Lit.int k a).wf = true) := by
  intro f H enc W cs x h _
  obtain ⟨n, rfl, _, hw⟩ := DataW.trod_int ht h
  exact ⟨n, rfl, hw⟩
theorem Rd.bool (ht : P.underlying t = some .bool) : Rd P t Kd.bool (fun _ => True) := by
  intro f H enc W cs x h _
  obtain ⟨b, rfl, _⟩ := DataW.trod_bool ht h
  exact ⟨b, rfl, trivial⟩
theorem Rd.string (ht : P.underlying t = some .string) : Rd P t Kd.string (fun s => s.size ≤ 140737488351232) := by
  intro f H enc W cs x h hw
  obtain ⟨s, rfl, rfl, _⟩ := DataW.trod_string ht h
  refine ⟨s, rfl, ?_⟩
  have h1 := of_decide_eq_true (List.all_eq_true.1 hw s.data.toList.length (by simp [DataW.weights]))
  rw [Array.length_toList] at h1
  exact h1
theorem all_weights {H : Type} {l : List (DataW H)} (h : (DataW.weightsAll P e l).all (· ≤ reachBytes) = true) : ∀ x, x ∈ l → (x.weights P e).all (· ≤ reachBytes) = true := by
  induction l with
  | nil => intro x hx; simp at hx
  | cons y l ih =>
    simp only [DataW.weightsAll, List.all_append, Bool.and_eq_true] at h
    intro x hx
    rcases List.mem_cons.1 hx with rfl | hx
    · exact h.1
    · exact ih h.2 x hx
theorem list_of {β : Type} (Q : Nat → β → Prop) : ∀ (n : Nat), (∀ i, i < n → ∃ b, Q i b) → ∃ l : List β, l.length = n ∧ ∀ i b, l[i]? = some b → Q i b
  | 0, _ => ⟨[], rfl, fun i b h => by simp at h⟩
  | n + 1, h => by
    obtain ⟨l, hl, hq⟩ := list_of Q n (fun i hi => h i (by omega))
    obtain ⟨b, hb⟩ := h n (by omega)
    refine ⟨l ++ [b], by simp [hl], fun i c hc => ?_⟩
    rcases Nat.lt_or_ge i l.length with hi | hi
    · rw [List.getElem?_append_left hi] at hc
      exact hq i c hc
    · have hlt := (List.getElem?_eq_some_iff.1 hc).1
      rw [List.length_append, List.length_singleton] at hlt
      have : i = n := by omega
      subst this
      rw [List.getElem?_append_right hi, hl, Nat.sub_self] at hc
      simp at hc
      subst hc
      exact hb
theorem RdF.slice (ht : P.underlying t = some (.slice e)) (hc : P.cellsOf e = d.sz) {f : Nat} (hd : ∀ g, g < f → RdF P e d wf g) : RdF P t (Kd.slice e d) (fun l => l.length * P.bytesOf e ≤ 140737488351232 ∧ ∀ x, x ∈ l → wf x) f := by
  intro H enc W cs x h hw
  rcases DataW.trod_slice ht h with ⟨rfl, rfl⟩ | ⟨a, len, cap, elems, rest, n, rfl, rfl, rfl, _, hlc, hm, hlen, hel, _, _⟩
  · exact ⟨[], ⟨none, 0, rfl, Nat.le_refl _, rfl, by simp, fun h => absurd h (by simp)⟩, by simp, fun x h => by simp at h⟩
  simp only [DataW.weights, ht, List.all_cons, List.all_append, Bool.and_eq_true, decide_eq_true_eq] at hw
  obtain ⟨hb, hw1, _⟩ := hw
  rw [List.length_map, List.length_map] at hb
  obtain ⟨l, hl, hq⟩ := list_of (fun i b => ∃ c, c.length = d.sz ∧ d.K W b c ∧ wf b ∧ ∀ j u, c[j]? = some u → W.cell? (a.add (i * d.sz + j)) = some u) len fun i hi => by
    have hi' : i < elems.length := by omega
    have h1 := hel i hi
    rw [List.getElem?_eq_getElem hi'] at h1
    obtain ⟨c, hc1, hc2⟩ := Option.bind_eq_some_iff.1 h1
    obtain ⟨_, hcl, hcell⟩ := World.cells?_some hc1
    obtain ⟨b, hk, hwf⟩ := hd n (Nat.lt_succ_self n) enc W c _ hc2 (all_weights hw1 _ (List.mem_map.2 ⟨_, List.getElem_mem hi', rfl⟩))
    refine ⟨b, c, by rw [hcl, hc], hk, hwf, fun j u hj => ?_⟩
    have hjl := (List.getElem?_eq_some_iff.1 hj).1
    have h2 := hcell j (by omega)
    rw [hj, hc] at h2
    rw [← h2]
    congr 1
    exact (Deep.add_add _ _ _).symm
  refine ⟨l, ⟨some a, cap, by rw [hl], by rw [hl]; exact hlc, hl ▸ rfl, by unfold maxLen at hm; omega, fun _ => ⟨a, rfl, fun j p hj => ?_⟩⟩, ?_, fun x hx => ?_⟩
  · obtain ⟨c, h1, h2, _, h4⟩ := hq j p hj
    exact ⟨c, h1, h2, h4⟩
  · have : l.length * P.bytesOf e ≤ (elems.length + rest.length) * P.bytesOf e := Nat.mul_le_mul_right _ (by omega)
    unfold reachBytes at hb
    omega
  · obtain ⟨i, hi⟩ := List.getElem?_of_mem hx
    obtain ⟨c, _, _, h3, _⟩ := hq i x hi
    exact h3
theorem Rd.slice (ht : P.underlying t = some (.slice e)) (hc : P.cellsOf e = d.sz) (hd : Rd P e d wf) : Rd P t (Kd.slice e d) (fun l => l.length * P.bytesOf e ≤ 140737488351232 ∧ ∀ x, x ∈ l → wf x) :=
  fun f => RdF.slice ht hc (fun g _ => hd g)
end
end Go.Proofs.Ytfehdlkklfcnpaa.Rd
namespace Go.Proofs.Ytfehdlkklfcnpaa.Rd
open Go.RowKit Go.Deep Go.Proofs.YtfehdlkklfcnpaaW.PrintWords Go.Proofs.Ytfehdlkklfcnpaa.A
def wfI (n : Int) : Prop := -9223372036854775808 ≤ n ∧ n ≤ 9223372036854775807
theorem wfI_of {n : Int} (h : (Lit.int .i64 n).wf = true) : wfI n := by
  have h1 := of_decide_eq_true (p := _ ∧ _) (by simpa [Lit.wf, IntKind.signed, IntKind.bits, Bool.and_eq_true, decide_eq_true_eq] using h)
  exact h1
theorem len4 {α : Type} {l : List α} (h : l.length = 4) : ∃ a b c d, l = [a, b, c, d] := by
  match l, h with
  | [a, b, c, d], _ => exact ⟨a, b, c, d, rfl⟩
theorem len5 {α : Type} {l : List α} (h : l.length = 5) : ∃ a b c d e, l = [a, b, c, d, e] := by
  match l, h with
  | [a, b, c, d, e], _ => exact ⟨a, b, c, d, e, rfl⟩
theorem len8 {α : Type} {l : List α} (h : l.length = 8) : ∃ a b c d e f g i, l = [a, b, c, d, e, f, g, i] := by
  match l, h with
  | [a, b, c, d, e, f, g, i], _ => exact ⟨a, b, c, d, e, f, g, i, rfl⟩
theorem pt_read (f : Nat) {H : Type} (enc : TypeId × Value → H) (W : World) (cs : List Value) (x : DataW H × List MemPlace)
    (h : DataW.trod enc Try.prog W 0 (fun _ => true) true f 23 cs = some x) (hw : (x.1.weights Try.prog 23).all (· ≤ reachBytes) = true) :
    ∃ p : S23, cs = [.int .i64 p.f0, .string p.f1, .string p.f2, .string p.f3] ∧ wfI p.f0 ∧ p.f1.size ≤ 140737488351232 ∧ p.f2.size ≤ 140737488351232 ∧ p.f3.size ≤ 140737488351232 := by
  obtain ⟨xs, m, rfl, rfl, hl, hlen, hf⟩ := DataW.trod_struct Try.underlying23 h
  have e1 : Try.prog.cellsOf 23 = 4 := by kernel_rfl
  have e2 : Try.prog.cellsOf 3 = 1 := by kernel_rfl
  have e3 : Try.prog.cellsOf 9 = 1 := by kernel_rfl
  rw [e1] at hl
  have hlen : xs.length = 4 := hlen
  obtain ⟨y0, y1, y2, y3, rfl⟩ := len4 hlen
  obtain ⟨c0, c1, c2, c3, rfl⟩ := len4 hl
  · skip
    have h0 : DataW.trod enc Try.prog W 0 (fun _ => true) true m 3 (([c0, c1, c2, c3].drop 0).take (Try.prog.cellsOf 3)) = some y0 := hf 0 _ rfl
    have h1 : DataW.trod enc Try.prog W 0 (fun _ => true) true m 9 (([c0, c1, c2, c3].drop 1).take (Try.prog.cellsOf 9)) = some y1 := hf 1 _ rfl
    have h2 : DataW.trod enc Try.prog W 0 (fun _ => true) true m 9 (([c0, c1, c2, c3].drop 2).take (Try.prog.cellsOf 9)) = some y2 := hf 2 _ rfl
    have h3 : DataW.trod enc Try.prog W 0 (fun _ => true) true m 9 (([c0, c1, c2, c3].drop 3).take (Try.prog.cellsOf 9)) = some y3 := hf 3 _ rfl
    rw [e2] at h0
    rw [e3] at h1 h2 h3
    simp only [DataW.weights, Try.underlying23, List.map_cons, List.map_nil, DataW.weightsEach, List.all_append, Bool.and_eq_true] at hw
    obtain ⟨_, w1, w2, w3, _⟩ := hw
    obtain ⟨a, ha, _, wa⟩ := DataW.trod_int Try.underlying3 h0
    obtain ⟨s1, hs1, z1⟩ := Rd.string Try.underlying9 m enc W _ _ h1 w1
    obtain ⟨s2, hs2, z2⟩ := Rd.string Try.underlying9 m enc W _ _ h2 w2
    obtain ⟨s3, hs3, z3⟩ := Rd.string Try.underlying9 m enc W _ _ h3 w3
    replace ha : [c0] = [.int .i64 a] := ha
    replace hs1 : [c1] = [.string s1] := hs1
    replace hs2 : [c2] = [.string s2] := hs2
    replace hs3 : [c3] = [.string s3] := hs3
    simp only [List.cons.injEq, and_true] at ha hs1 hs2 hs3
    subst ha hs1 hs2 hs3
    exact ⟨⟨a, s1, s2, s3⟩, rfl, wfI_of wa, z1, z2, z3⟩
theorem ndL_le {H : Type} : ∀ (l : List S26) (ds : List (DataW H)), l.length = ds.length → (∀ (i : Nat) (b : S26), l[i]? = some b → ∃ d, ds[i]? = some d ∧ nd b ≤ Rows.uptoBulk d) → ndL l ≤ Rows.uptoBulkAll ds
  | [], [], _, _ => by rw [ndL]; exact Nat.zero_le _
  | b :: l, d :: ds, e, h => by
    obtain ⟨d', h1, h2⟩ := h 0 b rfl
    obtain rfl : d = d' := by simpa using h1
    have := ndL_le l ds (by simpa using e) (fun (i : Nat) (b : S26) hb => by have := h (i + 1) b (by simpa using hb); simpa using this)
    rw [ndL, Rows.uptoBulkAll]
    omega
  | [], _ :: _, e, _ => by simp at e
  | _ :: _, [], e, _ => by simp at e
theorem node_read : ∀ (f : Nat) {H : Type} (enc : TypeId × Value → H) (W : World) (cs : List Value) (x : DataW H × List MemPlace),
    DataW.trod enc Try.prog W 0 (fun _ => true) true f 26 cs = some x → (x.1.weights Try.prog 26).all (· ≤ reachBytes) = true → ∃ n : S26, k26.K W n cs ∧ wfN n ∧ wfI n.f0 ∧ nd n ≤ Rows.uptoBulk x.1 := by
  intro f
  induction f using Nat.strongRecOn with
  | _ f ih =>
  intro H enc W cs x h hw
  obtain ⟨xs, m, rfl, rfl, hl, hlen, hf⟩ := DataW.trod_struct Try.underlying26 h
  have e1 : Try.prog.cellsOf 26 = 8 := by kernel_rfl
  have e2 : Try.prog.cellsOf 3 = 1 := by kernel_rfl
  have e3 : Try.prog.cellsOf 23 = 4 := by kernel_rfl
  have e4 : Try.prog.cellsOf 4 = 1 := by kernel_rfl
  have e5 : Try.prog.cellsOf 24 = 1 := by kernel_rfl
  rw [e1] at hl
  have hlen : xs.length = 5 := hlen
  obtain ⟨y0, y1, y2, y3, y4, rfl⟩ := len5 hlen
  obtain ⟨c0, c1, c2, c3, c4, c5, c6, c7, rfl⟩ := len8 hl
  · skip
    have h0 : DataW.trod enc Try.prog W 0 (fun _ => true) true m 3 (([c0, c1, c2, c3, c4, c5, c6, c7].drop 0).take (Try.prog.cellsOf 3)) = some y0 := hf 0 _ rfl
    have h1 : DataW.trod enc Try.prog W 0 (fun _ => true) true m 23 (([c0, c1, c2, c3, c4, c5, c6, c7].drop 1).take (Try.prog.cellsOf 23)) = some y1 := hf 1 _ rfl
    have h2 : DataW.trod enc Try.prog W 0 (fun _ => true) true m 4 (([c0, c1, c2, c3, c4, c5, c6, c7].drop 5).take (Try.prog.cellsOf 4)) = some y2 := hf 2 _ rfl
    have h3 : DataW.trod enc Try.prog W 0 (fun _ => true) true m 4 (([c0, c1, c2, c3, c4, c5, c6, c7].drop 6).take (Try.prog.cellsOf 4)) = some y3 := hf 3 _ rfl
    have h4 : DataW.trod enc Try.prog W 0 (fun _ => true) true m 24 (([c0, c1, c2, c3, c4, c5, c6, c7].drop 7).take (Try.prog.cellsOf 24)) = some y4 := hf 4 _ rfl
    rw [e2] at h0
    rw [e3] at h1
    rw [e4] at h2 h3
    rw [e5] at h4
    simp only [DataW.weights, Try.underlying26, List.map_cons, List.map_nil, DataW.weightsEach, List.all_append, Bool.and_eq_true] at hw
    obtain ⟨_, w1, _, _, w4, _⟩ := hw
    obtain ⟨a, ha, _, wa⟩ := DataW.trod_int Try.underlying3 h0
    obtain ⟨p, hp, wp, z1, z2, z3⟩ := pt_read m enc W _ _ h1 w1
    obtain ⟨b2, hb2, _⟩ := DataW.trod_bool Try.underlying4 h2
    obtain ⟨b3, hb3, _⟩ := DataW.trod_bool Try.underlying4 h3
    replace ha : [c0] = [.int .i64 a] := ha
    replace hp : [c1, c2, c3, c4] = [.int .i64 p.f0, .string p.f1, .string p.f2, .string p.f3] := hp
    replace hb2 : [c5] = [.bool b2] := hb2
    replace hb3 : [c6] = [.bool b3] := hb3
    replace h4 : DataW.trod enc Try.prog W 0 (fun _ => true) true m 24 [c7] = some y4 := h4
    simp only [List.cons.injEq, and_true] at ha hp hb2 hb3
    obtain ⟨rfl, rfl, rfl, rfl⟩ := hp
    subst ha hb2 hb3
    have hL : ∃ l : List S26, (Kd.slice 26 k26).K W l [c7] ∧ l.length ≤ 1466015503711 ∧ (∀ x, x ∈ l → wfN x) ∧ ndL l + 1 ≤ Rows.uptoBulk y4.1 := by
      rcases DataW.trod_slice Try.underlying24 h4 with ⟨e, rfl⟩ | ⟨ad, len, cap, elems, rest, g, rfl, e, rfl, _, hlc, hm, hle, hel, _, _⟩
      · simp only [List.cons.injEq, and_true] at e
        subst e
        exact ⟨[], ⟨none, 0, rfl, Nat.le_refl _, rfl, by simp, fun h => absurd h (by simp)⟩, by simp, fun x h => (by cases h), by rw [ndL, Rows.uptoBulk]; omega⟩
      · simp only [List.cons.injEq, and_true] at e
        subst e
        simp only [DataW.weights, Try.underlying24, List.all_cons, List.all_append, Bool.and_eq_true, decide_eq_true_eq] at w4
        obtain ⟨hb, hw1, _⟩ := w4
        rw [List.length_map, List.length_map] at hb
        have eb : Try.prog.bytesOf 26 = 96 := by kernel_rfl
        rw [eb] at hb
        obtain ⟨l, hl, hq⟩ := list_of (fun i b => ∃ c, c.length = k26.sz ∧ k26.K W b c ∧ wfN b ∧ (∃ d, (elems.map (·.1))[i]? = some d ∧ nd b ≤ Rows.uptoBulk d) ∧ ∀ j u, c[j]? = some u → W.cell? (ad.add (i * k26.sz + j)) = some u) len fun i hi => by
          have hi' : i < elems.length := by omega
          have h1 := hel i hi
          rw [List.getElem?_eq_getElem hi'] at h1
          obtain ⟨c, hc1, hc2⟩ := Option.bind_eq_some_iff.1 h1
          obtain ⟨_, hcl, hcell⟩ := World.cells?_some hc1
          obtain ⟨b, hk, hwf, _, hbk⟩ := ih g (by omega) enc W c _ hc2 (all_weights hw1 _ (List.mem_map.2 ⟨_, List.getElem_mem hi', rfl⟩))
          have esz : k26.sz = 8 := rfl
          refine ⟨b, c, by rw [hcl, e1, esz], hk, hwf, ⟨_, by rw [List.getElem?_map, List.getElem?_eq_getElem hi']; rfl, hbk⟩, fun j u hj => ?_⟩
          have hjl := (List.getElem?_eq_some_iff.1 hj).1
          have h2 := hcell j (by omega)
          rw [hj, e1] at h2
          rw [← h2, esz]
          exact congrArg W.cell? (Deep.add_add _ _ _).symm
        refine ⟨l, ⟨some ad, cap, by rw [hl], by rw [hl]; exact hlc, hl ▸ rfl, by unfold maxLen at hm; omega, fun _ => ⟨ad, rfl, fun j p hj => ?_⟩⟩, by unfold reachBytes at hb; omega, fun x hx => ?_, ?_⟩
        · obtain ⟨c, h1, h2, _, _, h4⟩ := hq j p hj
          exact ⟨c, h1, h2, h4⟩
        · obtain ⟨i, hi⟩ := List.getElem?_of_mem hx
          obtain ⟨c, _, _, h3, _, _⟩ := hq i x hi
          exact h3
        · have := ndL_le l (elems.map (·.1)) (by rw [List.length_map]; omega) (fun i b hb => by obtain ⟨c, _, _, _, h5, _⟩ := hq i b hb; exact h5)
          clear hb hm hw1 hlc
          rw [Rows.uptoBulk]
          omega
    obtain ⟨l, ⟨A, c, e, hlc, hC⟩, hlen, hwl, hbl⟩ := hL
    simp only [List.cons.injEq, and_true] at e
    subst e
    refine ⟨⟨a, p, b2, b3, l⟩, k26_mk W ⟨a, p, b2, b3, l⟩ hlc hC, .mk _ z1 z2 z3 hlen hwl, wfI_of wa, ?_⟩
    rw [nd_eq]
    simp only [List.map_cons, List.map_nil, Rows.uptoBulk, Rows.uptoBulkAll]
    omega
theorem nodes_read (f : Nat) {H : Type} (enc : TypeId × Value → H) (W : World) (v : Value) (x : DataW H × List MemPlace)
    (h : DataW.trod enc Try.prog W 0 (fun _ => true) true f 24 [v] = some x) (hw : (x.1.weights Try.prog 24).all (· ≤ reachBytes) = true) :
    ∃ l : List S26, (Kd.slice 26 k26).K W l [v] ∧ l.length ≤ 1466015503711 ∧ (∀ x, x ∈ l → wfN x) ∧ ndL l + 1 ≤ Rows.uptoBulk x.1 := by
  have e1 : Try.prog.cellsOf 26 = 8 := by kernel_rfl
  rcases DataW.trod_slice Try.underlying24 h with ⟨e, rfl⟩ | ⟨ad, len, cap, elems, rest, g, rfl, e, rfl, _, hlc, hm, hle, hel, _, _⟩
  · simp only [List.cons.injEq, and_true] at e
    subst e
    exact ⟨[], ⟨none, 0, rfl, Nat.le_refl _, rfl, by simp, fun h => absurd h (by simp)⟩, by simp, fun x h => (by cases h), by rw [ndL, Rows.uptoBulk]; omega⟩
  · simp only [List.cons.injEq, and_true] at e
    subst e
    simp only [DataW.weights, Try.underlying24, List.all_cons, List.all_append, Bool.and_eq_true, decide_eq_true_eq] at hw
    obtain ⟨hb, hw1, _⟩ := hw
    rw [List.length_map, List.length_map] at hb
    have eb : Try.prog.bytesOf 26 = 96 := by kernel_rfl
    rw [eb] at hb
    obtain ⟨l, hl, hq⟩ := list_of (fun i b => ∃ c, c.length = k26.sz ∧ k26.K W b c ∧ wfN b ∧ (∃ d, (elems.map (·.1))[i]? = some d ∧ nd b ≤ Rows.uptoBulk d) ∧ ∀ j u, c[j]? = some u → W.cell? (ad.add (i * k26.sz + j)) = some u) len fun i hi => by
      have hi' : i < elems.length := by omega
      have h1 := hel i hi
      rw [List.getElem?_eq_getElem hi'] at h1
      obtain ⟨c, hc1, hc2⟩ := Option.bind_eq_some_iff.1 h1
      obtain ⟨_, hcl, hcell⟩ := World.cells?_some hc1
      obtain ⟨b, hk, hwf, _, hbk⟩ := node_read g enc W c _ hc2 (all_weights hw1 _ (List.mem_map.2 ⟨_, List.getElem_mem hi', rfl⟩))
      have esz : k26.sz = 8 := rfl
      refine ⟨b, c, by rw [hcl, e1, esz], hk, hwf, ⟨_, by rw [List.getElem?_map, List.getElem?_eq_getElem hi']; rfl, hbk⟩, fun j u hj => ?_⟩
      have hjl := (List.getElem?_eq_some_iff.1 hj).1
      have h2 := hcell j (by omega)
      rw [hj, e1] at h2
      rw [← h2, esz]
      exact congrArg W.cell? (Deep.add_add _ _ _).symm
    refine ⟨l, ⟨some ad, cap, by rw [hl], by rw [hl]; exact hlc, hl ▸ rfl, by unfold maxLen at hm; omega, fun _ => ⟨ad, rfl, fun j p hj => ?_⟩⟩, by unfold reachBytes at hb; omega, fun x hx => ?_, ?_⟩
    · obtain ⟨c, h1, h2, _, _, h4⟩ := hq j p hj
      exact ⟨c, h1, h2, h4⟩
    · obtain ⟨i, hi⟩ := List.getElem?_of_mem hx
      obtain ⟨c, _, _, h3, _, _⟩ := hq i x hi
      exact h3
    · have := ndL_le l (elems.map (·.1)) (by rw [List.length_map]; omega) (fun i b hb => by obtain ⟨c, _, _, _, h5, _⟩ := hq i b hb; exact h5)
      clear hb hm hw1 hlc
      rw [Rows.uptoBulk]
      omega
theorem nodes_arg {H : Type} {enc : TypeId × Value → H} {W : World} {ts : List TypeId} {ds : List (DataW H)} {j : Nat} {A : Option Addr} {len c : Nat} {x : DataW H} {ps : List MemPlace} (hsz : (DataW.weightsEach Try.prog ts ds).all (· ≤ reachBytes) = true) (ht : ts[j]? = some 24) (hd : ds[j]? = some x)
    (h : DataW.Trod enc Try.prog W 0 (fun _ => true) true 24 (.slice A len c) x ps) :
    ∃ l : List S26, len = l.length ∧ l.length ≤ c ∧ Kd.C k26 W A l.length l ∧ l.length ≤ 1466015503711 ∧ (∀ y, y ∈ l → wfN y) ∧ ndL l + 1 ≤ Rows.uptoBulk x := by
  obtain ⟨f, hf⟩ := h
  obtain ⟨l, ⟨A', c', e, hl, hC⟩, h1, h2, h3⟩ := nodes_read f enc W (.slice A len c) _ hf (by
    rw [List.all_eq_true] at hsz ⊢
    exact fun n hn => hsz n (DataW.weights_mem_each ht hd n hn))
  simp only [List.cons.injEq, and_true, Value.slice.injEq] at e
  obtain ⟨rfl, rfl, rfl⟩ := e
  exact ⟨l, rfl, hl, hC, h1, h2, h3⟩
end Go.Proofs.Ytfehdlkklfcnpaa.Rd
namespace Go.Proofs.Ytfehdlkklfcnpaa.A
open Go.RowKit Go.Proofs.YtfehdlkklfcnpaaW.PrintWords Go.Proofs.YtfehdlkklfcnpaaW.PrintLast Go.Proofs.YtfehdlkklfcnpaaW.PrintMore
attribute [local go_sem] max2_int min2_int max_two min_two max_three min_three max_four min_four
def lustrumlaw12_parts.f (a0_0 : Int) (a0_1 : Int) (a0_2 : ByteArray) (a0_3 : ByteArray) (a0_4 : ByteArray) (a0_5 : Bool) (a0_6 : Bool) (l0_7 : List (S26)) : Option ((List (S26))) := if a0_0 = 2 then (some l0_7) else (some (([(⟨a0_0, (⟨a0_1, a0_2, a0_3, a0_4⟩ : S23), a0_5, a0_6, l0_7⟩ : S26)] : List (S26))))
mutual
def lustrumlaw12_within.l0 : Nat → List (S26) → List (S26) → Int → Option (Bool)
  | 0, _, _, _ => none
  | k + 1, x0, x1, x5 => if x5 < (x0.length : Int) then (lustrumlaw12_within.l1 k x0 x1 x5 false 0) else (some true)
def lustrumlaw12_within.l1 : Nat → List (S26) → List (S26) → Int → Bool → Int → Option (Bool)
  | 0, _, _, _, _, _ => none
  | k + 1, x0, x1, x5, x6, x7 => if x7 < (x1.length : Int) then (if x6 = true then (lustrumlaw12_within.l1 k x0 x1 x5 true (wrap64 (x7 + 1))) else (if 0 ≤ x5 then (if x5 < (x0.length : Int) then (if 0 ≤ x7 then ((tree_Same.f k ((rd_T26 x0 x5).f0) ((rd_T26 x0 x5).f1.f0) ((rd_T26 x0 x5).f1.f1) ((rd_T26 x0 x5).f1.f2) ((rd_T26 x0 x5).f1.f3) ((rd_T26 x0 x5).f2) ((rd_T26 x0 x5).f3) ((rd_T26 x0 x5).f4) ((rd_T26 x1 x7).f0) ((rd_T26 x1 x7).f1.f0) ((rd_T26 x1 x7).f1.f1) ((rd_T26 x1 x7).f1.f2) ((rd_T26 x1 x7).f1.f3) ((rd_T26 x1 x7).f2) ((rd_T26 x1 x7).f3) ((rd_T26 x1 x7).f4)).bind fun t642 => (lustrumlaw12_within.l1 k x0 x1 x5 t642 (wrap64 (x7 + 1)))) else (none)) else (none)) else (none))) else (if x6 = true then (lustrumlaw12_within.l0 k x0 x1 (wrap64 (x5 + 1))) else (some false))
end
def lustrumlaw12_within.f (k : Nat) (l0 : List (S26)) (l1 : List (S26)) : Option (Bool) := lustrumlaw12_within.l0 k l0 l1 0
mutual
noncomputable def lustrumlaw12_CanonParts.j0 : Nat → List (S26) → Bool → Bool → Int → Int → ByteArray → ByteArray → ByteArray → Bool → Bool → List (S26) → Option (Bool)
  | 0, _, _, _, _, _, _, _, _, _, _, _ => none
  | k + 1, x0, x3, x23, x655000, x655001, x655002, x655003, x655004, x655005, x655006, x655007 => if x23 = true then (some x3) else ((canon_Canon.f k x655000 x655001 x655002 x655003 x655004 x655005 x655006 x655007).bind fun bt657 => ((lustrumlaw12_parts.f bt657.1 bt657.2.1 bt657.2.2.1 bt657.2.2.2.1 bt657.2.2.2.2.1 bt657.2.2.2.2.2.1 bt657.2.2.2.2.2.2.1 bt657.2.2.2.2.2.2.2).bind fun t667 => (lustrumlaw12_CanonParts.l0 k x0 x3 t667 ([] : List (S26)) 0)))
noncomputable def lustrumlaw12_CanonParts.l0 : Nat → List (S26) → Bool → List (S26) → List (S26) → Int → Option (Bool)
  | 0, _, _, _, _, _ => none
  | k + 1, x0, x3, x5, x6, x7 => if x7 < (x0.length : Int) then (if 0 ≤ x7 then ((canon_Canon.f k ((rd_T26 x0 x7).f0) ((rd_T26 x0 x7).f1.f0) ((rd_T26 x0 x7).f1.f1) ((rd_T26 x0 x7).f1.f2) ((rd_T26 x0 x7).f1.f3) ((rd_T26 x0 x7).f2) ((rd_T26 x0 x7).f3) ((rd_T26 x0 x7).f4)).bind fun bt671 => ((lustrumlaw12_parts.f bt671.1 bt671.2.1 bt671.2.2.1 bt671.2.2.2.1 bt671.2.2.2.2.1 bt671.2.2.2.2.2.1 bt671.2.2.2.2.2.2.1 bt671.2.2.2.2.2.2.2).bind fun t681 => (if x6.length + t681.length < 1466015503701 then (lustrumlaw12_CanonParts.l0 k x0 x3 x5 (x6 ++ t681) (wrap64 (x7 + 1))) else (none)))) else (none)) else (if x3 = true then ((lustrumlaw12_within.f k x5 x6).bind fun t687 => (if t687 = true then ((lustrumlaw12_within.f k x6 x5).bind fun t688 => (some t688)) else (some false))) else (some false))
end
noncomputable def lustrumlaw12_CanonParts.f (k : Nat) (l0 : List (S26)) : Option (Bool) := (lustrumlaw12_awake.f k).bind fun t643 => ((tree_OneOf.f l0).bind fun bt644 => (if (l0.length : Int) > 20 then (lustrumlaw12_CanonParts.j0 k l0 t643 true bt644.1 bt644.2.1 bt644.2.2.1 bt644.2.2.2.1 bt644.2.2.2.2.1 bt644.2.2.2.2.2.1 bt644.2.2.2.2.2.2.1 bt644.2.2.2.2.2.2.2) else ((lustrumref10_Few.f k bt644.1 bt644.2.1 bt644.2.2.1 bt644.2.2.2.1 bt644.2.2.2.2.1 bt644.2.2.2.2.2.1 bt644.2.2.2.2.2.2.1 bt644.2.2.2.2.2.2.2).bind fun t655 => (if t655 = true then ((tree_Sane.f k bt644.1 bt644.2.1 bt644.2.2.1 bt644.2.2.2.1 bt644.2.2.2.2.1 bt644.2.2.2.2.2.1 bt644.2.2.2.2.2.2.1 bt644.2.2.2.2.2.2.2).bind fun t656 => (lustrumlaw12_CanonParts.j0 k l0 t643 (!t656) bt644.1 bt644.2.1 bt644.2.2.1 bt644.2.2.2.1 bt644.2.2.2.2.1 bt644.2.2.2.2.2.1 bt644.2.2.2.2.2.2.1 bt644.2.2.2.2.2.2.2)) else (lustrumlaw12_CanonParts.j0 k l0 t643 true bt644.1 bt644.2.1 bt644.2.2.1 bt644.2.2.2.1 bt644.2.2.2.2.1 bt644.2.2.2.2.2.1 bt644.2.2.2.2.2.2.1 bt644.2.2.2.2.2.2.2)))))
end Go.Proofs.Ytfehdlkklfcnpaa.A
namespace Go.Proofs.Ytfehdlkklfcnpaa.A
open Go.RowKit Go.Proofs.YtfehdlkklfcnpaaW.PrintWords Go.Proofs.YtfehdlkklfcnpaaW.PrintLast Go.Proofs.YtfehdlkklfcnpaaW.PrintMore
attribute [local go_sem] max2_int min2_int max_two min_two max_three min_three max_four min_four
attribute [local go_sem] isSome_setCell
set_option maxHeartbeats 8000000 in
set_option maxRecDepth 100000 in
theorem lustrumref10_Count.calls (k : Nat) : ∀ (a0_0 a0_1 : Int) (a0_2 a0_3 a0_4 : ByteArray) (a0_5 a0_6 : Bool) (A0_7 : Option Addr) (c0_7 : Nat) (l0_7 : List (S26)) (r : Int) (w : World) (hr0_7 : Kd.C k26 w A0_7 l0_7.length l0_7) (hc0_7 : l0_7.length ≤ c0_7) (h : lustrumref10_Count.f k a0_0 a0_1 a0_2 a0_3 a0_4 a0_5 a0_6 l0_7 = some r),
  Calls Try.prog 23 #[.agg #[.int .i64 a0_0, .int .i64 a0_1, .string a0_2, .string a0_3, .string a0_4, .bool a0_5, .bool a0_6, .slice A0_7 l0_7.length c0_7]] w fun e w' => e = .returned (.int .i64 r) ∧ Below w.heap.size w w' := by
 induction k using Nat.strongRecOn with
 | _ k ih =>
 intro a0_0 a0_1 a0_2 a0_3 a0_4 a0_5 a0_6 A0_7 c0_7 l0_7 r w hr0_7 hc0_7 h
 cases k with
 | zero => exact absurd h (by simp [lustrumref10_Count.f])
 | succ k =>
 simp only [lustrumref10_Count.f] at h; have hu26 := Try.underlying26; have HR0_7 := A_ hr0_7; have HC0_7 := A_ hc0_7; clear hr0_7 hc0_7; have HB := A_ (Below.refl w.heap.size w); have H : (lustrumref10_Count.l0 k 1 0 a0_0 a0_1 a0_2 a0_3 a0_4 a0_5 a0_6 l0_7) = some r := h; clear h; have H' := A_ H; clear H; go_enter Try.func23, Try.ntmps23; go_wp2_with (first | (refine gx_ w 1 (n8_ a0_0 a0_1 a0_2 a0_3 a0_4 a0_5 a0_6 (.slice A0_7 l0_7.length c0_7)) 26 ?_; clear HB; intro gb229 w2 BK229 GE229 HB; have GW229 := GE229)); go_loopg [3, 4] k (fun kq v3 v4 w' => ∃ (x3_1 : Int) (x4_1 : Int), v3 = .int .i64 x3_1 ∧ v4 = .int .i64 x4_1 ∧ Aside0 (lustrumref10_Count.l0 kq x3_1 x4_1 a0_0 a0_1 a0_2 a0_3 a0_4 a0_5 a0_6 l0_7 = some r) ∧ Aside0 (kq ≤ k) ∧ Aside0 (w'.heap[gb229]? = some (.cells #[.int .i64 a0_0, .int .i64 a0_1, .string a0_2, .string a0_3, .string a0_4, .bool a0_5, .bool a0_6, (.slice A0_7 l0_7.length c0_7)] 26 (0, 0))) ∧ Aside0 (Below w.heap.size w w'))
 case atStart => exact ⟨(1), (0), rf_, rf_, H', ⟨Nat.le_refl _⟩, ⟨bl_ BK229.out⟩, ⟨hs_⟩⟩
 case round =>
  clear H'; (try clear c2); (try clear p2); obtain ⟨x3_1, x4_1, rfl, rfl, HA, HK1, BK229, HB⟩ := hrel
  cases gk with
  | zero => exact absurd HA.out (by simp [lustrumref10_Count.l0])
  | succ k1 =>
   have H := HA.out; clear HA; simp only [lustrumref10_Count.l0] at H
   by_cases c3 : x4_1 < (l0_7.length : Int)
   ·rw [if_pos c3] at H
    have c3b0 := decide_eq_true c3; clear c3
    by_cases c4 : 0 ≤ x4_1
    ·rw [if_pos c4] at H
     have c4b0 := decide_eq_true c4; clear c4; obtain ⟨t231, A5, H⟩ := bi_ H; have H' := A_ H; clear H; have Z6 := bz8_ BK229; have p230 : 0 ≤ (x4_1 : Int) := od_; have q230 : x4_1 < (l0_7.length : Int) := od_; obtain ⟨ad230, A230_7, c230_7, e230, hx230_0, hx230_1, hx230_2, hx230_3, hx230_4, hx230_5, hx230_6, hx230_7, hl230_7, hi230_7⟩ := at_T26 HR0_7.out x4_1 p230 q230
     cases e230
     replace hx230_0 := cl_ HB hx230_0; replace hx230_1 := cl_ HB hx230_1; replace hx230_2 := cl_ HB hx230_2; replace hx230_3 := cl_ HB hx230_3; replace hx230_4 := cl_ HB hx230_4; replace hx230_5 := cl_ HB hx230_5; replace hx230_6 := cl_ HB hx230_6; replace hx230_7 := cl_ HB hx230_7; have HR230_7 := A_ hi230_7; have HC230_7 := A_ hl230_7; clear hi230_7 hl230_7; replace p230 := eq_true p230; replace q230 := eq_true q230; go_wp2_with (first | (refine gC 23 ?_; refine gL 18 Try.func23 #[.agg #[.int .i64 ((rd_T26 l0_7 x4_1).f0), .int .i64 ((rd_T26 l0_7 x4_1).f1.f0), .string ((rd_T26 l0_7 x4_1).f1.f1), .string ((rd_T26 l0_7 x4_1).f1.f2), .string ((rd_T26 l0_7 x4_1).f1.f3), .bool ((rd_T26 l0_7 x4_1).f2), .bool ((rd_T26 l0_7 x4_1).f3), .slice A230_7 ((rd_T26 l0_7 x4_1).f4).length c230_7]] ?_; (with_reducible refine (ih k1 (by have := HK1.out; omega) ((rd_T26 l0_7 x4_1).f0) ((rd_T26 l0_7 x4_1).f1.f0) ((rd_T26 l0_7 x4_1).f1.f1) ((rd_T26 l0_7 x4_1).f1.f2) ((rd_T26 l0_7 x4_1).f1.f3) ((rd_T26 l0_7 x4_1).f2) ((rd_T26 l0_7 x4_1).f3) _ _ ((rd_T26 l0_7 x4_1).f4) t231 _ ?side1 ?side2 A5.out).mono ?_); (case side1 => exact cb_ HR230_7); (case side2 => exact HC230_7.out); rintro e w7 ⟨rfl, hb⟩; refine ⟨_, rfl, ?_⟩; replace BK229 := bb_ BK229 hb; replace HB := bs_ hb; (try clear hb))); go_roundg k1
     case measure => have := HK1.out; omega
     case rel => exact ⟨(wrap64 (x3_1 + t231)), (wrap64 (x4_1 + 1)), rf_, rf_, H', ⟨by have := HK1.out; omega⟩, ⟨bl_ BK229.out⟩, ⟨hs_⟩⟩
    ·rw [if_neg c4] at H
     exact absurd H (by simp)
   ·rw [if_neg c3] at H
    have c3b0 := decide_eq_false c3; have c3b9 := c3b0; (try simp only [hl230_7] at c3b9); clear c3; obtain rfl := Option.some.inj H; have Z8 := bz8_ BK229; go_wp2; go_ret; exact ⟨re_, hs_⟩
set_option maxHeartbeats 8000000 in
set_option maxRecDepth 100000 in
theorem lustrumref10_short.calls (k : Nat) : ∀ (a0_0 a0_1 : Int) (a0_2 a0_3 a0_4 : ByteArray) (a0_5 a0_6 : Bool) (A0_7 : Option Addr) (c0_7 : Nat) (l0_7 : List (S26)) (r : Bool) (w : World) (hr0_7 : Kd.C k26 w A0_7 l0_7.length l0_7) (hc0_7 : l0_7.length ≤ c0_7) (h : lustrumref10_short.f k a0_0 a0_1 a0_2 a0_3 a0_4 a0_5 a0_6 l0_7 = some r),
  Calls Try.prog 46 #[.agg #[.int .i64 a0_0, .int .i64 a0_1, .string a0_2, .string a0_3, .string a0_4, .bool a0_5, .bool a0_6, .slice A0_7 l0_7.length c0_7]] w fun e w' => e = .returned (.bool r) ∧ Below w.heap.size w w' := by
 induction k using Nat.strongRecOn with
 | _ k ih =>
 intro a0_0 a0_1 a0_2 a0_3 a0_4 a0_5 a0_6 A0_7 c0_7 l0_7 r w hr0_7 hc0_7 h
 cases k with
 | zero => exact absurd h (by simp [lustrumref10_short.f])
 | succ k =>
 simp only [lustrumref10_short.f] at h; have hu26 := Try.underlying26; have HR0_7 := A_ hr0_7; have HC0_7 := A_ hc0_7; clear hr0_7 hc0_7; have HB := A_ (Below.refl w.heap.size w); have H : (if (a0_2.size : Int) > 10 then (lustrumref10_short.j0 k true a0_0 a0_1 a0_2 a0_3 a0_4 a0_5 a0_6 l0_7) else (if (a0_3.size : Int) > 10 then (lustrumref10_short.j0 k true a0_0 a0_1 a0_2 a0_3 a0_4 a0_5 a0_6 l0_7) else (lustrumref10_short.j0 k (decide ((a0_4.size : Int) > 10)) a0_0 a0_1 a0_2 a0_3 a0_4 a0_5 a0_6 l0_7))) = some r := h; clear h; have HC2 := A_ H; clear H; go_enter Try.func46, Try.ntmps46; go_upto_region 1 with (first | (refine gD 1 ?_; (try (refine gate_guard (by rfl) ?_; dsimp only)); refine bxe_ 1 (n8_ a0_0 a0_1 a0_2 a0_3 a0_4 a0_5 a0_6 (.slice A0_7 l0_7.length c0_7)) 26 ?_; intro gb232 hg w3 hbox hb; have BK232 := A_ (hbox); have GW232 := gs_ w hg; have GE232 := gs_ w hg; replace HB := bs_ hb; clear hb hbox hg)); (try simp only [Act.put, List.setIfInBounds_toArray, List.set_cons_zero, List.set_cons_succ]); go_cut [22] (fun v22 wc => ∃ (kq : Nat) (x22_1 : Bool), v22 = .bool x22_1 ∧ Aside0 (lustrumref10_short.j0 kq x22_1 a0_0 a0_1 a0_2 a0_3 a0_4 a0_5 a0_6 l0_7 = some r) ∧ Aside0 (kq ≤ k) ∧ Aside0 (wc.heap[gb232]? = some (.cells #[.int .i64 a0_0, .int .i64 a0_1, .string a0_2, .string a0_3, .string a0_4, .bool a0_5, .bool a0_6, (.slice A0_7 l0_7.length c0_7)] 26 (0, 0))) ∧ Aside0 (Below w.heap.size w wc))
 case first =>
  have H := HC2.out; clear HC2
  by_cases c4 : (a0_2.size : Int) > 10
  ·rw [if_pos c4] at H
   have c4b0 := decide_eq_true c4; have c4b1 : decide (10 < a0_2.size) = true := decide_eq_true (by omega); clear c4; (first | rw [c4b0] | (simp only [i64_w, i32_w]; rw [c4b0]) | skip); have H' := A_ H; clear H; have Z5 := bz8_ BK232; go_wp2; go_meet
   case rel => exact ⟨_, (true), rf_, H', ⟨by first | omega | exact Nat.le_refl _⟩, ⟨bl_ BK232.out⟩, ⟨hs_⟩⟩
  ·rw [if_neg c4] at H
   have c4b0 := decide_eq_false c4; have c4b1 : decide (10 < a0_2.size) = false := decide_eq_false (by omega); clear c4; (first | rw [c4b0] | (simp only [i64_w, i32_w]; rw [c4b0]) | skip)
   by_cases c6 : (a0_3.size : Int) > 10
   ·rw [if_pos c6] at H
    have c6b0 := decide_eq_true c6; have c6b1 : decide (10 < a0_3.size) = true := decide_eq_true (by omega); clear c6; have H' := A_ H; clear H; have Z7 := bz8_ BK232; go_wp2; go_meet
    case rel => exact ⟨_, (true), rf_, H', ⟨by first | omega | exact Nat.le_refl _⟩, ⟨bl_ BK232.out⟩, ⟨hs_⟩⟩
   ·rw [if_neg c6] at H
    have c6b0 := decide_eq_false c6; have c6b1 : decide (10 < a0_3.size) = false := decide_eq_false (by omega); clear c6; have H' := A_ H; clear H; have Z8 := bz8_ BK232; go_wp2; go_meet
    case rel => exact ⟨_, (decide ((a0_4.size : Int) > 10)), rf_, H', ⟨by first | omega | exact Nat.le_refl _⟩, ⟨bl_ BK232.out⟩, ⟨hs_⟩⟩
 case rest =>
  clear HC2; (try clear p2); (try clear c4); (try clear c4b0); (try clear c4b1); (try clear c6); (try clear c6b0); (try clear c6b1); (try clear Z5); (try clear Z7); (try clear Z8); obtain ⟨kq, x22_1, rfl, HA, HJ1, BK232, HB⟩ := hcut
  cases kq with
  | zero => exact absurd HA.out (by simp [lustrumref10_short.j0])
  | succ kj1 =>
   have H := HA.out; clear HA; simp only [lustrumref10_short.j0] at H
   by_cases c9 : x22_1 = true
   ·subst c9
    replace H := iP_ H; obtain rfl := Option.some.inj H; go_wp2; go_ret; exact ⟨re_, hs_⟩
   ·replace c9 := Bool.eq_false_iff.mpr c9
    subst c9; replace H := iN_ H; have H' := A_ H; clear H; go_wp2; go_loopg [3] kj1 (fun kq v3 w' => ∃ (x3_2 : Int), v3 = .int .i64 x3_2 ∧ Aside0 (lustrumref10_short.l0 kq x3_2 a0_0 a0_1 a0_2 a0_3 a0_4 a0_5 a0_6 l0_7 = some r) ∧ Aside0 (kq ≤ kj1) ∧ Aside0 (w'.heap[gb232]? = some (.cells #[.int .i64 a0_0, .int .i64 a0_1, .string a0_2, .string a0_3, .string a0_4, .bool a0_5, .bool a0_6, (.slice A0_7 l0_7.length c0_7)] 26 (0, 0))) ∧ Aside0 (Below w.heap.size w w'))
    case atStart => exact ⟨(0), rf_, H', ⟨Nat.le_refl _⟩, ⟨bl_ BK232.out⟩, ⟨hs_⟩⟩
    case round =>
     clear H'; (try clear p2); (try clear c4); (try clear c4b0); (try clear c4b1); (try clear c6); (try clear c6b0); (try clear c6b1); (try clear c9); (try clear Z5); (try clear Z7); (try clear Z8); (try clear p2); obtain ⟨x3_2, rfl, HA, HK2, BK232, HB⟩ := hrel
     cases gk with
     | zero => exact absurd HA.out (by simp [lustrumref10_short.l0])
     | succ k2 =>
      have H := HA.out; clear HA; simp only [lustrumref10_short.l0] at H
      by_cases c10 : x3_2 < (l0_7.length : Int)
      ·rw [if_pos c10] at H
       have c10b0 := decide_eq_true c10; clear c10
       by_cases c11 : 0 ≤ x3_2
       ·rw [if_pos c11] at H
        have c11b0 := decide_eq_true c11; clear c11; obtain ⟨t234, A12, H⟩ := bi_ H
        by_cases c13 : t234 = true
        ·subst c13
         replace H := iP_ H; have H' := A_ H; clear H; have Z14 := bz8_ BK232; have p233 : 0 ≤ (x3_2 : Int) := od_; have q233 : x3_2 < (l0_7.length : Int) := od_; obtain ⟨ad233, A233_7, c233_7, e233, hx233_0, hx233_1, hx233_2, hx233_3, hx233_4, hx233_5, hx233_6, hx233_7, hl233_7, hi233_7⟩ := at_T26 HR0_7.out x3_2 p233 q233
         cases e233
         replace hx233_0 := cl_ HB hx233_0; replace hx233_1 := cl_ HB hx233_1; replace hx233_2 := cl_ HB hx233_2; replace hx233_3 := cl_ HB hx233_3; replace hx233_4 := cl_ HB hx233_4; replace hx233_5 := cl_ HB hx233_5; replace hx233_6 := cl_ HB hx233_6; replace hx233_7 := cl_ HB hx233_7; have HR233_7 := A_ hi233_7; have HC233_7 := A_ hl233_7; clear hi233_7 hl233_7; replace p233 := eq_true p233; replace q233 := eq_true q233; go_wp2_with (first | (refine gC 46 ?_; refine gL 35 Try.func46 #[.agg #[.int .i64 ((rd_T26 l0_7 x3_2).f0), .int .i64 ((rd_T26 l0_7 x3_2).f1.f0), .string ((rd_T26 l0_7 x3_2).f1.f1), .string ((rd_T26 l0_7 x3_2).f1.f2), .string ((rd_T26 l0_7 x3_2).f1.f3), .bool ((rd_T26 l0_7 x3_2).f2), .bool ((rd_T26 l0_7 x3_2).f3), .slice A233_7 ((rd_T26 l0_7 x3_2).f4).length c233_7]] ?_; (with_reducible refine (ih k2 (by have := HJ1.out; have := HK2.out; omega) ((rd_T26 l0_7 x3_2).f0) ((rd_T26 l0_7 x3_2).f1.f0) ((rd_T26 l0_7 x3_2).f1.f1) ((rd_T26 l0_7 x3_2).f1.f2) ((rd_T26 l0_7 x3_2).f1.f3) ((rd_T26 l0_7 x3_2).f2) ((rd_T26 l0_7 x3_2).f3) _ _ ((rd_T26 l0_7 x3_2).f4) true _ ?side1 ?side2 A12.out).mono ?_); (case side1 => exact cb_ HR233_7); (case side2 => exact HC233_7.out); rintro e w15 ⟨rfl, hb⟩; refine ⟨_, rfl, ?_⟩; replace BK232 := bb_ BK232 hb; replace HB := bs_ hb; (try clear hb))); go_roundg k2
         case measure => have := HJ1.out; have := HK2.out; omega
         case rel => exact ⟨(wrap64 (x3_2 + 1)), rf_, H', ⟨by have := HJ1.out; have := HK2.out; omega⟩, ⟨bl_ BK232.out⟩, ⟨hs_⟩⟩
        ·replace c13 := Bool.eq_false_iff.mpr c13
         subst c13; replace H := iN_ H; obtain rfl := Option.some.inj H; have Z16 := bz8_ BK232; have p233 : 0 ≤ (x3_2 : Int) := od_; have q233 : x3_2 < (l0_7.length : Int) := od_; obtain ⟨ad233, A233_7, c233_7, e233, hx233_0, hx233_1, hx233_2, hx233_3, hx233_4, hx233_5, hx233_6, hx233_7, hl233_7, hi233_7⟩ := at_T26 HR0_7.out x3_2 p233 q233
         cases e233
         replace hx233_0 := cl_ HB hx233_0; replace hx233_1 := cl_ HB hx233_1; replace hx233_2 := cl_ HB hx233_2; replace hx233_3 := cl_ HB hx233_3; replace hx233_4 := cl_ HB hx233_4; replace hx233_5 := cl_ HB hx233_5; replace hx233_6 := cl_ HB hx233_6; replace hx233_7 := cl_ HB hx233_7; have HR233_7 := A_ hi233_7; have HC233_7 := A_ hl233_7; clear hi233_7 hl233_7; replace p233 := eq_true p233; replace q233 := eq_true q233; go_wp2_with (first | (refine gC 46 ?_; refine gL 35 Try.func46 #[.agg #[.int .i64 ((rd_T26 l0_7 x3_2).f0), .int .i64 ((rd_T26 l0_7 x3_2).f1.f0), .string ((rd_T26 l0_7 x3_2).f1.f1), .string ((rd_T26 l0_7 x3_2).f1.f2), .string ((rd_T26 l0_7 x3_2).f1.f3), .bool ((rd_T26 l0_7 x3_2).f2), .bool ((rd_T26 l0_7 x3_2).f3), .slice A233_7 ((rd_T26 l0_7 x3_2).f4).length c233_7]] ?_; (with_reducible refine (ih k2 (by have := HJ1.out; have := HK2.out; omega) ((rd_T26 l0_7 x3_2).f0) ((rd_T26 l0_7 x3_2).f1.f0) ((rd_T26 l0_7 x3_2).f1.f1) ((rd_T26 l0_7 x3_2).f1.f2) ((rd_T26 l0_7 x3_2).f1.f3) ((rd_T26 l0_7 x3_2).f2) ((rd_T26 l0_7 x3_2).f3) _ _ ((rd_T26 l0_7 x3_2).f4) false _ ?side1 ?side2 A12.out).mono ?_); (case side1 => exact cb_ HR233_7); (case side2 => exact HC233_7.out); rintro e w17 ⟨rfl, hb⟩; refine ⟨_, rfl, ?_⟩; replace BK232 := bb_ BK232 hb; replace HB := bs_ hb; (try clear hb))); go_ret; exact ⟨re_, hs_⟩
       ·rw [if_neg c11] at H
        exact absurd H (by simp)
      ·rw [if_neg c10] at H
       have c10b0 := decide_eq_false c10; have c10b9 := c10b0; (try simp only [hl233_7] at c10b9); (try simp only [hl239_7] at c10b9); clear c10; obtain rfl := Option.some.inj H; have Z18 := bz8_ BK232; go_wp2; go_ret; exact ⟨re_, hs_⟩
set_option maxHeartbeats 8000000 in
set_option maxRecDepth 100000 in
theorem lustrumref10_Few.calls (k : Nat) (a0_0 a0_1 : Int) (a0_2 a0_3 a0_4 : ByteArray) (a0_5 a0_6 : Bool) (A0_7 : Option Addr) (c0_7 : Nat) (l0_7 : List (S26)) (r : Bool) (w : World) (hr0_7 : Kd.C k26 w A0_7 l0_7.length l0_7) (hc0_7 : l0_7.length ≤ c0_7) (h : lustrumref10_Few.f k a0_0 a0_1 a0_2 a0_3 a0_4 a0_5 a0_6 l0_7 = some r) :
  Calls Try.prog 17 #[.agg #[.int .i64 a0_0, .int .i64 a0_1, .string a0_2, .string a0_3, .string a0_4, .bool a0_5, .bool a0_6, .slice A0_7 l0_7.length c0_7]] w fun e w' => e = .returned (.bool r) ∧ Below w.heap.size w w' := by
 have hu26 := Try.underlying26; have HR0_7 := A_ hr0_7; have HC0_7 := A_ hc0_7; clear hr0_7 hc0_7; have HB := A_ (Below.refl w.heap.size w); have H : ((lustrumref10_Count.f k a0_0 a0_1 a0_2 a0_3 a0_4 a0_5 a0_6 l0_7).bind fun t236 => (if t236 ≤ 120 then ((lustrumref10_short.f k a0_0 a0_1 a0_2 a0_3 a0_4 a0_5 a0_6 l0_7).bind fun t237 => (some t237)) else (some false))) = some r := h; clear h; obtain ⟨t236, A2, H⟩ := bi_ H
 by_cases c3 : t236 ≤ 120
 ·rw [if_pos c3] at H
  have c3b0 := decide_eq_true c3; clear c3; obtain ⟨t237, A4, H⟩ := bi_ H; obtain rfl := Option.some.inj H; go_enter Try.func17, Try.ntmps17; go_wp2_with (first | (refine gx_ w 1 (n8_ a0_0 a0_1 a0_2 a0_3 a0_4 a0_5 a0_6 (.slice A0_7 l0_7.length c0_7)) 26 ?_; clear HB; intro gb235 w5 BK235 GE235 HB; have GW235 := GE235; have Z6 := bz8_ BK235) | (refine gC 23 ?_; refine gL 4 Try.func23 #[.agg (n8_ a0_0 a0_1 a0_2 a0_3 a0_4 a0_5 a0_6 (.slice A0_7 l0_7.length c0_7))] ?_; (with_reducible refine (lustrumref10_Count.calls k a0_0 a0_1 a0_2 a0_3 a0_4 a0_5 a0_6 _ _ l0_7 t236 _ ?side1 ?side2 A2.out).mono ?_); (case side1 => exact cb_ HR0_7); (case side2 => exact HC0_7.out); rintro e w7 ⟨rfl, hb⟩; refine ⟨_, rfl, ?_⟩; replace BK235 := bb_ BK235 hb; replace HB := bs_ hb; (try clear hb); have Z8 := bz8_ BK235) | (go_at_call 46; (with_reducible refine (lustrumref10_short.calls k a0_0 a0_1 a0_2 a0_3 a0_4 a0_5 a0_6 _ _ l0_7 t237 _ ?side1 ?side2 A4.out).mono ?_); (case side1 => exact cb_ HR0_7); (case side2 => exact HC0_7.out); rintro e w9 ⟨rfl, hb⟩; replace BK235 := bb_ BK235 hb; replace HB := bs_ hb; (try clear hb)))
  go_ret; exact ⟨re_, hs_⟩
 ·rw [if_neg c3] at H
  have c3b0 := decide_eq_false c3; clear c3; obtain rfl := Option.some.inj H; go_enter Try.func17, Try.ntmps17; go_wp2_with (first | (refine gx_ w 1 (n8_ a0_0 a0_1 a0_2 a0_3 a0_4 a0_5 a0_6 (.slice A0_7 l0_7.length c0_7)) 26 ?_; clear HB; intro gb235 w10 BK235 GE235 HB; have GW235 := GE235; have Z11 := bz8_ BK235) | (refine gC 23 ?_; refine gL 4 Try.func23 #[.agg (n8_ a0_0 a0_1 a0_2 a0_3 a0_4 a0_5 a0_6 (.slice A0_7 l0_7.length c0_7))] ?_; (with_reducible refine (lustrumref10_Count.calls k a0_0 a0_1 a0_2 a0_3 a0_4 a0_5 a0_6 _ _ l0_7 t236 _ ?side1 ?side2 A2.out).mono ?_); (case side1 => exact cb_ HR0_7); (case side2 => exact HC0_7.out); rintro e w12 ⟨rfl, hb⟩; refine ⟨_, rfl, ?_⟩; replace BK235 := bb_ BK235 hb; replace HB := bs_ hb; (try clear hb))); go_ret; exact ⟨re_, hs_⟩
set_option maxHeartbeats 8000000 in
set_option maxRecDepth 100000 in
theorem lustrumlaw12_parts.calls (a0_0 a0_1 : Int) (a0_2 a0_3 a0_4 : ByteArray) (a0_5 a0_6 : Bool) (P0_7_ : Nat → Prop) (A0_7 : Option Addr) (c0_7 : Nat) (l0_7 r : List (S26)) (w : World) (hs0_7 : Kd.V k26 26 w w.heap.size (fun k_ => P0_7_ k_) (.slice A0_7 l0_7.length c0_7) l0_7) (h : lustrumlaw12_parts.f a0_0 a0_1 a0_2 a0_3 a0_4 a0_5 a0_6 l0_7 = some r) :
  Calls Try.prog 44 #[.agg #[.int .i64 a0_0, .int .i64 a0_1, .string a0_2, .string a0_3, .string a0_4, .bool a0_5, .bool a0_6, .slice A0_7 l0_7.length c0_7]] w fun e w' => ∃ v0_ : Value, e = .returned (v0_) ∧ Kd.V k26 26 w' w.heap.size (fun k_ => (P0_7_ k_ ∨ w.heap.size ≤ k_)) v0_ r ∧ Below w.heap.size w w' := by
 have hu26 := Try.underlying26; have HO0_7 := A_ (show Kd.V k26 26 w w.heap.size (fun k_ => (P0_7_ k_ ∨ w.heap.size ≤ k_)) (.slice A0_7 l0_7.length c0_7) l0_7 from Kd.V_mono hs0_7 (fun k_ hk => .inl hk)); have HB := A_ (Below.refl w.heap.size w); have H : (if a0_0 = 2 then (some l0_7) else (some (([(⟨a0_0, (⟨a0_1, a0_2, a0_3, a0_4⟩ : S23), a0_5, a0_6, l0_7⟩ : S26)] : List (S26))))) = some r := h; clear h
 by_cases c2 : a0_0 = 2
 ·rw [if_pos c2] at H
  have c2b0 : (a0_0 == 2) = true := beq_iff_eq.mpr c2; have c2b1 : (a0_0 != 2) = false := bne_eq_false_iff_eq.mpr c2; clear c2; obtain rfl := Option.some.inj H; go_enter Try.func44, Try.ntmps44; go_wp2_with (first | (refine gD 1 ?_; refine bxe_ 1 (n8_ a0_0 a0_1 a0_2 a0_3 a0_4 a0_5 a0_6 (.slice A0_7 l0_7.length c0_7)) 26 ?_; intro gb636 hg w3 hbox hb; replace HO0_7 := eV_ HO0_7 hg hb; have BK636 := A_ (hbox); have GW636 := gs_ w hg; have GE636 := gs_ w hg; replace HB := bs_ hb; clear hb hbox hg; have Z4 := bz8_ BK636)); go_ret; exact ⟨_, by first | rfl | (simp [errW_none, errW_some] <;> rfl) | (simp [*, errW_none, errW_some] <;> rfl), by (with_reducible repeat (first | apply Kd.V_alloc | apply Kd.V_drewN | apply Kd.V_drew)); exact Kd.V_mono HO0_7.out (fun _ hk => hk.1), hs_⟩
 ·rw [if_neg c2] at H
  have c2b0 : (a0_0 == 2) = false := beq_eq_false_iff_ne.mpr c2; have c2b1 : (a0_0 != 2) = true := bne_iff_ne.mpr c2; obtain ⟨y637, hy637⟩ : ∃ y_ : List (S26), y_ = (([(⟨a0_0, (⟨a0_1, a0_2, a0_3, a0_4⟩ : S23), a0_5, a0_6, l0_7⟩ : S26)] : List (S26))) := ⟨_, rfl⟩; (replace H : (some y637) = some r := hy_ hy637 H); have Ny637 := A_ hy637; clear hy637; obtain rfl := Option.some.inj H; go_enter Try.func44, Try.ntmps44; go_wp2_with (first | (refine gD 1 ?_; refine bxe_ 1 (n8_ a0_0 a0_1 a0_2 a0_3 a0_4 a0_5 a0_6 (.slice A0_7 l0_7.length c0_7)) 26 ?_; intro gb636 hg w5 hbox hb; replace HO0_7 := eV_ HO0_7 hg hb; have BK636 := A_ (hbox); have GW636 := gs_ w hg; have GE636 := gs_ w hg; replace HB := bs_ hb; clear hb hbox hg; have Z6 := bz8_ BK636) | (refine gD 9 ?_; refine Kd.N_lit k26 _ 26 ?hg (N' := 9) ?hd (xs := ([(⟨a0_0, (⟨a0_1, a0_2, a0_3, a0_4⟩ : S23), a0_5, a0_6, l0_7⟩ : S26)] : List (S26))) (inner := [.int .i64 a0_0, .int .i64 a0_1, .string a0_2, .string a0_3, .string a0_4, .bool a0_5, .bool a0_6, .slice A0_7 l0_7.length c0_7]) (ok := (fun k_ => (P0_7_ k_ ∨ w.heap.size ≤ k_) ∧ k_ ≠ gb636)) (okp := (fun k_ => (P0_7_ k_ ∨ w.heap.size ≤ k_) ∧ k_ ≠ gb636)) ?hr ?hp (fun _ hk => hk) ((show ∀ k_, w5.heap.size ≤ k_ → (fun k_ => (P0_7_ k_ ∨ w.heap.size ≤ k_) ∧ k_ ≠ gb636) k_ from fun k_ hk => ⟨(.inr (Nat.le_trans (below_size hs_) hk)), fb_ BK636 k_ hk⟩) _ (Nat.le_refl _)) (Below.refl _ _) (Nat.le_refl _) (by simp) ?_; (case hd => rfl); (case hg => rfl); (case hr => first | (go_simp; done) | (go_simp; rfl)); (case hp => exact (Reps.c8 (show Kd.FK k26 _ _ (⟨a0_0, (⟨a0_1, a0_2, a0_3, a0_4⟩ : S23), a0_5, a0_6, l0_7⟩ : S26) [.int .i64 a0_0, .int .i64 a0_1, .string a0_2, .string a0_3, .string a0_4, .bool a0_5, .bool a0_6, .slice A0_7 l0_7.length c0_7] from (k26_mkF _ _ (⟨a0_0, (⟨a0_1, a0_2, a0_3, a0_4⟩ : S23), a0_5, a0_6, l0_7⟩ : S26) (Kd.V_reads' (Kd.V_mono (ok' := (fun k_ => (P0_7_ k_ ∨ w.heap.size ≤ k_) ∧ k_ ≠ gb636)) (HO0_7.out) (fun k_ hk => ⟨hk.1, hk.2⟩))).2.1 (Kd.V_F (Kd.V_mono (ok' := (fun k_ => (P0_7_ k_ ∨ w.heap.size ≤ k_) ∧ k_ ≠ gb636)) (HO0_7.out) (fun k_ hk => ⟨hk.1, hk.2⟩))))) (Reps.none _ _))); intro v638 w7 ho8 hb hg_ hnew_; clear hg_ hnew_; (first | rw [← Ny637.out] at ho8 | (simp only [Int.reduceToNat] at ho8; rw [← Ny637.out] at ho8)); replace HO0_7 := A_ (Kd.V_elder' (hrV_ HO0_7.out) (Kd.N_base ho8) hb); have HO639 := A_ (Kd.N_lower ho8 (below_size hs_)); replace BK636 := bb_ BK636 hb; replace HB := bs_ hb; clear hb ho8))
  go_ret; exact ⟨_, by first | rfl | (simp [errW_none, errW_some] <;> rfl) | (simp [*, errW_none, errW_some] <;> rfl), Kd.N_V (by (with_reducible repeat (first | apply Kd.N_alloc | apply Kd.N_drewN | apply Kd.N_drew)); exact Kd.N_mono HO639.out (fun _ hk => hk.1)), hs_⟩
def lustrumlaw12_within.T8 : Bool × List (List Nat × List Nat) := (true, [([], []), ([0], [0]), ([1], [1]), ([1], [1]), ([2, 3, 1], [1, 2, 3]), ([4, 1], [1, 4]), ([1], [1]), ([1], [1]), ([6, 7, 1], [1, 6, 7]), ([8, 1], [1, 8]), ([5, 9, 1, 1], [1, 5, 9]), ([1, 10], [1, 10]), ([11, 10, 0, 1, 2, 3, 4, 5, 6, 7, 8, 9, 10, 11], [0, 11])])
def lustrumlaw12_within.B8 : List Nat := [0, 1, 3, 3, 15, 31, 3, 3, 195, 451, 1023, 2047, 4095]
theorem lustrumlaw12_within.tab8 : rtab .any (opsOf Try.f45 8) = lustrumlaw12_within.T8 := by kernel_rfl
theorem lustrumlaw12_within.bits8 : waitsOk lustrumlaw12_within.T8.2 lustrumlaw12_within.B8 = true := by kernel_rfl
set_option maxHeartbeats 8000000 in
set_option maxRecDepth 100000 in
theorem lustrumlaw12_within.calls (k : Nat) (A0 : Option Addr) (c0 : Nat) (l0 : List (S26)) (A1 : Option Addr) (c1 : Nat) (l1 : List (S26)) (r : Bool) (w : World) (hr0 : Kd.C k26 w A0 l0.length l0) (hc0 : l0.length ≤ c0) (hr1 : Kd.C k26 w A1 l1.length l1) (hc1 : l1.length ≤ c1) (h : lustrumlaw12_within.f k l0 l1 = some r) :
  Calls Try.prog 45 #[.slice A0 l0.length c0, .slice A1 l1.length c1] w fun e w' => e = .returned (.bool r) ∧ Below w.heap.size w w' := by
 have hu26 := Try.underlying26; have HR0 := A_ hr0; have HC0 := A_ hc0; clear hr0 hc0; have HR1 := A_ hr1; have HC1 := A_ hc1; clear hr1 hc1; have HB := A_ (Below.refl w.heap.size w); have H : (lustrumlaw12_within.l0 k l0 l1 0) = some r := h; clear h; have H' := A_ H; clear H; go_enter Try.func45, Try.ntmps45; go_wp2; go_loopg [5] k (fun kq v5 w' => ∃ (x5_1 : Int), v5 = .int .i64 x5_1 ∧ Aside0 (lustrumlaw12_within.l0 kq l0 l1 x5_1 = some r) ∧ Aside0 (kq ≤ k) ∧ Aside0 (Below w.heap.size w w'))
 case atStart => exact ⟨(0), rf_, H', ⟨Nat.le_refl _⟩, ⟨hs_⟩⟩
 case round =>
  clear H'; (try clear c1); (try clear p2); obtain ⟨x5_1, rfl, HA, HK1, HB⟩ := hrel
  cases gk with
  | zero => exact absurd HA.out (by simp [lustrumlaw12_within.l0])
  | succ k1 =>
   have H := HA.out; clear HA; simp only [lustrumlaw12_within.l0] at H
   by_cases c3 : x5_1 < (l0.length : Int)
   ·rw [if_pos c3] at H
    have c3b0 := decide_eq_true c3; clear c3; have H' := A_ H; clear H; go_wp2; go_loopg [6, 7] k1 (fun kq v6 v7 w' => ∃ (x6_2 : Bool) (x7_2 : Int), v6 = .bool x6_2 ∧ v7 = .int .i64 x7_2 ∧ Aside0 (lustrumlaw12_within.l1 kq l0 l1 x5_1 x6_2 x7_2 = some r) ∧ Aside0 (kq ≤ k1) ∧ Aside0 (Below w.heap.size w w'))
    case atStart => exact ⟨(false), (0), rf_, rf_, H', ⟨Nat.le_refl _⟩, ⟨hs_⟩⟩
    case round =>
     clear H'; (try clear c1); (try clear p2); (try clear c3); (try clear c3b0); (try clear p2); obtain ⟨x6_2, x7_2, rfl, rfl, HA, HK2, HB⟩ := hrel
     cases gk with
     | zero => exact absurd HA.out (by simp [lustrumlaw12_within.l1])
     | succ k2 =>
      have H := HA.out; clear HA; simp only [lustrumlaw12_within.l1] at H
      by_cases c4 : x7_2 < (l1.length : Int)
      ·rw [if_pos c4] at H
       have c4b0 := decide_eq_true c4; clear c4
       by_cases c5 : x6_2 = true
       ·subst c5
        replace H := iP_ H; have H' := A_ H; clear H; (try go_wp2); replace HB := A_ (below_drew1 HB.out); refine start_ (n := 13) (S := fun w' => True) (ds := []) (ab 13 0) (by kernel_rfl) rfl rfl trivial (fun hHeld => ?_); refine with_tabW lustrumlaw12_within.tab8 lustrumlaw12_within.bits8 (fun HT_ HW_ => ?_); generalize wr.drew = w6 at HB hHeld ⊢; refine pA 0 20 13 1 ?_; refine pA 1 21 13 3 ?_; refine uA 2 22 13 7 ?_; refine uA 3 23 13 15 ?_; refine uA 4 24 13 31 ?_; refine uA 5 25 13 63 ?_; refine uA 6 26 13 127 ?_; refine uA 7 27 13 255 ?_; refine uA 8 28 13 511 ?_; refine uA 9 29 13 1023 ?_; refine uA 10 30 13 2047 ?_; refine pA 11 31 13 4095 ?_; refine pA 12 6 13 8191 ?_; refine done_ (done_of HT_.out (by kernel_rfl)) ?_; (try go_wp2); go_roundg k2
        case measure => have := HK1.out; have := HK2.out; omega
        case rel => exact ⟨(true), (wrap64 (x7_2 + 1)), rf_, rf_, H', ⟨by have := HK1.out; have := HK2.out; omega⟩, ⟨hs_⟩⟩
       ·replace c5 := Bool.eq_false_iff.mpr c5
        subst c5; replace H := iN_ H
        by_cases c7 : 0 ≤ x5_1
        ·rw [if_pos c7] at H
         have c7b0 := decide_eq_true c7; clear c7
         by_cases c8 : x5_1 < (l0.length : Int)
         ·rw [if_pos c8] at H
          have c8b0 := decide_eq_true c8; clear c8
          by_cases c9 : 0 ≤ x7_2
          ·rw [if_pos c9] at H
           have c9b0 := decide_eq_true c9; clear c9; obtain ⟨t642, A10, H⟩ := bi_ H; have H' := A_ H; clear H; (try go_wp2); replace HB := A_ (below_drew1 HB.out); have p640 : 0 ≤ (x5_1 : Int) := od_; have q640 : x5_1 < (l0.length : Int) := od_; obtain ⟨ad640, A640_7, c640_7, e640, hx640_0, hx640_1, hx640_2, hx640_3, hx640_4, hx640_5, hx640_6, hx640_7, hl640_7, hi640_7⟩ := at_T26 HR0.out x5_1 p640 q640; have hw640_7 := hx640_7; have hw640_6 := hx640_6; have hw640_5 := hx640_5; have hw640_4 := hx640_4; have hw640_3 := hx640_3; have hw640_2 := hx640_2; have hw640_1 := hx640_1; have hw640_0 := hx640_0
           cases e640
           replace hx640_0 := cl_ HB hx640_0; replace hx640_1 := cl_ HB hx640_1; replace hx640_2 := cl_ HB hx640_2; replace hx640_3 := cl_ HB hx640_3; replace hx640_4 := cl_ HB hx640_4; replace hx640_5 := cl_ HB hx640_5; replace hx640_6 := cl_ HB hx640_6; replace hx640_7 := cl_ HB hx640_7; have HR640_7 := A_ hi640_7; have HC640_7 := A_ hl640_7; clear hi640_7 hl640_7; replace p640 := eq_true p640; replace q640 := eq_true q640; have p641 : 0 ≤ (x7_2 : Int) := od_; have q641 : x7_2 < (l1.length : Int) := od_; obtain ⟨ad641, A641_7, c641_7, e641, hx641_0, hx641_1, hx641_2, hx641_3, hx641_4, hx641_5, hx641_6, hx641_7, hl641_7, hi641_7⟩ := at_T26 HR1.out x7_2 p641 q641; have hw641_7 := hx641_7; have hw641_6 := hx641_6; have hw641_5 := hx641_5; have hw641_4 := hx641_4; have hw641_3 := hx641_3; have hw641_2 := hx641_2; have hw641_1 := hx641_1; have hw641_0 := hx641_0
           cases e641
           replace hx641_0 := cl_ HB hx641_0; replace hx641_1 := cl_ HB hx641_1; replace hx641_2 := cl_ HB hx641_2; replace hx641_3 := cl_ HB hx641_3; replace hx641_4 := cl_ HB hx641_4; replace hx641_5 := cl_ HB hx641_5; replace hx641_6 := cl_ HB hx641_6; replace hx641_7 := cl_ HB hx641_7; have HR641_7 := A_ hi641_7; have HC641_7 := A_ hl641_7; clear hi641_7 hl641_7; replace p641 := eq_true p641; replace q641 := eq_true q641; refine start_ (n := 13) (S := fun w' => w'.cell? (ad640.add ((x5_1).toNat * 8)) = some (.int .i64 ((rd_T26 l0 x5_1).f0)) ∧ w'.cell? ⟨(ad640.add ((x5_1).toNat * 8)).block, (ad640.add ((x5_1).toNat * 8)).off + 1, none⟩ = some (.int .i64 ((rd_T26 l0 x5_1).f1.f0)) ∧ w'.cell? ⟨(ad640.add ((x5_1).toNat * 8)).block, (ad640.add ((x5_1).toNat * 8)).off + 2, none⟩ = some (.string ((rd_T26 l0 x5_1).f1.f1)) ∧ w'.cell? ⟨(ad640.add ((x5_1).toNat * 8)).block, (ad640.add ((x5_1).toNat * 8)).off + 3, none⟩ = some (.string ((rd_T26 l0 x5_1).f1.f2)) ∧ w'.cell? ⟨(ad640.add ((x5_1).toNat * 8)).block, (ad640.add ((x5_1).toNat * 8)).off + 4, none⟩ = some (.string ((rd_T26 l0 x5_1).f1.f3)) ∧ w'.cell? ⟨(ad640.add ((x5_1).toNat * 8)).block, (ad640.add ((x5_1).toNat * 8)).off + 5, none⟩ = some (.bool ((rd_T26 l0 x5_1).f2)) ∧ w'.cell? ⟨(ad640.add ((x5_1).toNat * 8)).block, (ad640.add ((x5_1).toNat * 8)).off + 6, none⟩ = some (.bool ((rd_T26 l0 x5_1).f3)) ∧ w'.cell? ⟨(ad640.add ((x5_1).toNat * 8)).block, (ad640.add ((x5_1).toNat * 8)).off + 7, none⟩ = some (.slice A640_7 ((rd_T26 l0 x5_1).f4).length c640_7) ∧ w'.cell? (ad641.add ((x7_2).toNat * 8)) = some (.int .i64 ((rd_T26 l1 x7_2).f0)) ∧ w'.cell? ⟨(ad641.add ((x7_2).toNat * 8)).block, (ad641.add ((x7_2).toNat * 8)).off + 1, none⟩ = some (.int .i64 ((rd_T26 l1 x7_2).f1.f0)) ∧ w'.cell? ⟨(ad641.add ((x7_2).toNat * 8)).block, (ad641.add ((x7_2).toNat * 8)).off + 2, none⟩ = some (.string ((rd_T26 l1 x7_2).f1.f1)) ∧ w'.cell? ⟨(ad641.add ((x7_2).toNat * 8)).block, (ad641.add ((x7_2).toNat * 8)).off + 3, none⟩ = some (.string ((rd_T26 l1 x7_2).f1.f2)) ∧ w'.cell? ⟨(ad641.add ((x7_2).toNat * 8)).block, (ad641.add ((x7_2).toNat * 8)).off + 4, none⟩ = some (.string ((rd_T26 l1 x7_2).f1.f3)) ∧ w'.cell? ⟨(ad641.add ((x7_2).toNat * 8)).block, (ad641.add ((x7_2).toNat * 8)).off + 5, none⟩ = some (.bool ((rd_T26 l1 x7_2).f2)) ∧ w'.cell? ⟨(ad641.add ((x7_2).toNat * 8)).block, (ad641.add ((x7_2).toNat * 8)).off + 6, none⟩ = some (.bool ((rd_T26 l1 x7_2).f3)) ∧ w'.cell? ⟨(ad641.add ((x7_2).toNat * 8)).block, (ad641.add ((x7_2).toNat * 8)).off + 7, none⟩ = some (.slice A641_7 ((rd_T26 l1 x7_2).f4).length c641_7)) (ds := []) (ab 13 0) (by kernel_rfl) rfl rfl ⟨(cl_ HB hw640_0), (cl_ HB hw640_1), (cl_ HB hw640_2), (cl_ HB hw640_3), (cl_ HB hw640_4), (cl_ HB hw640_5), (cl_ HB hw640_6), (cl_ HB hw640_7), (cl_ HB hw641_0), (cl_ HB hw641_1), (cl_ HB hw641_2), (cl_ HB hw641_3), (cl_ HB hw641_4), (cl_ HB hw641_5), (cl_ HB hw641_6), (cl_ HB hw641_7)⟩ (fun hHeld => ?_); refine with_tabW lustrumlaw12_within.tab8 lustrumlaw12_within.bits8 (fun HT_ HW_ => ?_)
           generalize wr.drew = w11 at HB HR640_7 HR641_7 hx640_0 hx640_1 hx640_2 hx640_3 hx640_4 hx640_5 hx640_6 hx640_7 hx641_0 hx641_1 hx641_2 hx641_3 hx641_4 hx641_5 hx641_6 hx641_7 hHeld ⊢; refine pA 0 20 13 1 ?_; refine pA 1 21 13 3 ?_; refine pA 2 22 13 7 ?_; refine pA 3 23 13 15 ?_; refine pA 4 24 13 31 ?_; refine pA 6 26 13 95 ?_; refine pA 7 27 13 223 ?_; refine pA 8 28 13 479 ?_; refine tB 5 25 13 511 ?_; refine tB 9 29 13 1023 ?_; refine oA 10 (some 30) 13 2047 fun K hK => ?_; refine gS Try.func26 #[.agg #[.int .i64 ((rd_T26 l0 x5_1).f0), .int .i64 ((rd_T26 l0 x5_1).f1.f0), .string ((rd_T26 l0 x5_1).f1.f1), .string ((rd_T26 l0 x5_1).f1.f2), .string ((rd_T26 l0 x5_1).f1.f3), .bool ((rd_T26 l0 x5_1).f2), .bool ((rd_T26 l0 x5_1).f3), .slice A640_7 ((rd_T26 l0 x5_1).f4).length c640_7], .agg #[.int .i64 ((rd_T26 l1 x7_2).f0), .int .i64 ((rd_T26 l1 x7_2).f1.f0), .string ((rd_T26 l1 x7_2).f1.f1), .string ((rd_T26 l1 x7_2).f1.f2), .string ((rd_T26 l1 x7_2).f1.f3), .bool ((rd_T26 l1 x7_2).f2), .bool ((rd_T26 l1 x7_2).f3), .slice A641_7 ((rd_T26 l1 x7_2).f4).length c641_7]] ?_; (with_reducible refine (tree_Same.calls k2 ((rd_T26 l0 x5_1).f0) ((rd_T26 l0 x5_1).f1.f0) ((rd_T26 l0 x5_1).f1.f1) ((rd_T26 l0 x5_1).f1.f2) ((rd_T26 l0 x5_1).f1.f3) ((rd_T26 l0 x5_1).f2) ((rd_T26 l0 x5_1).f3) _ _ ((rd_T26 l0 x5_1).f4) ((rd_T26 l1 x7_2).f0) ((rd_T26 l1 x7_2).f1.f0) ((rd_T26 l1 x7_2).f1.f1) ((rd_T26 l1 x7_2).f1.f2) ((rd_T26 l1 x7_2).f1.f3) ((rd_T26 l1 x7_2).f2) ((rd_T26 l1 x7_2).f3) _ _ ((rd_T26 l1 x7_2).f4) t642 _ ?side1 ?side2 ?side3 ?side4 A10.out).mono ?_)
           (case side1 => exact cb_ HR640_7)
           (case side2 => exact HC640_7.out)
           (case side3 => exact cb_ HR641_7)
           (case side4 => exact HC641_7.out)
           rintro e w12 ⟨rfl, hb⟩; refine ⟨_, rfl, ?_⟩; replace HB := bs_ hb; (try clear hb); refine hK.out _ _ ⟨(cl_ HB hw640_0), (cl_ HB hw640_1), (cl_ HB hw640_2), (cl_ HB hw640_3), (cl_ HB hw640_4), (cl_ HB hw640_5), (cl_ HB hw640_6), (cl_ HB hw640_7), (cl_ HB hw641_0), (cl_ HB hw641_1), (cl_ HB hw641_2), (cl_ HB hw641_3), (cl_ HB hw641_4), (cl_ HB hw641_5), (cl_ HB hw641_6), (cl_ HB hw641_7)⟩ (fun hHeld => ?_); clear hK K; refine nA ?_; refine pA 11 31 13 4095 ?_; refine pA 12 6 13 8191 ?_; refine done_ (done_of HT_.out (by kernel_rfl)) ?_; (try go_wp2); go_roundg k2
           case measure => have := HK1.out; have := HK2.out; omega
           case rel => exact ⟨(t642), (wrap64 (x7_2 + 1)), rf_, rf_, H', ⟨by have := HK1.out; have := HK2.out; omega⟩, ⟨hs_⟩⟩
          ·rw [if_neg c9] at H
           exact absurd H (by simp)
         ·rw [if_neg c8] at H
          exact absurd H (by simp)
        ·rw [if_neg c7] at H
         exact absurd H (by simp)
      ·rw [if_neg c4] at H
       have c4b0 := decide_eq_false c4; have c4b9 := c4b0; (try simp only [hl640_7] at c4b9); (try simp only [hl641_7] at c4b9); clear c4
       by_cases c13 : x6_2 = true
       ·subst c13
        replace H := iP_ H; have H' := A_ H; clear H; go_wp2; go_roundg k2
        case measure => have := HK1.out; have := HK2.out; omega
        case rel => exact ⟨(wrap64 (x5_1 + 1)), rf_, H', ⟨by have := HK1.out; have := HK2.out; omega⟩, ⟨hs_⟩⟩
       ·replace c13 := Bool.eq_false_iff.mpr c13
        subst c13; replace H := iN_ H; obtain rfl := Option.some.inj H; go_wp2; go_ret; exact ⟨re_, hs_⟩
   ·rw [if_neg c3] at H
    have c3b0 := decide_eq_false c3; have c3b9 := c3b0; (try simp only [hl640_7] at c3b9); (try simp only [hl641_7] at c3b9); clear c3; obtain rfl := Option.some.inj H; go_wp2; go_ret; exact ⟨re_, hs_⟩
set_option maxHeartbeats 8000000 in
set_option maxRecDepth 100000 in
theorem lustrumlaw12_CanonParts.calls (k : Nat) (A0 : Option Addr) (c0 : Nat) (l0 : List (S26)) (r : Bool) (w : World) (hr0 : Kd.C k26 w A0 l0.length l0) (hc0 : l0.length ≤ c0) (h : lustrumlaw12_CanonParts.f k l0 = some r) :
  Calls Try.prog 14 #[.slice A0 l0.length c0] w fun e w' => e = .returned (.bool r) ∧ Below w.heap.size w w' := by
 have hu26 := Try.underlying26; have HR0 := A_ hr0; have HC0 := A_ hc0; clear hr0 hc0; have HB := A_ (Below.refl w.heap.size w); have H : ((lustrumlaw12_awake.f k).bind fun t643 => ((tree_OneOf.f l0).bind fun bt644 => (if (l0.length : Int) > 20 then (lustrumlaw12_CanonParts.j0 k l0 t643 true bt644.1 bt644.2.1 bt644.2.2.1 bt644.2.2.2.1 bt644.2.2.2.2.1 bt644.2.2.2.2.2.1 bt644.2.2.2.2.2.2.1 bt644.2.2.2.2.2.2.2) else ((lustrumref10_Few.f k bt644.1 bt644.2.1 bt644.2.2.1 bt644.2.2.2.1 bt644.2.2.2.2.1 bt644.2.2.2.2.2.1 bt644.2.2.2.2.2.2.1 bt644.2.2.2.2.2.2.2).bind fun t655 => (if t655 = true then ((tree_Sane.f k bt644.1 bt644.2.1 bt644.2.2.1 bt644.2.2.2.1 bt644.2.2.2.2.1 bt644.2.2.2.2.2.1 bt644.2.2.2.2.2.2.1 bt644.2.2.2.2.2.2.2).bind fun t656 => (lustrumlaw12_CanonParts.j0 k l0 t643 (!t656) bt644.1 bt644.2.1 bt644.2.2.1 bt644.2.2.2.1 bt644.2.2.2.2.1 bt644.2.2.2.2.2.1 bt644.2.2.2.2.2.2.1 bt644.2.2.2.2.2.2.2)) else (lustrumlaw12_CanonParts.j0 k l0 t643 true bt644.1 bt644.2.1 bt644.2.2.1 bt644.2.2.2.1 bt644.2.2.2.2.1 bt644.2.2.2.2.2.1 bt644.2.2.2.2.2.2.1 bt644.2.2.2.2.2.2.2)))))) = some r := h; clear h; obtain ⟨t643, A2, H⟩ := bi_ H; obtain ⟨⟨t644, t645, t646, t647, t648, t649, t650, t651⟩, A3, H⟩ := bi_ H; have HC4 := A_ H; clear H; go_enter Try.func14, Try.ntmps14; go_upto_region 3 with (first | (refine gC 39 ?_; refine gL 8 Try.func39 #[] ?_; (with_reducible refine (lustrumlaw12_awake.calls k  t643 _ A2.out).mono ?_); rintro e w5 ⟨rfl, hb⟩; refine ⟨_, rfl, ?_⟩; replace HB := bs_ hb; (try clear hb)) | (refine gC 30 ?_; refine gL 10 Try.func30 #[.slice A0 l0.length c0] ?_; (with_reducible refine (tree_OneOf.calls (fun k_ => k_ < w.heap.size) _ _ l0 t644 t645 t646 t647 t648 t649 t650 t651 _ ?side1 A3.out).mono ?_); (case side1 => exact Kd.V_mk HC0.out (Kd.F_below (Kd.C_F k26_heap HR0.out) hs_)); rintro e w6 ⟨v652, rfl, ho0, hb⟩; refine ⟨_, rfl, ?_⟩; have HO653 := A_ (Kd.N_lower (Kd.N_mono (ok' := fun k_ => True) ho0 (fun k_ hk_ => trivial)) (below_size hs_)); replace HB := bs_ hb; (try clear hb); (try clear ho0)) | (refine gD 4 ?_; refine bxe_ 4 z8_ 26 ?_; intro gb654 hg w7 hbox hb; replace HO653 := eN_ HO653 hg hb; have BK654 := A_ (hbox); have GW654 := gs_ w hg; have GE654 := gs_ w hg; replace HB := bs_ hb; clear hb hbox hg; have Z8 := bz8_ BK654; obtain ⟨Ao9, co9, eo9⟩ := Kd.N_slice HO653.out; subst eo9))
 (try simp only [Act.put, List.setIfInBounds_toArray, List.set_cons_zero, List.set_cons_succ]); go_cut [23] (fun v23 wc => ∃ (kq : Nat) (x23_3 : Bool), v23 = .bool x23_3 ∧ Aside0 (lustrumlaw12_CanonParts.j0 kq l0 t643 x23_3 t644 t645 t646 t647 t648 t649 t650 t651 = some r) ∧ Aside0 (kq ≤ k) ∧ Aside0 (Kd.N k26 26 wc w.heap.size (fun k_ => k_ ≠ gb654) (.slice Ao9 t651.length co9) t651) ∧ Aside0 (wc.heap[gb654]? = some (.cells #[.int .i64 t644, .int .i64 t645, .string t646, .string t647, .string t648, .bool t649, .bool t650, (.slice Ao9 t651.length co9)] 26 (0, 0))) ∧ Aside0 (Below w.heap.size w wc))
 case first =>
  have H := HC4.out; clear HC4
  by_cases c10 : (l0.length : Int) > 20
  ·rw [if_pos c10] at H
   have c10b0 := decide_eq_true c10; have c10b1 : decide (20 < l0.length) = true := decide_eq_true (by omega); clear c10; (first | rw [c10b0] | (simp only [i64_w, i32_w]; rw [c10b0]) | skip); have H' := A_ H; clear H; go_wp2; go_meet
   case rel => exact ⟨_, (true), rf_, H', ⟨by first | omega | exact Nat.le_refl _⟩, ⟨fpN_ HO653.out⟩, ⟨pb_ BK654.out⟩, ⟨hs_⟩⟩
  ·rw [if_neg c10] at H
   have c10b0 := decide_eq_false c10; have c10b9 := c10b0; (try simp only [hl670_7] at c10b9); have c10b1 : decide (20 < l0.length) = false := decide_eq_false (by omega); clear c10; (first | rw [c10b0] | (simp only [i64_w, i32_w]; rw [c10b0]) | skip); obtain ⟨t655, A11, H⟩ := bi_ H
   by_cases c12 : t655 = true
   ·subst c12
    replace H := iP_ H; obtain ⟨t656, A13, H⟩ := bi_ H; have H' := A_ H; clear H; have Z14 := bz8_ BK654; go_wp2_with (first | (go_at_call 17; (with_reducible refine (lustrumref10_Few.calls k t644 t645 t646 t647 t648 t649 t650 _ _ t651 true _ ?side1 ?side2 A11.out).mono ?_); (case side1 => refine (Kd.N_reads' (e := 26) (base := w.heap.size) (ok := fun k_ => (True ∧ k_ ≠ gb654)) (n := t651.length) (c := co9) ?_).2.2; exact (fxN_ HO653.out)); (case side2 => exact (Kd.N_reads' HO653.out).2.1); rintro e w15 ⟨rfl, hb⟩; replace HO653 := bN_ HO653 hb; replace BK654 := bp_ BK654 (.cells (n8_ t644 t645 t646 t647 t648 t649 t650 (.slice Ao9 t651.length co9)) 26 (0, 0)) hb; replace HB := bs_ hb; (try clear hb); have Z16 := bz8_ BK654) | (go_at_call 18; (with_reducible refine (tree_Sane.calls k t644 t645 t646 t647 t648 t649 t650 _ _ t651 t656 _ ?side1 ?side2 A13.out).mono ?_); (case side1 => exact cr_ (Kd.N_reads' HO653.out).2.2); (case side2 => exact (Kd.N_reads' HO653.out).2.1); rintro e w17 ⟨rfl, hb⟩; replace HO653 := bN_ HO653 hb; replace BK654 := bb_ BK654 hb; replace HB := bs_ hb; (try clear hb)))
    go_meet
    case rel => exact ⟨_, (!t656), rf_, H', ⟨by first | omega | exact Nat.le_refl _⟩, ⟨by (with_reducible repeat (first | apply Kd.N_alloc | apply Kd.N_drewN | apply Kd.N_drew)); exact Kd.N_mono HO653.out (fun _ hk => hk.2)⟩, ⟨bl_ BK654.out⟩, ⟨hs_⟩⟩
   ·replace c12 := Bool.eq_false_iff.mpr c12
    subst c12; replace H := iN_ H; have H' := A_ H; clear H; have Z18 := bz8_ BK654; go_wp2_with (first | (go_at_call 17; (with_reducible refine (lustrumref10_Few.calls k t644 t645 t646 t647 t648 t649 t650 _ _ t651 false _ ?side1 ?side2 A11.out).mono ?_); (case side1 => refine (Kd.N_reads' (e := 26) (base := w.heap.size) (ok := fun k_ => (True ∧ k_ ≠ gb654)) (n := t651.length) (c := co9) ?_).2.2; exact (fxN_ HO653.out)); (case side2 => exact (Kd.N_reads' HO653.out).2.1); rintro e w19 ⟨rfl, hb⟩; replace HO653 := bN_ HO653 hb; replace BK654 := bp_ BK654 (.cells (n8_ t644 t645 t646 t647 t648 t649 t650 (.slice Ao9 t651.length co9)) 26 (0, 0)) hb; replace HB := bs_ hb; (try clear hb)))
    go_meet
    case rel => exact ⟨_, (true), rf_, H', ⟨by first | omega | exact Nat.le_refl _⟩, ⟨by (with_reducible repeat (first | apply Kd.N_alloc | apply Kd.N_drewN | apply Kd.N_drew)); exact Kd.N_mono HO653.out (fun _ hk => hk.2)⟩, ⟨bl_ BK654.out⟩, ⟨hs_⟩⟩
 case rest =>
  clear HC4; (try clear c1); (try clear p2); (try clear c3); (try clear c10); (try clear c10b0); (try clear c10b1); (try clear c12); (try clear c14); (try clear Z14); (try clear Z16); (try clear Z18); (try clear Z8); obtain ⟨kq, x23_3, rfl, HA, HJ3, HO_655007, BK654, HB⟩ := hcut
  cases kq with
  | zero => exact absurd HA.out (by simp [lustrumlaw12_CanonParts.j0])
  | succ kj3 =>
   have H := HA.out; clear HA; simp only [lustrumlaw12_CanonParts.j0] at H
   by_cases c20 : x23_3 = true
   ·subst c20
    replace H := iP_ H; obtain rfl := Option.some.inj H; go_wp2; go_ret; exact ⟨re_, hs_⟩
   ·replace c20 := Bool.eq_false_iff.mpr c20
    subst c20; replace H := iN_ H; obtain ⟨⟨t657, t658, t659, t660, t661, t662, t663, t664⟩, A21, H⟩ := bi_ H; obtain ⟨t667, A22, H⟩ := bi_ H; have H' := A_ H; clear H; have Z23 := bz8_ BK654; go_wp2_with (first | (refine gC 40 ?_; refine gL 26 Try.func40 #[.agg (n8_ t644 t645 t646 t647 t648 t649 t650 (.slice Ao9 t651.length co9))] ?_; (with_reducible refine (canon_Canon.calls kj3 t644 t645 t646 t647 t648 t649 t650 (fun k_ => k_ ≠ gb654) _ _ t651 t657 t658 t659 t660 t661 t662 t663 t664 _ ?side1 A21.out).mono ?_); (case side1 => exact Kd.N_V (HO_655007.out)); rintro e w24 ⟨v665, rfl, ho0, hb⟩; refine ⟨_, rfl, ?_⟩; replace HO_655007 := bN_ HO_655007 hb; have HO666 := A_ (Kd.V_lower (Kd.V_mono (ok' := fun k_ => k_ ≠ gb654) ho0 (fun k_ hk_ => Or.elim hk_ (fun hs_ => hs_) (fb_ BK654 k_))) (below_size hs_)); replace BK654 := bb_ BK654 hb; replace HB := bs_ hb; (try clear hb); (try clear ho0); obtain ⟨Ao25, co25, eo25⟩ := Kd.V_slice HO666.out; subst eo25) | (refine gC 44 ?_; refine gL 27 Try.func44 #[.agg (n8_ t657 t658 t659 t660 t661 t662 t663 (.slice Ao25 t664.length co25))] ?_; (with_reducible refine (lustrumlaw12_parts.calls t657 t658 t659 t660 t661 t662 t663 (fun k_ => k_ ≠ gb654) _ _ t664 t667 _ ?side1 A22.out).mono ?_); (case side1 => exact HO666.out); rintro e w26 ⟨v668, rfl, ho0, hb⟩; refine ⟨_, rfl, ?_⟩; replace HO_655007 := bN_ HO_655007 hb; replace HO666 := bV_ HO666 hb; have HO669 := A_ (Kd.V_lower (Kd.V_mono (ok' := fun k_ => k_ ≠ gb654) ho0 (fun k_ hk_ => Or.elim hk_ (fun hs_ => hs_) (fb_ BK654 k_))) (below_size hs_)); replace BK654 := bb_ BK654 hb; replace HB := bs_ hb; (try clear hb); (try clear ho0)))
    go_loopg [6, 7] kj3 (fun kq v6 v7 w' => ∃ (x6_2 : List (S26)) (x7_2 : Int), v7 = .int .i64 x7_2 ∧ Aside0 (lustrumlaw12_CanonParts.l0 kq l0 t643 t667 x6_2 x7_2 = some r) ∧ Aside0 (kq ≤ kj3) ∧ Aside0 (Kd.V k26 26 w' w.heap.size (fun k_ => nv_ k_ v6 ∧ k_ ≠ gb654) v668 t667) ∧ Aside0 (Kd.N k26 26 w' w.heap.size (fun k_ => some k_ ≠ ((.slice Ao9 t651.length co9) : Value).ownBlock ∧ k_ ≠ gb654) v6 x6_2) ∧ Aside0 (Kd.N k26 26 w' w.heap.size (fun k_ => nv_ k_ v6 ∧ k_ ≠ gb654) (.slice Ao9 t651.length co9) t651) ∧ Aside0 (w'.heap[gb654]? = some (.cells #[.int .i64 t644, .int .i64 t645, .string t646, .string t647, .string t648, .bool t649, .bool t650, (.slice Ao9 t651.length co9)] 26 (0, 0))) ∧ Aside0 (Below w.heap.size w w'))
    case atStart => exact ⟨(([] : List (S26))), (0), rf_, H', ⟨Nat.le_refl _⟩, ⟨by (with_reducible repeat (first | apply Kd.V_alloc | apply Kd.V_drewN | apply Kd.V_drew)); exact Kd.V_mono HO669.out (fun _ hk => ⟨(by simp [Value.ownBlock]), hk⟩)⟩, ⟨by first | exact Kd.R_nil _ _ _ _ _ | exact Kd.N_nil _ _ _ _ _ | exact Kd.V_nil _ _ _ _ _ | exact Kd.Q_nil _ _ _ _ _ | exact Kd.S_nil _ _ _ _ _⟩, ⟨by (with_reducible repeat (first | apply Kd.N_alloc | apply Kd.N_drewN | apply Kd.N_drew)); exact Kd.N_mono HO_655007.out (fun _ hk => ⟨(by simp [Value.ownBlock]), hk⟩)⟩, ⟨bl_ BK654.out⟩, ⟨hs_⟩⟩
    case round =>
     clear H'; (try clear c1); (try clear c2); (try clear p2); (try clear c3); (try clear c4); (try clear c10); (try clear c10b0); (try clear c10b1); (try clear c12); (try clear c14); (try clear c20); (try clear Z14); (try clear Z16); (try clear Z18); (try clear Z23); (try clear Z8); (try clear p2); obtain ⟨x6_2, x7_2, rfl, HA, HK2, HO_5, HO_6, HO_655007, BK654, HB⟩ := hrel
     cases gk with
     | zero => exact absurd HA.out (by simp [lustrumlaw12_CanonParts.l0])
     | succ k2 =>
      have H := HA.out; clear HA; simp only [lustrumlaw12_CanonParts.l0] at H
      by_cases c27 : x7_2 < (l0.length : Int)
      ·rw [if_pos c27] at H
       have c27b0 := decide_eq_true c27; clear c27
       by_cases c28 : 0 ≤ x7_2
       ·rw [if_pos c28] at H
        have c28b0 := decide_eq_true c28; clear c28; obtain ⟨⟨t671, t672, t673, t674, t675, t676, t677, t678⟩, A29, H⟩ := bi_ H; obtain ⟨t681, A30, H⟩ := bi_ H
        by_cases c31 : x6_2.length + t681.length < 1466015503701
        ·rw [if_pos c31] at H
         have LMc31 := A_ c31; clear c31; obtain ⟨y684, hy684⟩ : ∃ y_ : List (S26), y_ = (x6_2 ++ t681) := ⟨_, rfl⟩; (replace H : (lustrumlaw12_CanonParts.l0 k2 l0 t643 t667 y684 (wrap64 (x7_2 + 1))) = some r := hy_ hy684 H); have Ny684 := A_ hy684; clear hy684; have H' := A_ H; clear H; have p670 : 0 ≤ (x7_2 : Int) := od_; have q670 : x7_2 < (l0.length : Int) := od_; obtain ⟨ad670, A670_7, c670_7, e670, hx670_0, hx670_1, hx670_2, hx670_3, hx670_4, hx670_5, hx670_6, hx670_7, hl670_7, hi670_7⟩ := at_T26 HR0.out x7_2 p670 q670
         cases e670
         replace hx670_0 := cl_ HB hx670_0; replace hx670_1 := cl_ HB hx670_1; replace hx670_2 := cl_ HB hx670_2; replace hx670_3 := cl_ HB hx670_3; replace hx670_4 := cl_ HB hx670_4; replace hx670_5 := cl_ HB hx670_5; replace hx670_6 := cl_ HB hx670_6; replace hx670_7 := cl_ HB hx670_7; have HR670_7 := A_ hi670_7; have HC670_7 := A_ hl670_7; clear hi670_7 hl670_7; replace p670 := eq_true p670; replace q670 := eq_true q670; go_wp2_with (first | (refine gC 40 ?_; refine gL 39 Try.func40 #[.agg #[.int .i64 ((rd_T26 l0 x7_2).f0), .int .i64 ((rd_T26 l0 x7_2).f1.f0), .string ((rd_T26 l0 x7_2).f1.f1), .string ((rd_T26 l0 x7_2).f1.f2), .string ((rd_T26 l0 x7_2).f1.f3), .bool ((rd_T26 l0 x7_2).f2), .bool ((rd_T26 l0 x7_2).f3), .slice A670_7 ((rd_T26 l0 x7_2).f4).length c670_7]] ?_; (with_reducible refine (canon_Canon.calls k2 ((rd_T26 l0 x7_2).f0) ((rd_T26 l0 x7_2).f1.f0) ((rd_T26 l0 x7_2).f1.f1) ((rd_T26 l0 x7_2).f1.f2) ((rd_T26 l0 x7_2).f1.f3) ((rd_T26 l0 x7_2).f2) ((rd_T26 l0 x7_2).f3) (fun k_ => k_ < w.heap.size) _ _ ((rd_T26 l0 x7_2).f4) t671 t672 t673 t674 t675 t676 t677 t678 _ ?side1 A29.out).mono ?_); (case side1 => exact Kd.V_mk HC670_7.out (Kd.F_below (Kd.C_F k26_heap HR670_7.out) hs_)); rintro e w32 ⟨v679, rfl, ho0, hb⟩; refine ⟨_, rfl, ?_⟩; replace HO_5 := bV_ HO_5 hb; have HO680 := A_ (Kd.V_lower (Kd.V_mono (ok' := fun k_ => nv_ k_ u6 ∧ nv_ k_ (.slice Ao9 t651.length co9) ∧ k_ ≠ gb654) ho0 (fun k_ hk_ => ⟨Or.elim hk_ (fun hs_ => fun e_ => Nat.not_le.2 hs_ (Kd.N_base HO_6.out k_ e_.symm)) (fN_ HO_6 k_), Or.elim hk_ (fun hs_ => fun e_ => Nat.not_le.2 hs_ (Kd.N_base HO_655007.out k_ e_.symm)) (fN_ HO_655007 k_), Or.elim hk_ (fun hs_ => fun e_ => Nat.not_le.2 hs_ (by rw [e_]; exact GW654.out)) (fb_ BK654 k_)⟩)) (below_size hs_)); replace HO_6 := bN_ HO_6 hb; replace HO_655007 := bN_ HO_655007 hb; replace BK654 := bb_ BK654 hb; replace HB := bs_ hb; (try clear hb); (try clear ho0); obtain ⟨Ao33, co33, eo33⟩ := Kd.V_slice HO680.out; subst eo33) | (refine gC 44 ?_; refine gL 40 Try.func44 #[.agg (n8_ t671 t672 t673 t674 t675 t676 t677 (.slice Ao33 t678.length co33))] ?_; (with_reducible refine (lustrumlaw12_parts.calls t671 t672 t673 t674 t675 t676 t677 (fun k_ => (nv_ k_ u6 ∧ (nv_ k_ (.slice Ao9 t651.length co9) ∧ k_ ≠ gb654))) _ _ t678 t681 _ ?side1 A30.out).mono ?_); (case side1 => exact HO680.out); rintro e w34 ⟨v682, rfl, ho0, hb⟩; refine ⟨_, rfl, ?_⟩; replace HO_5 := bV_ HO_5 hb; replace HO680 := bV_ HO680 hb; have HO683 := A_ (Kd.V_lower (Kd.V_mono (ok' := fun k_ => nv_ k_ u6 ∧ nv_ k_ (.slice Ao9 t651.length co9) ∧ k_ ≠ gb654) ho0 (fun k_ hk_ => ⟨hk_.elim (·.1) (fN_ HO_6 k_), hk_.elim (·.2.1) (fN_ HO_655007 k_), hk_.elim (·.2.2) (fb_ BK654 k_)⟩)) (below_size hs_)); replace HO_6 := bN_ HO_6 hb; replace HO_655007 := bN_ HO_655007 hb; replace BK654 := bb_ BK654 hb; replace HB := bs_ hb; (try clear hb); (try clear ho0); obtain ⟨Ao36, co36, eo36⟩ := Kd.V_slice HO683.out; subst eo36) | ((with_reducible refine gate_builtin (b := .append) (xs := #[.tmp 34, .tmp 40]) rfl ?_); at_builtin; refine Kd.N_append_rows k26 (w0 := w) w.heap.size rfl (.tmp 34) (.tmp 40) 24 26 (.agg #[(.int .i64 0), (.int .i64 0), (.string ⟨#[]⟩), (.string ⟨#[]⟩), (.string ⟨#[]⟩), (.bool false), (.bool false), (.slice none 0 0)]) 96 rfl Try.underlying24 info26 rfl (by decide) (by omega) u6 x6_2 t681 _ _ _ (fun k_ => nv_ k_ (.slice Ao9 t651.length co9) ∧ k_ ≠ gb654) (fun k_ => ((fun k_ => nv_ k_ (.slice Ao9 t651.length co9) ∧ k_ ≠ gb654)) k_ ∧ nv_ k_ u6) rfl rfl ?aO ?aR (fun _ hk => hk) ?aF ?aB ?aS ?aL ?_; (case aR => exact (by skip; exact Kd.V_F (Kd.V_mono (ok' := (fun k_ => ((fun k_ => nv_ k_ (.slice Ao9 t651.length co9) ∧ k_ ≠ gb654)) k_ ∧ nv_ k_ u6)) (HO683.out) (fun k_ hk => ⟨⟨hk.2.1, hk.2.2⟩, hk.1⟩)))); (case aB => exact hs_); (case aF => exact (fun k_ hk => ⟨fN_ HO_655007 k_ hk, fb_ BK654 k_ hk⟩)); (case aO => exact (fxN_ HO_6.out)); (case aS => exact (below_size hs_)); (case aL => have := LMc31.out; omega); intro v685 w35 ho hb hg hat; rw [← Ny684.out] at ho; replace HO_5 := A_ (Kd.V_afterv (ok := (fun k_ => k_ ≠ gb654)) (fmV_ HO_5.out) hg hat); replace HO_655007 := A_ (Kd.N_afterv (ok := (fun k_ => k_ ≠ gb654)) (fmN_ HO_655007.out) hg hat); replace BK654 := A_ (blk_grown (g := gb654) (o := .cells (n8_ t644 t645 t646 t647 t648 t649 t650 (.slice Ao9 t651.length co9)) 26 (0, 0)) (bl_ BK654.out) hg (Kd.N_away HO_6.out (fun _ hk => hk.2))); replace HO680 := A_ (Kd.V_afterv (ok := (fun k_ => nv_ k_ (.slice Ao9 t651.length co9) ∧ k_ ≠ gb654)) (fmV_ HO680.out) hg hat); replace HO683 := A_ (Kd.V_afterv (ok := (fun k_ => nv_ k_ (.slice Ao9 t651.length co9) ∧ k_ ≠ gb654)) (fmV_ HO683.out) hg hat); replace HB := A_ (hb); have HO686 := A_ (ho); clear HO_6; clear ho hb hg hat))
         go_roundg k2
         case measure => have := HJ3.out; have := HK2.out; omega
         case rel => exact ⟨(y684), (wrap64 (x7_2 + 1)), rf_, H', ⟨by have := HJ3.out; have := HK2.out; omega⟩, ⟨fmV_ HO_5.out⟩, ⟨fxN_ HO686.out⟩, ⟨fmN_ HO_655007.out⟩, ⟨bl_ BK654.out⟩, ⟨hs_⟩⟩
        ·rw [if_neg c31] at H
         exact absurd H (by simp)
       ·rw [if_neg c28] at H
        exact absurd H (by simp)
      ·rw [if_neg c27] at H
       have c27b0 := decide_eq_false c27; have c27b9 := c27b0; (try simp only [hl670_7] at c27b9); clear c27
       by_cases c37 : t643 = true
       ·subst c37
        replace H := iP_ H; obtain ⟨t687, A38, H⟩ := bi_ H
        by_cases c39 : t687 = true
        ·subst c39
         replace H := iP_ H; obtain ⟨t688, A40, H⟩ := bi_ H; obtain rfl := Option.some.inj H; obtain ⟨Ao41, co41, eo41⟩ := Kd.V_slice HO_5.out; subst eo41; obtain ⟨Ao42, co42, eo42⟩ := Kd.N_slice HO_6.out; subst eo42; go_wp2_with (first | (go_at_call 45; (with_reducible refine (lustrumlaw12_within.calls k2 _ _ t667 _ _ x6_2 true _ ?side1 ?side2 ?side3 ?side4 A38.out).mono ?_); (case side1 => exact cr_ (Kd.V_reads' HO_5.out).2.2); (case side2 => exact (Kd.V_reads' HO_5.out).2.1); (case side3 => exact cr_ (Kd.N_reads' HO_6.out).2.2); (case side4 => exact (Kd.N_reads' HO_6.out).2.1); rintro e w43 ⟨rfl, hb⟩; replace HO_5 := bV_ HO_5 hb; replace HO_6 := bN_ HO_6 hb; replace HO_655007 := bN_ HO_655007 hb; replace BK654 := bb_ BK654 hb; replace HB := bs_ hb; (try clear hb)) | (go_at_call 45; (with_reducible refine (lustrumlaw12_within.calls k2 _ _ x6_2 _ _ t667 t688 _ ?side1 ?side2 ?side3 ?side4 A40.out).mono ?_); (case side1 => exact cr_ (Kd.N_reads' HO_6.out).2.2); (case side2 => exact (Kd.N_reads' HO_6.out).2.1); (case side3 => exact cr_ (Kd.V_reads' HO_5.out).2.2); (case side4 => exact (Kd.V_reads' HO_5.out).2.1); rintro e w44 ⟨rfl, hb⟩; replace HO_5 := bV_ HO_5 hb; replace HO_6 := bN_ HO_6 hb; replace HO_655007 := bN_ HO_655007 hb; replace BK654 := bb_ BK654 hb; replace HB := bs_ hb; (try clear hb)))
         go_ret; exact ⟨re_, hs_⟩
        ·replace c39 := Bool.eq_false_iff.mpr c39
         subst c39; replace H := iN_ H; obtain rfl := Option.some.inj H; obtain ⟨Ao45, co45, eo45⟩ := Kd.V_slice HO_5.out; subst eo45; obtain ⟨Ao46, co46, eo46⟩ := Kd.N_slice HO_6.out; subst eo46; go_wp2_with (first | (go_at_call 45; (with_reducible refine (lustrumlaw12_within.calls k2 _ _ t667 _ _ x6_2 false _ ?side1 ?side2 ?side3 ?side4 A38.out).mono ?_); (case side1 => exact cr_ (Kd.V_reads' HO_5.out).2.2); (case side2 => exact (Kd.V_reads' HO_5.out).2.1); (case side3 => exact cr_ (Kd.N_reads' HO_6.out).2.2); (case side4 => exact (Kd.N_reads' HO_6.out).2.1); rintro e w47 ⟨rfl, hb⟩; replace HO_5 := bV_ HO_5 hb; replace HO_6 := bN_ HO_6 hb; replace HO_655007 := bN_ HO_655007 hb; replace BK654 := bb_ BK654 hb; replace HB := bs_ hb; (try clear hb))); go_ret; exact ⟨re_, hs_⟩
       ·replace c37 := Bool.eq_false_iff.mpr c37
        subst c37; replace H := iN_ H; obtain rfl := Option.some.inj H; go_wp2; go_ret; exact ⟨re_, hs_⟩
theorem ndL_put (n : S26) : ∀ l : List S26, ndL (putV n l) ≤ nd n + ndL l
  | [] => by rw [putV]; simp only [ndL]; omega
  | x :: l => by
    have := ndL_put n l
    rw [putV]
    split
    · rw [ndL, ndL]; omega
    · split
      · rw [ndL, ndL]; omega
      · rw [ndL]; omega
theorem ndL_fold : ∀ l acc : List S26, ndL (l.foldl (fun acc n => putV n acc) acc) ≤ ndL l + ndL acc
  | [], acc => by rw [List.foldl_nil]; omega
  | x :: l, acc => by
    have h1 := ndL_fold l (putV x acc)
    have h2 := ndL_put x acc
    rw [List.foldl_cons, ndL]; omega
theorem ndL_cl (l : List S26) : ndL (clV l) ≤ ndL l := by have := ndL_fold l []; rw [ndL] at this; exact this
theorem ndL_fl : ∀ (m : Nat) (n : S26), nd n ≤ m → ndL (flV n) ≤ nd n ∧ (n.f0 = 2 → ndL (flV n) + 1 ≤ nd n)
  | 0, n, h => by have := nd_pos n; omega
  | m + 1, n, h => by
    have hn := nd_eq n
    rw [flV_eq]
    by_cases c : n.f0 = 2
    · rw [if_pos c]
      have : ∀ l : List S26, ndL l ≤ m → ndL (flVL l) ≤ ndL l := fun l => by
        induction l with
        | nil => intro _; rw [flVL, ndL]; omega
        | cons y l ih =>
          intro hl
          rw [ndL] at hl
          have h1 := (ndL_fl m y (by omega)).1
          have h2 := ih (by omega)
          rw [flVL, ndL_app, ndL]; omega
      have := this n.f4 (by omega)
      exact ⟨by omega, fun _ => by omega⟩
    · rw [if_neg c, ndL, ndL]
      exact ⟨by omega, fun h => absurd h c⟩
theorem fl_ne : ∀ (m : Nat) (n : S26), nd n ≤ m → rt n = true → flV n ≠ []
  | 0, n, h, _ => by have := nd_pos n; omega
  | m + 1, n, h, hr => by
    have hn := nd_eq n
    rw [flV_eq]
    by_cases c : n.f0 = 2
    · rw [if_pos c]
      rw [rt_eq, if_neg (by omega), if_neg (by omega), if_pos c] at hr
      simp only [Bool.and_eq_true, decide_eq_true_eq] at hr
      cases e : n.f4 with
      | nil => exact absurd e hr.2.1
      | cons x l =>
        have h2 := hr.2.2
        rw [e, rtL, Bool.and_eq_true] at h2
        have h3 : ndL n.f4 = nd x + ndL l := by rw [e, ndL]
        have h4 := fl_ne m x (by omega) h2.1
        rw [flVL]
        intro h5
        exact h4 (List.append_eq_nil_iff.1 h5).1
    · rw [if_neg c]; simp
theorem clV_ne {l : List S26} (hl : ∀ x, x ∈ l → saneV x = true) (h : l ≠ []) : clV l ≠ [] := by
  obtain ⟨x, t, rfl⟩ := List.exists_cons_of_ne_nil h
  intro e
  have := ((clV_is hl).2.2 x).2 (by simp)
  rw [e] at this; simp at this
theorem cn_leaf {n : S26} (hs : saneV n = true) (c : n.f0 ≠ 2) : cnV n = n := by unfold cnV; rw [if_pos hs, if_neg c]
theorem cn_list {n : S26} (hs : saneV n = true) (c : n.f0 = 2) : cnV n = oneV (clV (flV n)) := by unfold cnV; rw [if_pos hs, if_pos c]
structure CnF (n : S26) (L : List S26) : Prop where
  sane : ∀ x, x ∈ L → saneV x = true
  leaf : ∀ x, x ∈ L → x.f0 ≠ 2
  ris : rise L
  ne : L ≠ []
  small : ndL L ≤ nd n
  one : oneV L = cnV n
theorem oneV_one {l : List S26} {x : S26} : oneV [x] = x := by unfold oneV; rw [if_pos (show [x].length = 1 from rfl)]; rfl
theorem cn_F {n : S26} (hs : saneV n = true) : CnF n (clV (flV n)) := by
  obtain ⟨s1, s2, s3⟩ := sane_rt hs
  have hf := flV_saneV hs
  obtain ⟨c1, c2, c3⟩ := clV_is hf
  have hm : ∀ x, x ∈ clV (flV n) → saneV x = true ∧ x.f0 ≠ 2 := fun x hx => flV_sane _ n (Nat.le_refl _) hs x ((c3 x).1 hx)
  refine ⟨fun x hx => (hm x hx).1, fun x hx => (hm x hx).2, c1, clV_ne hf (fl_ne _ n (Nat.le_refl _) s3), ?_, ?_⟩
  · have h1 := ndL_cl (flV n)
    have h2 := (ndL_fl _ n (Nat.le_refl _)).1
    omega
  · by_cases c : n.f0 = 2
    · exact (cn_list hs c).symm
    · rw [cn_leaf hs c, flV_eq, if_neg c]
      show oneV (putV n []) = n
      rw [putV]; exact oneV_one (l := [])
theorem cn_cases {n : S26} (hs : saneV n = true) : (cnV n ∈ clV (flV n) ∧ clV (flV n) = [cnV n]) ∨ (2 ≤ (clV (flV n)).length ∧ cnV n = lN (clV (flV n))) := by
  have h := cn_F hs
  by_cases h1 : (clV (flV n)).length = 1
  · obtain ⟨x, e⟩ := List.length_eq_one_iff.1 h1
    have : cnV n = x := by rw [← h.one, e]; exact oneV_one (l := [])
    left; rw [e, this]; exact ⟨by simp, rfl⟩
  · right
    have h2 : (clV (flV n)).length ≠ 0 := fun e => h.ne (List.length_eq_zero_iff.1 e)
    refine ⟨by omega, ?_⟩
    rw [← h.one]; unfold oneV; rw [if_neg h1]; rfl
theorem mem_flVL {x : S26} : ∀ {l : List S26}, x ∈ flVL l ↔ ∃ y, y ∈ l ∧ x ∈ flV y
  | [] => by rw [flVL]; simp
  | z :: l => by
    rw [flVL, List.mem_append, mem_flVL (l := l)]
    constructor
    · rintro (h | ⟨y, h1, h2⟩)
      · exact ⟨z, by simp, h⟩
      · exact ⟨y, List.mem_cons_of_mem _ h1, h2⟩
    · rintro ⟨y, h1, h2⟩
      rcases List.mem_cons.1 h1 with rfl | h1
      · exact .inl h2
      · exact .inr ⟨y, h1, h2⟩
theorem mem_fl_lN {x : S26} {l : List S26} : x ∈ flV (lN l) ↔ ∃ y, y ∈ l ∧ x ∈ flV y := by rw [flV_eq, if_pos (show (lN _).f0 = 2 from rfl)]; exact mem_flVL
theorem rd_at {l : List S26} {i : Nat} (h : i < l.length) : rd_T26 l (i : Int) = l[i] := by simp [rd_T26, List.getD, List.getElem?_eq_getElem h]
def paV (n : S26) : List S26 := if n.f0 = 2 then n.f4 else [n]
theorem parts_f (n : S26) : lustrumlaw12_parts.f n.f0 n.f1.f0 n.f1.f1 n.f1.f2 n.f1.f3 n.f2 n.f3 n.f4 = some (paV n) := by
  unfold lustrumlaw12_parts.f paV
  by_cases c : n.f0 = 2
  · rw [if_pos c, if_pos c]
  · rw [if_neg c, if_neg c, S26.eta]
theorem pa_cn {n : S26} (hs : saneV n = true) : paV (cnV n) = clV (flV n) := by
  have h := cn_F hs
  unfold paV
  rcases cn_cases hs with ⟨h1, h2⟩ | ⟨h1, h2⟩
  · rw [if_neg (h.leaf _ h1), h2]
  · rw [h2, if_pos (show (lN (clV (flV n))).f0 = 2 from rfl)]; rfl
theorem wr_q {i : Nat} (h : i + 1 ≤ 4611686018427387904) : wrap64 ((i : Int) + 1) = ((i + 1 : Nat) : Int) := by rw [wrapIn _ ⟨by omega, by omega⟩]; omega
theorem within_l1 (a b : List S26) (i : Nat) (hi : i < a.length) (hw : wfN a[i]) (hlb : b.length ≤ 1466015503711) : ∀ (m j : Nat) (x : Bool), j + m = b.length →
    ∀ (R : Bool), (∀ y : Bool, (y = true ↔ x = true ∨ ∃ q, q ∈ b.drop j ∧ sm a[i] q = true) → Ev (fun k => if y = true then lustrumlaw12_within.l0 k a b (wrap64 ((i : Int) + 1)) else some false) R) →
    Ev (fun k => lustrumlaw12_within.l1 k a b (i : Int) x (j : Int)) R
  | 0, j, x, e, R, h => by
    refine Ev.step (fun k => by rw [lustrumlaw12_within.l1, if_neg (by omega)]) (h x ?_)
    rw [List.drop_eq_nil_of_le (by omega)]; simp
  | m + 1, j, x, e, R, h => by
    have hj : j < b.length := by omega
    have hd : b.drop j = b[j] :: b.drop (j + 1) := List.drop_eq_getElem_cons hj
    cases x with
    | true =>
      refine Ev.step (f := fun k => lustrumlaw12_within.l1 k a b (i : Int) true ((j + 1 : Nat) : Int)) (fun k => by rw [lustrumlaw12_within.l1, if_pos (Int.ofNat_lt.2 hj), if_pos rfl, wr_q (by omega)]) ?_
      exact within_l1 a b i hi hw hlb m (j + 1) true (by omega) R (fun y hy => h y (by rw [hy]; simp))
    | false =>
      refine Ev.step (fun k => by rw [lustrumlaw12_within.l1, if_pos (Int.ofNat_lt.2 hj), if_neg (by simp), if_pos (Int.natCast_nonneg _), if_pos (Int.ofNat_lt.2 hi), if_pos (Int.natCast_nonneg _), wr_q (by omega), rd_at hi, rd_at hj]) ?_
      refine Ev.bind (tSame_f _ a[i] b[j] (Nat.le_refl _) hw) ?_
      refine within_l1 a b i hi hw hlb m (j + 1) _ (by omega) R (fun y hy => h y ?_)
      rw [hy, hd]
      constructor
      · rintro (g | ⟨q, g1, g2⟩)
        · exact .inr ⟨_, List.mem_cons_self, g⟩
        · exact .inr ⟨q, List.mem_cons_of_mem _ g1, g2⟩
      · rintro (g | ⟨q, g1, g2⟩)
        · cases g
        · rcases List.mem_cons.1 g1 with rfl | g1
          · exact .inl g2
          · exact .inr ⟨q, g1, g2⟩
theorem within_l0 (a b : List S26) (hw : ∀ x, x ∈ a → wfN x) (hin : ∀ x, x ∈ a → x ∈ b) (hla : a.length ≤ 1466015503711) (hlb : b.length ≤ 1466015503711) : ∀ (m i : Nat), i + m = a.length →
    Ev (fun k => lustrumlaw12_within.l0 k a b (i : Int)) true
  | 0, i, e => Ev.step (f := fun _ => some true) (fun k => by rw [lustrumlaw12_within.l0, if_neg (by omega)]) (Ev.now _)
  | m + 1, i, e => by
    have hi : i < a.length := by omega
    have hm : a[i] ∈ a := List.getElem_mem _
    refine Ev.step (f := fun k => lustrumlaw12_within.l1 k a b (i : Int) false ((0 : Nat) : Int)) (fun k => by rw [lustrumlaw12_within.l0, if_pos (Int.ofNat_lt.2 hi)]; rfl) ?_
    refine within_l1 a b i hi (hw _ hm) hlb b.length 0 false (by omega) true (fun y hy => ?_)
    have : y = true := hy.2 (.inr ⟨a[i], by rw [List.drop_zero]; exact hin _ hm, sm_refl _ _ (Nat.le_refl _)⟩)
    subst this
    refine Ev.ift rfl ?_
    rw [wr_q (by omega)]
    exact within_l0 a b hw hin hla hlb m (i + 1) (by omega)
theorem within_t (a b : List S26) (hw : ∀ x, x ∈ a → wfN x) (hin : ∀ x, x ∈ a → x ∈ b) (hla : a.length ≤ 1466015503711) (hlb : b.length ≤ 1466015503711) : Ev (fun k => lustrumlaw12_within.f k a b) true :=
  within_l0 a b hw hin hla hlb a.length 0 (by omega)
structure LstF (l : List S26) : Prop where
  all : ∀ x, x ∈ l → wfN x
  few : l.length ≤ 20
  small : ndL l + 1 ≤ 64
  sane : saneV (lN l) = true
theorem LstF.part {l : List S26} (h : LstF l) {x : S26} (hx : x ∈ l) : saneV x = true := sane_part h.sane rfl hx
theorem LstF.nd {l : List S26} (h : LstF l) {x : S26} (hx : x ∈ l) : nd x ≤ 64 := by have := ndL_mem hx; have := h.small; omega
theorem LstF.mem {l : List S26} (h : LstF l) {y : S26} : y ∈ clV (flV (lN l)) ↔ ∃ x, x ∈ l ∧ y ∈ clV (flV x) := by
  rw [(clV_is (flV_saneV h.sane)).2.2, mem_fl_lN]
  constructor
  · rintro ⟨x, h1, h2⟩; exact ⟨x, h1, ((clV_is (flV_saneV (h.part h1))).2.2 y).2 h2⟩
  · rintro ⟨x, h1, h2⟩; exact ⟨x, h1, ((clV_is (flV_saneV (h.part h1))).2.2 y).1 h2⟩
theorem LstF.wf {l : List S26} (h : LstF l) : wfN (lN l) := wf_lN (by have := h.few; omega) h.all
theorem LstF.of {l : List S26} (h1 : ∀ x, x ∈ l → wfN x) (h2 : l.length ≤ 20) (h3 : saneV (lN l) = true) : LstF l := by
  refine ⟨h1, h2, ?_, h3⟩
  have := (sane_rt h3).1
  rw [nd_eq] at this
  exact this
abbrev paAll (l : List S26) : List S26 := l.flatMap fun x => clV (flV x)
theorem paAll_len : ∀ {l : List S26}, (∀ x, x ∈ l → saneV x = true) → (paAll l).length ≤ ndL l
  | [], _ => by simp
  | x :: l, h => by
    have h1 := paAll_len (fun y hy => h y (List.mem_cons_of_mem _ hy))
    have h2 := (clV_is (flV_saneV (h x (by simp)))).2.1
    have h3 := flV_len _ x (Nat.le_refl _)
    simp only [paAll, List.flatMap_cons, List.length_append, ndL] at h1 ⊢
    omega
theorem parts_l0 (l : List S26) (h : LstF l) (all : List S26) : ∀ (t p : List S26) (acc : List S26), p ++ t = l → acc = paAll p → ∀ R, Ev (fun k => (lustrumlaw12_within.f k all (paAll l)).bind fun t687 => (if t687 = true then ((lustrumlaw12_within.f k (paAll l) all).bind fun t688 => (some t688)) else (some false))) R →
    Ev (fun k => lustrumlaw12_CanonParts.l0 k l true all acc (p.length : Int)) R
  | [], p, acc, he, ha, R, hR => by
    rw [List.append_nil] at he
    subst he
    refine Ev.step (fun k => by rw [lustrumlaw12_CanonParts.l0, if_neg (by omega), if_pos rfl]) ?_
    rw [ha]; exact hR
  | x :: t, p, acc, he, ha, R, hR => by
    have hx : x ∈ l := by rw [← he]; simp
    have hpl : p.length < l.length := by rw [← he, List.length_append, List.length_cons]; omega
    have hsx := h.part hx
    have hndx := h.nd hx
    have hlen := paAll_len (l := p ++ [x]) (fun y hy => h.part (by
      rw [← he]
      rcases List.mem_append.1 hy with hy | hy
      · exact List.mem_append_left _ hy
      · rw [List.mem_singleton.1 hy]; simp))
    have hn2 : ndL (p ++ [x]) ≤ ndL l := by rw [← he, ndL_app, ndL_app, ndL, ndL, ndL]; omega
    have hsm := h.small
    have hrd : rd_T26 l (p.length : Int) = x := by rw [← he]; exact at_rd26 p x t
    have hfew := h.few
    have e2 : paAll (p ++ [x]) = paAll p ++ clV (flV x) := by simp [paAll, List.flatMap_append]
    rw [e2, List.length_append] at hlen
    refine Ev.step (f := fun k => (canon_Canon.f k x.f0 x.f1.f0 x.f1.f1 x.f1.f2 x.f1.f3 x.f2 x.f3 x.f4).bind fun bt671 => ((lustrumlaw12_parts.f bt671.1 bt671.2.1 bt671.2.2.1 bt671.2.2.2.1 bt671.2.2.2.2.1 bt671.2.2.2.2.2.1 bt671.2.2.2.2.2.2.1 bt671.2.2.2.2.2.2.2).bind fun t681 => (if acc.length + t681.length < 1466015503701 then (lustrumlaw12_CanonParts.l0 k l true all (acc ++ t681) ((p.length + 1 : Nat) : Int)) else (none))))
      (fun k => by rw [lustrumlaw12_CanonParts.l0, if_pos (Int.ofNat_lt.2 hpl), if_pos (Int.natCast_nonneg _), hrd, wr_q (by omega)]) ?_
    refine Ev.bind (Canon_t x (h.all x hx) (by omega)) ?_
    refine Ev.bnow (parts_f (cnV x)) ?_
    rw [pa_cn hsx]
    refine Ev.ift (by rw [ha]; omega) ?_
    have := parts_l0 l h all t (p ++ [x]) (acc ++ clV (flV x)) (by rw [← he]; simp) (by rw [ha, e2]) R hR
    rw [List.length_append, List.length_singleton] at this
    exact this
theorem OneOf_f (l : List S26) (h : l.length < 1466015503701) : tree_OneOf.f l = some (tup (lN l)) := by
  unfold tree_OneOf.f
  rw [Clone_e l h]; rfl
theorem CanonParts_t (l : List S26) (hw : ∀ x, x ∈ l → wfN x) (hb : ndL l ≤ 1048575) : Ev (fun k => lustrumlaw12_CanonParts.f k l) true := by
  have hlen := len_nd l
  have hout : ∀ n : S26, Ev (fun k => lustrumlaw12_CanonParts.j0 k l true true n.f0 n.f1.f0 n.f1.f1 n.f1.f2 n.f1.f3 n.f2 n.f3 n.f4) true := fun n =>
    Ev.step (f := fun _ => some true) (fun k => by rw [lustrumlaw12_CanonParts.j0, if_pos rfl]) (Ev.now _)
  refine Ev.bind awake12 (Ev.bnow (OneOf_f l (by omega)) ?_)
  by_cases c : (l.length : Int) > 20
  · exact Ev.ift c (hout (lN l))
  · have hwl : wfN (lN l) := wf_lN (by omega) hw
    have hnl : nd (lN l) = ndL l + 1 := nd_eq _
    obtain ⟨b1, f1, _⟩ := rFew_f (lN l) hwl
    refine Ev.iff_ c (Ev.bind f1 ?_)
    cases b1 with
    | false => exact Ev.iff_ (by simp) (hout (lN l))
    | true =>
      refine Ev.ift rfl (Ev.bind (tSane_f (lN l) hwl (by omega)) ?_)
      cases hs : saneV (lN l) with
      | false => exact hout (lN l)
      | true =>
        have h := LstF.of hw (by omega) hs
        refine Ev.step (fun k => by rw [lustrumlaw12_CanonParts.j0, if_neg (by simp)]) (Ev.bind (Canon_t (lN l) hwl (by omega)) (Ev.bnow (parts_f (cnV (lN l))) ?_))
        rw [pa_cn hs]
        have hsl : ∀ x, x ∈ l → saneV x = true := fun x hx => h.part hx
        have h1 : ∀ y, y ∈ clV (flV (lN l)) ↔ y ∈ paAll l := fun y => by rw [h.mem, paAll, List.mem_flatMap]
        have hwx : ∀ y, y ∈ paAll l → wfN y := fun y hy => by
          obtain ⟨x, hx, hy⟩ := List.mem_flatMap.1 hy
          have := (flV_wf _ x (Nat.le_refl _) (hw x hx) y (((clV_is (flV_saneV (hsl x hx))).2.2 y).1 hy)).1
          exact this
        have hl1 := paAll_len hsl
        have hl2 := (clV_is (flV_saneV hs)).2.1
        have hl3 := flV_len _ (lN l) (Nat.le_refl _)
        have hsm := h.small
        exact parts_l0 l h (clV (flV (lN l))) l [] [] rfl rfl true
          (Ev.bind (within_t _ _ (fun y hy => hwx y ((h1 y).1 hy)) (fun y hy => (h1 y).1 hy) (by omega) (by omega)) (Ev.ift rfl (Ev.bind (within_t _ _ hwx (fun y hy => (h1 y).2 hy) (by omega) (by omega)) (Ev.now _))))
end Go.Proofs.Ytfehdlkklfcnpaa.A