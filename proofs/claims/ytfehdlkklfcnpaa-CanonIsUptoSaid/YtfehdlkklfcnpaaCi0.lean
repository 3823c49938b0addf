/- Walks of functions, and plain facts about what they compute. No conditions. -/
import Derived.Test.YtfehdlkklfcnpaaZs2
import Derived.Deep.Slices
import Derived.SizedLaws
import Derived.ChangeArms
import Derived.Test.YtfehdlkklfcnpaaRows
import Derived.ChangeSame
set_option linter.unusedVariables false
set_option linter.unusedSimpArgs false
namespace Go.Proofs.Ytfehdlkklfcnpaa.Rd
open Go.RowKit Go.Deep Go.Proofs.YtfehdlkklfcnpaaW.PrintWords
def RdF {α : Type} (P : Program) (t : TypeId) (d : Kd α) (wf : α → Prop) (f : Nat) : Prop :=
  ∀ {H : Type} (enc : TypeId × Value → H) (W : World) (cs : List Value) (x : DataW H × List MemPlace),
    DataW.trod enc P W 0 (fun _ => true) true f t cs = some x → (x.1.weights P t).all (· ≤ reachBytes) = true → ∃ a, d.K W a cs ∧ wf a
def Rd {α : Type} (P : Program) (t : TypeId) (d : Kd α) (wf : α → Prop) : Prop := ∀ f, RdF P t d wf f
section
variable {P : Program} {t e : TypeId} {α : Type} {d : Kd α} {wf : α → Prop}
theorem Rd.int {k : IntKind} (ht : P.underlying t = some (.int k)) : Rd P t (Kd.int k) (fun a => (Lit.int k a).wf = true) := by
  intro f H enc W cs x h _
  obtain ⟨n, rfl, _, hw⟩ := DataW.trod_int ht h
  exact ⟨n, rfl, hw⟩
theorem Rd.bool (ht : P.underlying t = some .bool) : Rd P t Kd.bool (fun _ => True) := by
  intro f H enc W cs x h _
  obtain ⟨b, rfl, _⟩ := DataW.trod_bool ht h
  exact ⟨b, rfl, trivial⟩
theorem Rd.string (ht : P.underlying t = some .string) : Rd P t Kd.string (fun s => s.size ≤ 140737488351232) := by
  intro f H enc W cs x h hw
  obtain ⟨s, rfl, rfl, _⟩ := DataW.trod_string ht h
  refine ⟨s, rfl, ?_⟩
  have h1 := of_decide_eq_true (List.all_eq_true.1 hw s.data.toList.length (by simp [DataW.weights]))
  rw [Array.length_toList] at h1
  exact h1
theorem all_weights {H : Type} {l : List (DataW H)} (h : (DataW.weightsAll P e l).all (· ≤ reachBytes) = true) : ∀ x, x ∈ l → (x.weights P e).all (· ≤ reachBytes) = true := by
  induction l with
  | nil => intro x hx; simp at hx
  | cons y l ih =>
    simp only [DataW.weightsAll, List.all_append, Bool.and_eq_true] at h
    intro x hx
    rcases List.mem_cons.1 hx with rfl | hx
    · exact h.1
    · exact ih h.2 x hx
theorem list_of {β : Type} (Q : Nat → β → Prop) : ∀ (n : Nat), (∀ i, i < n → ∃ b, Q i b) → ∃ l : List β, l.length = n ∧ ∀ i b, l[i]? = some b → Q i b
  | 0, _ => ⟨[], rfl, fun i b h => by simp at h⟩
  | n + 1, h => by
    obtain ⟨l, hl, hq⟩ := list_of Q n (fun i hi => h i (by omega))
    obtain ⟨b, hb⟩ := h n (by omega)
    refine ⟨l ++ [b], by simp [hl], fun i c hc => ?_⟩
    rcases Nat.lt_or_ge i l.length with hi | hi
    · rw [List.getElem?_append_left hi] at hc
      exact hq i c hc
    · have hlt := (List.getElem?_eq_some_iff.1 hc).1
      rw [List.length_append, List.length_singleton] at hlt
      have : i = n := by omega
      subst this
      rw [List.getElem?_append_right hi, hl, Nat.sub_self] at hc
      simp at hc
      subst hc
      exact hb
theorem RdF.slice (ht : P.underlying t = some (.slice e)) (hc : P.cellsOf e = d.sz) {f : Nat} (hd : ∀ g, g < f → RdF P e d wf g) : RdF P t (Kd.slice e d) (fun l => l.length * P.bytesOf e ≤ 140737488351232 ∧ ∀ x, x ∈ l → wf x) f := by
  intro H enc W cs x h hw
  rcases DataW.trod_slice ht h with ⟨rfl, rfl⟩ | ⟨a, len, cap, elems, rest, n, rfl, rfl, rfl, _, hlc, hm, hlen, hel, _, _⟩
  · exact ⟨[], ⟨none, 0, rfl, Nat.le_refl _, rfl, by simp, fun h => absurd h (by simp)⟩, by simp, fun x h => by simp at h⟩
  simp only [DataW.weights, ht, List.all_cons, List.all_append, Bool.and_eq_true, decide_eq_true_eq] at hw
  obtain ⟨hb, hw1, _⟩ := hw
  rw [List.length_map, List.length_map] at hb
  obtain ⟨l, hl, hq⟩ := list_of (fun i b => ∃ c, c.length = d.sz ∧ d.K W b c ∧ wf b ∧ ∀ j u, c[j]? = some u → W.cell? (a.add (i * d.sz + j)) = some u) len fun i hi => by
    have hi' : i < elems.length := by omega
    have h1 := hel i hi
    rw [List.getElem?_eq_getElem hi'] at h1
    obtain ⟨c, hc1, hc2⟩ := Option.bind_eq_some_iff.1 h1
    obtain ⟨_, hcl, hcell⟩ := World.cells?_some hc1
    obtain ⟨b, hk, hwf⟩ := hd n (Nat.lt_succ_self n) enc W c _ hc2 (all_weights hw1 _ (List.mem_map.2 ⟨_, List.getElem_mem hi', rfl⟩))
    refine ⟨b, c, by rw [hcl, hc], hk, hwf, fun j u hj => ?_⟩
    have hjl := (List.getElem?_eq_some_iff.1 hj).1
    have h2 := hcell j (by omega)
    rw [hj, hc] at h2
    rw [← h2]
    congr 1
    exact (Deep.add_add _ _ _).symm
  refine ⟨l, ⟨some a, cap, by rw [hl], by rw [hl]; exact hlc, hl ▸ rfl, by unfold maxLen at hm; omega, fun _ => ⟨a, rfl, fun j p hj => ?_⟩⟩, ?_, fun x hx => ?_⟩
  · obtain ⟨c, h1, h2, _, h4⟩ := hq j p hj
    exact ⟨c, h1, h2, h4⟩
  · have : l.length * P.bytesOf e ≤ (elems.length + rest.length) * P.bytesOf e := Nat.mul_le_mul_right _ (by omega)
    unfold reachBytes at hb
    omega
  · obtain ⟨i, hi⟩ := List.getElem?_of_mem hx
    obtain ⟨c, _, _, h3, _⟩ := hq i x hi
    exact h3
theorem Rd.slice (ht : P.underlying t = some (.slice e)) (hc : P.cellsOf e = d.sz) (hd : Rd P e d wf) : Rd P t (Kd.slice e d) (fun l => l.length * P.bytesOf e ≤ 140737488351232 ∧ ∀ x, x ∈ l → wf x) :=
  fun f => RdF.slice ht hc (fun g _ => hd g)
end
end Go.Proofs.Ytfehdlkklfcnpaa.Rd
namespace Go.Proofs.Ytfehdlkklfcnpaa.Rd
open Go.RowKit Go.Deep Go.Proofs.YtfehdlkklfcnpaaW.PrintWords Go.Proofs.Ytfehdlkklfcnpaa.A
def wfI (n : Int) : Prop := -9223372036854775808 ≤ n ∧ n ≤ 9223372036854775807
theorem wfI_of {n : Int} (h : (Lit.int .i64 n).wf = true) : wfI n := by
  have h1 := of_decide_eq_true (p := _ ∧ _) (by simpa [Lit.wf, IntKind.signed, IntKind.bits, Bool.and_eq_true, decide_eq_true_eq] using h)
  exact h1
theorem len4 {α : Type} {l : List α} (h : l.length = 4) : ∃ a b c d, l = [a, b, c, d] := by
  match l, h with
  | [a, b, c, d], _ => exact ⟨a, b, c, d, rfl⟩
theorem len5 {α : Type} {l : List α} (h : l.length = 5) : ∃ a b c d e, l = [a, b, c, d, e] := by
  match l, h with
  | [a, b, c, d, e], _ => exact ⟨a, b, c, d, e, rfl⟩
theorem len8 {α : Type} {l : List α} (h : l.length = 8) : ∃ a b c d e f g i, l = [a, b, c, d, e, f, g, i] := by
  match l, h with
  | [a, b, c, d, e, f, g, i], _ => exact ⟨a, b, c, d, e, f, g, i, rfl⟩
theorem pt_read (f : Nat) {H : Type} (enc : TypeId × Value → H) (W : World) (cs : List Value) (x : DataW H × List MemPlace)
    (h : DataW.trod enc Try.prog W 0 (fun _ => true) true f 23 cs = some x) (hw : (x.1.weights Try.prog 23).all (· ≤ reachBytes) = true) :
    ∃ p : S23, cs = [.int .i64 p.f0, .string p.f1, .string p.f2, .string p.f3] ∧ wfI p.f0 ∧ p.f1.size ≤ 140737488351232 ∧ p.f2.size ≤ 140737488351232 ∧ p.f3.size ≤ 140737488351232 := by
  obtain ⟨xs, m, rfl, rfl, hl, hlen, hf⟩ := DataW.trod_struct Try.underlying23 h
  have e1 : Try.prog.cellsOf 23 = 4 := by kernel_rfl
  have e2 : Try.prog.cellsOf 3 = 1 := by kernel_rfl
  have e3 : Try.prog.cellsOf 9 = 1 := by kernel_rfl
  rw [e1] at hl
  have hlen : xs.length = 4 := hlen
  obtain ⟨y0, y1, y2, y3, rfl⟩ := len4 hlen
  obtain ⟨c0, c1, c2, c3, rfl⟩ := len4 hl
  · skip
    have h0 : DataW.trod enc Try.prog W 0 (fun _ => true) true m 3 (([c0, c1, c2, c3].drop 0).take (Try.prog.cellsOf 3)) = some y0 := hf 0 _ rfl
    have h1 : DataW.trod enc Try.prog W 0 (fun _ => true) true m 9 (([c0, c1, c2, c3].drop 1).take (Try.prog.cellsOf 9)) = some y1 := hf 1 _ rfl
    have h2 : DataW.trod enc Try.prog W 0 (fun _ => true) true m 9 (([c0, c1, c2, c3].drop 2).take (Try.prog.cellsOf 9)) = some y2 := hf 2 _ rfl
    have h3 : DataW.trod enc Try.prog W 0 (fun _ => true) true m 9 (([c0, c1, c2, c3].drop 3).take (Try.prog.cellsOf 9)) = some y3 := hf 3 _ rfl
    rw [e2] at h0
    rw [e3] at h1 h2 h3
    simp only [DataW.weights, Try.underlying23, List.map_cons, List.map_nil, DataW.weightsEach, List.all_append, Bool.and_eq_true] at hw
    obtain ⟨_, w1, w2, w3, _⟩ := hw
    obtain ⟨a, ha, _, wa⟩ := DataW.trod_int Try.underlying3 h0
    obtain ⟨s1, hs1, z1⟩ := Rd.string Try.underlying9 m enc W _ _ h1 w1
    obtain ⟨s2, hs2, z2⟩ := Rd.string Try.underlying9 m enc W _ _ h2 w2
    obtain ⟨s3, hs3, z3⟩ := Rd.string Try.underlying9 m enc W _ _ h3 w3
    replace ha : [c0] = [.int .i64 a] := ha
    replace hs1 : [c1] = [.string s1] := hs1
    replace hs2 : [c2] = [.string s2] := hs2
    replace hs3 : [c3] = [.string s3] := hs3
    simp only [List.cons.injEq, and_true] at ha hs1 hs2 hs3
    subst ha hs1 hs2 hs3
    exact ⟨⟨a, s1, s2, s3⟩, rfl, wfI_of wa, z1, z2, z3⟩
theorem ndL_le {H : Type} : ∀ (l : List S26) (ds : List (DataW H)), l.length = ds.length → (∀ (i : Nat) (b : S26), l[i]? = some b → ∃ d, ds[i]? = some d ∧ nd b ≤ Rows.uptoBulk d) → ndL l ≤ Rows.uptoBulkAll ds
  | [], [], _, _ => by rw [ndL]; exact Nat.zero_le _
  | b :: l, d :: ds, e, h => by
    obtain ⟨d', h1, h2⟩ := h 0 b rfl
    obtain rfl : d = d' := by simpa using h1
    have := ndL_le l ds (by simpa using e) (fun (i : Nat) (b : S26) hb => by have := h (i + 1) b (by simpa using hb); simpa using this)
    rw [ndL, Rows.uptoBulkAll]
    omega
  | [], _ :: _, e, _ => by simp at e
  | _ :: _, [], e, _ => by simp at e
theorem node_read : ∀ (f : Nat) {H : Type} (enc : TypeId × Value → H) (W : World) (cs : List Value) (x : DataW H × List MemPlace),
    DataW.trod enc Try.prog W 0 (fun _ => true) true f 26 cs = some x → (x.1.weights Try.prog 26).all (· ≤ reachBytes) = true → ∃ n : S26, k26.K W n cs ∧ wfN n ∧ wfI n.f0 ∧ nd n ≤ Rows.uptoBulk x.1 := by
  intro f
  induction f using Nat.strongRecOn with
  | _ f ih =>
  intro H enc W cs x h hw
  obtain ⟨xs, m, rfl, rfl, hl, hlen, hf⟩ := DataW.trod_struct Try.underlying26 h
  have e1 : Try.prog.cellsOf 26 = 8 := by kernel_rfl
  have e2 : Try.prog.cellsOf 3 = 1 := by kernel_rfl
  have e3 : Try.prog.cellsOf 23 = 4 := by kernel_rfl
  have e4 : Try.prog.cellsOf 4 = 1 := by kernel_rfl
  have e5 : Try.prog.cellsOf 24 = 1 := by kernel_rfl
  rw [e1] at hl
  have hlen : xs.length = 5 := hlen
  obtain ⟨y0, y1, y2, y3, y4, rfl⟩ := len5 hlen
  obtain ⟨c0, c1, c2, c3, c4, c5, c6, c7, rfl⟩ := len8 hl
  · skip
    have h0 : DataW.trod enc Try.prog W 0 (fun _ => true) true m 3 (([c0, c1, c2, c3, c4, c5, c6, c7].drop 0).take (Try.prog.cellsOf 3)) = some y0 := hf 0 _ rfl
    have h1 : DataW.trod enc Try.prog W 0 (fun _ => true) true m 23 (([c0, c1, c2, c3, c4, c5, c6, c7].drop 1).take (Try.prog.cellsOf 23)) = some y1 := hf 1 _ rfl
    have h2 : DataW.trod enc Try.prog W 0 (fun _ => true) true m 4 (([c0, c1, c2, c3, c4, c5, c6, c7].drop 5).take (Try.prog.cellsOf 4)) = some y2 := hf 2 _ rfl
    have h3 : DataW.trod enc Try.prog W 0 (fun _ => true) true m 4 (([c0, c1, c2, c3, c4, c5, c6, c7].drop 6).take (Try.prog.cellsOf 4)) = some y3 := hf 3 _ rfl
    have h4 : DataW.trod enc Try.prog W 0 (fun _ => true) true m 24 (([c0, c1, c2, c3, c4, c5, c6, c7].drop 7).take (Try.prog.cellsOf 24)) = some y4 := hf 4 _ rfl
    rw [e2] at h0
    rw [e3] at h1
    rw [e4] at h2 h3
    rw [e5] at h4
    simp only [DataW.weights, Try.underlying26, List.map_cons, List.map_nil, DataW.weightsEach, List.all_append, Bool.and_eq_true] at hw
    obtain ⟨_, w1, _, _, w4, _⟩ := hw
    obtain ⟨a, ha, _, wa⟩ := DataW.trod_int Try.underlying3 h0
    obtain ⟨p, hp, wp, z1, z2, z3⟩ := pt_read m enc W _ _ h1 w1
    obtain ⟨b2, hb2, _⟩ := DataW.trod_bool Try.underlying4 h2
    obtain ⟨b3, hb3, _⟩ := DataW.trod_bool Try.underlying4 h3
    replace ha : [c0] = [.int .i64 a] := ha
    replace hp : [c1, c2, c3, c4] = [.int .i64 p.f0, .string p.f1, .string p.f2, .string p.f3] := hp
    replace hb2 : [c5] = [.bool b2] := hb2
    replace hb3 : [c6] = [.bool b3] := hb3
    replace h4 : DataW.trod enc Try.prog W 0 (fun _ => true) true m 24 [c7] = some y4 := h4
    simp only [List.cons.injEq, and_true] at ha hp hb2 hb3
    obtain ⟨rfl, rfl, rfl, rfl⟩ := hp
    subst ha hb2 hb3
    have hL : ∃ l : List S26, (Kd.slice 26 k26).K W l [c7] ∧ l.length ≤ 1466015503711 ∧ (∀ x, x ∈ l → wfN x) ∧ ndL l + 1 ≤ Rows.uptoBulk y4.1 := by
      rcases DataW.trod_slice Try.underlying24 h4 with ⟨e, rfl⟩ | ⟨ad, len, cap, elems, rest, g, rfl, e, rfl, _, hlc, hm, hle, hel, _, _⟩
      · simp only [List.cons.injEq, and_true] at e
        subst e
        exact ⟨[], ⟨none, 0, rfl, Nat.le_refl _, rfl, by simp, fun h => absurd h (by simp)⟩, by simp, fun x h => (by cases h), by rw [ndL, Rows.uptoBulk]; omega⟩
      · simp only [List.cons.injEq, and_true] at e
        subst e
        simp only [DataW.weights, Try.underlying24, List.all_cons, List.all_append, Bool.and_eq_true, decide_eq_true_eq] at w4
        obtain ⟨hb, hw1, _⟩ := w4
        rw [List.length_map, List.length_map] at hb
        have eb : Try.prog.bytesOf 26 = 96 := by kernel_rfl
        rw [eb] at hb
        obtain ⟨l, hl, hq⟩ := list_of (fun i b => ∃ c, c.length = k26.sz ∧ k26.K W b c ∧ wfN b ∧ (∃ d, (elems.map (·.1))[i]? = some d ∧ nd b ≤ Rows.uptoBulk d) ∧ ∀ j u, c[j]? = some u → W.cell? (ad.add (i * k26.sz + j)) = some u) len fun i hi => by
          have hi' : i < elems.length := by omega
          have h1 := hel i hi
          rw [List.getElem?_eq_getElem hi'] at h1
          obtain ⟨c, hc1, hc2⟩ := Option.bind_eq_some_iff.1 h1
          obtain ⟨_, hcl, hcell⟩ := World.cells?_some hc1
          obtain ⟨b, hk, hwf, _, hbk⟩ := ih g (by omega) enc W c _ hc2 (all_weights hw1 _ (List.mem_map.2 ⟨_, List.getElem_mem hi', rfl⟩))
          have esz : k26.sz = 8 := rfl
          refine ⟨b, c, by rw [hcl, e1, esz], hk, hwf, ⟨_, by rw [List.getElem?_map, List.getElem?_eq_getElem hi']; rfl, hbk⟩, fun j u hj => ?_⟩
          have hjl := (List.getElem?_eq_some_iff.1 hj).1
          have h2 := hcell j (by omega)
          rw [hj, e1] at h2
          rw [← h2, esz]
          exact congrArg W.cell? (Deep.add_add _ _ _).symm
        refine ⟨l, ⟨some ad, cap, by rw [hl], by rw [hl]; exact hlc, hl ▸ rfl, by unfold maxLen at hm; omega, fun _ => ⟨ad, rfl, fun j p hj => ?_⟩⟩, by unfold reachBytes at hb; omega, fun x hx => ?_, ?_⟩
        · obtain ⟨c, h1, h2, _, _, h4⟩ := hq j p hj
          exact ⟨c, h1, h2, h4⟩
        · obtain ⟨i, hi⟩ := List.getElem?_of_mem hx
          obtain ⟨c, _, _, h3, _, _⟩ := hq i x hi
          exact h3
        · have := ndL_le l (elems.map (·.1)) (by rw [List.length_map]; omega) (fun i b hb => by obtain ⟨c, _, _, _, h5, _⟩ := hq i b hb; exact h5)
          clear hb hm hw1 hlc
          rw [Rows.uptoBulk]
          omega
    obtain ⟨l, ⟨A, c, e, hlc, hC⟩, hlen, hwl, hbl⟩ := hL
    simp only [List.cons.injEq, and_true] at e
    subst e
    refine ⟨⟨a, p, b2, b3, l⟩, k26_mk W ⟨a, p, b2, b3, l⟩ hlc hC, .mk _ z1 z2 z3 hlen hwl, wfI_of wa, ?_⟩
    rw [nd_eq]
    simp only [List.map_cons, List.map_nil, Rows.uptoBulk, Rows.uptoBulkAll]
    omega
theorem node_arg {H : Type} {enc : TypeId × Value → H} {W : World} {ts : List TypeId} {ds : List (DataW H)} {j : Nat} {v : Value} {x : DataW H} {ps : List MemPlace} (hsz : (DataW.weightsEach Try.prog ts ds).all (· ≤ reachBytes) = true) (ht : ts[j]? = some 26) (hd : ds[j]? = some x)
    (h : DataW.Trod enc Try.prog W 0 (fun _ => true) true 26 v x ps) (hv : ∃ cs, v = .agg cs) :
    ∃ (n : S26) (A : Option Addr) (c : Nat), v = .agg #[.int .i64 n.f0, .int .i64 n.f1.f0, .string n.f1.f1, .string n.f1.f2, .string n.f1.f3, .bool n.f2, .bool n.f3, .slice A n.f4.length c] ∧ n.f4.length ≤ c ∧ Kd.C k26 W A n.f4.length n.f4 ∧ wfN n ∧ wfI n.f0 ∧ nd n ≤ Rows.uptoBulk x := by
  obtain ⟨f, hf⟩ := h
  obtain ⟨n, hk, hw, hi, hb⟩ := node_read f enc W _ _ hf (by
    rw [List.all_eq_true] at hsz ⊢
    exact fun n hn => hsz n (DataW.weights_mem_each ht hd n hn))
  obtain ⟨cs, rfl⟩ := hv
  obtain ⟨A, c, e, hl, hC⟩ := k26_open hk
  have e : cs.toList = _ := e
  obtain ⟨l⟩ := cs
  simp only at e
  exact ⟨n, A, c, by rw [show l = _ from e], hl, hC, hw, hi, hb⟩
end Go.Proofs.Ytfehdlkklfcnpaa.Rd
namespace Go.Proofs.Ytfehdlkklfcnpaa.A
open Go.RowKit Go.Proofs.YtfehdlkklfcnpaaW.PrintWords Go.Proofs.YtfehdlkklfcnpaaW.PrintLast Go.Proofs.YtfehdlkklfcnpaaW.PrintMore
attribute [local go_sem] max2_int min2_int max_two min_two max_three min_three max_four min_four
attribute [local go_sem] isSome_setCell
set_option maxHeartbeats 8000000 in
set_option maxRecDepth 100000 in
theorem lustrumref10_Count.calls (k : Nat) : ∀ (a0_0 a0_1 : Int) (a0_2 a0_3 a0_4 : ByteArray) (a0_5 a0_6 : Bool) (A0_7 : Option Addr) (c0_7 : Nat) (l0_7 : List (S26)) (r : Int) (w : World) (hr0_7 : Kd.C k26 w A0_7 l0_7.length l0_7) (hc0_7 : l0_7.length ≤ c0_7) (h : lustrumref10_Count.f k a0_0 a0_1 a0_2 a0_3 a0_4 a0_5 a0_6 l0_7 = some r),
  Calls Try.prog 23 #[.agg #[.int .i64 a0_0, .int .i64 a0_1, .string a0_2, .string a0_3, .string a0_4, .bool a0_5, .bool a0_6, .slice A0_7 l0_7.length c0_7]] w fun e w' => e = .returned (.int .i64 r) ∧ Below w.heap.size w w' := by
 induction k using Nat.strongRecOn with
 | _ k ih =>
 intro a0_0 a0_1 a0_2 a0_3 a0_4 a0_5 a0_6 A0_7 c0_7 l0_7 r w hr0_7 hc0_7 h
 cases k with
 | zero => exact absurd h (by simp [lustrumref10_Count.f])
 | succ k =>
 simp only [lustrumref10_Count.f] at h; have hu26 := Try.underlying26; have HR0_7 := A_ hr0_7; have HC0_7 := A_ hc0_7; clear hr0_7 hc0_7; have HB := A_ (Below.refl w.heap.size w); have H : (lustrumref10_Count.l0 k 1 0 a0_0 a0_1 a0_2 a0_3 a0_4 a0_5 a0_6 l0_7) = some r := h; clear h; have H' := A_ H; clear H; go_enter Try.func23, Try.ntmps23; go_wp2_with (first | (refine gx_ w 1 (n8_ a0_0 a0_1 a0_2 a0_3 a0_4 a0_5 a0_6 (.slice A0_7 l0_7.length c0_7)) 26 ?_; clear HB; intro gb229 w2 BK229 GE229 HB; have GW229 := GE229)); go_loopg [3, 4] k (fun kq v3 v4 w' => ∃ (x3_1 : Int) (x4_1 : Int), v3 = .int .i64 x3_1 ∧ v4 = .int .i64 x4_1 ∧ Aside0 (lustrumref10_Count.l0 kq x3_1 x4_1 a0_0 a0_1 a0_2 a0_3 a0_4 a0_5 a0_6 l0_7 = some r) ∧ Aside0 (kq ≤ k) ∧ Aside0 (w'.heap[gb229]? = some (.cells #[.int .i64 a0_0, .int .i64 a0_1, .string a0_2, .string a0_3, .string a0_4, .bool a0_5, .bool a0_6, (.slice A0_7 l0_7.length c0_7)] 26 (0, 0))) ∧ Aside0 (Below w.heap.size w w'))
 case atStart => exact ⟨(1), (0), rf_, rf_, H', ⟨Nat.le_refl _⟩, ⟨bl_ BK229.out⟩, ⟨hs_⟩⟩
 case round =>
  clear H'; (try clear c2); (try clear p2); obtain ⟨x3_1, x4_1, rfl, rfl, HA, HK1, BK229, HB⟩ := hrel
  cases gk with
  | zero => exact absurd HA.out (by simp [lustrumref10_Count.l0])
  | succ k1 =>
   have H := HA.out; clear HA; simp only [lustrumref10_Count.l0] at H
   by_cases c3 : x4_1 < (l0_7.length : Int)
   ·rw [if_pos c3] at H
    have c3b0 := decide_eq_true c3; clear c3
    by_cases c4 : 0 ≤ x4_1
    ·rw [if_pos c4] at H
     have c4b0 := decide_eq_true c4; clear c4; obtain ⟨t231, A5, H⟩ := bi_ H; have H' := A_ H; clear H; have Z6 := bz8_ BK229; have p230 : 0 ≤ (x4_1 : Int) := od_; have q230 : x4_1 < (l0_7.length : Int) := od_; obtain ⟨ad230, A230_7, c230_7, e230, hx230_0, hx230_1, hx230_2, hx230_3, hx230_4, hx230_5, hx230_6, hx230_7, hl230_7, hi230_7⟩ := at_T26 HR0_7.out x4_1 p230 q230
     cases e230
     replace hx230_0 := cl_ HB hx230_0; replace hx230_1 := cl_ HB hx230_1; replace hx230_2 := cl_ HB hx230_2; replace hx230_3 := cl_ HB hx230_3; replace hx230_4 := cl_ HB hx230_4; replace hx230_5 := cl_ HB hx230_5; replace hx230_6 := cl_ HB hx230_6; replace hx230_7 := cl_ HB hx230_7; have HR230_7 := A_ hi230_7; have HC230_7 := A_ hl230_7; clear hi230_7 hl230_7; replace p230 := eq_true p230; replace q230 := eq_true q230; go_wp2_with (first | (refine gC 23 ?_; refine gL 18 Try.func23 #[.agg #[.int .i64 ((rd_T26 l0_7 x4_1).f0), .int .i64 ((rd_T26 l0_7 x4_1).f1.f0), .string ((rd_T26 l0_7 x4_1).f1.f1), .string ((rd_T26 l0_7 x4_1).f1.f2), .string ((rd_T26 l0_7 x4_1).f1.f3), .bool ((rd_T26 l0_7 x4_1).f2), .bool ((rd_T26 l0_7 x4_1).f3), .slice A230_7 ((rd_T26 l0_7 x4_1).f4).length c230_7]] ?_; (with_reducible refine (ih k1 (by have := HK1.out; omega) ((rd_T26 l0_7 x4_1).f0) ((rd_T26 l0_7 x4_1).f1.f0) ((rd_T26 l0_7 x4_1).f1.f1) ((rd_T26 l0_7 x4_1).f1.f2) ((rd_T26 l0_7 x4_1).f1.f3) ((rd_T26 l0_7 x4_1).f2) ((rd_T26 l0_7 x4_1).f3) _ _ ((rd_T26 l0_7 x4_1).f4) t231 _ ?side1 ?side2 A5.out).mono ?_); (case side1 => exact cb_ HR230_7); (case side2 => exact HC230_7.out); rintro e w7 ⟨rfl, hb⟩; refine ⟨_, rfl, ?_⟩; replace BK229 := bb_ BK229 hb; replace HB := bs_ hb; (try clear hb))); go_roundg k1
     case measure => have := HK1.out; omega
     case rel => exact ⟨(wrap64 (x3_1 + t231)), (wrap64 (x4_1 + 1)), rf_, rf_, H', ⟨by have := HK1.out; omega⟩, ⟨bl_ BK229.out⟩, ⟨hs_⟩⟩
    ·rw [if_neg c4] at H
     exact absurd H (by simp)
   ·rw [if_neg c3] at H
    have c3b0 := decide_eq_false c3; have c3b9 := c3b0; (try simp only [hl230_7] at c3b9); clear c3; obtain rfl := Option.some.inj H; have Z8 := bz8_ BK229; go_wp2; go_ret; exact ⟨re_, hs_⟩
set_option maxHeartbeats 8000000 in
set_option maxRecDepth 100000 in
theorem lustrumref10_short.calls (k : Nat) : ∀ (a0_0 a0_1 : Int) (a0_2 a0_3 a0_4 : ByteArray) (a0_5 a0_6 : Bool) (A0_7 : Option Addr) (c0_7 : Nat) (l0_7 : List (S26)) (r : Bool) (w : World) (hr0_7 : Kd.C k26 w A0_7 l0_7.length l0_7) (hc0_7 : l0_7.length ≤ c0_7) (h : lustrumref10_short.f k a0_0 a0_1 a0_2 a0_3 a0_4 a0_5 a0_6 l0_7 = some r),
  Calls Try.prog 46 #[.agg #[.int .i64 a0_0, .int .i64 a0_1, .string a0_2, .string a0_3, .string a0_4, .bool a0_5, .bool a0_6, .slice A0_7 l0_7.length c0_7]] w fun e w' => e = .returned (.bool r) ∧ Below w.heap.size w w' := by
 induction k using Nat.strongRecOn with
 | _ k ih =>
 intro a0_0 a0_1 a0_2 a0_3 a0_4 a0_5 a0_6 A0_7 c0_7 l0_7 r w hr0_7 hc0_7 h
 cases k with
 | zero => exact absurd h (by simp [lustrumref10_short.f])
 | succ k =>
 simp only [lustrumref10_short.f] at h; have hu26 := Try.underlying26; have HR0_7 := A_ hr0_7; have HC0_7 := A_ hc0_7; clear hr0_7 hc0_7; have HB := A_ (Below.refl w.heap.size w); have H : (if (a0_2.size : Int) > 10 then (lustrumref10_short.j0 k true a0_0 a0_1 a0_2 a0_3 a0_4 a0_5 a0_6 l0_7) else (if (a0_3.size : Int) > 10 then (lustrumref10_short.j0 k true a0_0 a0_1 a0_2 a0_3 a0_4 a0_5 a0_6 l0_7) else (lustrumref10_short.j0 k (decide ((a0_4.size : Int) > 10)) a0_0 a0_1 a0_2 a0_3 a0_4 a0_5 a0_6 l0_7))) = some r := h; clear h; have HC2 := A_ H; clear H; go_enter Try.func46, Try.ntmps46; go_upto_region 1 with (first | (refine gD 1 ?_; (try (refine gate_guard (by rfl) ?_; dsimp only)); refine bxe_ 1 (n8_ a0_0 a0_1 a0_2 a0_3 a0_4 a0_5 a0_6 (.slice A0_7 l0_7.length c0_7)) 26 ?_; intro gb232 hg w3 hbox hb; have BK232 := A_ (hbox); have GW232 := gs_ w hg; have GE232 := gs_ w hg; replace HB := bs_ hb; clear hb hbox hg)); (try simp only [Act.put, List.setIfInBounds_toArray, List.set_cons_zero, List.set_cons_succ]); go_cut [22] (fun v22 wc => ∃ (kq : Nat) (x22_1 : Bool), v22 = .bool x22_1 ∧ Aside0 (lustrumref10_short.j0 kq x22_1 a0_0 a0_1 a0_2 a0_3 a0_4 a0_5 a0_6 l0_7 = some r) ∧ Aside0 (kq ≤ k) ∧ Aside0 (wc.heap[gb232]? = some (.cells #[.int .i64 a0_0, .int .i64 a0_1, .string a0_2, .string a0_3, .string a0_4, .bool a0_5, .bool a0_6, (.slice A0_7 l0_7.length c0_7)] 26 (0, 0))) ∧ Aside0 (Below w.heap.size w wc))
 case first =>
  have H := HC2.out; clear HC2
  by_cases c4 : (a0_2.size : Int) > 10
  ·rw [if_pos c4] at H
   have c4b0 := decide_eq_true c4; have c4b1 : decide (10 < a0_2.size) = true := decide_eq_true (by omega); clear c4; (first | rw [c4b0] | (simp only [i64_w, i32_w]; rw [c4b0]) | skip); have H' := A_ H; clear H; have Z5 := bz8_ BK232; go_wp2; go_meet
   case rel => exact ⟨_, (true), rf_, H', ⟨by first | omega | exact Nat.le_refl _⟩, ⟨bl_ BK232.out⟩, ⟨hs_⟩⟩
  ·rw [if_neg c4] at H
   have c4b0 := decide_eq_false c4; have c4b1 : decide (10 < a0_2.size) = false := decide_eq_false (by omega); clear c4; (first | rw [c4b0] | (simp only [i64_w, i32_w]; rw [c4b0]) | skip)
   by_cases c6 : (a0_3.size : Int) > 10
   ·rw [if_pos c6] at H
    have c6b0 := decide_eq_true c6; have c6b1 : decide (10 < a0_3.size) = true := decide_eq_true (by omega); clear c6; have H' := A_ H; clear H; have Z7 := bz8_ BK232; go_wp2; go_meet
    case rel => exact ⟨_, (true), rf_, H', ⟨by first | omega | exact Nat.le_refl _⟩, ⟨bl_ BK232.out⟩, ⟨hs_⟩⟩
   ·rw [if_neg c6] at H
    have c6b0 := decide_eq_false c6; have c6b1 : decide (10 < a0_3.size) = false := decide_eq_false (by omega); clear c6; have H' := A_ H; clear H; have Z8 := bz8_ BK232; go_wp2; go_meet
    case rel => exact ⟨_, (decide ((a0_4.size : Int) > 10)), rf_, H', ⟨by first | omega | exact Nat.le_refl _⟩, ⟨bl_ BK232.out⟩, ⟨hs_⟩⟩
 case rest =>
  clear HC2; (try clear p2); (try clear c4); (try clear c4b0); (try clear c4b1); (try clear c6); (try clear c6b0); (try clear c6b1); (try clear Z5); (try clear Z7); (try clear Z8); obtain ⟨kq, x22_1, rfl, HA, HJ1, BK232, HB⟩ := hcut
  cases kq with
  | zero => exact absurd HA.out (by simp [lustrumref10_short.j0])
  | succ kj1 =>
   have H := HA.out; clear HA; simp only [lustrumref10_short.j0] at H
   by_cases c9 : x22_1 = true
   ·subst c9
    replace H := iP_ H; obtain rfl := Option.some.inj H; go_wp2; go_ret; exact ⟨re_, hs_⟩
   ·replace c9 := Bool.eq_false_iff.mpr c9
    subst c9; replace H := iN_ H; have H' := A_ H; clear H; go_wp2; go_loopg [3] kj1 (fun kq v3 w' => ∃ (x3_2 : Int), v3 = .int .i64 x3_2 ∧ Aside0 (lustrumref10_short.l0 kq x3_2 a0_0 a0_1 a0_2 a0_3 a0_4 a0_5 a0_6 l0_7 = some r) ∧ Aside0 (kq ≤ kj1) ∧ Aside0 (w'.heap[gb232]? = some (.cells #[.int .i64 a0_0, .int .i64 a0_1, .string a0_2, .string a0_3, .string a0_4, .bool a0_5, .bool a0_6, (.slice A0_7 l0_7.length c0_7)] 26 (0, 0))) ∧ Aside0 (Below w.heap.size w w'))
    case atStart => exact ⟨(0), rf_, H', ⟨Nat.le_refl _⟩, ⟨bl_ BK232.out⟩, ⟨hs_⟩⟩
    case round =>
     clear H'; (try clear p2); (try clear c4); (try clear c4b0); (try clear c4b1); (try clear c6); (try clear c6b0); (try clear c6b1); (try clear c9); (try clear Z5); (try clear Z7); (try clear Z8); (try clear p2); obtain ⟨x3_2, rfl, HA, HK2, BK232, HB⟩ := hrel
     cases gk with
     | zero => exact absurd HA.out (by simp [lustrumref10_short.l0])
     | succ k2 =>
      have H := HA.out; clear HA; simp only [lustrumref10_short.l0] at H
      by_cases c10 : x3_2 < (l0_7.length : Int)
      ·rw [if_pos c10] at H
       have c10b0 := decide_eq_true c10; clear c10
       by_cases c11 : 0 ≤ x3_2
       ·rw [if_pos c11] at H
        have c11b0 := decide_eq_true c11; clear c11; obtain ⟨t234, A12, H⟩ := bi_ H
        by_cases c13 : t234 = true
        ·subst c13
         replace H := iP_ H; have H' := A_ H; clear H; have Z14 := bz8_ BK232; have p233 : 0 ≤ (x3_2 : Int) := od_; have q233 : x3_2 < (l0_7.length : Int) := od_; obtain ⟨ad233, A233_7, c233_7, e233, hx233_0, hx233_1, hx233_2, hx233_3, hx233_4, hx233_5, hx233_6, hx233_7, hl233_7, hi233_7⟩ := at_T26 HR0_7.out x3_2 p233 q233
         cases e233
         replace hx233_0 := cl_ HB hx233_0; replace hx233_1 := cl_ HB hx233_1; replace hx233_2 := cl_ HB hx233_2; replace hx233_3 := cl_ HB hx233_3; replace hx233_4 := cl_ HB hx233_4; replace hx233_5 := cl_ HB hx233_5; replace hx233_6 := cl_ HB hx233_6; replace hx233_7 := cl_ HB hx233_7; have HR233_7 := A_ hi233_7; have HC233_7 := A_ hl233_7; clear hi233_7 hl233_7; replace p233 := eq_true p233; replace q233 := eq_true q233; go_wp2_with (first | (refine gC 46 ?_; refine gL 35 Try.func46 #[.agg #[.int .i64 ((rd_T26 l0_7 x3_2).f0), .int .i64 ((rd_T26 l0_7 x3_2).f1.f0), .string ((rd_T26 l0_7 x3_2).f1.f1), .string ((rd_T26 l0_7 x3_2).f1.f2), .string ((rd_T26 l0_7 x3_2).f1.f3), .bool ((rd_T26 l0_7 x3_2).f2), .bool ((rd_T26 l0_7 x3_2).f3), .slice A233_7 ((rd_T26 l0_7 x3_2).f4).length c233_7]] ?_; (with_reducible refine (ih k2 (by have := HJ1.out; have := HK2.out; omega) ((rd_T26 l0_7 x3_2).f0) ((rd_T26 l0_7 x3_2).f1.f0) ((rd_T26 l0_7 x3_2).f1.f1) ((rd_T26 l0_7 x3_2).f1.f2) ((rd_T26 l0_7 x3_2).f1.f3) ((rd_T26 l0_7 x3_2).f2) ((rd_T26 l0_7 x3_2).f3) _ _ ((rd_T26 l0_7 x3_2).f4) true _ ?side1 ?side2 A12.out).mono ?_); (case side1 => exact cb_ HR233_7); (case side2 => exact HC233_7.out); rintro e w15 ⟨rfl, hb⟩; refine ⟨_, rfl, ?_⟩; replace BK232 := bb_ BK232 hb; replace HB := bs_ hb; (try clear hb))); go_roundg k2
         case measure => have := HJ1.out; have := HK2.out; omega
         case rel => exact ⟨(wrap64 (x3_2 + 1)), rf_, H', ⟨by have := HJ1.out; have := HK2.out; omega⟩, ⟨bl_ BK232.out⟩, ⟨hs_⟩⟩
        ·replace c13 := Bool.eq_false_iff.mpr c13
         subst c13; replace H := iN_ H; obtain rfl := Option.some.inj H; have Z16 := bz8_ BK232; have p233 : 0 ≤ (x3_2 : Int) := od_; have q233 : x3_2 < (l0_7.length : Int) := od_; obtain ⟨ad233, A233_7, c233_7, e233, hx233_0, hx233_1, hx233_2, hx233_3, hx233_4, hx233_5, hx233_6, hx233_7, hl233_7, hi233_7⟩ := at_T26 HR0_7.out x3_2 p233 q233
         cases e233
         replace hx233_0 := cl_ HB hx233_0; replace hx233_1 := cl_ HB hx233_1; replace hx233_2 := cl_ HB hx233_2; replace hx233_3 := cl_ HB hx233_3; replace hx233_4 := cl_ HB hx233_4; replace hx233_5 := cl_ HB hx233_5; replace hx233_6 := cl_ HB hx233_6; replace hx233_7 := cl_ HB hx233_7; have HR233_7 := A_ hi233_7; have HC233_7 := A_ hl233_7; clear hi233_7 hl233_7; replace p233 := eq_true p233; replace q233 := eq_true q233; go_wp2_with (first | (refine gC 46 ?_; refine gL 35 Try.func46 #[.agg #[.int .i64 ((rd_T26 l0_7 x3_2).f0), .int .i64 ((rd_T26 l0_7 x3_2).f1.f0), .string ((rd_T26 l0_7 x3_2).f1.f1), .string ((rd_T26 l0_7 x3_2).f1.f2), .string ((rd_T26 l0_7 x3_2).f1.f3), .bool ((rd_T26 l0_7 x3_2).f2), .bool ((rd_T26 l0_7 x3_2).f3), .slice A233_7 ((rd_T26 l0_7 x3_2).f4).length c233_7]] ?_; (with_reducible refine (ih k2 (by have := HJ1.out; have := HK2.out; omega) ((rd_T26 l0_7 x3_2).f0) ((rd_T26 l0_7 x3_2).f1.f0) ((rd_T26 l0_7 x3_2).f1.f1) ((rd_T26 l0_7 x3_2).f1.f2) ((rd_T26 l0_7 x3_2).f1.f3) ((rd_T26 l0_7 x3_2).f2) ((rd_T26 l0_7 x3_2).f3) _ _ ((rd_T26 l0_7 x3_2).f4) false _ ?side1 ?side2 A12.out).mono ?_); (case side1 => exact cb_ HR233_7); (case side2 => exact HC233_7.out); rintro e w17 ⟨rfl, hb⟩; refine ⟨_, rfl, ?_⟩; replace BK232 := bb_ BK232 hb; replace HB := bs_ hb; (try clear hb))); go_ret; exact ⟨re_, hs_⟩
       ·rw [if_neg c11] at H
        exact absurd H (by simp)
      ·rw [if_neg c10] at H
       have c10b0 := decide_eq_false c10; have c10b9 := c10b0; (try simp only [hl233_7] at c10b9); (try simp only [hl239_7] at c10b9); clear c10; obtain rfl := Option.some.inj H; have Z18 := bz8_ BK232; go_wp2; go_ret; exact ⟨re_, hs_⟩
set_option maxHeartbeats 8000000 in
set_option maxRecDepth 100000 in
theorem lustrumref10_Few.calls (k : Nat) (a0_0 a0_1 : Int) (a0_2 a0_3 a0_4 : ByteArray) (a0_5 a0_6 : Bool) (A0_7 : Option Addr) (c0_7 : Nat) (l0_7 : List (S26)) (r : Bool) (w : World) (hr0_7 : Kd.C k26 w A0_7 l0_7.length l0_7) (hc0_7 : l0_7.length ≤ c0_7) (h : lustrumref10_Few.f k a0_0 a0_1 a0_2 a0_3 a0_4 a0_5 a0_6 l0_7 = some r) :
  Calls Try.prog 17 #[.agg #[.int .i64 a0_0, .int .i64 a0_1, .string a0_2, .string a0_3, .string a0_4, .bool a0_5, .bool a0_6, .slice A0_7 l0_7.length c0_7]] w fun e w' => e = .returned (.bool r) ∧ Below w.heap.size w w' := by
 have hu26 := Try.underlying26; have HR0_7 := A_ hr0_7; have HC0_7 := A_ hc0_7; clear hr0_7 hc0_7; have HB := A_ (Below.refl w.heap.size w); have H : ((lustrumref10_Count.f k a0_0 a0_1 a0_2 a0_3 a0_4 a0_5 a0_6 l0_7).bind fun t236 => (if t236 ≤ 120 then ((lustrumref10_short.f k a0_0 a0_1 a0_2 a0_3 a0_4 a0_5 a0_6 l0_7).bind fun t237 => (some t237)) else (some false))) = some r := h; clear h; obtain ⟨t236, A2, H⟩ := bi_ H
 by_cases c3 : t236 ≤ 120
 ·rw [if_pos c3] at H
  have c3b0 := decide_eq_true c3; clear c3; obtain ⟨t237, A4, H⟩ := bi_ H; obtain rfl := Option.some.inj H; go_enter Try.func17, Try.ntmps17; go_wp2_with (first | (refine gx_ w 1 (n8_ a0_0 a0_1 a0_2 a0_3 a0_4 a0_5 a0_6 (.slice A0_7 l0_7.length c0_7)) 26 ?_; clear HB; intro gb235 w5 BK235 GE235 HB; have GW235 := GE235; have Z6 := bz8_ BK235) | (refine gC 23 ?_; refine gL 4 Try.func23 #[.agg (n8_ a0_0 a0_1 a0_2 a0_3 a0_4 a0_5 a0_6 (.slice A0_7 l0_7.length c0_7))] ?_; (with_reducible refine (lustrumref10_Count.calls k a0_0 a0_1 a0_2 a0_3 a0_4 a0_5 a0_6 _ _ l0_7 t236 _ ?side1 ?side2 A2.out).mono ?_); (case side1 => exact cb_ HR0_7); (case side2 => exact HC0_7.out); rintro e w7 ⟨rfl, hb⟩; refine ⟨_, rfl, ?_⟩; replace BK235 := bb_ BK235 hb; replace HB := bs_ hb; (try clear hb); have Z8 := bz8_ BK235) | (go_at_call 46; (with_reducible refine (lustrumref10_short.calls k a0_0 a0_1 a0_2 a0_3 a0_4 a0_5 a0_6 _ _ l0_7 t237 _ ?side1 ?side2 A4.out).mono ?_); (case side1 => exact cb_ HR0_7); (case side2 => exact HC0_7.out); rintro e w9 ⟨rfl, hb⟩; replace BK235 := bb_ BK235 hb; replace HB := bs_ hb; (try clear hb)))
  go_ret; exact ⟨re_, hs_⟩
 ·rw [if_neg c3] at H
  have c3b0 := decide_eq_false c3; clear c3; obtain rfl := Option.some.inj H; go_enter Try.func17, Try.ntmps17; go_wp2_with (first | (refine gx_ w 1 (n8_ a0_0 a0_1 a0_2 a0_3 a0_4 a0_5 a0_6 (.slice A0_7 l0_7.length c0_7)) 26 ?_; clear HB; intro gb235 w10 BK235 GE235 HB; have GW235 := GE235; have Z11 := bz8_ BK235) | (refine gC 23 ?_; refine gL 4 Try.func23 #[.agg (n8_ a0_0 a0_1 a0_2 a0_3 a0_4 a0_5 a0_6 (.slice A0_7 l0_7.length c0_7))] ?_; (with_reducible refine (lustrumref10_Count.calls k a0_0 a0_1 a0_2 a0_3 a0_4 a0_5 a0_6 _ _ l0_7 t236 _ ?side1 ?side2 A2.out).mono ?_); (case side1 => exact cb_ HR0_7); (case side2 => exact HC0_7.out); rintro e w12 ⟨rfl, hb⟩; refine ⟨_, rfl, ?_⟩; replace BK235 := bb_ BK235 hb; replace HB := bs_ hb; (try clear hb))); go_ret; exact ⟨re_, hs_⟩
set_option maxHeartbeats 8000000 in
set_option maxRecDepth 100000 in
theorem lustrumref10_Deep.calls (k : Nat) : ∀ (a0_0 a0_1 : Int) (a0_2 a0_3 a0_4 : ByteArray) (a0_5 a0_6 : Bool) (A0_7 : Option Addr) (c0_7 : Nat) (l0_7 : List (S26)) (r : Int) (w : World) (hr0_7 : Kd.C k26 w A0_7 l0_7.length l0_7) (hc0_7 : l0_7.length ≤ c0_7) (h : lustrumref10_Deep.f k a0_0 a0_1 a0_2 a0_3 a0_4 a0_5 a0_6 l0_7 = some r),
  Calls Try.prog 25 #[.agg #[.int .i64 a0_0, .int .i64 a0_1, .string a0_2, .string a0_3, .string a0_4, .bool a0_5, .bool a0_6, .slice A0_7 l0_7.length c0_7]] w fun e w' => e = .returned (.int .i64 r) ∧ Below w.heap.size w w' := by
 induction k using Nat.strongRecOn with
 | _ k ih =>
 intro a0_0 a0_1 a0_2 a0_3 a0_4 a0_5 a0_6 A0_7 c0_7 l0_7 r w hr0_7 hc0_7 h
 cases k with
 | zero => exact absurd h (by simp [lustrumref10_Deep.f])
 | succ k =>
 simp only [lustrumref10_Deep.f] at h; have hu26 := Try.underlying26; have HR0_7 := A_ hr0_7; have HC0_7 := A_ hc0_7; clear hr0_7 hc0_7; have HB := A_ (Below.refl w.heap.size w); have H : (lustrumref10_Deep.l0 k 0 0 a0_0 a0_1 a0_2 a0_3 a0_4 a0_5 a0_6 l0_7) = some r := h; clear h; have H' := A_ H; clear H; go_enter Try.func25, Try.ntmps25; go_wp2_with (first | (refine gx_ w 1 (n8_ a0_0 a0_1 a0_2 a0_3 a0_4 a0_5 a0_6 (.slice A0_7 l0_7.length c0_7)) 26 ?_; clear HB; intro gb238 w2 BK238 GE238 HB; have GW238 := GE238)); go_loopg [3, 4] k (fun kq v3 v4 w' => ∃ (x3_1 : Int) (x4_1 : Int), v3 = .int .i64 x3_1 ∧ v4 = .int .i64 x4_1 ∧ Aside0 (lustrumref10_Deep.l0 kq x3_1 x4_1 a0_0 a0_1 a0_2 a0_3 a0_4 a0_5 a0_6 l0_7 = some r) ∧ Aside0 (kq ≤ k) ∧ Aside0 (w'.heap[gb238]? = some (.cells #[.int .i64 a0_0, .int .i64 a0_1, .string a0_2, .string a0_3, .string a0_4, .bool a0_5, .bool a0_6, (.slice A0_7 l0_7.length c0_7)] 26 (0, 0))) ∧ Aside0 (Below w.heap.size w w'))
 case atStart => exact ⟨(0), (0), rf_, rf_, H', ⟨Nat.le_refl _⟩, ⟨bl_ BK238.out⟩, ⟨hs_⟩⟩
 case round =>
  clear H'; (try clear c2); (try clear p2); obtain ⟨x3_1, x4_1, rfl, rfl, HA, HK1, BK238, HB⟩ := hrel
  cases gk with
  | zero => exact absurd HA.out (by simp [lustrumref10_Deep.l0])
  | succ k1 =>
   have H := HA.out; clear HA; simp only [lustrumref10_Deep.l0] at H
   by_cases c3 : x4_1 < (l0_7.length : Int)
   ·rw [if_pos c3] at H
    have c3b0 := decide_eq_true c3; clear c3
    by_cases c4 : 0 ≤ x4_1
    ·rw [if_pos c4] at H
     have c4b0 := decide_eq_true c4; clear c4; obtain ⟨t240, A5, H⟩ := bi_ H; obtain ⟨ji6, hji6⟩ : ∃ j_ : Int, (mx x3_1 t240) = j_ := ⟨_, rfl⟩; (replace H : (lustrumref10_Deep.l0 k1 ji6 (wrap64 (x4_1 + 1)) a0_0 a0_1 a0_2 a0_3 a0_4 a0_5 a0_6 l0_7) = some r := by first | (rw [hji6] at H; exact H) | (simp only [hji6] at H ⊢; exact H)); (try rw [hji6] at A5); have hji6_ : (if x3_1 < t240 then t240 else x3_1) = ji6 := hji6; have H' := A_ H; clear H; have Z7 := bz8_ BK238; have p239 : 0 ≤ (x4_1 : Int) := od_; have q239 : x4_1 < (l0_7.length : Int) := od_; obtain ⟨ad239, A239_7, c239_7, e239, hx239_0, hx239_1, hx239_2, hx239_3, hx239_4, hx239_5, hx239_6, hx239_7, hl239_7, hi239_7⟩ := at_T26 HR0_7.out x4_1 p239 q239
     cases e239
     replace hx239_0 := cl_ HB hx239_0; replace hx239_1 := cl_ HB hx239_1; replace hx239_2 := cl_ HB hx239_2; replace hx239_3 := cl_ HB hx239_3; replace hx239_4 := cl_ HB hx239_4; replace hx239_5 := cl_ HB hx239_5; replace hx239_6 := cl_ HB hx239_6; replace hx239_7 := cl_ HB hx239_7; have HR239_7 := A_ hi239_7; have HC239_7 := A_ hl239_7; clear hi239_7 hl239_7; replace p239 := eq_true p239; replace q239 := eq_true q239; go_wp2_with (first | (refine gC 25 ?_; refine gL 18 Try.func25 #[.agg #[.int .i64 ((rd_T26 l0_7 x4_1).f0), .int .i64 ((rd_T26 l0_7 x4_1).f1.f0), .string ((rd_T26 l0_7 x4_1).f1.f1), .string ((rd_T26 l0_7 x4_1).f1.f2), .string ((rd_T26 l0_7 x4_1).f1.f3), .bool ((rd_T26 l0_7 x4_1).f2), .bool ((rd_T26 l0_7 x4_1).f3), .slice A239_7 ((rd_T26 l0_7 x4_1).f4).length c239_7]] ?_; (with_reducible refine (ih k1 (by have := HK1.out; omega) ((rd_T26 l0_7 x4_1).f0) ((rd_T26 l0_7 x4_1).f1.f0) ((rd_T26 l0_7 x4_1).f1.f1) ((rd_T26 l0_7 x4_1).f1.f2) ((rd_T26 l0_7 x4_1).f1.f3) ((rd_T26 l0_7 x4_1).f2) ((rd_T26 l0_7 x4_1).f3) _ _ ((rd_T26 l0_7 x4_1).f4) t240 _ ?side1 ?side2 A5.out).mono ?_); (case side1 => exact cb_ HR239_7); (case side2 => exact HC239_7.out); rintro e w8 ⟨rfl, hb⟩; refine ⟨_, rfl, ?_⟩; replace BK238 := bb_ BK238 hb; replace HB := bs_ hb; (try clear hb))); go_roundg k1
     case measure => have := HK1.out; omega
     case rel => exact ⟨(ji6), (wrap64 (x4_1 + 1)), (by first | rfl | (simp; done) | (simp only [← hji6] <;> (first | rfl | simp)) | (simp [*]; done)), rf_, H', ⟨by have := HK1.out; omega⟩, ⟨bl_ BK238.out⟩, ⟨hs_⟩⟩
    ·rw [if_neg c4] at H
     exact absurd H (by simp)
   ·rw [if_neg c3] at H
    have c3b0 := decide_eq_false c3; have c3b9 := c3b0; (try simp only [hl233_7] at c3b9); (try simp only [hl239_7] at c3b9); clear c3
    by_cases c9 : a0_0 = 2
    ·rw [if_pos c9] at H
     have c9b0 : (a0_0 == 2) = true := beq_iff_eq.mpr c9; have c9b1 : (a0_0 != 2) = false := bne_eq_false_iff_eq.mpr c9; clear c9; obtain rfl := Option.some.inj H; have Z10 := bz8_ BK238; go_wp2; go_ret; exact ⟨re_, hs_⟩
    ·rw [if_neg c9] at H
     have c9b0 : (a0_0 == 2) = false := beq_eq_false_iff_ne.mpr c9; have c9b1 : (a0_0 != 2) = true := bne_iff_ne.mpr c9; obtain rfl := Option.some.inj H; have Z11 := bz8_ BK238; go_wp2; go_ret; exact ⟨re_, hs_⟩
end Go.Proofs.Ytfehdlkklfcnpaa.A
namespace Go.Proofs.Ytfehdlkklfcnpaa.A
open Go.RowKit Go.Proofs.YtfehdlkklfcnpaaW.PrintWords Go.Proofs.YtfehdlkklfcnpaaW.PrintLast Go.Proofs.YtfehdlkklfcnpaaW.PrintMore
attribute [local go_sem] max2_int min2_int max_two min_two max_three min_three max_four min_four
attribute [local go_sem high] eqA23
attribute [local go_sem] isSome_setCell
set_option maxHeartbeats 8000000 in
set_option maxRecDepth 100000 in
theorem lustrumref10_bare.calls (a0_0 a0_1 : Int) (a0_2 a0_3 a0_4 : ByteArray) (a0_5 a0_6 : Bool) (A0_7 : Option Addr) (c0_7 : Nat) (l0_7 : List (S26)) (r : Bool) (w : World) (hr0_7 : Kd.C k26 w A0_7 l0_7.length l0_7) (hc0_7 : l0_7.length ≤ c0_7) (h : lustrumref10_bare.f a0_0 a0_1 a0_2 a0_3 a0_4 a0_5 a0_6 l0_7 = some r) :
  Calls Try.prog 51 #[.agg #[.int .i64 a0_0, .int .i64 a0_1, .string a0_2, .string a0_3, .string a0_4, .bool a0_5, .bool a0_6, .slice A0_7 l0_7.length c0_7]] w fun e w' => e = .returned (.bool r) ∧ Below w.heap.size w w' := by
 have hu26 := Try.underlying26; have hu23 := Try.underlying23; have HR0_7 := A_ hr0_7; have HC0_7 := A_ hc0_7; clear hr0_7 hc0_7; have HB := A_ (Below.refl w.heap.size w); have H : (if (a0_1 == 0 && (a0_2.toList == ([] : List UInt8) && (a0_3.toList == ([] : List UInt8) && (a0_4.toList == ([] : List UInt8))))) = true then (if a0_5 = true then (some false) else (some (!a0_6))) else (some false)) = some r := h; clear h
 by_cases c2 : (a0_1 == 0 && (a0_2.toList == ([] : List UInt8) && (a0_3.toList == ([] : List UInt8) && (a0_4.toList == ([] : List UInt8))))) = true
 ·rw [if_pos c2] at H
  have c2b0 : (a0_1 == 0 && (a0_2.toList == ([] : List UInt8) && (a0_3.toList == ([] : List UInt8) && (a0_4.toList == ([] : List UInt8))))) = true := c2; (try (have c2b9 : (a0_1 == 0 && (a0_2.toList.isEmpty && (a0_3.toList.isEmpty && (a0_4.toList.isEmpty)))) = true := by simpa using c2b0)); (try (have c2b1 : decide (a0_1 = 0 && (a0_2.toList == ([] : List UInt8) && (a0_3.toList == ([] : List UInt8) && (a0_4.toList == ([] : List UInt8))))) = true := by simpa using c2)); (try (have c2b2 : (a0_1 == 0 && (a0_2.toList == ([] : List UInt8) && (a0_3.toList == ([] : List UInt8) && (a0_4.toList == ([] : List UInt8))))) = true := by simpa using c2)); clear c2
  by_cases c3 : a0_5 = true
  ·subst c3
   replace H := iP_ H; obtain rfl := Option.some.inj H; go_enter Try.func51, Try.ntmps51; go_wp2_with (first | (refine gx_ w 1 (n8_ a0_0 a0_1 a0_2 a0_3 a0_4 true a0_6 (.slice A0_7 l0_7.length c0_7)) 26 ?_; clear HB; intro gb250 w4 BK250 GE250 HB; have GW250 := GE250) | (refine gD 3 ?_; refine bxe_ 3 z4_ 23 ?_; intro gb251 hg w5 hbox hb; have BK251 := A_ (hbox); have GW251 := gs_ w hg; have GE251 := gs_ w hg; replace HB := bs_ hb; have NB250_251 := nl_ BK250 hg; have NB251_250 := ng_ BK250 hg; replace BK250 := bb_ BK250 hb; clear hb hbox hg; have hnb6 := NB251_250.out; have hnc6 := NB250_251.out; have Z7 := bz4_ BK251; have Z8 := bz8_ BK250))
   go_ret; exact ⟨re_, hs_⟩
  ·replace c3 := Bool.eq_false_iff.mpr c3
   subst c3; replace H := iN_ H; obtain rfl := Option.some.inj H; go_enter Try.func51, Try.ntmps51; go_wp2_with (first | (refine gx_ w 1 (n8_ a0_0 a0_1 a0_2 a0_3 a0_4 false a0_6 (.slice A0_7 l0_7.length c0_7)) 26 ?_; clear HB; intro gb250 w9 BK250 GE250 HB; have GW250 := GE250) | (refine gD 3 ?_; refine bxe_ 3 z4_ 23 ?_; intro gb251 hg w10 hbox hb; have BK251 := A_ (hbox); have GW251 := gs_ w hg; have GE251 := gs_ w hg; replace HB := bs_ hb; have NB250_251 := nl_ BK250 hg; have NB251_250 := ng_ BK250 hg; replace BK250 := bb_ BK250 hb; clear hb hbox hg; have hnb11 := NB251_250.out; have hnc11 := NB250_251.out; have Z12 := bz4_ BK251; have Z13 := bz8_ BK250))
   go_ret; exact ⟨re_, hs_⟩
 ·rw [if_neg c2] at H
  (have c2b0 : (a0_1 == 0 && (a0_2.toList == ([] : List UInt8) && (a0_3.toList == ([] : List UInt8) && (a0_4.toList == ([] : List UInt8))))) = false := by simpa using c2); (try (have c2b9 : (a0_1 == 0 && (a0_2.toList.isEmpty && (a0_3.toList.isEmpty && (a0_4.toList.isEmpty)))) = false := by simpa using c2b0)); (try (have c2b1 : decide (a0_1 = 0 && (a0_2.toList == ([] : List UInt8) && (a0_3.toList == ([] : List UInt8) && (a0_4.toList == ([] : List UInt8))))) = false := by simpa using c2)); (try (have c2b2 : (a0_1 == 0 && (a0_2.toList == ([] : List UInt8) && (a0_3.toList == ([] : List UInt8) && (a0_4.toList == ([] : List UInt8))))) = false := by simpa using c2)); (try (have c2b3 : ¬ (a0_1 = 0 && (a0_2.toList == ([] : List UInt8) && (a0_3.toList == ([] : List UInt8) && (a0_4.toList == ([] : List UInt8))))) := by simpa using c2)); clear c2; obtain rfl := Option.some.inj H; go_enter Try.func51, Try.ntmps51; go_wp2_with (first | (refine gx_ w 1 (n8_ a0_0 a0_1 a0_2 a0_3 a0_4 a0_5 a0_6 (.slice A0_7 l0_7.length c0_7)) 26 ?_; clear HB; intro gb250 w14 BK250 GE250 HB; have GW250 := GE250) | (refine gD 3 ?_; refine bxe_ 3 z4_ 23 ?_; intro gb251 hg w15 hbox hb; have BK251 := A_ (hbox); have GW251 := gs_ w hg; have GE251 := gs_ w hg; replace HB := bs_ hb; have NB250_251 := nl_ BK250 hg; have NB251_250 := ng_ BK250 hg; replace BK250 := bb_ BK250 hb; clear hb hbox hg; have hnb16 := NB251_250.out; have hnc16 := NB250_251.out; have Z17 := bz4_ BK251; have Z18 := bz8_ BK250))
  go_ret; exact ⟨re_, hs_⟩
set_option maxHeartbeats 8000000 in
set_option maxRecDepth 100000 in
theorem lustrumref06_Sane.calls (k : Nat) (a0 : ByteArray) (r : Bool) (w : World) (h : lustrumref06_Sane.f k a0 = some r) :
  Calls Try.prog 70 #[.string a0] w fun e w' => e = .returned (.bool r) ∧ Drawn0 w w' := by
 have H : (lustrumref06_Sane.l0 k a0 0) = some r := h; clear h; have H' := A_ H; clear H; go_enter Try.func70, Try.ntmps70; go_wp2; go_loopg [3] k (fun kq v3 w' => ∃ (x3_1 : Int), v3 = .int .i64 x3_1 ∧ Aside0 (lustrumref06_Sane.l0 kq a0 x3_1 = some r) ∧ Aside0 (kq ≤ k) ∧ Drawn0 w w')
 case atStart => exact ⟨(0), rf_, H', ⟨Nat.le_refl _⟩, by repeat (first | exact Drawn0.refl _ | apply Drawn0.step)⟩
 case round =>
  clear H'; obtain ⟨x3_1, rfl, HA, HK1, ⟨m1, rfl⟩⟩ := hrel
  cases gk with
  | zero => exact absurd HA.out (by simp [lustrumref06_Sane.l0])
  | succ k1 =>
   have H := HA.out; clear HA; simp only [lustrumref06_Sane.l0] at H
   by_cases c2 : x3_1 < (a0.size : Int)
   ·rw [if_pos c2] at H
    have c2b0 := decide_eq_true c2; clear c2
    by_cases c3 : 0 ≤ x3_1
    ·rw [if_pos c3] at H
     have c3b0 := decide_eq_true c3; clear c3
     by_cases c5 : (bt a0 x3_1) < 48
     ·rw [if_pos c5] at H
      have c5b0 := decide_eq_true c5; clear c5
      by_cases c7 : (bt a0 x3_1) = 88
      ·rw [if_pos c7] at H
       have c7b0 : ((bt a0 x3_1) == 88) = true := beq_iff_eq.mpr c7; have c7b1 : ((bt a0 x3_1) != 88) = false := bne_eq_false_iff_eq.mpr c7; clear c7; have H' := A_ H; clear H; have p4 : 0 ≤ (x3_1 : Int) := od_; have q4 : x3_1 < (a0.size : Int) := od_; have hx4 := bt_at a0 x3_1; replace p4 := eq_true p4; replace q4 := eq_true q4; have p6 : 0 ≤ (x3_1 : Int) := od_; have q6 : x3_1 < (a0.size : Int) := od_; have hx6 := bt_at a0 x3_1; replace p6 := eq_true p6; replace q6 := eq_true q6; go_wp2; go_roundg k1
       case measure => have := HK1.out; omega
       case rel => exact ⟨(wrap64 (x3_1 + 1)), rf_, H', ⟨by have := HK1.out; omega⟩, by repeat (first | exact Drawn0.refl _ | apply Drawn0.step)⟩
      ·rw [if_neg c7] at H
       have c7b0 : ((bt a0 x3_1) == 88) = false := beq_eq_false_iff_ne.mpr c7; have c7b1 : ((bt a0 x3_1) != 88) = true := bne_iff_ne.mpr c7; obtain rfl := Option.some.inj H; have p4 : 0 ≤ (x3_1 : Int) := od_; have q4 : x3_1 < (a0.size : Int) := od_; have hx4 := bt_at a0 x3_1; replace p4 := eq_true p4; replace q4 := eq_true q4; have p6 : 0 ≤ (x3_1 : Int) := od_; have q6 : x3_1 < (a0.size : Int) := od_; have hx6 := bt_at a0 x3_1; replace p6 := eq_true p6; replace q6 := eq_true q6; go_wp2; go_ret; exact ⟨by first | rfl | (simp; done) | (simp [*]; done), by repeat (first | exact Drawn0.refl _ | apply Drawn0.step)⟩
     ·rw [if_neg c5] at H
      have c5b0 := decide_eq_false c5; clear c5
      by_cases c9 : (bt a0 x3_1) > 57
      ·rw [if_pos c9] at H
       have c9b0 := decide_eq_true c9; clear c9
       by_cases c11 : (bt a0 x3_1) = 88
       ·rw [if_pos c11] at H
        have c11b0 : ((bt a0 x3_1) == 88) = true := beq_iff_eq.mpr c11; have c11b1 : ((bt a0 x3_1) != 88) = false := bne_eq_false_iff_eq.mpr c11; clear c11; have H' := A_ H; clear H; have p4 : 0 ≤ (x3_1 : Int) := od_; have q4 : x3_1 < (a0.size : Int) := od_; have hx4 := bt_at a0 x3_1; replace p4 := eq_true p4; replace q4 := eq_true q4; have p8 : 0 ≤ (x3_1 : Int) := od_; have q8 : x3_1 < (a0.size : Int) := od_; have hx8 := bt_at a0 x3_1; replace p8 := eq_true p8; replace q8 := eq_true q8; have p10 : 0 ≤ (x3_1 : Int) := od_; have q10 : x3_1 < (a0.size : Int) := od_; have hx10 := bt_at a0 x3_1; replace p10 := eq_true p10; replace q10 := eq_true q10; go_wp2; go_roundg k1
        case measure => have := HK1.out; omega
        case rel => exact ⟨(wrap64 (x3_1 + 1)), rf_, H', ⟨by have := HK1.out; omega⟩, by repeat (first | exact Drawn0.refl _ | apply Drawn0.step)⟩
       ·rw [if_neg c11] at H
        have c11b0 : ((bt a0 x3_1) == 88) = false := beq_eq_false_iff_ne.mpr c11; have c11b1 : ((bt a0 x3_1) != 88) = true := bne_iff_ne.mpr c11; obtain rfl := Option.some.inj H; have p4 : 0 ≤ (x3_1 : Int) := od_; have q4 : x3_1 < (a0.size : Int) := od_; have hx4 := bt_at a0 x3_1; replace p4 := eq_true p4; replace q4 := eq_true q4; have p8 : 0 ≤ (x3_1 : Int) := od_; have q8 : x3_1 < (a0.size : Int) := od_; have hx8 := bt_at a0 x3_1; replace p8 := eq_true p8; replace q8 := eq_true q8; have p10 : 0 ≤ (x3_1 : Int) := od_; have q10 : x3_1 < (a0.size : Int) := od_; have hx10 := bt_at a0 x3_1; replace p10 := eq_true p10; replace q10 := eq_true q10; go_wp2; go_ret; exact ⟨by first | rfl | (simp; done) | (simp [*]; done), by repeat (first | exact Drawn0.refl _ | apply Drawn0.step)⟩
      ·rw [if_neg c9] at H
       have c9b0 := decide_eq_false c9; clear c9; have H' := A_ H; clear H; have p4 : 0 ≤ (x3_1 : Int) := od_; have q4 : x3_1 < (a0.size : Int) := od_; have hx4 := bt_at a0 x3_1; replace p4 := eq_true p4; replace q4 := eq_true q4; have p8 : 0 ≤ (x3_1 : Int) := od_; have q8 : x3_1 < (a0.size : Int) := od_; have hx8 := bt_at a0 x3_1; replace p8 := eq_true p8; replace q8 := eq_true q8; go_wp2; go_roundg k1
       case measure => have := HK1.out; omega
       case rel => exact ⟨(wrap64 (x3_1 + 1)), rf_, H', ⟨by have := HK1.out; omega⟩, by repeat (first | exact Drawn0.refl _ | apply Drawn0.step)⟩
    ·rw [if_neg c3] at H
     exact absurd H (by simp)
   ·rw [if_neg c2] at H
    have c2b0 := decide_eq_false c2; clear c2
    by_cases c12 : (a0.size : Int) ≥ 1
    ·rw [if_pos c12] at H
     have c12b0 := decide_eq_true c12; have c12b1 : decide (1 ≤ a0.size) = true := decide_eq_true (by omega); clear c12; obtain rfl := Option.some.inj H; go_wp2; go_ret; exact ⟨by first | rfl | (simp; done) | (simp [*]; done), by repeat (first | exact Drawn0.refl _ | apply Drawn0.step)⟩
    ·rw [if_neg c12] at H
     have c12b0 := decide_eq_false c12; have c12b1 : decide (1 ≤ a0.size) = false := decide_eq_false (by omega); clear c12; obtain rfl := Option.some.inj H; go_wp2; go_ret; exact ⟨by first | rfl | (simp; done) | (simp [*]; done), by repeat (first | exact Drawn0.refl _ | apply Drawn0.step)⟩
set_option maxHeartbeats 8000000 in
set_option maxRecDepth 100000 in
theorem lustrumref06_most.calls (k : Nat) (a0 r : Int) (w : World) (h : lustrumref06_most.f k a0 = some r) :
  Calls Try.prog 88 #[.int .i64 a0] w fun e w' => e = .returned (.int .i64 r) ∧ Drawn0 w w' := by
 have H : (lustrumref06_most.l0 k a0 1 0) = some r := h; clear h; have H' := A_ H; clear H; go_enter Try.func88, Try.ntmps88; go_wp2; go_loopg [3, 4] k (fun kq v3 v4 w' => ∃ (x3_1 : Int) (x4_1 : Int), v3 = .int .i64 x3_1 ∧ v4 = .int .i64 x4_1 ∧ Aside0 (lustrumref06_most.l0 kq a0 x3_1 x4_1 = some r) ∧ Aside0 (kq ≤ k) ∧ Drawn0 w w')
 case atStart => exact ⟨(1), (0), rf_, rf_, H', ⟨Nat.le_refl _⟩, by repeat (first | exact Drawn0.refl _ | apply Drawn0.step)⟩
 case round =>
  clear H'; obtain ⟨x3_1, x4_1, rfl, rfl, HA, HK1, ⟨m1, rfl⟩⟩ := hrel
  cases gk with
  | zero => exact absurd HA.out (by simp [lustrumref06_most.l0])
  | succ k1 =>
   have H := HA.out; clear HA; simp only [lustrumref06_most.l0] at H
   by_cases c2 : x4_1 < a0
   ·rw [if_pos c2] at H
    have c2b0 := decide_eq_true c2; clear c2; have H' := A_ H; clear H; go_wp2; go_roundg k1
    case measure => have := HK1.out; omega
    case rel => exact ⟨(wrap64 (x3_1 * 10)), (wrap64 (x4_1 + 1)), rf_, rf_, H', ⟨by have := HK1.out; omega⟩, by repeat (first | exact Drawn0.refl _ | apply Drawn0.step)⟩
   ·rw [if_neg c2] at H
    have c2b0 := decide_eq_false c2; clear c2; obtain rfl := Option.some.inj H; go_wp2; go_ret; exact ⟨by first | rfl | (simp; done) | (simp [*]; done), by repeat (first | exact Drawn0.refl _ | apply Drawn0.step)⟩
set_option maxHeartbeats 8000000 in
set_option maxRecDepth 100000 in
theorem lustrumref06_Match.calls (k : Nat) (a0 : ByteArray) (a1 : Int) (r : Bool) (w : World) (h : lustrumref06_Match.f k a0 a1 = some r) :
  Calls Try.prog 81 #[.string a0, .int .i64 a1] w fun e w' => e = .returned (.bool r) ∧ Drawn0 w w' := by
 have H : ((lustrumref06_Sane.f k a0).bind fun t241 => (if t241 = true then (if a1 < 0 then (lustrumref06_Match.j0 k a0 a1 true) else ((lustrumref06_most.f k (a0.size : Int)).bind fun t242 => (lustrumref06_Match.j0 k a0 a1 (decide (a1 ≥ t242))))) else (lustrumref06_Match.j0 k a0 a1 true))) = some r := h; clear h; have HC3 := A_ H; clear H; go_enter Try.func81, Try.ntmps81; go_upto_region 1 with (fail); go_cut [19] (fun v19 wc => ∃ (kq : Nat) (x19_2 : Bool), v19 = .bool x19_2 ∧ Aside0 (lustrumref06_Match.j0 kq a0 a1 x19_2 = some r) ∧ Aside0 (kq ≤ k) ∧ Drawn0 w wc)
 case first =>
  have H := HC3.out; clear HC3; obtain ⟨t241, A4, H⟩ := bi_ H
  by_cases c5 : t241 = true
  ·subst c5
   replace H := iP_ H
   by_cases c6 : a1 < 0
   ·rw [if_pos c6] at H
    have c6b0 := decide_eq_true c6; clear c6; (first | rw [c6b0] | (simp only [i64_w, i32_w]; rw [c6b0]) | skip); have H' := A_ H; clear H; go_wp2_with (first | (refine gC 70 ?_; refine gL 7 Try.func70 #[.string a0] ?_; (with_reducible refine (lustrumref06_Sane.calls k a0 true _ A4.out).mono ?_); rintro e w' ⟨rfl, ⟨nd, rfl⟩⟩; refine ⟨_, rfl, ?_⟩)); go_meet
    case rel => exact ⟨_, (true), rf_, H', ⟨by first | omega | exact Nat.le_refl _⟩, by repeat (first | exact Drawn0.refl _ | apply Drawn0.step)⟩
   ·rw [if_neg c6] at H
    have c6b0 := decide_eq_false c6; clear c6; (first | rw [c6b0] | (simp only [i64_w, i32_w]; rw [c6b0]) | skip); obtain ⟨t242, A7, H⟩ := bi_ H; have H' := A_ H; clear H; go_wp2_with (first | (refine gC 70 ?_; refine gL 7 Try.func70 #[.string a0] ?_; (with_reducible refine (lustrumref06_Sane.calls k a0 true _ A4.out).mono ?_); rintro e w' ⟨rfl, ⟨nd, rfl⟩⟩; refine ⟨_, rfl, ?_⟩) | (go_at_call 88; (with_reducible refine (lustrumref06_most.calls k (a0.size : Int) t242 _ A7.out).mono ?_); rintro e w' ⟨rfl, ⟨nd, rfl⟩⟩)); go_meet
    case rel => exact ⟨_, (decide (a1 ≥ t242)), rf_, H', ⟨by first | omega | exact Nat.le_refl _⟩, by repeat (first | exact Drawn0.refl _ | apply Drawn0.step)⟩
  ·replace c5 := Bool.eq_false_iff.mpr c5
   subst c5; replace H := iN_ H; have H' := A_ H; clear H; go_wp2_with (first | (refine gC 70 ?_; refine gL 7 Try.func70 #[.string a0] ?_; (with_reducible refine (lustrumref06_Sane.calls k a0 false _ A4.out).mono ?_); rintro e w' ⟨rfl, ⟨nd, rfl⟩⟩; refine ⟨_, rfl, ?_⟩)); go_meet
   case rel => exact ⟨_, (true), rf_, H', ⟨by first | omega | exact Nat.le_refl _⟩, by repeat (first | exact Drawn0.refl _ | apply Drawn0.step)⟩
 case rest =>
  clear HC3; (try clear p2); (try clear c5); (try clear c6); (try clear c6b0); (try clear c7); obtain ⟨kq, x19_2, rfl, HA, HJ2, ⟨mc2, rfl⟩⟩ := hcut
  cases kq with
  | zero => exact absurd HA.out (by simp [lustrumref06_Match.j0])
  | succ kj2 =>
   have H := HA.out; clear HA; simp only [lustrumref06_Match.j0] at H
   by_cases c8 : x19_2 = true
   ·subst c8
    replace H := iP_ H; obtain rfl := Option.some.inj H; go_wp2; go_ret; exact ⟨by first | rfl | (simp; done) | (simp [*]; done), by repeat (first | exact Drawn0.refl _ | apply Drawn0.step)⟩
   ·replace c8 := Bool.eq_false_iff.mpr c8
    subst c8; replace H := iN_ H; have H' := A_ H; clear H; go_wp2; go_loopg [1, 5] kj2 (fun kq v1 v5 w' => ∃ (x1_2 : Int) (x5_2 : Int), v1 = .int .i64 x1_2 ∧ v5 = .int .i64 x5_2 ∧ Aside0 (lustrumref06_Match.l0 kq a0 x1_2 x5_2 = some r) ∧ Aside0 (kq ≤ kj2) ∧ Drawn0 w w')
    case atStart => exact ⟨(a1), (wrap64 ((a0.size : Int) - 1)), rf_, rf_, H', ⟨Nat.le_refl _⟩, by repeat (first | exact Drawn0.refl _ | apply Drawn0.step)⟩
    case round =>
     clear H'; (try clear c2); (try clear p2); (try clear c5); (try clear c6); (try clear c6b0); (try clear p6); (try clear c7); (try clear c8); (try clear p2); obtain ⟨x1_2, x5_2, rfl, rfl, HA, HK2, ⟨m2, rfl⟩⟩ := hrel
     cases gk with
     | zero => exact absurd HA.out (by simp [lustrumref06_Match.l0])
     | succ k2 =>
      have H := HA.out; clear HA; simp only [lustrumref06_Match.l0] at H
      by_cases c9 : x5_2 ≥ 0
      ·rw [if_pos c9] at H
       have c9b0 := decide_eq_true c9; clear c9
       by_cases c10 : 0 ≤ x5_2
       ·rw [if_pos c10] at H
        have c10b0 := decide_eq_true c10; clear c10
        by_cases c11 : x5_2 < (a0.size : Int)
        ·rw [if_pos c11] at H
         have c11b0 := decide_eq_true c11; clear c11
         by_cases c13 : (bt a0 x5_2) = 88
         ·rw [if_pos c13] at H
          have c13b0 : ((bt a0 x5_2) == 88) = true := beq_iff_eq.mpr c13; have c13b1 : ((bt a0 x5_2) != 88) = false := bne_eq_false_iff_eq.mpr c13; clear c13; have H' := A_ H; clear H; have p12 : 0 ≤ (x5_2 : Int) := od_; have q12 : x5_2 < (a0.size : Int) := od_; have hx12 := bt_at a0 x5_2; replace p12 := eq_true p12; replace q12 := eq_true q12; go_wp2; go_roundg k2
          case measure => have := HJ2.out; have := HK2.out; omega
          case rel => exact ⟨(wrap64 (Int.tdiv x1_2 10)), (wrap64 (x5_2 - 1)), rf_, rf_, H', ⟨by have := HJ2.out; have := HK2.out; omega⟩, by repeat (first | exact Drawn0.refl _ | apply Drawn0.step)⟩
         ·rw [if_neg c13] at H
          have c13b0 : ((bt a0 x5_2) == 88) = false := beq_eq_false_iff_ne.mpr c13; have c13b1 : ((bt a0 x5_2) != 88) = true := bne_iff_ne.mpr c13
          by_cases c15 : (wrap64 ((wrap64 (bt a0 x5_2)) - 48)) = (Int.tmod x1_2 10)
          ·rw [if_pos c15] at H
           have c15b0 : ((wrap64 ((wrap64 (bt a0 x5_2)) - 48)) == (Int.tmod x1_2 10)) = true := beq_iff_eq.mpr c15; have c15b1 : ((wrap64 ((wrap64 (bt a0 x5_2)) - 48)) != (Int.tmod x1_2 10)) = false := bne_eq_false_iff_eq.mpr c15; clear c15; have H' := A_ H; clear H; have p12 : 0 ≤ (x5_2 : Int) := od_; have q12 : x5_2 < (a0.size : Int) := od_; have hx12 := bt_at a0 x5_2; replace p12 := eq_true p12; replace q12 := eq_true q12; have p14 : 0 ≤ (x5_2 : Int) := od_; have q14 : x5_2 < (a0.size : Int) := od_; have hx14 := bt_at a0 x5_2; replace p14 := eq_true p14; replace q14 := eq_true q14; go_wp2; go_roundg k2
           case measure => have := HJ2.out; have := HK2.out; omega
           case rel => exact ⟨(wrap64 (Int.tdiv x1_2 10)), (wrap64 (x5_2 - 1)), rf_, rf_, H', ⟨by have := HJ2.out; have := HK2.out; omega⟩, by repeat (first | exact Drawn0.refl _ | apply Drawn0.step)⟩
          ·rw [if_neg c15] at H
           have c15b0 : ((wrap64 ((wrap64 (bt a0 x5_2)) - 48)) == (Int.tmod x1_2 10)) = false := beq_eq_false_iff_ne.mpr c15; have c15b1 : ((wrap64 ((wrap64 (bt a0 x5_2)) - 48)) != (Int.tmod x1_2 10)) = true := bne_iff_ne.mpr c15; obtain rfl := Option.some.inj H; have p12 : 0 ≤ (x5_2 : Int) := od_; have q12 : x5_2 < (a0.size : Int) := od_; have hx12 := bt_at a0 x5_2; replace p12 := eq_true p12; replace q12 := eq_true q12; have p14 : 0 ≤ (x5_2 : Int) := od_; have q14 : x5_2 < (a0.size : Int) := od_; have hx14 := bt_at a0 x5_2; replace p14 := eq_true p14; replace q14 := eq_true q14; go_wp2; go_ret; exact ⟨by first | rfl | (simp; done) | (simp [*]; done), by repeat (first | exact Drawn0.refl _ | apply Drawn0.step)⟩
        ·rw [if_neg c11] at H
         exact absurd H (by simp)
       ·rw [if_neg c10] at H
        exact absurd H (by simp)
      ·rw [if_neg c9] at H
       have c9b0 := decide_eq_false c9; clear c9; obtain rfl := Option.some.inj H; go_wp2; go_ret; exact ⟨by first | rfl | (simp; done) | (simp [*]; done), by repeat (first | exact Drawn0.refl _ | apply Drawn0.step)⟩
set_option maxHeartbeats 8000000 in
set_option maxRecDepth 100000 in
theorem lustrumref08_some.calls (k : Nat) (a0 : ByteArray) (a1 a2 : Int) (r : Bool) (w : World) (h : lustrumref08_some.f k a0 a1 a2 = some r) :
  Calls Try.prog 71 #[.string a0, .int .i64 a1, .int .i64 a2] w fun e w' => e = .returned (.bool r) ∧ Drawn0 w w' := by
 have H : (if (a0.size : Int) = a1 then (lustrumref08_some.l0 k a0 a2 1) else (some false)) = some r := h; clear h
 by_cases c4 : (a0.size : Int) = a1
 ·rw [if_pos c4] at H
  have c4b0 : ((a0.size : Int) == a1) = true := beq_iff_eq.mpr c4; have c4b1 : ((a0.size : Int) != a1) = false := bne_eq_false_iff_eq.mpr c4; clear c4; have H' := A_ H; clear H; go_enter Try.func71, Try.ntmps71; go_wp2; go_loopg [7] k (fun kq v7 w' => ∃ (x7_1 : Int), v7 = .int .i64 x7_1 ∧ Aside0 (lustrumref08_some.l0 kq a0 a2 x7_1 = some r) ∧ Aside0 (kq ≤ k) ∧ Drawn0 w w')
  case atStart => exact ⟨(1), rf_, H', ⟨Nat.le_refl _⟩, by repeat (first | exact Drawn0.refl _ | apply Drawn0.step)⟩
  case round =>
   clear H'; (try clear p2); (try clear c4); (try clear c4b0); (try clear c4b1); obtain ⟨x7_1, rfl, HA, HK1, ⟨m1, rfl⟩⟩ := hrel
   cases gk with
   | zero => exact absurd HA.out (by simp [lustrumref08_some.l0])
   | succ k1 =>
    have H := HA.out; clear HA; simp only [lustrumref08_some.l0] at H
    by_cases c5 : x7_1 ≤ a2
    ·rw [if_pos c5] at H
     have c5b0 := decide_eq_true c5; clear c5; obtain ⟨t243, A6, H⟩ := bi_ H
     by_cases c7 : t243 = true
     ·subst c7
      replace H := iP_ H; obtain rfl := Option.some.inj H; go_wp2_with (first | (refine gC 81 ?_; refine gL 19 Try.func81 #[.string a0, .int .i64 x7_1] ?_; (with_reducible refine (lustrumref06_Match.calls k1 a0 x7_1 true _ A6.out).mono ?_); rintro e w' ⟨rfl, ⟨nd, rfl⟩⟩; refine ⟨_, rfl, ?_⟩)); go_ret; exact ⟨by first | rfl | (simp; done) | (simp [*]; done), by repeat (first | exact Drawn0.refl _ | apply Drawn0.step)⟩
     ·replace c7 := Bool.eq_false_iff.mpr c7
      subst c7; replace H := iN_ H; have H' := A_ H; clear H; go_wp2_with (first | (refine gC 81 ?_; refine gL 19 Try.func81 #[.string a0, .int .i64 x7_1] ?_; (with_reducible refine (lustrumref06_Match.calls k1 a0 x7_1 false _ A6.out).mono ?_); rintro e w' ⟨rfl, ⟨nd, rfl⟩⟩; refine ⟨_, rfl, ?_⟩)); go_roundg k1
      case measure => have := HK1.out; omega
      case rel => exact ⟨(wrap64 (x7_1 + 1)), rf_, H', ⟨by have := HK1.out; omega⟩, by repeat (first | exact Drawn0.refl _ | apply Drawn0.step)⟩
    ·rw [if_neg c5] at H
     have c5b0 := decide_eq_false c5; clear c5; obtain rfl := Option.some.inj H; go_wp2; go_ret; exact ⟨by first | rfl | (simp; done) | (simp [*]; done), by repeat (first | exact Drawn0.refl _ | apply Drawn0.step)⟩
 ·rw [if_neg c4] at H
  have c4b0 : ((a0.size : Int) == a1) = false := beq_eq_false_iff_ne.mpr c4; have c4b1 : ((a0.size : Int) != a1) = true := bne_iff_ne.mpr c4; obtain rfl := Option.some.inj H; go_enter Try.func71, Try.ntmps71; go_wp2; go_ret; exact ⟨by first | rfl | (simp; done) | (simp [*]; done), by repeat (first | exact Drawn0.refl _ | apply Drawn0.step)⟩
set_option maxHeartbeats 8000000 in
set_option maxRecDepth 100000 in
theorem lustrumref08_Sane.calls (k : Nat) (a0_0 : Int) (a0_1 a0_2 a0_3 : ByteArray) (r : Bool) (w : World) (h : lustrumref08_Sane.f k a0_0 a0_1 a0_2 a0_3 = some r) :
  Calls Try.prog 50 #[.agg #[.int .i64 a0_0, .string a0_1, .string a0_2, .string a0_3]] w fun e w' => e = .returned (.bool r) ∧ Below w.heap.size w w' := by
 have hu23 := Try.underlying23; have HB := A_ (Below.refl w.heap.size w); have H : ((lustrumref06_Sane.f k a0_1).bind fun t245 => (if t245 = true then (if a0_0 = 0 then (if (a0_1.size : Int) = 4 then ((lustrumref08_some.f k a0_2 2 12).bind fun t246 => (if t246 = true then ((lustrumref08_some.f k a0_3 2 31).bind fun t247 => (some t247)) else (some false))) else (some false)) else (if a0_0 = 1 then (if (a0_1.size : Int) = 4 then ((lustrumref08_some.f k a0_2 2 12).bind fun t248 => (if t248 = true then (some (a0_3.toList == ([] : List UInt8))) else (some false))) else (some false)) else (if a0_0 = 2 then (if (a0_1.size : Int) = 4 then ((lustrumref08_some.f k a0_2 1 4).bind fun t249 => (if t249 = true then (some (a0_3.toList == ([] : List UInt8))) else (some false))) else (some false)) else (if a0_0 = 3 then (if (a0_1.size : Int) = 4 then (if a0_2.toList = ([] : List UInt8) then (some (a0_3.toList == ([] : List UInt8))) else (some false)) else (some false)) else (if a0_0 = 4 then (if (a0_1.size : Int) = 3 then (if a0_2.toList = ([] : List UInt8) then (some (a0_3.toList == ([] : List UInt8))) else (some false)) else (some false)) else (if a0_0 = 5 then (if (a0_1.size : Int) = 2 then (if a0_2.toList = ([] : List UInt8) then (some (a0_3.toList == ([] : List UInt8))) else (some false)) else (some false)) else (some false))))))) else (some false))) = some r := h; clear h; obtain ⟨t245, A2, H⟩ := bi_ H
 by_cases c3 : t245 = true
 ·subst c3
  replace H := iP_ H
  by_cases c4 : a0_0 = 0
  ·rw [if_pos c4] at H
   have c4b0 : (a0_0 == 0) = true := beq_iff_eq.mpr c4; have c4b1 : (a0_0 != 0) = false := bne_eq_false_iff_eq.mpr c4; clear c4
   by_cases c5 : (a0_1.size : Int) = 4
   ·rw [if_pos c5] at H
    have c5b0 : ((a0_1.size : Int) == 4) = true := beq_iff_eq.mpr c5; have c5b1 : ((a0_1.size : Int) != 4) = false := bne_eq_false_iff_eq.mpr c5; clear c5; obtain ⟨t246, A6, H⟩ := bi_ H
    by_cases c7 : t246 = true
    ·subst c7
     replace H := iP_ H; obtain ⟨t247, A8, H⟩ := bi_ H; obtain rfl := Option.some.inj H; go_enter Try.func50, Try.ntmps50; go_wp2_with (first | (refine gx_ w 1 (n4_ a0_0 a0_1 a0_2 a0_3) 23 ?_; clear HB; intro gb244 w9 BK244 GE244 HB; have GW244 := GE244; have Z10 := bz4_ BK244) | (refine gC 70 ?_; refine gL 5 Try.func70 #[.string a0_1] ?_; (with_reducible refine (lustrumref06_Sane.calls k a0_1 true _ A2.out).mono ?_); rintro e w' ⟨rfl, ⟨nd, rfl⟩⟩; refine ⟨_, rfl, ?_⟩) | (go_at_call 71; (with_reducible refine (lustrumref08_some.calls k a0_2 2 12 true _ A6.out).mono ?_); rintro e w' ⟨rfl, ⟨nd, rfl⟩⟩) | (go_at_call 71; (with_reducible refine (lustrumref08_some.calls k a0_3 2 31 t247 _ A8.out).mono ?_); rintro e w' ⟨rfl, ⟨nd, rfl⟩⟩)); go_ret; exact ⟨re_, hs_⟩
    ·replace c7 := Bool.eq_false_iff.mpr c7
     subst c7; replace H := iN_ H; obtain rfl := Option.some.inj H; go_enter Try.func50, Try.ntmps50; go_wp2_with (first | (refine gx_ w 1 (n4_ a0_0 a0_1 a0_2 a0_3) 23 ?_; clear HB; intro gb244 w11 BK244 GE244 HB; have GW244 := GE244; have Z12 := bz4_ BK244) | (refine gC 70 ?_; refine gL 5 Try.func70 #[.string a0_1] ?_; (with_reducible refine (lustrumref06_Sane.calls k a0_1 true _ A2.out).mono ?_); rintro e w' ⟨rfl, ⟨nd, rfl⟩⟩; refine ⟨_, rfl, ?_⟩) | (go_at_call 71; (with_reducible refine (lustrumref08_some.calls k a0_2 2 12 false _ A6.out).mono ?_); rintro e w' ⟨rfl, ⟨nd, rfl⟩⟩)); go_ret; exact ⟨re_, hs_⟩
   ·rw [if_neg c5] at H
    have c5b0 : ((a0_1.size : Int) == 4) = false := beq_eq_false_iff_ne.mpr c5; have c5b1 : ((a0_1.size : Int) != 4) = true := bne_iff_ne.mpr c5; obtain rfl := Option.some.inj H; go_enter Try.func50, Try.ntmps50; go_wp2_with (first | (refine gx_ w 1 (n4_ a0_0 a0_1 a0_2 a0_3) 23 ?_; clear HB; intro gb244 w13 BK244 GE244 HB; have GW244 := GE244; have Z14 := bz4_ BK244) | (refine gC 70 ?_; refine gL 5 Try.func70 #[.string a0_1] ?_; (with_reducible refine (lustrumref06_Sane.calls k a0_1 true _ A2.out).mono ?_); rintro e w' ⟨rfl, ⟨nd, rfl⟩⟩; refine ⟨_, rfl, ?_⟩)); go_ret; exact ⟨re_, hs_⟩
  ·rw [if_neg c4] at H
   have c4b0 : (a0_0 == 0) = false := beq_eq_false_iff_ne.mpr c4; have c4b1 : (a0_0 != 0) = true := bne_iff_ne.mpr c4
   by_cases c15 : a0_0 = 1
   ·rw [if_pos c15] at H
    have c15b0 : (a0_0 == 1) = true := beq_iff_eq.mpr c15; have c15b1 : (a0_0 != 1) = false := bne_eq_false_iff_eq.mpr c15; clear c15
    by_cases c16 : (a0_1.size : Int) = 4
    ·rw [if_pos c16] at H
     have c16b0 : ((a0_1.size : Int) == 4) = true := beq_iff_eq.mpr c16; have c16b1 : ((a0_1.size : Int) != 4) = false := bne_eq_false_iff_eq.mpr c16; clear c16; obtain ⟨t248, A17, H⟩ := bi_ H
     by_cases c18 : t248 = true
     ·subst c18
      replace H := iP_ H; obtain rfl := Option.some.inj H; go_enter Try.func50, Try.ntmps50; go_wp2_with (first | (refine gx_ w 1 (n4_ a0_0 a0_1 a0_2 a0_3) 23 ?_; clear HB; intro gb244 w19 BK244 GE244 HB; have GW244 := GE244; have Z20 := bz4_ BK244) | (refine gC 70 ?_; refine gL 5 Try.func70 #[.string a0_1] ?_; (with_reducible refine (lustrumref06_Sane.calls k a0_1 true _ A2.out).mono ?_); rintro e w' ⟨rfl, ⟨nd, rfl⟩⟩; refine ⟨_, rfl, ?_⟩) | (go_at_call 71; (with_reducible refine (lustrumref08_some.calls k a0_2 2 12 true _ A17.out).mono ?_); rintro e w' ⟨rfl, ⟨nd, rfl⟩⟩)); go_ret; exact ⟨re_, hs_⟩
     ·replace c18 := Bool.eq_false_iff.mpr c18
      subst c18; replace H := iN_ H; obtain rfl := Option.some.inj H; go_enter Try.func50, Try.ntmps50; go_wp2_with (first | (refine gx_ w 1 (n4_ a0_0 a0_1 a0_2 a0_3) 23 ?_; clear HB; intro gb244 w21 BK244 GE244 HB; have GW244 := GE244; have Z22 := bz4_ BK244) | (refine gC 70 ?_; refine gL 5 Try.func70 #[.string a0_1] ?_; (with_reducible refine (lustrumref06_Sane.calls k a0_1 true _ A2.out).mono ?_); rintro e w' ⟨rfl, ⟨nd, rfl⟩⟩; refine ⟨_, rfl, ?_⟩) | (go_at_call 71; (with_reducible refine (lustrumref08_some.calls k a0_2 2 12 false _ A17.out).mono ?_); rintro e w' ⟨rfl, ⟨nd, rfl⟩⟩)); go_ret; exact ⟨re_, hs_⟩
    ·rw [if_neg c16] at H
     have c16b0 : ((a0_1.size : Int) == 4) = false := beq_eq_false_iff_ne.mpr c16; have c16b1 : ((a0_1.size : Int) != 4) = true := bne_iff_ne.mpr c16; obtain rfl := Option.some.inj H; go_enter Try.func50, Try.ntmps50; go_wp2_with (first | (refine gx_ w 1 (n4_ a0_0 a0_1 a0_2 a0_3) 23 ?_; clear HB; intro gb244 w23 BK244 GE244 HB; have GW244 := GE244; have Z24 := bz4_ BK244) | (refine gC 70 ?_; refine gL 5 Try.func70 #[.string a0_1] ?_; (with_reducible refine (lustrumref06_Sane.calls k a0_1 true _ A2.out).mono ?_); rintro e w' ⟨rfl, ⟨nd, rfl⟩⟩; refine ⟨_, rfl, ?_⟩)); go_ret; exact ⟨re_, hs_⟩
   ·rw [if_neg c15] at H
    have c15b0 : (a0_0 == 1) = false := beq_eq_false_iff_ne.mpr c15; have c15b1 : (a0_0 != 1) = true := bne_iff_ne.mpr c15
    by_cases c25 : a0_0 = 2
    ·rw [if_pos c25] at H
     have c25b0 : (a0_0 == 2) = true := beq_iff_eq.mpr c25; have c25b1 : (a0_0 != 2) = false := bne_eq_false_iff_eq.mpr c25; clear c25
     by_cases c26 : (a0_1.size : Int) = 4
     ·rw [if_pos c26] at H
      have c26b0 : ((a0_1.size : Int) == 4) = true := beq_iff_eq.mpr c26; have c26b1 : ((a0_1.size : Int) != 4) = false := bne_eq_false_iff_eq.mpr c26; clear c26; obtain ⟨t249, A27, H⟩ := bi_ H
      by_cases c28 : t249 = true
      ·subst c28
       replace H := iP_ H; obtain rfl := Option.some.inj H; go_enter Try.func50, Try.ntmps50; go_wp2_with (first | (refine gx_ w 1 (n4_ a0_0 a0_1 a0_2 a0_3) 23 ?_; clear HB; intro gb244 w29 BK244 GE244 HB; have GW244 := GE244; have Z30 := bz4_ BK244) | (refine gC 70 ?_; refine gL 5 Try.func70 #[.string a0_1] ?_; (with_reducible refine (lustrumref06_Sane.calls k a0_1 true _ A2.out).mono ?_); rintro e w' ⟨rfl, ⟨nd, rfl⟩⟩; refine ⟨_, rfl, ?_⟩) | (go_at_call 71; (with_reducible refine (lustrumref08_some.calls k a0_2 1 4 true _ A27.out).mono ?_); rintro e w' ⟨rfl, ⟨nd, rfl⟩⟩)); go_ret; exact ⟨re_, hs_⟩
      ·replace c28 := Bool.eq_false_iff.mpr c28
       subst c28; replace H := iN_ H; obtain rfl := Option.some.inj H; go_enter Try.func50, Try.ntmps50; go_wp2_with (first | (refine gx_ w 1 (n4_ a0_0 a0_1 a0_2 a0_3) 23 ?_; clear HB; intro gb244 w31 BK244 GE244 HB; have GW244 := GE244; have Z32 := bz4_ BK244) | (refine gC 70 ?_; refine gL 5 Try.func70 #[.string a0_1] ?_; (with_reducible refine (lustrumref06_Sane.calls k a0_1 true _ A2.out).mono ?_); rintro e w' ⟨rfl, ⟨nd, rfl⟩⟩; refine ⟨_, rfl, ?_⟩) | (go_at_call 71; (with_reducible refine (lustrumref08_some.calls k a0_2 1 4 false _ A27.out).mono ?_); rintro e w' ⟨rfl, ⟨nd, rfl⟩⟩)); go_ret; exact ⟨re_, hs_⟩
     ·rw [if_neg c26] at H
      have c26b0 : ((a0_1.size : Int) == 4) = false := beq_eq_false_iff_ne.mpr c26; have c26b1 : ((a0_1.size : Int) != 4) = true := bne_iff_ne.mpr c26; obtain rfl := Option.some.inj H; go_enter Try.func50, Try.ntmps50; go_wp2_with (first | (refine gx_ w 1 (n4_ a0_0 a0_1 a0_2 a0_3) 23 ?_; clear HB; intro gb244 w33 BK244 GE244 HB; have GW244 := GE244; have Z34 := bz4_ BK244) | (refine gC 70 ?_; refine gL 5 Try.func70 #[.string a0_1] ?_; (with_reducible refine (lustrumref06_Sane.calls k a0_1 true _ A2.out).mono ?_); rintro e w' ⟨rfl, ⟨nd, rfl⟩⟩; refine ⟨_, rfl, ?_⟩)); go_ret; exact ⟨re_, hs_⟩
    ·rw [if_neg c25] at H
     have c25b0 : (a0_0 == 2) = false := beq_eq_false_iff_ne.mpr c25; have c25b1 : (a0_0 != 2) = true := bne_iff_ne.mpr c25
     by_cases c35 : a0_0 = 3
     ·rw [if_pos c35] at H
      have c35b0 : (a0_0 == 3) = true := beq_iff_eq.mpr c35; have c35b1 : (a0_0 != 3) = false := bne_eq_false_iff_eq.mpr c35; clear c35
      by_cases c36 : (a0_1.size : Int) = 4
      ·rw [if_pos c36] at H
       have c36b0 : ((a0_1.size : Int) == 4) = true := beq_iff_eq.mpr c36; have c36b1 : ((a0_1.size : Int) != 4) = false := bne_eq_false_iff_eq.mpr c36; clear c36
       by_cases c37 : a0_2.toList = ([] : List UInt8)
       ·rw [if_pos c37] at H
        have c37b0 : (a0_2.toList == ([] : List UInt8)) = true := beq_iff_eq.mpr c37; (try (have c37b9 : (a0_2.toList.isEmpty) = true := by simpa using c37b0)); have c37b1 : (a0_2.toList != ([] : List UInt8)) = false := bne_eq_false_iff_eq.mpr c37; clear c37; obtain rfl := Option.some.inj H; go_enter Try.func50, Try.ntmps50; go_wp2_with (first | (refine gx_ w 1 (n4_ a0_0 a0_1 a0_2 a0_3) 23 ?_; clear HB; intro gb244 w38 BK244 GE244 HB; have GW244 := GE244; have Z39 := bz4_ BK244) | (refine gC 70 ?_; refine gL 5 Try.func70 #[.string a0_1] ?_; (with_reducible refine (lustrumref06_Sane.calls k a0_1 true _ A2.out).mono ?_); rintro e w' ⟨rfl, ⟨nd, rfl⟩⟩; refine ⟨_, rfl, ?_⟩)); go_ret; exact ⟨re_, hs_⟩
       ·rw [if_neg c37] at H
        have c37b0 : (a0_2.toList == ([] : List UInt8)) = false := beq_eq_false_iff_ne.mpr c37; (try (have c37b9 : (a0_2.toList.isEmpty) = false := by simpa using c37b0)); have c37b1 : (a0_2.toList != ([] : List UInt8)) = true := bne_iff_ne.mpr c37; obtain rfl := Option.some.inj H; go_enter Try.func50, Try.ntmps50; go_wp2_with (first | (refine gx_ w 1 (n4_ a0_0 a0_1 a0_2 a0_3) 23 ?_; clear HB; intro gb244 w40 BK244 GE244 HB; have GW244 := GE244; have Z41 := bz4_ BK244) | (refine gC 70 ?_; refine gL 5 Try.func70 #[.string a0_1] ?_; (with_reducible refine (lustrumref06_Sane.calls k a0_1 true _ A2.out).mono ?_); rintro e w' ⟨rfl, ⟨nd, rfl⟩⟩; refine ⟨_, rfl, ?_⟩)); go_ret; exact ⟨re_, hs_⟩
      ·rw [if_neg c36] at H
       have c36b0 : ((a0_1.size : Int) == 4) = false := beq_eq_false_iff_ne.mpr c36; have c36b1 : ((a0_1.size : Int) != 4) = true := bne_iff_ne.mpr c36; obtain rfl := Option.some.inj H; go_enter Try.func50, Try.ntmps50; go_wp2_with (first | (refine gx_ w 1 (n4_ a0_0 a0_1 a0_2 a0_3) 23 ?_; clear HB; intro gb244 w42 BK244 GE244 HB; have GW244 := GE244; have Z43 := bz4_ BK244) | (refine gC 70 ?_; refine gL 5 Try.func70 #[.string a0_1] ?_; (with_reducible refine (lustrumref06_Sane.calls k a0_1 true _ A2.out).mono ?_); rintro e w' ⟨rfl, ⟨nd, rfl⟩⟩; refine ⟨_, rfl, ?_⟩)); go_ret; exact ⟨re_, hs_⟩
     ·rw [if_neg c35] at H
      have c35b0 : (a0_0 == 3) = false := beq_eq_false_iff_ne.mpr c35; have c35b1 : (a0_0 != 3) = true := bne_iff_ne.mpr c35
      by_cases c44 : a0_0 = 4
      ·rw [if_pos c44] at H
       have c44b0 : (a0_0 == 4) = true := beq_iff_eq.mpr c44; have c44b1 : (a0_0 != 4) = false := bne_eq_false_iff_eq.mpr c44; clear c44
       by_cases c45 : (a0_1.size : Int) = 3
       ·rw [if_pos c45] at H
        have c45b0 : ((a0_1.size : Int) == 3) = true := beq_iff_eq.mpr c45; have c45b1 : ((a0_1.size : Int) != 3) = false := bne_eq_false_iff_eq.mpr c45; clear c45
        by_cases c46 : a0_2.toList = ([] : List UInt8)
        ·rw [if_pos c46] at H
         have c46b0 : (a0_2.toList == ([] : List UInt8)) = true := beq_iff_eq.mpr c46; (try (have c46b9 : (a0_2.toList.isEmpty) = true := by simpa using c46b0)); have c46b1 : (a0_2.toList != ([] : List UInt8)) = false := bne_eq_false_iff_eq.mpr c46; clear c46; obtain rfl := Option.some.inj H; go_enter Try.func50, Try.ntmps50; go_wp2_with (first | (refine gx_ w 1 (n4_ a0_0 a0_1 a0_2 a0_3) 23 ?_; clear HB; intro gb244 w47 BK244 GE244 HB; have GW244 := GE244; have Z48 := bz4_ BK244) | (refine gC 70 ?_; refine gL 5 Try.func70 #[.string a0_1] ?_; (with_reducible refine (lustrumref06_Sane.calls k a0_1 true _ A2.out).mono ?_); rintro e w' ⟨rfl, ⟨nd, rfl⟩⟩; refine ⟨_, rfl, ?_⟩)); go_ret; exact ⟨re_, hs_⟩
        ·rw [if_neg c46] at H
         have c46b0 : (a0_2.toList == ([] : List UInt8)) = false := beq_eq_false_iff_ne.mpr c46; (try (have c46b9 : (a0_2.toList.isEmpty) = false := by simpa using c46b0)); have c46b1 : (a0_2.toList != ([] : List UInt8)) = true := bne_iff_ne.mpr c46; obtain rfl := Option.some.inj H; go_enter Try.func50, Try.ntmps50; go_wp2_with (first | (refine gx_ w 1 (n4_ a0_0 a0_1 a0_2 a0_3) 23 ?_; clear HB; intro gb244 w49 BK244 GE244 HB; have GW244 := GE244; have Z50 := bz4_ BK244) | (refine gC 70 ?_; refine gL 5 Try.func70 #[.string a0_1] ?_; (with_reducible refine (lustrumref06_Sane.calls k a0_1 true _ A2.out).mono ?_); rintro e w' ⟨rfl, ⟨nd, rfl⟩⟩; refine ⟨_, rfl, ?_⟩)); go_ret; exact ⟨re_, hs_⟩
       ·rw [if_neg c45] at H
        have c45b0 : ((a0_1.size : Int) == 3) = false := beq_eq_false_iff_ne.mpr c45; have c45b1 : ((a0_1.size : Int) != 3) = true := bne_iff_ne.mpr c45; obtain rfl := Option.some.inj H; go_enter Try.func50, Try.ntmps50; go_wp2_with (first | (refine gx_ w 1 (n4_ a0_0 a0_1 a0_2 a0_3) 23 ?_; clear HB; intro gb244 w51 BK244 GE244 HB; have GW244 := GE244; have Z52 := bz4_ BK244) | (refine gC 70 ?_; refine gL 5 Try.func70 #[.string a0_1] ?_; (with_reducible refine (lustrumref06_Sane.calls k a0_1 true _ A2.out).mono ?_); rintro e w' ⟨rfl, ⟨nd, rfl⟩⟩; refine ⟨_, rfl, ?_⟩)); go_ret; exact ⟨re_, hs_⟩
      ·rw [if_neg c44] at H
       have c44b0 : (a0_0 == 4) = false := beq_eq_false_iff_ne.mpr c44; have c44b1 : (a0_0 != 4) = true := bne_iff_ne.mpr c44
       by_cases c53 : a0_0 = 5
       ·rw [if_pos c53] at H
        have c53b0 : (a0_0 == 5) = true := beq_iff_eq.mpr c53; have c53b1 : (a0_0 != 5) = false := bne_eq_false_iff_eq.mpr c53; clear c53
        by_cases c54 : (a0_1.size : Int) = 2
        ·rw [if_pos c54] at H
         have c54b0 : ((a0_1.size : Int) == 2) = true := beq_iff_eq.mpr c54; have c54b1 : ((a0_1.size : Int) != 2) = false := bne_eq_false_iff_eq.mpr c54; clear c54
         by_cases c55 : a0_2.toList = ([] : List UInt8)
         ·rw [if_pos c55] at H
          have c55b0 : (a0_2.toList == ([] : List UInt8)) = true := beq_iff_eq.mpr c55; (try (have c55b9 : (a0_2.toList.isEmpty) = true := by simpa using c55b0)); have c55b1 : (a0_2.toList != ([] : List UInt8)) = false := bne_eq_false_iff_eq.mpr c55; clear c55; obtain rfl := Option.some.inj H; go_enter Try.func50, Try.ntmps50; go_wp2_with (first | (refine gx_ w 1 (n4_ a0_0 a0_1 a0_2 a0_3) 23 ?_; clear HB; intro gb244 w56 BK244 GE244 HB; have GW244 := GE244; have Z57 := bz4_ BK244) | (refine gC 70 ?_; refine gL 5 Try.func70 #[.string a0_1] ?_; (with_reducible refine (lustrumref06_Sane.calls k a0_1 true _ A2.out).mono ?_); rintro e w' ⟨rfl, ⟨nd, rfl⟩⟩; refine ⟨_, rfl, ?_⟩)); go_ret; exact ⟨re_, hs_⟩
         ·rw [if_neg c55] at H
          have c55b0 : (a0_2.toList == ([] : List UInt8)) = false := beq_eq_false_iff_ne.mpr c55; (try (have c55b9 : (a0_2.toList.isEmpty) = false := by simpa using c55b0)); have c55b1 : (a0_2.toList != ([] : List UInt8)) = true := bne_iff_ne.mpr c55; obtain rfl := Option.some.inj H; go_enter Try.func50, Try.ntmps50; go_wp2_with (first | (refine gx_ w 1 (n4_ a0_0 a0_1 a0_2 a0_3) 23 ?_; clear HB; intro gb244 w58 BK244 GE244 HB; have GW244 := GE244; have Z59 := bz4_ BK244) | (refine gC 70 ?_; refine gL 5 Try.func70 #[.string a0_1] ?_; (with_reducible refine (lustrumref06_Sane.calls k a0_1 true _ A2.out).mono ?_); rintro e w' ⟨rfl, ⟨nd, rfl⟩⟩; refine ⟨_, rfl, ?_⟩)); go_ret; exact ⟨re_, hs_⟩
        ·rw [if_neg c54] at H
         have c54b0 : ((a0_1.size : Int) == 2) = false := beq_eq_false_iff_ne.mpr c54; have c54b1 : ((a0_1.size : Int) != 2) = true := bne_iff_ne.mpr c54; obtain rfl := Option.some.inj H; go_enter Try.func50, Try.ntmps50; go_wp2_with (first | (refine gx_ w 1 (n4_ a0_0 a0_1 a0_2 a0_3) 23 ?_; clear HB; intro gb244 w60 BK244 GE244 HB; have GW244 := GE244; have Z61 := bz4_ BK244) | (refine gC 70 ?_; refine gL 5 Try.func70 #[.string a0_1] ?_; (with_reducible refine (lustrumref06_Sane.calls k a0_1 true _ A2.out).mono ?_); rintro e w' ⟨rfl, ⟨nd, rfl⟩⟩; refine ⟨_, rfl, ?_⟩)); go_ret; exact ⟨re_, hs_⟩
       ·rw [if_neg c53] at H
        have c53b0 : (a0_0 == 5) = false := beq_eq_false_iff_ne.mpr c53; have c53b1 : (a0_0 != 5) = true := bne_iff_ne.mpr c53; obtain rfl := Option.some.inj H; go_enter Try.func50, Try.ntmps50; go_wp2_with (first | (refine gx_ w 1 (n4_ a0_0 a0_1 a0_2 a0_3) 23 ?_; clear HB; intro gb244 w62 BK244 GE244 HB; have GW244 := GE244; have Z63 := bz4_ BK244) | (refine gC 70 ?_; refine gL 5 Try.func70 #[.string a0_1] ?_; (with_reducible refine (lustrumref06_Sane.calls k a0_1 true _ A2.out).mono ?_); rintro e w' ⟨rfl, ⟨nd, rfl⟩⟩; refine ⟨_, rfl, ?_⟩)); go_ret; exact ⟨re_, hs_⟩
 ·replace c3 := Bool.eq_false_iff.mpr c3
  subst c3; replace H := iN_ H; obtain rfl := Option.some.inj H; go_enter Try.func50, Try.ntmps50; go_wp2_with (first | (refine gx_ w 1 (n4_ a0_0 a0_1 a0_2 a0_3) 23 ?_; clear HB; intro gb244 w64 BK244 GE244 HB; have GW244 := GE244; have Z65 := bz4_ BK244) | (refine gC 70 ?_; refine gL 5 Try.func70 #[.string a0_1] ?_; (with_reducible refine (lustrumref06_Sane.calls k a0_1 false _ A2.out).mono ?_); rintro e w' ⟨rfl, ⟨nd, rfl⟩⟩; refine ⟨_, rfl, ?_⟩)); go_ret; exact ⟨re_, hs_⟩
set_option maxHeartbeats 8000000 in
set_option maxRecDepth 100000 in
theorem lustrumref10_End.calls (k : Nat) (a0_0 a0_1 : Int) (a0_2 a0_3 a0_4 : ByteArray) (a0_5 a0_6 : Bool) (A0_7 : Option Addr) (c0_7 : Nat) (l0_7 : List (S26)) (r : Bool) (w : World) (hr0_7 : Kd.C k26 w A0_7 l0_7.length l0_7) (hc0_7 : l0_7.length ≤ c0_7) (h : lustrumref10_End.f k a0_0 a0_1 a0_2 a0_3 a0_4 a0_5 a0_6 l0_7 = some r) :
  Calls Try.prog 21 #[.agg #[.int .i64 a0_0, .int .i64 a0_1, .string a0_2, .string a0_3, .string a0_4, .bool a0_5, .bool a0_6, .slice A0_7 l0_7.length c0_7]] w fun e w' => e = .returned (.bool r) ∧ Below w.heap.size w w' := by
 have hu26 := Try.underlying26; have hu23 := Try.underlying23; have HR0_7 := A_ hr0_7; have HC0_7 := A_ hc0_7; clear hr0_7 hc0_7; have HB := A_ (Below.refl w.heap.size w); have H : (if (l0_7.length : Int) > 0 then (some false) else (if a0_0 = 0 then ((lustrumref08_Sane.f k a0_1 a0_2 a0_3 a0_4).bind fun t253 => (some t253)) else (if a0_0 = 3 then ((lustrumref10_bare.f a0_0 a0_1 a0_2 a0_3 a0_4 a0_5 a0_6 l0_7).bind fun t254 => (some t254)) else (if a0_0 = 4 then ((lustrumref10_bare.f a0_0 a0_1 a0_2 a0_3 a0_4 a0_5 a0_6 l0_7).bind fun t255 => (some t255)) else (some false))))) = some r := h; clear h
 by_cases c2 : (l0_7.length : Int) > 0
 ·rw [if_pos c2] at H
  have c2b0 := decide_eq_true c2; have c2b1 : decide (0 < l0_7.length) = true := decide_eq_true (by omega); clear c2; obtain rfl := Option.some.inj H; go_enter Try.func21, Try.ntmps21; go_wp2_with (first | (refine gx_ w 1 (n8_ a0_0 a0_1 a0_2 a0_3 a0_4 a0_5 a0_6 (.slice A0_7 l0_7.length c0_7)) 26 ?_; clear HB; intro gb252 w3 BK252 GE252 HB; have GW252 := GE252; have Z4 := bz8_ BK252)); go_ret; exact ⟨re_, hs_⟩
 ·rw [if_neg c2] at H
  have c2b0 := decide_eq_false c2; have c2b1 : decide (0 < l0_7.length) = false := decide_eq_false (by omega); clear c2
  by_cases c5 : a0_0 = 0
  ·rw [if_pos c5] at H
   have c5b0 : (a0_0 == 0) = true := beq_iff_eq.mpr c5; have c5b1 : (a0_0 != 0) = false := bne_eq_false_iff_eq.mpr c5; clear c5; obtain ⟨t253, A6, H⟩ := bi_ H; obtain rfl := Option.some.inj H; go_enter Try.func21, Try.ntmps21; go_wp2_with (first | (refine gx_ w 1 (n8_ a0_0 a0_1 a0_2 a0_3 a0_4 a0_5 a0_6 (.slice A0_7 l0_7.length c0_7)) 26 ?_; clear HB; intro gb252 w7 BK252 GE252 HB; have GW252 := GE252; have Z8 := bz8_ BK252) | (refine gC 50 ?_; refine gL 13 Try.func50 #[.agg (n4_ a0_1 a0_2 a0_3 a0_4)] ?_; (with_reducible refine (lustrumref08_Sane.calls k a0_1 a0_2 a0_3 a0_4 t253 _ A6.out).mono ?_); rintro e w9 ⟨rfl, hb⟩; refine ⟨_, rfl, ?_⟩; replace BK252 := bb_ BK252 hb; replace HB := bs_ hb; (try clear hb))); go_ret; exact ⟨re_, hs_⟩
  ·rw [if_neg c5] at H
   have c5b0 : (a0_0 == 0) = false := beq_eq_false_iff_ne.mpr c5; have c5b1 : (a0_0 != 0) = true := bne_iff_ne.mpr c5
   by_cases c10 : a0_0 = 3
   ·rw [if_pos c10] at H
    have c10b0 : (a0_0 == 3) = true := beq_iff_eq.mpr c10; have c10b1 : (a0_0 != 3) = false := bne_eq_false_iff_eq.mpr c10; clear c10; obtain ⟨t254, A11, H⟩ := bi_ H; obtain rfl := Option.some.inj H; go_enter Try.func21, Try.ntmps21; go_wp2_with (first | (refine gx_ w 1 (n8_ a0_0 a0_1 a0_2 a0_3 a0_4 a0_5 a0_6 (.slice A0_7 l0_7.length c0_7)) 26 ?_; clear HB; intro gb252 w12 BK252 GE252 HB; have GW252 := GE252; have Z13 := bz8_ BK252) | (refine gC 51 ?_; refine gL 18 Try.func51 #[.agg (n8_ a0_0 a0_1 a0_2 a0_3 a0_4 a0_5 a0_6 (.slice A0_7 l0_7.length c0_7))] ?_; (with_reducible refine (lustrumref10_bare.calls a0_0 a0_1 a0_2 a0_3 a0_4 a0_5 a0_6 _ _ l0_7 t254 _ ?side1 ?side2 A11.out).mono ?_); (case side1 => exact cb_ HR0_7); (case side2 => exact HC0_7.out); rintro e w14 ⟨rfl, hb⟩; refine ⟨_, rfl, ?_⟩; replace BK252 := bb_ BK252 hb; replace HB := bs_ hb; (try clear hb))); go_ret; exact ⟨re_, hs_⟩
   ·rw [if_neg c10] at H
    have c10b0 : (a0_0 == 3) = false := beq_eq_false_iff_ne.mpr c10; have c10b1 : (a0_0 != 3) = true := bne_iff_ne.mpr c10
    by_cases c15 : a0_0 = 4
    ·rw [if_pos c15] at H
     have c15b0 : (a0_0 == 4) = true := beq_iff_eq.mpr c15; have c15b1 : (a0_0 != 4) = false := bne_eq_false_iff_eq.mpr c15; clear c15; obtain ⟨t255, A16, H⟩ := bi_ H; obtain rfl := Option.some.inj H; go_enter Try.func21, Try.ntmps21; go_wp2_with (first | (refine gx_ w 1 (n8_ a0_0 a0_1 a0_2 a0_3 a0_4 a0_5 a0_6 (.slice A0_7 l0_7.length c0_7)) 26 ?_; clear HB; intro gb252 w17 BK252 GE252 HB; have GW252 := GE252; have Z18 := bz8_ BK252) | (refine gC 51 ?_; refine gL 18 Try.func51 #[.agg (n8_ a0_0 a0_1 a0_2 a0_3 a0_4 a0_5 a0_6 (.slice A0_7 l0_7.length c0_7))] ?_; (with_reducible refine (lustrumref10_bare.calls a0_0 a0_1 a0_2 a0_3 a0_4 a0_5 a0_6 _ _ l0_7 t255 _ ?side1 ?side2 A16.out).mono ?_); (case side1 => exact cb_ HR0_7); (case side2 => exact HC0_7.out); rintro e w19 ⟨rfl, hb⟩; refine ⟨_, rfl, ?_⟩; replace BK252 := bb_ BK252 hb; replace HB := bs_ hb; (try clear hb))); go_ret; exact ⟨re_, hs_⟩
    ·rw [if_neg c15] at H
     have c15b0 : (a0_0 == 4) = false := beq_eq_false_iff_ne.mpr c15; have c15b1 : (a0_0 != 4) = true := bne_iff_ne.mpr c15; obtain rfl := Option.some.inj H; go_enter Try.func21, Try.ntmps21; go_wp2_with (first | (refine gx_ w 1 (n8_ a0_0 a0_1 a0_2 a0_3 a0_4 a0_5 a0_6 (.slice A0_7 l0_7.length c0_7)) 26 ?_; clear HB; intro gb252 w20 BK252 GE252 HB; have GW252 := GE252; have Z21 := bz8_ BK252)); go_ret; exact ⟨re_, hs_⟩
set_option maxHeartbeats 8000000 in
set_option maxRecDepth 100000 in
theorem lustrumref10_right.calls (k : Nat) : ∀ (a0_0 a0_1 : Int) (a0_2 a0_3 a0_4 : ByteArray) (a0_5 a0_6 : Bool) (A0_7 : Option Addr) (c0_7 : Nat) (l0_7 : List (S26)) (r : Bool) (w : World) (hr0_7 : Kd.C k26 w A0_7 l0_7.length l0_7) (hc0_7 : l0_7.length ≤ c0_7) (h : lustrumref10_right.f k a0_0 a0_1 a0_2 a0_3 a0_4 a0_5 a0_6 l0_7 = some r),
  Calls Try.prog 48 #[.agg #[.int .i64 a0_0, .int .i64 a0_1, .string a0_2, .string a0_3, .string a0_4, .bool a0_5, .bool a0_6, .slice A0_7 l0_7.length c0_7]] w fun e w' => e = .returned (.bool r) ∧ Below w.heap.size w w' := by
 induction k using Nat.strongRecOn with
 | _ k ih =>
 intro a0_0 a0_1 a0_2 a0_3 a0_4 a0_5 a0_6 A0_7 c0_7 l0_7 r w hr0_7 hc0_7 h
 cases k with
 | zero => exact absurd h (by simp [lustrumref10_right.f])
 | succ k =>
 simp only [lustrumref10_right.f] at h; have hu26 := Try.underlying26; have HR0_7 := A_ hr0_7; have HC0_7 := A_ hc0_7; clear hr0_7 hc0_7; have HB := A_ (Below.refl w.heap.size w); have H : (if a0_0 = 0 then ((lustrumref10_End.f k a0_0 a0_1 a0_2 a0_3 a0_4 a0_5 a0_6 l0_7).bind fun t257 => (some t257)) else (if a0_0 = 1 then ((lustrumref10_bare.f a0_0 a0_1 a0_2 a0_3 a0_4 a0_5 a0_6 l0_7).bind fun t258 => (if t258 = true then (if (l0_7.length : Int) = 2 then (if 0 < (l0_7.length : Int) then ((lustrumref10_End.f k ((rd_T26 l0_7 0).f0) ((rd_T26 l0_7 0).f1.f0) ((rd_T26 l0_7 0).f1.f1) ((rd_T26 l0_7 0).f1.f2) ((rd_T26 l0_7 0).f1.f3) ((rd_T26 l0_7 0).f2) ((rd_T26 l0_7 0).f3) ((rd_T26 l0_7 0).f4)).bind fun t260 => (if t260 = true then (if 1 < (l0_7.length : Int) then ((lustrumref10_End.f k ((rd_T26 l0_7 1).f0) ((rd_T26 l0_7 1).f1.f0) ((rd_T26 l0_7 1).f1.f1) ((rd_T26 l0_7 1).f1.f2) ((rd_T26 l0_7 1).f1.f3) ((rd_T26 l0_7 1).f2) ((rd_T26 l0_7 1).f3) ((rd_T26 l0_7 1).f4)).bind fun t262 => (some t262)) else (none)) else (some false))) else (none)) else (some false)) else (some false))) else (if a0_0 = 2 then (lustrumref10_right.l0 k 0 a0_0 a0_1 a0_2 a0_3 a0_4 a0_5 a0_6 l0_7) else (some false)))) = some r := h; clear h
 by_cases c2 : a0_0 = 0
 ·rw [if_pos c2] at H
  have c2b0 : (a0_0 == 0) = true := beq_iff_eq.mpr c2; have c2b1 : (a0_0 != 0) = false := bne_eq_false_iff_eq.mpr c2; clear c2; obtain ⟨t257, A3, H⟩ := bi_ H; obtain rfl := Option.some.inj H; go_enter Try.func48, Try.ntmps48; go_wp2_with (first | (refine gD 1 ?_; (try (refine gate_guard (by rfl) ?_; dsimp only)); refine bxe_ 1 (n8_ a0_0 a0_1 a0_2 a0_3 a0_4 a0_5 a0_6 (.slice A0_7 l0_7.length c0_7)) 26 ?_; intro gb256 hg w4 hbox hb; have BK256 := A_ (hbox); have GW256 := gs_ w hg; have GE256 := gs_ w hg; replace HB := bs_ hb; clear hb hbox hg; have Z5 := bz8_ BK256) | (refine gC 21 ?_; refine gL 9 Try.func21 #[.agg (n8_ a0_0 a0_1 a0_2 a0_3 a0_4 a0_5 a0_6 (.slice A0_7 l0_7.length c0_7))] ?_; (with_reducible refine (lustrumref10_End.calls k a0_0 a0_1 a0_2 a0_3 a0_4 a0_5 a0_6 _ _ l0_7 t257 _ ?side1 ?side2 A3.out).mono ?_); (case side1 => exact cb_ HR0_7); (case side2 => exact HC0_7.out); rintro e w6 ⟨rfl, hb⟩; refine ⟨_, rfl, ?_⟩; replace BK256 := bb_ BK256 hb; replace HB := bs_ hb; (try clear hb))); go_ret; exact ⟨re_, hs_⟩
 ·rw [if_neg c2] at H
  have c2b0 : (a0_0 == 0) = false := beq_eq_false_iff_ne.mpr c2; have c2b1 : (a0_0 != 0) = true := bne_iff_ne.mpr c2
  by_cases c7 : a0_0 = 1
  ·rw [if_pos c7] at H
   have c7b0 : (a0_0 == 1) = true := beq_iff_eq.mpr c7; have c7b1 : (a0_0 != 1) = false := bne_eq_false_iff_eq.mpr c7; clear c7; obtain ⟨t258, A8, H⟩ := bi_ H
   by_cases c9 : t258 = true
   ·subst c9
    replace H := iP_ H
    by_cases c10 : (l0_7.length : Int) = 2
    ·rw [if_pos c10] at H
     have c10b0 : ((l0_7.length : Int) == 2) = true := beq_iff_eq.mpr c10; have c10b1 : ((l0_7.length : Int) != 2) = false := bne_eq_false_iff_eq.mpr c10; clear c10
     by_cases c11 : 0 < (l0_7.length : Int)
     ·rw [if_pos c11] at H
      have c11b0 := decide_eq_true c11; have c11b1 : decide (0 < l0_7.length) = true := decide_eq_true (by omega); clear c11; obtain ⟨t260, A12, H⟩ := bi_ H
      by_cases c13 : t260 = true
      ·subst c13
       replace H := iP_ H
       by_cases c14 : 1 < (l0_7.length : Int)
       ·rw [if_pos c14] at H
        have c14b0 := decide_eq_true c14; have c14b1 : decide (1 < l0_7.length) = true := decide_eq_true (by omega); clear c14; obtain ⟨t262, A15, H⟩ := bi_ H; obtain rfl := Option.some.inj H; go_enter Try.func48, Try.ntmps48; go_wp2_with (first | (refine gD 1 ?_; (try (refine gate_guard (by rfl) ?_; dsimp only)); refine bxe_ 1 (n8_ a0_0 a0_1 a0_2 a0_3 a0_4 a0_5 a0_6 (.slice A0_7 l0_7.length c0_7)) 26 ?_; intro gb256 hg w16 hbox hb; have BK256 := A_ (hbox); have GW256 := gs_ w hg; have GE256 := gs_ w hg; replace HB := bs_ hb; clear hb hbox hg; have Z17 := bz8_ BK256) | (refine gC 51 ?_; refine gL 13 Try.func51 #[.agg (n8_ a0_0 a0_1 a0_2 a0_3 a0_4 a0_5 a0_6 (.slice A0_7 l0_7.length c0_7))] ?_; (with_reducible refine (lustrumref10_bare.calls a0_0 a0_1 a0_2 a0_3 a0_4 a0_5 a0_6 _ _ l0_7 true _ ?side1 ?side2 A8.out).mono ?_); (case side1 => exact cb_ HR0_7); (case side2 => exact HC0_7.out); rintro e w18 ⟨rfl, hb⟩; refine ⟨_, rfl, ?_⟩; replace BK256 := bb_ BK256 hb; replace HB := bs_ hb; (try clear hb); have Z19 := bz8_ BK256; have p259 : 0 ≤ (0 : Int) := (by omega); have q259 : 0 < (l0_7.length : Int) := od_; obtain ⟨ad259, A259_7, c259_7, e259, hx259_0, hx259_1, hx259_2, hx259_3, hx259_4, hx259_5, hx259_6, hx259_7, hl259_7, hi259_7⟩ := at_T26 HR0_7.out 0 p259 q259; cases e259; have qi259 : (0 < l0_7.length) = True := eq_true (by omega); replace hx259_0 := ai_ hx259_0; replace hx259_1 := ai_ hx259_1; replace hx259_2 := ai_ hx259_2; replace hx259_3 := ai_ hx259_3; replace hx259_4 := ai_ hx259_4; replace hx259_5 := ai_ hx259_5; replace hx259_6 := ai_ hx259_6; replace hx259_7 := ai_ hx259_7; replace hx259_0 := cl_ HB hx259_0; replace hx259_1 := cl_ HB hx259_1; replace hx259_2 := cl_ HB hx259_2; replace hx259_3 := cl_ HB hx259_3; replace hx259_4 := cl_ HB hx259_4; replace hx259_5 := cl_ HB hx259_5; replace hx259_6 := cl_ HB hx259_6; replace hx259_7 := cl_ HB hx259_7; have HR259_7 := A_ hi259_7; have HC259_7 := A_ hl259_7; clear hi259_7 hl259_7; replace p259 := eq_true p259; replace q259 := eq_true q259) | (go_at_call 21; (with_reducible refine (lustrumref10_End.calls k ((rd_T26 l0_7 0).f0) ((rd_T26 l0_7 0).f1.f0) ((rd_T26 l0_7 0).f1.f1) ((rd_T26 l0_7 0).f1.f2) ((rd_T26 l0_7 0).f1.f3) ((rd_T26 l0_7 0).f2) ((rd_T26 l0_7 0).f3) _ _ ((rd_T26 l0_7 0).f4) true _ ?side1 ?side2 A12.out).mono ?_); (case side1 => exact cb_ HR259_7); (case side2 => exact HC259_7.out); rintro e w20 ⟨rfl, hb⟩; replace BK256 := bb_ BK256 hb; replace HB := bs_ hb; (try clear hb); have Z21 := bz8_ BK256; have p261 : 0 ≤ (1 : Int) := (by omega); have q261 : 1 < (l0_7.length : Int) := od_; obtain ⟨ad261, A261_7, c261_7, e261, hx261_0, hx261_1, hx261_2, hx261_3, hx261_4, hx261_5, hx261_6, hx261_7, hl261_7, hi261_7⟩ := at_T26 HR0_7.out 1 p261 q261; obtain rfl : ad259 = ad261 := (by injection e261); replace hx261_0 := aj_ hx261_0; replace hx261_1 := aj_ hx261_1; replace hx261_2 := aj_ hx261_2; replace hx261_3 := aj_ hx261_3; replace hx261_4 := aj_ hx261_4; replace hx261_5 := aj_ hx261_5; replace hx261_6 := aj_ hx261_6; replace hx261_7 := aj_ hx261_7; have qi261 : (1 < l0_7.length) = True := eq_true (by omega); (try rw [show ((1 : Int)).toNat = 1 from rfl] at hx261_0); (try rw [show 1 * 8 = 8 from rfl] at hx261_0); (try rw [show ((1 : Int)).toNat = 1 from rfl] at hx261_1); (try rw [show 1 * 8 = 8 from rfl] at hx261_1); (try rw [show ((1 : Int)).toNat = 1 from rfl] at hx261_2); (try rw [show 1 * 8 = 8 from rfl] at hx261_2); (try rw [show ((1 : Int)).toNat = 1 from rfl] at hx261_3); (try rw [show 1 * 8 = 8 from rfl] at hx261_3); (try rw [show ((1 : Int)).toNat = 1 from rfl] at hx261_4); (try rw [show 1 * 8 = 8 from rfl] at hx261_4); (try rw [show ((1 : Int)).toNat = 1 from rfl] at hx261_5); (try rw [show 1 * 8 = 8 from rfl] at hx261_5); (try rw [show ((1 : Int)).toNat = 1 from rfl] at hx261_6); (try rw [show 1 * 8 = 8 from rfl] at hx261_6); (try rw [show ((1 : Int)).toNat = 1 from rfl] at hx261_7); (try rw [show 1 * 8 = 8 from rfl] at hx261_7); replace hx261_0 := cl_ HB hx261_0; replace hx261_1 := cl_ HB hx261_1; replace hx261_2 := cl_ HB hx261_2; replace hx261_3 := cl_ HB hx261_3; replace hx261_4 := cl_ HB hx261_4; replace hx261_5 := cl_ HB hx261_5; replace hx261_6 := cl_ HB hx261_6; replace hx261_7 := cl_ HB hx261_7; have HR261_7 := A_ hi261_7; have HC261_7 := A_ hl261_7; clear hi261_7 hl261_7; replace p261 := eq_true p261; replace q261 := eq_true q261) | (go_at_call 21; (with_reducible refine (lustrumref10_End.calls k ((rd_T26 l0_7 1).f0) ((rd_T26 l0_7 1).f1.f0) ((rd_T26 l0_7 1).f1.f1) ((rd_T26 l0_7 1).f1.f2) ((rd_T26 l0_7 1).f1.f3) ((rd_T26 l0_7 1).f2) ((rd_T26 l0_7 1).f3) _ _ ((rd_T26 l0_7 1).f4) t262 _ ?side1 ?side2 A15.out).mono ?_); (case side1 => exact cb_ HR261_7); (case side2 => exact HC261_7.out); rintro e w22 ⟨rfl, hb⟩; replace BK256 := bb_ BK256 hb; replace HB := bs_ hb; (try clear hb)))
        go_ret; exact ⟨re_, hs_⟩
       ·rw [if_neg c14] at H
        exact absurd H (by simp)
      ·replace c13 := Bool.eq_false_iff.mpr c13
       subst c13; replace H := iN_ H; obtain rfl := Option.some.inj H; go_enter Try.func48, Try.ntmps48; go_wp2_with (first | (refine gD 1 ?_; (try (refine gate_guard (by rfl) ?_; dsimp only)); refine bxe_ 1 (n8_ a0_0 a0_1 a0_2 a0_3 a0_4 a0_5 a0_6 (.slice A0_7 l0_7.length c0_7)) 26 ?_; intro gb256 hg w23 hbox hb; have BK256 := A_ (hbox); have GW256 := gs_ w hg; have GE256 := gs_ w hg; replace HB := bs_ hb; clear hb hbox hg; have Z24 := bz8_ BK256) | (refine gC 51 ?_; refine gL 13 Try.func51 #[.agg (n8_ a0_0 a0_1 a0_2 a0_3 a0_4 a0_5 a0_6 (.slice A0_7 l0_7.length c0_7))] ?_; (with_reducible refine (lustrumref10_bare.calls a0_0 a0_1 a0_2 a0_3 a0_4 a0_5 a0_6 _ _ l0_7 true _ ?side1 ?side2 A8.out).mono ?_); (case side1 => exact cb_ HR0_7); (case side2 => exact HC0_7.out); rintro e w25 ⟨rfl, hb⟩; refine ⟨_, rfl, ?_⟩; replace BK256 := bb_ BK256 hb; replace HB := bs_ hb; (try clear hb); have Z26 := bz8_ BK256; have p259 : 0 ≤ (0 : Int) := (by omega); have q259 : 0 < (l0_7.length : Int) := od_; obtain ⟨ad259, A259_7, c259_7, e259, hx259_0, hx259_1, hx259_2, hx259_3, hx259_4, hx259_5, hx259_6, hx259_7, hl259_7, hi259_7⟩ := at_T26 HR0_7.out 0 p259 q259; cases e259; have qi259 : (0 < l0_7.length) = True := eq_true (by omega); replace hx259_0 := ai_ hx259_0; replace hx259_1 := ai_ hx259_1; replace hx259_2 := ai_ hx259_2; replace hx259_3 := ai_ hx259_3; replace hx259_4 := ai_ hx259_4; replace hx259_5 := ai_ hx259_5; replace hx259_6 := ai_ hx259_6; replace hx259_7 := ai_ hx259_7; replace hx259_0 := cl_ HB hx259_0; replace hx259_1 := cl_ HB hx259_1; replace hx259_2 := cl_ HB hx259_2; replace hx259_3 := cl_ HB hx259_3; replace hx259_4 := cl_ HB hx259_4; replace hx259_5 := cl_ HB hx259_5; replace hx259_6 := cl_ HB hx259_6; replace hx259_7 := cl_ HB hx259_7; have HR259_7 := A_ hi259_7; have HC259_7 := A_ hl259_7; clear hi259_7 hl259_7; replace p259 := eq_true p259; replace q259 := eq_true q259) | (go_at_call 21; (with_reducible refine (lustrumref10_End.calls k ((rd_T26 l0_7 0).f0) ((rd_T26 l0_7 0).f1.f0) ((rd_T26 l0_7 0).f1.f1) ((rd_T26 l0_7 0).f1.f2) ((rd_T26 l0_7 0).f1.f3) ((rd_T26 l0_7 0).f2) ((rd_T26 l0_7 0).f3) _ _ ((rd_T26 l0_7 0).f4) false _ ?side1 ?side2 A12.out).mono ?_); (case side1 => exact cb_ HR259_7); (case side2 => exact HC259_7.out); rintro e w27 ⟨rfl, hb⟩; replace BK256 := bb_ BK256 hb; replace HB := bs_ hb; (try clear hb)))
       go_ret; exact ⟨re_, hs_⟩
     ·rw [if_neg c11] at H
      exact absurd H (by simp)
    ·rw [if_neg c10] at H
     have c10b0 : ((l0_7.length : Int) == 2) = false := beq_eq_false_iff_ne.mpr c10; have c10b1 : ((l0_7.length : Int) != 2) = true := bne_iff_ne.mpr c10; obtain rfl := Option.some.inj H; go_enter Try.func48, Try.ntmps48; go_wp2_with (first | (refine gD 1 ?_; (try (refine gate_guard (by rfl) ?_; dsimp only)); refine bxe_ 1 (n8_ a0_0 a0_1 a0_2 a0_3 a0_4 a0_5 a0_6 (.slice A0_7 l0_7.length c0_7)) 26 ?_; intro gb256 hg w28 hbox hb; have BK256 := A_ (hbox); have GW256 := gs_ w hg; have GE256 := gs_ w hg; replace HB := bs_ hb; clear hb hbox hg; have Z29 := bz8_ BK256) | (refine gC 51 ?_; refine gL 13 Try.func51 #[.agg (n8_ a0_0 a0_1 a0_2 a0_3 a0_4 a0_5 a0_6 (.slice A0_7 l0_7.length c0_7))] ?_; (with_reducible refine (lustrumref10_bare.calls a0_0 a0_1 a0_2 a0_3 a0_4 a0_5 a0_6 _ _ l0_7 true _ ?side1 ?side2 A8.out).mono ?_); (case side1 => exact cb_ HR0_7); (case side2 => exact HC0_7.out); rintro e w30 ⟨rfl, hb⟩; refine ⟨_, rfl, ?_⟩; replace BK256 := bb_ BK256 hb; replace HB := bs_ hb; (try clear hb); have Z31 := bz8_ BK256))
     go_ret; exact ⟨re_, hs_⟩
   ·replace c9 := Bool.eq_false_iff.mpr c9
    subst c9; replace H := iN_ H; obtain rfl := Option.some.inj H; go_enter Try.func48, Try.ntmps48; go_wp2_with (first | (refine gD 1 ?_; (try (refine gate_guard (by rfl) ?_; dsimp only)); refine bxe_ 1 (n8_ a0_0 a0_1 a0_2 a0_3 a0_4 a0_5 a0_6 (.slice A0_7 l0_7.length c0_7)) 26 ?_; intro gb256 hg w32 hbox hb; have BK256 := A_ (hbox); have GW256 := gs_ w hg; have GE256 := gs_ w hg; replace HB := bs_ hb; clear hb hbox hg; have Z33 := bz8_ BK256) | (refine gC 51 ?_; refine gL 13 Try.func51 #[.agg (n8_ a0_0 a0_1 a0_2 a0_3 a0_4 a0_5 a0_6 (.slice A0_7 l0_7.length c0_7))] ?_; (with_reducible refine (lustrumref10_bare.calls a0_0 a0_1 a0_2 a0_3 a0_4 a0_5 a0_6 _ _ l0_7 false _ ?side1 ?side2 A8.out).mono ?_); (case side1 => exact cb_ HR0_7); (case side2 => exact HC0_7.out); rintro e w34 ⟨rfl, hb⟩; refine ⟨_, rfl, ?_⟩; replace BK256 := bb_ BK256 hb; replace HB := bs_ hb; (try clear hb))); go_ret; exact ⟨re_, hs_⟩
  ·rw [if_neg c7] at H
   have c7b0 : (a0_0 == 1) = false := beq_eq_false_iff_ne.mpr c7; have c7b1 : (a0_0 != 1) = true := bne_iff_ne.mpr c7
   by_cases c35 : a0_0 = 2
   ·rw [if_pos c35] at H
    have c35b0 : (a0_0 == 2) = true := beq_iff_eq.mpr c35; have c35b1 : (a0_0 != 2) = false := bne_eq_false_iff_eq.mpr c35; clear c35; have H' := A_ H; clear H; go_enter Try.func48, Try.ntmps48; go_wp2_with (first | (refine gD 1 ?_; (try (refine gate_guard (by rfl) ?_; dsimp only)); refine bxe_ 1 (n8_ a0_0 a0_1 a0_2 a0_3 a0_4 a0_5 a0_6 (.slice A0_7 l0_7.length c0_7)) 26 ?_; intro gb256 hg w36 hbox hb; have BK256 := A_ (hbox); have GW256 := gs_ w hg; have GE256 := gs_ w hg; replace HB := bs_ hb; clear hb hbox hg; have Z37 := bz8_ BK256)); go_loopg [3] k (fun kq v3 w' => ∃ (x3_1 : Int), v3 = .int .i64 x3_1 ∧ Aside0 (lustrumref10_right.l0 kq x3_1 a0_0 a0_1 a0_2 a0_3 a0_4 a0_5 a0_6 l0_7 = some r) ∧ Aside0 (kq ≤ k) ∧ Aside0 (w'.heap[gb256]? = some (.cells #[.int .i64 a0_0, .int .i64 a0_1, .string a0_2, .string a0_3, .string a0_4, .bool a0_5, .bool a0_6, (.slice A0_7 l0_7.length c0_7)] 26 (0, 0))) ∧ Aside0 (Below w.heap.size w w'))
    case atStart => exact ⟨(0), rf_, H', ⟨Nat.le_refl _⟩, ⟨bl_ BK256.out⟩, ⟨hs_⟩⟩
    case round =>
     clear H'; (try clear c1); (try clear c2); (try clear c2b0); (try clear c2b1); (try clear p2); (try clear q2); (try clear hx2); (try clear qi2); (try clear c3); (try clear c4); (try clear c5); (try clear c7); (try clear c7b0); (try clear c7b1); (try clear c9); (try clear c10); (try clear c10b0); (try clear c10b1); (try clear c11); (try clear c11b0); (try clear c11b1); (try clear c13); (try clear c14); (try clear c14b0); (try clear c14b1); (try clear c21); (try clear c25); (try clear p25); (try clear q25); (try clear hx25); (try clear qi25); (try clear c26); (try clear p26); (try clear q26); (try clear hx26); (try clear qi26); (try clear c35); (try clear c35b0); (try clear c35b1); (try clear Z17); (try clear Z19); (try clear Z21); (try clear Z24); (try clear Z26); (try clear Z29); (try clear Z31); (try clear Z33); (try clear Z37); (try clear Z5)
     (try clear Z5); (try clear hx259_0); (try clear hx259_1); (try clear hx259_2); (try clear hx259_3); (try clear hx259_4); (try clear hx259_5); (try clear hx259_6); (try clear hx259_7); (try clear hx261_0); (try clear hx261_1); (try clear hx261_2); (try clear hx261_3); (try clear hx261_4); (try clear hx261_5); (try clear hx261_6); (try clear hx261_7); (try clear p259); (try clear p261); (try clear q259); (try clear q261); obtain ⟨x3_1, rfl, HA, HK1, BK256, HB⟩ := hrel
     cases gk with
     | zero => exact absurd HA.out (by simp [lustrumref10_right.l0])
     | succ k1 =>
      have H := HA.out; clear HA; simp only [lustrumref10_right.l0] at H
      by_cases c38 : x3_1 < (l0_7.length : Int)
      ·rw [if_pos c38] at H
       have c38b0 := decide_eq_true c38; clear c38
       by_cases c39 : 0 ≤ x3_1
       ·rw [if_pos c39] at H
        have c39b0 := decide_eq_true c39; clear c39; obtain ⟨t264, A40, H⟩ := bi_ H
        by_cases c41 : t264 = true
        ·subst c41
         replace H := iP_ H; have H' := A_ H; clear H; have Z42 := bz8_ BK256; have p263 : 0 ≤ (x3_1 : Int) := od_; have q263 : x3_1 < (l0_7.length : Int) := od_; obtain ⟨ad263, A263_7, c263_7, e263, hx263_0, hx263_1, hx263_2, hx263_3, hx263_4, hx263_5, hx263_6, hx263_7, hl263_7, hi263_7⟩ := at_T26 HR0_7.out x3_1 p263 q263
         cases e263
         replace hx263_0 := cl_ HB hx263_0; replace hx263_1 := cl_ HB hx263_1; replace hx263_2 := cl_ HB hx263_2; replace hx263_3 := cl_ HB hx263_3; replace hx263_4 := cl_ HB hx263_4; replace hx263_5 := cl_ HB hx263_5; replace hx263_6 := cl_ HB hx263_6; replace hx263_7 := cl_ HB hx263_7; have HR263_7 := A_ hi263_7; have HC263_7 := A_ hl263_7; clear hi263_7 hl263_7; replace p263 := eq_true p263; replace q263 := eq_true q263; go_wp2_with (first | (refine gC 48 ?_; refine gL 48 Try.func48 #[.agg #[.int .i64 ((rd_T26 l0_7 x3_1).f0), .int .i64 ((rd_T26 l0_7 x3_1).f1.f0), .string ((rd_T26 l0_7 x3_1).f1.f1), .string ((rd_T26 l0_7 x3_1).f1.f2), .string ((rd_T26 l0_7 x3_1).f1.f3), .bool ((rd_T26 l0_7 x3_1).f2), .bool ((rd_T26 l0_7 x3_1).f3), .slice A263_7 ((rd_T26 l0_7 x3_1).f4).length c263_7]] ?_; (with_reducible refine (ih k1 (by have := HK1.out; omega) ((rd_T26 l0_7 x3_1).f0) ((rd_T26 l0_7 x3_1).f1.f0) ((rd_T26 l0_7 x3_1).f1.f1) ((rd_T26 l0_7 x3_1).f1.f2) ((rd_T26 l0_7 x3_1).f1.f3) ((rd_T26 l0_7 x3_1).f2) ((rd_T26 l0_7 x3_1).f3) _ _ ((rd_T26 l0_7 x3_1).f4) true _ ?side1 ?side2 A40.out).mono ?_); (case side1 => exact cb_ HR263_7); (case side2 => exact HC263_7.out); rintro e w43 ⟨rfl, hb⟩; refine ⟨_, rfl, ?_⟩; replace BK256 := bb_ BK256 hb; replace HB := bs_ hb; (try clear hb))); go_roundg k1
         case measure => have := HK1.out; omega
         case rel => exact ⟨(wrap64 (x3_1 + 1)), rf_, H', ⟨by have := HK1.out; omega⟩, ⟨bl_ BK256.out⟩, ⟨hs_⟩⟩
        ·replace c41 := Bool.eq_false_iff.mpr c41
         subst c41; replace H := iN_ H; obtain rfl := Option.some.inj H; have Z44 := bz8_ BK256; have p263 : 0 ≤ (x3_1 : Int) := od_; have q263 : x3_1 < (l0_7.length : Int) := od_; obtain ⟨ad263, A263_7, c263_7, e263, hx263_0, hx263_1, hx263_2, hx263_3, hx263_4, hx263_5, hx263_6, hx263_7, hl263_7, hi263_7⟩ := at_T26 HR0_7.out x3_1 p263 q263
         cases e263
         replace hx263_0 := cl_ HB hx263_0; replace hx263_1 := cl_ HB hx263_1; replace hx263_2 := cl_ HB hx263_2; replace hx263_3 := cl_ HB hx263_3; replace hx263_4 := cl_ HB hx263_4; replace hx263_5 := cl_ HB hx263_5; replace hx263_6 := cl_ HB hx263_6; replace hx263_7 := cl_ HB hx263_7; have HR263_7 := A_ hi263_7; have HC263_7 := A_ hl263_7; clear hi263_7 hl263_7; replace p263 := eq_true p263; replace q263 := eq_true q263; go_wp2_with (first | (refine gC 48 ?_; refine gL 48 Try.func48 #[.agg #[.int .i64 ((rd_T26 l0_7 x3_1).f0), .int .i64 ((rd_T26 l0_7 x3_1).f1.f0), .string ((rd_T26 l0_7 x3_1).f1.f1), .string ((rd_T26 l0_7 x3_1).f1.f2), .string ((rd_T26 l0_7 x3_1).f1.f3), .bool ((rd_T26 l0_7 x3_1).f2), .bool ((rd_T26 l0_7 x3_1).f3), .slice A263_7 ((rd_T26 l0_7 x3_1).f4).length c263_7]] ?_; (with_reducible refine (ih k1 (by have := HK1.out; omega) ((rd_T26 l0_7 x3_1).f0) ((rd_T26 l0_7 x3_1).f1.f0) ((rd_T26 l0_7 x3_1).f1.f1) ((rd_T26 l0_7 x3_1).f1.f2) ((rd_T26 l0_7 x3_1).f1.f3) ((rd_T26 l0_7 x3_1).f2) ((rd_T26 l0_7 x3_1).f3) _ _ ((rd_T26 l0_7 x3_1).f4) false _ ?side1 ?side2 A40.out).mono ?_); (case side1 => exact cb_ HR263_7); (case side2 => exact HC263_7.out); rintro e w45 ⟨rfl, hb⟩; refine ⟨_, rfl, ?_⟩; replace BK256 := bb_ BK256 hb; replace HB := bs_ hb; (try clear hb))); go_ret; exact ⟨re_, hs_⟩
       ·rw [if_neg c39] at H
        exact absurd H (by simp)
      ·rw [if_neg c38] at H
       have c38b0 := decide_eq_false c38; have c38b9 := c38b0; (try simp only [hl259_7] at c38b9); (try simp only [hl261_7] at c38b9); (try simp only [hl263_7] at c38b9); clear c38; obtain ⟨t265, A46, H⟩ := bi_ H
       by_cases c47 : t265 = true
       ·subst c47
        replace H := iP_ H; obtain rfl := Option.some.inj H; have Z48 := bz8_ BK256; go_wp2_with (first | (refine gC 51 ?_; refine gL 51 Try.func51 #[.agg (n8_ a0_0 a0_1 a0_2 a0_3 a0_4 a0_5 a0_6 (.slice A0_7 l0_7.length c0_7))] ?_; (with_reducible refine (lustrumref10_bare.calls a0_0 a0_1 a0_2 a0_3 a0_4 a0_5 a0_6 _ _ l0_7 true _ ?side1 ?side2 A46.out).mono ?_); (case side1 => exact cb_ HR0_7); (case side2 => exact HC0_7.out); rintro e w49 ⟨rfl, hb⟩; refine ⟨_, rfl, ?_⟩; replace BK256 := bb_ BK256 hb; replace HB := bs_ hb; (try clear hb); have Z50 := bz8_ BK256)); go_ret; exact ⟨re_, hs_⟩
       ·replace c47 := Bool.eq_false_iff.mpr c47
        subst c47; replace H := iN_ H; obtain rfl := Option.some.inj H; have Z51 := bz8_ BK256; go_wp2_with (first | (refine gC 51 ?_; refine gL 51 Try.func51 #[.agg (n8_ a0_0 a0_1 a0_2 a0_3 a0_4 a0_5 a0_6 (.slice A0_7 l0_7.length c0_7))] ?_; (with_reducible refine (lustrumref10_bare.calls a0_0 a0_1 a0_2 a0_3 a0_4 a0_5 a0_6 _ _ l0_7 false _ ?side1 ?side2 A46.out).mono ?_); (case side1 => exact cb_ HR0_7); (case side2 => exact HC0_7.out); rintro e w52 ⟨rfl, hb⟩; refine ⟨_, rfl, ?_⟩; replace BK256 := bb_ BK256 hb; replace HB := bs_ hb; (try clear hb))); go_ret; exact ⟨re_, hs_⟩
   ·rw [if_neg c35] at H
    have c35b0 : (a0_0 == 2) = false := beq_eq_false_iff_ne.mpr c35; have c35b1 : (a0_0 != 2) = true := bne_iff_ne.mpr c35; obtain rfl := Option.some.inj H; go_enter Try.func48, Try.ntmps48; go_wp2_with (first | (refine gD 1 ?_; (try (refine gate_guard (by rfl) ?_; dsimp only)); refine bxe_ 1 (n8_ a0_0 a0_1 a0_2 a0_3 a0_4 a0_5 a0_6 (.slice A0_7 l0_7.length c0_7)) 26 ?_; intro gb256 hg w53 hbox hb; have BK256 := A_ (hbox); have GW256 := gs_ w hg; have GE256 := gs_ w hg; replace HB := bs_ hb; clear hb hbox hg; have Z54 := bz8_ BK256)); go_ret; exact ⟨re_, hs_⟩
set_option maxHeartbeats 8000000 in
set_option maxRecDepth 100000 in
theorem lustrumref10_Sane.calls (k : Nat) (a0_0 a0_1 : Int) (a0_2 a0_3 a0_4 : ByteArray) (a0_5 a0_6 : Bool) (A0_7 : Option Addr) (c0_7 : Nat) (l0_7 : List (S26)) (r : Bool) (w : World) (hr0_7 : Kd.C k26 w A0_7 l0_7.length l0_7) (hc0_7 : l0_7.length ≤ c0_7) (h : lustrumref10_Sane.f k a0_0 a0_1 a0_2 a0_3 a0_4 a0_5 a0_6 l0_7 = some r) :
  Calls Try.prog 19 #[.agg #[.int .i64 a0_0, .int .i64 a0_1, .string a0_2, .string a0_3, .string a0_4, .bool a0_5, .bool a0_6, .slice A0_7 l0_7.length c0_7]] w fun e w' => e = .returned (.bool r) ∧ Below w.heap.size w w' := by
 have hu26 := Try.underlying26; have HR0_7 := A_ hr0_7; have HC0_7 := A_ hc0_7; clear hr0_7 hc0_7; have HB := A_ (Below.refl w.heap.size w); have H : ((lustrumref10_Count.f k a0_0 a0_1 a0_2 a0_3 a0_4 a0_5 a0_6 l0_7).bind fun t267 => (if t267 ≤ 64 then ((lustrumref10_Deep.f k a0_0 a0_1 a0_2 a0_3 a0_4 a0_5 a0_6 l0_7).bind fun t268 => (if t268 ≤ 8 then ((lustrumref10_right.f k a0_0 a0_1 a0_2 a0_3 a0_4 a0_5 a0_6 l0_7).bind fun t269 => (some t269)) else (some false))) else (some false))) = some r := h; clear h; obtain ⟨t267, A2, H⟩ := bi_ H
 by_cases c3 : t267 ≤ 64
 ·rw [if_pos c3] at H
  have c3b0 := decide_eq_true c3; clear c3; obtain ⟨t268, A4, H⟩ := bi_ H
  by_cases c5 : t268 ≤ 8
  ·rw [if_pos c5] at H
   have c5b0 := decide_eq_true c5; clear c5; obtain ⟨t269, A6, H⟩ := bi_ H; obtain rfl := Option.some.inj H; go_enter Try.func19, Try.ntmps19; go_wp2_with (first | (refine gx_ w 1 (n8_ a0_0 a0_1 a0_2 a0_3 a0_4 a0_5 a0_6 (.slice A0_7 l0_7.length c0_7)) 26 ?_; clear HB; intro gb266 w7 BK266 GE266 HB; have GW266 := GE266; have Z8 := bz8_ BK266) | (refine gC 23 ?_; refine gL 4 Try.func23 #[.agg (n8_ a0_0 a0_1 a0_2 a0_3 a0_4 a0_5 a0_6 (.slice A0_7 l0_7.length c0_7))] ?_; (with_reducible refine (lustrumref10_Count.calls k a0_0 a0_1 a0_2 a0_3 a0_4 a0_5 a0_6 _ _ l0_7 t267 _ ?side1 ?side2 A2.out).mono ?_); (case side1 => exact cb_ HR0_7); (case side2 => exact HC0_7.out); rintro e w9 ⟨rfl, hb⟩; refine ⟨_, rfl, ?_⟩; replace BK266 := bb_ BK266 hb; replace HB := bs_ hb; (try clear hb); have Z10 := bz8_ BK266) | (go_at_call 25; (with_reducible refine (lustrumref10_Deep.calls k a0_0 a0_1 a0_2 a0_3 a0_4 a0_5 a0_6 _ _ l0_7 t268 _ ?side1 ?side2 A4.out).mono ?_); (case side1 => exact cb_ HR0_7); (case side2 => exact HC0_7.out); rintro e w11 ⟨rfl, hb⟩; replace BK266 := bb_ BK266 hb; replace HB := bs_ hb; (try clear hb); have Z12 := bz8_ BK266) | (go_at_call 48; (with_reducible refine (lustrumref10_right.calls k a0_0 a0_1 a0_2 a0_3 a0_4 a0_5 a0_6 _ _ l0_7 t269 _ ?side1 ?side2 A6.out).mono ?_); (case side1 => exact cb_ HR0_7); (case side2 => exact HC0_7.out); rintro e w13 ⟨rfl, hb⟩; replace BK266 := bb_ BK266 hb; replace HB := bs_ hb; (try clear hb)))
   go_ret; exact ⟨re_, hs_⟩
  ·rw [if_neg c5] at H
   have c5b0 := decide_eq_false c5; clear c5; obtain rfl := Option.some.inj H; go_enter Try.func19, Try.ntmps19; go_wp2_with (first | (refine gx_ w 1 (n8_ a0_0 a0_1 a0_2 a0_3 a0_4 a0_5 a0_6 (.slice A0_7 l0_7.length c0_7)) 26 ?_; clear HB; intro gb266 w14 BK266 GE266 HB; have GW266 := GE266; have Z15 := bz8_ BK266) | (refine gC 23 ?_; refine gL 4 Try.func23 #[.agg (n8_ a0_0 a0_1 a0_2 a0_3 a0_4 a0_5 a0_6 (.slice A0_7 l0_7.length c0_7))] ?_; (with_reducible refine (lustrumref10_Count.calls k a0_0 a0_1 a0_2 a0_3 a0_4 a0_5 a0_6 _ _ l0_7 t267 _ ?side1 ?side2 A2.out).mono ?_); (case side1 => exact cb_ HR0_7); (case side2 => exact HC0_7.out); rintro e w16 ⟨rfl, hb⟩; refine ⟨_, rfl, ?_⟩; replace BK266 := bb_ BK266 hb; replace HB := bs_ hb; (try clear hb); have Z17 := bz8_ BK266) | (go_at_call 25; (with_reducible refine (lustrumref10_Deep.calls k a0_0 a0_1 a0_2 a0_3 a0_4 a0_5 a0_6 _ _ l0_7 t268 _ ?side1 ?side2 A4.out).mono ?_); (case side1 => exact cb_ HR0_7); (case side2 => exact HC0_7.out); rintro e w18 ⟨rfl, hb⟩; replace BK266 := bb_ BK266 hb; replace HB := bs_ hb; (try clear hb)))
   go_ret; exact ⟨re_, hs_⟩
 ·rw [if_neg c3] at H
  have c3b0 := decide_eq_false c3; clear c3; obtain rfl := Option.some.inj H; go_enter Try.func19, Try.ntmps19; go_wp2_with (first | (refine gx_ w 1 (n8_ a0_0 a0_1 a0_2 a0_3 a0_4 a0_5 a0_6 (.slice A0_7 l0_7.length c0_7)) 26 ?_; clear HB; intro gb266 w19 BK266 GE266 HB; have GW266 := GE266; have Z20 := bz8_ BK266) | (refine gC 23 ?_; refine gL 4 Try.func23 #[.agg (n8_ a0_0 a0_1 a0_2 a0_3 a0_4 a0_5 a0_6 (.slice A0_7 l0_7.length c0_7))] ?_; (with_reducible refine (lustrumref10_Count.calls k a0_0 a0_1 a0_2 a0_3 a0_4 a0_5 a0_6 _ _ l0_7 t267 _ ?side1 ?side2 A2.out).mono ?_); (case side1 => exact cb_ HR0_7); (case side2 => exact HC0_7.out); rintro e w21 ⟨rfl, hb⟩; refine ⟨_, rfl, ?_⟩; replace BK266 := bb_ BK266 hb; replace HB := bs_ hb; (try clear hb))); go_ret; exact ⟨re_, hs_⟩
set_option maxHeartbeats 8000000 in
set_option maxRecDepth 100000 in
theorem lustrumref12_flat.calls (k : Nat) : ∀ (a0_0 a0_1 : Int) (a0_2 a0_3 a0_4 : ByteArray) (a0_5 a0_6 : Bool) (P0_7_ : Nat → Prop) (A0_7 : Option Addr) (c0_7 : Nat) (l0_7 r : List (S26)) (w : World) (hs0_7 : Kd.V k26 26 w w.heap.size (fun k_ => P0_7_ k_) (.slice A0_7 l0_7.length c0_7) l0_7) (h : lustrumref12_flat.f k a0_0 a0_1 a0_2 a0_3 a0_4 a0_5 a0_6 l0_7 = some r),
  Calls Try.prog 66 #[.agg #[.int .i64 a0_0, .int .i64 a0_1, .string a0_2, .string a0_3, .string a0_4, .bool a0_5, .bool a0_6, .slice A0_7 l0_7.length c0_7]] w fun e w' => ∃ v0_ : Value, e = .returned (v0_) ∧ Kd.N k26 26 w' w.heap.size (fun k_ => (P0_7_ k_ ∨ w.heap.size ≤ k_)) v0_ r ∧ Below w.heap.size w w' := by
 induction k using Nat.strongRecOn with
 | _ k ih =>
 intro a0_0 a0_1 a0_2 a0_3 a0_4 a0_5 a0_6 P0_7_ A0_7 c0_7 l0_7 r w hs0_7 h
 cases k with
 | zero => exact absurd h (by simp [lustrumref12_flat.f])
 | succ k =>
 simp only [lustrumref12_flat.f] at h; have hu26 := Try.underlying26; have HO0_7 := A_ (show Kd.V k26 26 w w.heap.size (fun k_ => (P0_7_ k_ ∨ w.heap.size ≤ k_)) (.slice A0_7 l0_7.length c0_7) l0_7 from Kd.V_mono hs0_7 (fun k_ hk => .inl hk)); have HB := A_ (Below.refl w.heap.size w); have H : (if a0_0 = 2 then (lustrumref12_flat.l0 k ([] : List (S26)) 0 a0_0 a0_1 a0_2 a0_3 a0_4 a0_5 a0_6 l0_7) else (some (([(⟨a0_0, (⟨a0_1, a0_2, a0_3, a0_4⟩ : S23), a0_5, a0_6, l0_7⟩ : S26)] : List (S26))))) = some r := h; clear h
 by_cases c2 : a0_0 = 2
 ·rw [if_pos c2] at H
  have c2b0 : (a0_0 == 2) = true := beq_iff_eq.mpr c2; have c2b1 : (a0_0 != 2) = false := bne_eq_false_iff_eq.mpr c2; clear c2; have H' := A_ H; clear H; go_enter Try.func66, Try.ntmps66; go_wp2_with (first | (refine gD 1 ?_; refine bxe_ 1 (n8_ a0_0 a0_1 a0_2 a0_3 a0_4 a0_5 a0_6 (.slice A0_7 l0_7.length c0_7)) 26 ?_; intro gb362 hg w3 hbox hb; replace HO0_7 := eV_ HO0_7 hg hb; have BK362 := A_ (hbox); have GW362 := gs_ w hg; have GE362 := gs_ w hg; replace HB := bs_ hb; clear hb hbox hg; have Z4 := bz8_ BK362)); go_loopg [3, 4] k (fun kq v3 v4 w' => ∃ (x3_1 : List (S26)) (x4_1 : Int), v4 = .int .i64 x4_1 ∧ Aside0 (lustrumref12_flat.l0 kq x3_1 x4_1 a0_0 a0_1 a0_2 a0_3 a0_4 a0_5 a0_6 l0_7 = some r) ∧ Aside0 (kq ≤ k) ∧ Aside0 (Kd.N k26 26 w' w.heap.size (fun k_ => (P0_7_ k_ ∨ w.heap.size ≤ k_) ∧ k_ ≠ gb362) v3 x3_1) ∧ Aside0 (Kd.V k26 26 w' w.heap.size (fun k_ => (P0_7_ k_ ∨ w.heap.size ≤ k_) ∧ nv_ k_ v3 ∧ k_ ≠ gb362) (.slice A0_7 l0_7.length c0_7) l0_7) ∧ Aside0 (w'.heap[gb362]? = some (.cells #[.int .i64 a0_0, .int .i64 a0_1, .string a0_2, .string a0_3, .string a0_4, .bool a0_5, .bool a0_6, (.slice A0_7 l0_7.length c0_7)] 26 (0, 0))) ∧ Aside0 (Below w.heap.size w w'))
  case atStart => exact ⟨(([] : List (S26))), (0), rf_, H', ⟨Nat.le_refl _⟩, ⟨by first | exact Kd.R_nil _ _ _ _ _ | exact Kd.N_nil _ _ _ _ _ | exact Kd.V_nil _ _ _ _ _ | exact Kd.Q_nil _ _ _ _ _ | exact Kd.S_nil _ _ _ _ _⟩, ⟨by (with_reducible repeat (first | apply Kd.V_alloc | apply Kd.V_drewN | apply Kd.V_drew)); exact Kd.V_mono HO0_7.out (fun _ hk => ⟨hk.1, ⟨(by simp [Value.ownBlock]), hk.2⟩⟩)⟩, ⟨bl_ BK362.out⟩, ⟨hs_⟩⟩
  case round =>
   clear H'; (try clear c2); (try clear c2b0); (try clear c2b1); (try clear p2); (try clear Z4); obtain ⟨x3_1, x4_1, rfl, HA, HK1, HO_3, HO_363007, BK362, HB⟩ := hrel
   cases gk with
   | zero => exact absurd HA.out (by simp [lustrumref12_flat.l0])
   | succ k1 =>
    have H := HA.out; clear HA; simp only [lustrumref12_flat.l0] at H
    by_cases c5 : x4_1 < (l0_7.length : Int)
    ·rw [if_pos c5] at H
     have c5b0 := decide_eq_true c5; clear c5
     by_cases c6 : 0 ≤ x4_1
     ·rw [if_pos c6] at H
      have c6b0 := decide_eq_true c6; clear c6; obtain ⟨t367, A7, H⟩ := bi_ H
      by_cases c8 : x3_1.length + t367.length < 1466015503701
      ·rw [if_pos c8] at H
       have LMc8 := A_ c8; clear c8; obtain ⟨y370, hy370⟩ : ∃ y_ : List (S26), y_ = (x3_1 ++ t367) := ⟨_, rfl⟩; (replace H : (lustrumref12_flat.l0 k1 y370 (wrap64 (x4_1 + 1)) a0_0 a0_1 a0_2 a0_3 a0_4 a0_5 a0_6 l0_7) = some r := hy_ hy370 H); have Ny370 := A_ hy370; clear hy370; have H' := A_ H; clear H; have Z9 := bz8_ BK362; have p366 : 0 ≤ (x4_1 : Int) := od_; have q366 : x4_1 < (l0_7.length : Int) := od_; obtain ⟨ad366, A366_7, c366_7, e366, hx366_0, hx366_1, hx366_2, hx366_3, hx366_4, hx366_5, hx366_6, hx366_7, hl366_7, hi366_7⟩ := at_T26 (Kd.V_reads' HO_363007.out).2.2 x4_1 p366 q366
       cases e366
       obtain ⟨ce366, hce366, hMe366, hcc366⟩ := Kd.V_get HO_363007.out z26 x4_1 p366 (by first | exact q366 | exact od_ | (have e_ := (Kd.V_reads' HO_363007.out).1; omega)); obtain ⟨ua366_7, uc366_7, rfl, ul366_7, ge366_7⟩ := k26_openF hMe366; have hv366_7 := hcc366 7 _ rfl; rw [add_field _ _ 7 (by omega)] at hv366_7; replace hv366_7 := Option.some.inj (hv366_7.symm.trans hx366_7); injection hv366_7 with hva_ hvn_ hvc_; rw [hva_] at ge366_7; rw [hvc_] at ul366_7; have HL366_7 := A_ (show Kd.V k26 26 _ w.heap.size _ _ ((rd_T26 l0_7 x4_1).f4) from Kd.V_mk ul366_7 ge366_7); clear hva_ hvn_ hvc_ ge366_7 ul366_7; clear hcc366 hce366; have HR366_7 := A_ hi366_7; have HC366_7 := A_ hl366_7; clear hi366_7 hl366_7; replace p366 := eq_true p366; replace q366 := eq_true q366; go_wp2_with (first | (refine gC 66 ?_; refine gL 23 Try.func66 #[.agg #[.int .i64 ((rd_T26 l0_7 x4_1).f0), .int .i64 ((rd_T26 l0_7 x4_1).f1.f0), .string ((rd_T26 l0_7 x4_1).f1.f1), .string ((rd_T26 l0_7 x4_1).f1.f2), .string ((rd_T26 l0_7 x4_1).f1.f3), .bool ((rd_T26 l0_7 x4_1).f2), .bool ((rd_T26 l0_7 x4_1).f3), .slice A366_7 ((rd_T26 l0_7 x4_1).f4).length c366_7]] ?_; (with_reducible refine (ih k1 (by have := HK1.out; omega) ((rd_T26 l0_7 x4_1).f0) ((rd_T26 l0_7 x4_1).f1.f0) ((rd_T26 l0_7 x4_1).f1.f1) ((rd_T26 l0_7 x4_1).f1.f2) ((rd_T26 l0_7 x4_1).f1.f3) ((rd_T26 l0_7 x4_1).f2) ((rd_T26 l0_7 x4_1).f3) (fun k_ => ((P0_7_ k_ ∨ w.heap.size ≤ k_) ∧ (nv_ k_ u3 ∧ k_ ≠ gb362))) _ _ ((rd_T26 l0_7 x4_1).f4) t367 _ ?side1 A7.out).mono ?_); (case side1 => exact HL366_7.out); rintro e w10 ⟨v368, rfl, ho0, hb⟩; refine ⟨_, rfl, ?_⟩; replace HO_363007 := dV_ HO_363007 ho0 hb; replace HL366_7 := dV_ HL366_7 ho0 hb; have HO369 := A_ (Kd.N_lower (Kd.N_mono (ok' := fun k_ => (P0_7_ k_ ∨ w.heap.size ≤ k_) ∧ nv_ k_ u3 ∧ k_ ≠ gb362) ho0 (fun k_ hk_ => ⟨hk_.elim (·.1) (fun hn_ => (.inr (Nat.le_trans (below_size hs_) hn_))), hk_.elim (·.2.1) (fN_ HO_3 k_), hk_.elim (·.2.2) (fb_ BK362 k_)⟩)) (below_size hs_)); replace HO_3 := dN_ HO_3 ho0 hb; replace BK362 := bb_ BK362 hb; replace HR366_7 := A_ (Kd.C_below (by repeat (first | (with_reducible exact HR366_7.out) | (with_reducible refine Kd.C_alloc ?_ _) | (with_reducible refine Kd.C_drewN ?_ _) | (with_reducible refine Kd.C_drew ?_) | exact HR366_7.out)) hb); replace HB := bs_ hb; (try clear hb); (try clear ho0); obtain ⟨Ao12, co12, eo12⟩ := Kd.N_slice HO369.out; subst eo12) | ((with_reducible refine gate_builtin (b := .append) (xs := #[.tmp 17, .tmp 23]) rfl ?_); at_builtin; refine Kd.N_append_rows k26 (w0 := w) w.heap.size rfl (.tmp 17) (.tmp 23) 24 26 (.agg #[(.int .i64 0), (.int .i64 0), (.string ⟨#[]⟩), (.string ⟨#[]⟩), (.string ⟨#[]⟩), (.bool false), (.bool false), (.slice none 0 0)]) 96 rfl Try.underlying24 info26 rfl (by decide) (by omega) u3 x3_1 t367 _ _ _ (fun k_ => (P0_7_ k_ ∨ w.heap.size ≤ k_) ∧ k_ ≠ gb362) (fun k_ => ((fun k_ => (P0_7_ k_ ∨ w.heap.size ≤ k_) ∧ k_ ≠ gb362)) k_ ∧ nv_ k_ u3) rfl rfl ?aO ?aR (fun _ hk => hk) ?aF ?aB ?aS ?aL ?_; (case aR => exact (by skip; exact Kd.N_F (Kd.N_mono (ok' := (fun k_ => ((fun k_ => (P0_7_ k_ ∨ w.heap.size ≤ k_) ∧ k_ ≠ gb362)) k_ ∧ nv_ k_ u3)) (HO369.out) (fun k_ hk => ⟨⟨hk.1, hk.2.2⟩, hk.2.1⟩)))); (case aB => exact hs_); (case aF => exact (fun k_ hk => ⟨(.inr (Nat.le_trans (below_size hs_) hk)), fb_ BK362 k_ hk⟩)); (case aO => exact (fmN_ HO_3.out)); (case aS => exact (below_size hs_)); (case aL => have := LMc8.out; omega); intro v371 w11 ho hb hg hat; rw [← Ny370.out] at ho; replace HO_363007 := A_ (Kd.V_afterv (ok := (fun k_ => (P0_7_ k_ ∨ w.heap.size ≤ k_) ∧ nv_ k_ (.slice Ao12 t367.length co12) ∧ k_ ≠ gb362)) (fmV_ HO_363007.out) hg hat); replace BK362 := A_ (blk_grown (g := gb362) (o := .cells (n8_ a0_0 a0_1 a0_2 a0_3 a0_4 a0_5 a0_6 (.slice (some ad366) l0_7.length c0_7)) 26 (0, 0)) (bl_ BK362.out) hg (Kd.N_away HO_3.out (fun _ hk => hk.1.2))); replace HL366_7 := A_ (Kd.V_afterv (ok := (fun k_ => (P0_7_ k_ ∨ w.heap.size ≤ k_) ∧ nv_ k_ (.slice Ao12 t367.length co12) ∧ k_ ≠ gb362)) (fmV_ HL366_7.out) hg hat); replace HO369 := A_ (Kd.N_afterv (ok := (fun k_ => (P0_7_ k_ ∨ w.heap.size ≤ k_) ∧ k_ ≠ gb362)) (fmN_ HO369.out) hg hat); replace HB := A_ (hb); have HO372 := A_ (ho); clear HO_3; clear ho hb hg hat))
       go_roundg k1
       case measure => have := HK1.out; omega
       case rel => exact ⟨(y370), (wrap64 (x4_1 + 1)), rf_, H', ⟨by have := HK1.out; omega⟩, ⟨fxN_ HO372.out⟩, ⟨fmV_ HO_363007.out⟩, ⟨bl_ BK362.out⟩, ⟨hs_⟩⟩
      ·rw [if_neg c8] at H
       exact absurd H (by simp)
     ·rw [if_neg c6] at H
      exact absurd H (by simp)
    ·rw [if_neg c5] at H
     have c5b0 := decide_eq_false c5; have c5b9 := c5b0; (try simp only [hl351_7] at c5b9); (try simp only [hl353_7] at c5b9); (try simp only [hl355_7] at c5b9); (try simp only [hl366_7] at c5b9); clear c5; obtain rfl := Option.some.inj H; have Z13 := bz8_ BK362; go_wp2; go_ret; exact ⟨_, by first | rfl | (simp [errW_none, errW_some] <;> rfl) | (simp [*, errW_none, errW_some] <;> rfl), by (with_reducible repeat (first | apply Kd.N_alloc | apply Kd.N_drewN | apply Kd.N_drew)); exact Kd.N_mono HO_3.out (fun _ hk => hk.1), hs_⟩
 ·rw [if_neg c2] at H
  have c2b0 : (a0_0 == 2) = false := beq_eq_false_iff_ne.mpr c2; have c2b1 : (a0_0 != 2) = true := bne_iff_ne.mpr c2; obtain ⟨y363, hy363⟩ : ∃ y_ : List (S26), y_ = (([(⟨a0_0, (⟨a0_1, a0_2, a0_3, a0_4⟩ : S23), a0_5, a0_6, l0_7⟩ : S26)] : List (S26))) := ⟨_, rfl⟩; (replace H : (some y363) = some r := hy_ hy363 H); have Ny363 := A_ hy363; clear hy363; obtain rfl := Option.some.inj H; go_enter Try.func66, Try.ntmps66; go_wp2_with (first | (refine gD 1 ?_; refine bxe_ 1 (n8_ a0_0 a0_1 a0_2 a0_3 a0_4 a0_5 a0_6 (.slice A0_7 l0_7.length c0_7)) 26 ?_; intro gb362 hg w14 hbox hb; replace HO0_7 := eV_ HO0_7 hg hb; have BK362 := A_ (hbox); have GW362 := gs_ w hg; have GE362 := gs_ w hg; replace HB := bs_ hb; clear hb hbox hg; have Z15 := bz8_ BK362) | (refine gD 9 ?_; refine Kd.N_lit k26 _ 26 ?hg (N' := 9) ?hd (xs := ([(⟨a0_0, (⟨a0_1, a0_2, a0_3, a0_4⟩ : S23), a0_5, a0_6, l0_7⟩ : S26)] : List (S26))) (inner := [.int .i64 a0_0, .int .i64 a0_1, .string a0_2, .string a0_3, .string a0_4, .bool a0_5, .bool a0_6, .slice A0_7 l0_7.length c0_7]) (ok := (fun k_ => (P0_7_ k_ ∨ w.heap.size ≤ k_) ∧ k_ ≠ gb362)) (okp := (fun k_ => (P0_7_ k_ ∨ w.heap.size ≤ k_) ∧ k_ ≠ gb362)) ?hr ?hp (fun _ hk => hk) ((show ∀ k_, w14.heap.size ≤ k_ → (fun k_ => (P0_7_ k_ ∨ w.heap.size ≤ k_) ∧ k_ ≠ gb362) k_ from fun k_ hk => ⟨(.inr (Nat.le_trans (below_size hs_) hk)), fb_ BK362 k_ hk⟩) _ (Nat.le_refl _)) (Below.refl _ _) (Nat.le_refl _) (by simp) ?_; (case hd => rfl); (case hg => rfl); (case hr => first | (go_simp; done) | (go_simp; rfl)); (case hp => exact (Reps.c8 (show Kd.FK k26 _ _ (⟨a0_0, (⟨a0_1, a0_2, a0_3, a0_4⟩ : S23), a0_5, a0_6, l0_7⟩ : S26) [.int .i64 a0_0, .int .i64 a0_1, .string a0_2, .string a0_3, .string a0_4, .bool a0_5, .bool a0_6, .slice A0_7 l0_7.length c0_7] from (k26_mkF _ _ (⟨a0_0, (⟨a0_1, a0_2, a0_3, a0_4⟩ : S23), a0_5, a0_6, l0_7⟩ : S26) (Kd.V_reads' (Kd.V_mono (ok' := (fun k_ => (P0_7_ k_ ∨ w.heap.size ≤ k_) ∧ k_ ≠ gb362)) (HO0_7.out) (fun k_ hk => ⟨hk.1, hk.2⟩))).2.1 (Kd.V_F (Kd.V_mono (ok' := (fun k_ => (P0_7_ k_ ∨ w.heap.size ≤ k_) ∧ k_ ≠ gb362)) (HO0_7.out) (fun k_ hk => ⟨hk.1, hk.2⟩))))) (Reps.none _ _))); intro v364 w16 ho17 hb hg_ hnew_; clear hg_ hnew_; (first | rw [← Ny363.out] at ho17 | (simp only [Int.reduceToNat] at ho17; rw [← Ny363.out] at ho17)); replace HO0_7 := A_ (Kd.V_elder' (hrV_ HO0_7.out) (Kd.N_base ho17) hb); have HO365 := A_ (Kd.N_lower ho17 (below_size hs_)); replace BK362 := bb_ BK362 hb; replace HB := bs_ hb; clear hb ho17))
  go_ret; exact ⟨_, by first | rfl | (simp [errW_none, errW_some] <;> rfl) | (simp [*, errW_none, errW_some] <;> rfl), by (with_reducible repeat (first | apply Kd.N_alloc | apply Kd.N_drewN | apply Kd.N_drew)); exact Kd.N_mono HO365.out (fun _ hk => hk.1), hs_⟩
set_option maxHeartbeats 8000000 in
set_option maxRecDepth 100000 in
theorem lustrumref08_Text.calls (k : Nat) (a0_0 : Int) (a0_1 a0_2 a0_3 r : ByteArray) (w : World) (h : lustrumref08_Text.f k a0_0 a0_1 a0_2 a0_3 = some r) :
  Calls Try.prog 76 #[.agg #[.int .i64 a0_0, .string a0_1, .string a0_2, .string a0_3]] w fun e w' => e = .returned (.string r) ∧ Below w.heap.size w w' := by
 have hu23 := Try.underlying23; have HB := A_ (Below.refl w.heap.size w); have H : ((lustrumref08_Sane.f k a0_0 a0_1 a0_2 a0_3).bind fun t300 => (if t300 = true then (if a0_0 = 0 then (if a0_1.size + 1 ≤ 9223372036854775807 then (if (a0_1 ++ (⟨#[45]⟩ : ByteArray)).size + a0_2.size ≤ 9223372036854775807 then (if ((a0_1 ++ (⟨#[45]⟩ : ByteArray)) ++ a0_2).size + 1 ≤ 9223372036854775807 then (if (((a0_1 ++ (⟨#[45]⟩ : ByteArray)) ++ a0_2) ++ (⟨#[45]⟩ : ByteArray)).size + a0_3.size ≤ 9223372036854775807 then (some ((((a0_1 ++ (⟨#[45]⟩ : ByteArray)) ++ a0_2) ++ (⟨#[45]⟩ : ByteArray)) ++ a0_3)) else (none)) else (none)) else (none)) else (none)) else (if a0_0 = 1 then (if a0_1.size + 1 ≤ 9223372036854775807 then (if (a0_1 ++ (⟨#[45]⟩ : ByteArray)).size + a0_2.size ≤ 9223372036854775807 then (some ((a0_1 ++ (⟨#[45]⟩ : ByteArray)) ++ a0_2)) else (none)) else (none)) else (if a0_0 = 2 then (if a0_1.size + 1 ≤ 9223372036854775807 then (if (a0_1 ++ (⟨#[115]⟩ : ByteArray)).size + a0_2.size ≤ 9223372036854775807 then (some ((a0_1 ++ (⟨#[115]⟩ : ByteArray)) ++ a0_2)) else (none)) else (none)) else (if a0_0 = 4 then (if a0_1.size + 1 ≤ 9223372036854775807 then (some (a0_1 ++ (⟨#[100]⟩ : ByteArray))) else (none)) else (if a0_0 = 5 then (if a0_1.size + 1 ≤ 9223372036854775807 then (some (a0_1 ++ (⟨#[99]⟩ : ByteArray))) else (none)) else (some a0_1)))))) else (some (⟨#[]⟩ : ByteArray)))) = some r := h; clear h; obtain ⟨t300, A2, H⟩ := bi_ H
 by_cases c3 : t300 = true
 ·subst c3
  replace H := iP_ H
  by_cases c4 : a0_0 = 0
  ·rw [if_pos c4] at H
   have c4b0 : (a0_0 == 0) = true := beq_iff_eq.mpr c4; have c4b1 : (a0_0 != 0) = false := bne_eq_false_iff_eq.mpr c4; clear c4
   by_cases c5 : a0_1.size + 1 ≤ 9223372036854775807
   ·rw [if_pos c5] at H
    have c5b0 := eq_true c5; have c5b1 := decide_eq_true c5; (try have c5b2 : (9223372036854775807 < a0_1.size + 1) = False := eq_false (Nat.not_lt.2 c5))
    by_cases c6 : (a0_1 ++ (⟨#[45]⟩ : ByteArray)).size + a0_2.size ≤ 9223372036854775807
    ·rw [if_pos c6] at H
     have c6b0 := eq_true c6; have c6b1 := decide_eq_true c6; (try have c6b2 : (9223372036854775807 < (a0_1 ++ (⟨#[45]⟩ : ByteArray)).size + a0_2.size) = False := eq_false (Nat.not_lt.2 c6)); (try have c6b3 : (9223372036854775807 < a0_1.size + 1 + a0_2.size) = False := eq_false (Nat.not_lt.2 (by have h_ := c6; simp only [ByteArray.size_append] at h_; exact h_)))
     by_cases c7 : ((a0_1 ++ (⟨#[45]⟩ : ByteArray)) ++ a0_2).size + 1 ≤ 9223372036854775807
     ·rw [if_pos c7] at H
      have c7b0 := eq_true c7; have c7b1 := decide_eq_true c7; (try have c7b2 : (9223372036854775807 < ((a0_1 ++ (⟨#[45]⟩ : ByteArray)) ++ a0_2).size + 1) = False := eq_false (Nat.not_lt.2 c7)); (try have c7b3 : (9223372036854775807 < a0_1.size + 1 + a0_2.size + 1) = False := eq_false (Nat.not_lt.2 (by have h_ := c7; simp only [ByteArray.size_append] at h_; exact h_)))
      by_cases c8 : (((a0_1 ++ (⟨#[45]⟩ : ByteArray)) ++ a0_2) ++ (⟨#[45]⟩ : ByteArray)).size + a0_3.size ≤ 9223372036854775807
      ·rw [if_pos c8] at H
       have c8b0 := eq_true c8; have c8b1 : decide ((((a0_1 ++ (⟨#[45]⟩ : ByteArray)) ++ a0_2) ++ (⟨#[45]⟩ : ByteArray)).size + a0_3.size ≤ 9223372036854775807) = true := decide_eq_true c8; (try have c8b2 : (9223372036854775807 < (((a0_1 ++ (⟨#[45]⟩ : ByteArray)) ++ a0_2) ++ (⟨#[45]⟩ : ByteArray)).size + a0_3.size) = False := eq_false (Nat.not_lt.2 c8)); (try have c8b3 : (9223372036854775807 < a0_1.size + 1 + a0_2.size + 1 + a0_3.size) = False := eq_false (Nat.not_lt.2 (by have h_ := c8; simp only [ByteArray.size_append] at h_; exact h_))); obtain rfl := Option.some.inj H; go_enter Try.func76, Try.ntmps76; go_wp2_with (first | (refine gx_ w 1 (n4_ a0_0 a0_1 a0_2 a0_3) 23 ?_; clear HB; intro gb299 w9 BK299 GE299 HB; have GW299 := GE299; have Z10 := bz4_ BK299) | (refine gC 50 ?_; refine gL 4 Try.func50 #[.agg (n4_ a0_0 a0_1 a0_2 a0_3)] ?_; (with_reducible refine (lustrumref08_Sane.calls k a0_0 a0_1 a0_2 a0_3 true _ A2.out).mono ?_); rintro e w11 ⟨rfl, hb⟩; refine ⟨_, rfl, ?_⟩; replace BK299 := bb_ BK299 hb; replace HB := bs_ hb; (try clear hb); have Z12 := bz4_ BK299)); go_ret; exact ⟨re_, hs_⟩
      ·rw [if_neg c8] at H
       exact absurd H (by simp)
     ·rw [if_neg c7] at H
      exact absurd H (by simp)
    ·rw [if_neg c6] at H
     exact absurd H (by simp)
   ·rw [if_neg c5] at H
    exact absurd H (by simp)
  ·rw [if_neg c4] at H
   have c4b0 : (a0_0 == 0) = false := beq_eq_false_iff_ne.mpr c4; have c4b1 : (a0_0 != 0) = true := bne_iff_ne.mpr c4
   by_cases c13 : a0_0 = 1
   ·rw [if_pos c13] at H
    have c13b0 : (a0_0 == 1) = true := beq_iff_eq.mpr c13; have c13b1 : (a0_0 != 1) = false := bne_eq_false_iff_eq.mpr c13; clear c13
    by_cases c14 : a0_1.size + 1 ≤ 9223372036854775807
    ·rw [if_pos c14] at H
     have c14b0 := eq_true c14; have c14b1 := decide_eq_true c14; (try have c14b2 : (9223372036854775807 < a0_1.size + 1) = False := eq_false (Nat.not_lt.2 c14))
     by_cases c15 : (a0_1 ++ (⟨#[45]⟩ : ByteArray)).size + a0_2.size ≤ 9223372036854775807
     ·rw [if_pos c15] at H
      have c15b0 := eq_true c15; have c15b1 := decide_eq_true c15; (try have c15b2 : (9223372036854775807 < (a0_1 ++ (⟨#[45]⟩ : ByteArray)).size + a0_2.size) = False := eq_false (Nat.not_lt.2 c15)); (try have c15b3 : (9223372036854775807 < a0_1.size + 1 + a0_2.size) = False := eq_false (Nat.not_lt.2 (by have h_ := c15; simp only [ByteArray.size_append] at h_; exact h_))); obtain rfl := Option.some.inj H; go_enter Try.func76, Try.ntmps76; go_wp2_with (first | (refine gx_ w 1 (n4_ a0_0 a0_1 a0_2 a0_3) 23 ?_; clear HB; intro gb299 w16 BK299 GE299 HB; have GW299 := GE299; have Z17 := bz4_ BK299) | (refine gC 50 ?_; refine gL 4 Try.func50 #[.agg (n4_ a0_0 a0_1 a0_2 a0_3)] ?_; (with_reducible refine (lustrumref08_Sane.calls k a0_0 a0_1 a0_2 a0_3 true _ A2.out).mono ?_); rintro e w18 ⟨rfl, hb⟩; refine ⟨_, rfl, ?_⟩; replace BK299 := bb_ BK299 hb; replace HB := bs_ hb; (try clear hb); have Z19 := bz4_ BK299)); go_ret; exact ⟨re_, hs_⟩
     ·rw [if_neg c15] at H
      exact absurd H (by simp)
    ·rw [if_neg c14] at H
     exact absurd H (by simp)
   ·rw [if_neg c13] at H
    have c13b0 : (a0_0 == 1) = false := beq_eq_false_iff_ne.mpr c13; have c13b1 : (a0_0 != 1) = true := bne_iff_ne.mpr c13
    by_cases c20 : a0_0 = 2
    ·rw [if_pos c20] at H
     have c20b0 : (a0_0 == 2) = true := beq_iff_eq.mpr c20; have c20b1 : (a0_0 != 2) = false := bne_eq_false_iff_eq.mpr c20; clear c20
     by_cases c21 : a0_1.size + 1 ≤ 9223372036854775807
     ·rw [if_pos c21] at H
      have c21b0 := eq_true c21; have c21b1 := decide_eq_true c21; (try have c21b2 : (9223372036854775807 < a0_1.size + 1) = False := eq_false (Nat.not_lt.2 c21))
      by_cases c22 : (a0_1 ++ (⟨#[115]⟩ : ByteArray)).size + a0_2.size ≤ 9223372036854775807
      ·rw [if_pos c22] at H
       have c22b0 := eq_true c22; have c22b1 := decide_eq_true c22; (try have c22b2 : (9223372036854775807 < (a0_1 ++ (⟨#[115]⟩ : ByteArray)).size + a0_2.size) = False := eq_false (Nat.not_lt.2 c22)); (try have c22b3 : (9223372036854775807 < a0_1.size + 1 + a0_2.size) = False := eq_false (Nat.not_lt.2 (by have h_ := c22; simp only [ByteArray.size_append] at h_; exact h_))); obtain rfl := Option.some.inj H; go_enter Try.func76, Try.ntmps76; go_wp2_with (first | (refine gx_ w 1 (n4_ a0_0 a0_1 a0_2 a0_3) 23 ?_; clear HB; intro gb299 w23 BK299 GE299 HB; have GW299 := GE299; have Z24 := bz4_ BK299) | (refine gC 50 ?_; refine gL 4 Try.func50 #[.agg (n4_ a0_0 a0_1 a0_2 a0_3)] ?_; (with_reducible refine (lustrumref08_Sane.calls k a0_0 a0_1 a0_2 a0_3 true _ A2.out).mono ?_); rintro e w25 ⟨rfl, hb⟩; refine ⟨_, rfl, ?_⟩; replace BK299 := bb_ BK299 hb; replace HB := bs_ hb; (try clear hb); have Z26 := bz4_ BK299)); go_ret; exact ⟨re_, hs_⟩
      ·rw [if_neg c22] at H
       exact absurd H (by simp)
     ·rw [if_neg c21] at H
      exact absurd H (by simp)
    ·rw [if_neg c20] at H
     have c20b0 : (a0_0 == 2) = false := beq_eq_false_iff_ne.mpr c20; have c20b1 : (a0_0 != 2) = true := bne_iff_ne.mpr c20
     by_cases c27 : a0_0 = 4
     ·rw [if_pos c27] at H
      have c27b0 : (a0_0 == 4) = true := beq_iff_eq.mpr c27; have c27b1 : (a0_0 != 4) = false := bne_eq_false_iff_eq.mpr c27; clear c27
      by_cases c28 : a0_1.size + 1 ≤ 9223372036854775807
      ·rw [if_pos c28] at H
       have c28b0 := eq_true c28; have c28b1 := decide_eq_true c28; (try have c28b2 : (9223372036854775807 < a0_1.size + 1) = False := eq_false (Nat.not_lt.2 c28)); obtain rfl := Option.some.inj H; go_enter Try.func76, Try.ntmps76; go_wp2_with (first | (refine gx_ w 1 (n4_ a0_0 a0_1 a0_2 a0_3) 23 ?_; clear HB; intro gb299 w29 BK299 GE299 HB; have GW299 := GE299; have Z30 := bz4_ BK299) | (refine gC 50 ?_; refine gL 4 Try.func50 #[.agg (n4_ a0_0 a0_1 a0_2 a0_3)] ?_; (with_reducible refine (lustrumref08_Sane.calls k a0_0 a0_1 a0_2 a0_3 true _ A2.out).mono ?_); rintro e w31 ⟨rfl, hb⟩; refine ⟨_, rfl, ?_⟩; replace BK299 := bb_ BK299 hb; replace HB := bs_ hb; (try clear hb); have Z32 := bz4_ BK299)); go_ret; exact ⟨re_, hs_⟩
      ·rw [if_neg c28] at H
       exact absurd H (by simp)
     ·rw [if_neg c27] at H
      have c27b0 : (a0_0 == 4) = false := beq_eq_false_iff_ne.mpr c27; have c27b1 : (a0_0 != 4) = true := bne_iff_ne.mpr c27
      by_cases c33 : a0_0 = 5
      ·rw [if_pos c33] at H
       have c33b0 : (a0_0 == 5) = true := beq_iff_eq.mpr c33; have c33b1 : (a0_0 != 5) = false := bne_eq_false_iff_eq.mpr c33; clear c33
       by_cases c34 : a0_1.size + 1 ≤ 9223372036854775807
       ·rw [if_pos c34] at H
        have c34b0 := eq_true c34; have c34b1 := decide_eq_true c34; (try have c34b2 : (9223372036854775807 < a0_1.size + 1) = False := eq_false (Nat.not_lt.2 c34)); obtain rfl := Option.some.inj H; go_enter Try.func76, Try.ntmps76; go_wp2_with (first | (refine gx_ w 1 (n4_ a0_0 a0_1 a0_2 a0_3) 23 ?_; clear HB; intro gb299 w35 BK299 GE299 HB; have GW299 := GE299; have Z36 := bz4_ BK299) | (refine gC 50 ?_; refine gL 4 Try.func50 #[.agg (n4_ a0_0 a0_1 a0_2 a0_3)] ?_; (with_reducible refine (lustrumref08_Sane.calls k a0_0 a0_1 a0_2 a0_3 true _ A2.out).mono ?_); rintro e w37 ⟨rfl, hb⟩; refine ⟨_, rfl, ?_⟩; replace BK299 := bb_ BK299 hb; replace HB := bs_ hb; (try clear hb); have Z38 := bz4_ BK299)); go_ret; exact ⟨re_, hs_⟩
       ·rw [if_neg c34] at H
        exact absurd H (by simp)
      ·rw [if_neg c33] at H
       have c33b0 : (a0_0 == 5) = false := beq_eq_false_iff_ne.mpr c33; have c33b1 : (a0_0 != 5) = true := bne_iff_ne.mpr c33; obtain rfl := Option.some.inj H; go_enter Try.func76, Try.ntmps76; go_wp2_with (first | (refine gx_ w 1 (n4_ a0_0 a0_1 a0_2 a0_3) 23 ?_; clear HB; intro gb299 w39 BK299 GE299 HB; have GW299 := GE299; have Z40 := bz4_ BK299) | (refine gC 50 ?_; refine gL 4 Try.func50 #[.agg (n4_ a0_0 a0_1 a0_2 a0_3)] ?_; (with_reducible refine (lustrumref08_Sane.calls k a0_0 a0_1 a0_2 a0_3 true _ A2.out).mono ?_); rintro e w41 ⟨rfl, hb⟩; refine ⟨_, rfl, ?_⟩; replace BK299 := bb_ BK299 hb; replace HB := bs_ hb; (try clear hb); have Z42 := bz4_ BK299)); go_ret; exact ⟨re_, hs_⟩
 ·replace c3 := Bool.eq_false_iff.mpr c3
  subst c3; replace H := iN_ H; obtain rfl := Option.some.inj H; go_enter Try.func76, Try.ntmps76; go_wp2_with (first | (refine gx_ w 1 (n4_ a0_0 a0_1 a0_2 a0_3) 23 ?_; clear HB; intro gb299 w43 BK299 GE299 HB; have GW299 := GE299; have Z44 := bz4_ BK299) | (refine gC 50 ?_; refine gL 4 Try.func50 #[.agg (n4_ a0_0 a0_1 a0_2 a0_3)] ?_; (with_reducible refine (lustrumref08_Sane.calls k a0_0 a0_1 a0_2 a0_3 false _ A2.out).mono ?_); rintro e w45 ⟨rfl, hb⟩; refine ⟨_, rfl, ?_⟩; replace BK299 := bb_ BK299 hb; replace HB := bs_ hb; (try clear hb))); go_ret; exact ⟨re_, hs_⟩
def lustrumref11_text.T3 : Bool × List (List Nat × List Nat) := (true, [([], []), ([0], [0]), ([1], [1]), ([2], [2]), ([3], [3]), ([4], [4]), ([], []), ([6], [6]), ([7], [7]), ([8], [8]), ([9, 4], [9]), ([5, 10], [5, 10]), ([11, 10, 0, 1, 2, 3, 4, 5, 6, 7, 8, 9, 10, 11], [11])])
def lustrumref11_text.B3 : List Nat := [0, 1, 3, 7, 15, 31, 0, 64, 192, 448, 991, 2047, 4095]
theorem lustrumref11_text.tab3 : rtab .any (opsOf Try.f59 3) = lustrumref11_text.T3 := by kernel_rfl
theorem lustrumref11_text.bits3 : waitsOk lustrumref11_text.T3.2 lustrumref11_text.B3 = true := by kernel_rfl
set_option maxHeartbeats 8000000 in
set_option maxRecDepth 100000 in
theorem lustrumref11_text.calls (k : Nat) : ∀ (a0_0 a0_1 : Int) (a0_2 a0_3 a0_4 : ByteArray) (a0_5 a0_6 : Bool) (A0_7 : Option Addr) (c0_7 : Nat) (l0_7 : List (S26)) (r : ByteArray) (w : World) (hr0_7 : Kd.C k26 w A0_7 l0_7.length l0_7) (hc0_7 : l0_7.length ≤ c0_7) (h : lustrumref11_text.f k a0_0 a0_1 a0_2 a0_3 a0_4 a0_5 a0_6 l0_7 = some r),
  Calls Try.prog 59 #[.agg #[.int .i64 a0_0, .int .i64 a0_1, .string a0_2, .string a0_3, .string a0_4, .bool a0_5, .bool a0_6, .slice A0_7 l0_7.length c0_7]] w fun e w' => e = .returned (.string r) ∧ Below w.heap.size w w' := by
 induction k using Nat.strongRecOn with
 | _ k ih =>
 intro a0_0 a0_1 a0_2 a0_3 a0_4 a0_5 a0_6 A0_7 c0_7 l0_7 r w hr0_7 hc0_7 h
 cases k with
 | zero => exact absurd h (by simp [lustrumref11_text.f])
 | succ k =>
 simp only [lustrumref11_text.f] at h; have hu26 := Try.underlying26; have hu23 := Try.underlying23; have HR0_7 := A_ hr0_7; have HC0_7 := A_ hc0_7; clear hr0_7 hc0_7; have HB := A_ (Below.refl w.heap.size w); have H : (if a0_0 = 1 then (if 0 < (l0_7.length : Int) then ((lustrumref11_text.f k ((rd_T26 l0_7 0).f0) ((rd_T26 l0_7 0).f1.f0) ((rd_T26 l0_7 0).f1.f1) ((rd_T26 l0_7 0).f1.f2) ((rd_T26 l0_7 0).f1.f3) ((rd_T26 l0_7 0).f2) ((rd_T26 l0_7 0).f3) ((rd_T26 l0_7 0).f4)).bind fun t303 => (if t303.size + 1 ≤ 9223372036854775807 then (if 1 < (l0_7.length : Int) then ((lustrumref11_text.f k ((rd_T26 l0_7 1).f0) ((rd_T26 l0_7 1).f1.f0) ((rd_T26 l0_7 1).f1.f1) ((rd_T26 l0_7 1).f1.f2) ((rd_T26 l0_7 1).f1.f3) ((rd_T26 l0_7 1).f2) ((rd_T26 l0_7 1).f3) ((rd_T26 l0_7 1).f4)).bind fun t305 => (if (t303 ++ (⟨#[47]⟩ : ByteArray)).size + t305.size ≤ 9223372036854775807 then (some ((t303 ++ (⟨#[47]⟩ : ByteArray)) ++ t305)) else (none))) else (none)) else (none))) else (none)) else (if a0_0 = 2 then (lustrumref11_text.l0 k (⟨#[91]⟩ : ByteArray) 0 a0_0 a0_1 a0_2 a0_3 a0_4 a0_5 a0_6 l0_7) else (if a0_0 = 3 then (some (⟨#[46, 46]⟩ : ByteArray)) else (if a0_0 = 4 then (some (⟨#[42]⟩ : ByteArray)) else ((lustrumref08_Text.f k a0_1 a0_2 a0_3 a0_4).bind fun t310 => (if a0_5 = true then (if t310.size + 1 ≤ 9223372036854775807 then (if a0_6 = true then (if (t310 ++ (⟨#[63]⟩ : ByteArray)).size + 1 ≤ 9223372036854775807 then (some ((t310 ++ (⟨#[63]⟩ : ByteArray)) ++ (⟨#[126]⟩ : ByteArray))) else (none)) else (some (t310 ++ (⟨#[63]⟩ : ByteArray)))) else (none)) else (if a0_6 = true then (if t310.size + 1 ≤ 9223372036854775807 then (some (t310 ++ (⟨#[126]⟩ : ByteArray))) else (none)) else (some t310)))))))) = some r := h; clear h
 by_cases c2 : a0_0 = 1
 ·rw [if_pos c2] at H
  have c2b0 : (a0_0 == 1) = true := beq_iff_eq.mpr c2; have c2b1 : (a0_0 != 1) = false := bne_eq_false_iff_eq.mpr c2; clear c2
  by_cases c3 : 0 < (l0_7.length : Int)
  ·rw [if_pos c3] at H
   have c3b0 := decide_eq_true c3; have c3b1 : decide (0 < l0_7.length) = true := decide_eq_true (by omega); clear c3; obtain ⟨t303, A4, H⟩ := bi_ H
   by_cases c5 : t303.size + 1 ≤ 9223372036854775807
   ·rw [if_pos c5] at H
    have c5b0 := eq_true c5; have c5b1 := decide_eq_true c5; (try have c5b2 : (9223372036854775807 < t303.size + 1) = False := eq_false (Nat.not_lt.2 c5))
    by_cases c6 : 1 < (l0_7.length : Int)
    ·rw [if_pos c6] at H
     have c6b0 := decide_eq_true c6; have c6b1 : decide (1 < l0_7.length) = true := decide_eq_true (by omega); clear c6; obtain ⟨t305, A7, H⟩ := bi_ H
     by_cases c8 : (t303 ++ (⟨#[47]⟩ : ByteArray)).size + t305.size ≤ 9223372036854775807
     ·rw [if_pos c8] at H
      have c8b0 := eq_true c8; have c8b1 := decide_eq_true c8; (try have c8b2 : (9223372036854775807 < (t303 ++ (⟨#[47]⟩ : ByteArray)).size + t305.size) = False := eq_false (Nat.not_lt.2 c8)); (try have c8b3 : (9223372036854775807 < t303.size + 1 + t305.size) = False := eq_false (Nat.not_lt.2 (by have h_ := c8; simp only [ByteArray.size_append] at h_; exact h_))); obtain rfl := Option.some.inj H; go_enter Try.func59, Try.ntmps59; (try go_wp2_with (first | (refine gx_ w 1 (n8_ a0_0 a0_1 a0_2 a0_3 a0_4 a0_5 a0_6 (.slice A0_7 l0_7.length c0_7)) 26 ?_; clear HB; intro gb301 w9 BK301 GE301 HB; have GW301 := GE301; have Z10 := bz8_ BK301))); replace BK301 := A_ (blk_drew BK301.out); replace HB := A_ (below_drew1 HB.out); have p302 : 0 ≤ (0 : Int) := (by omega); have q302 : 0 < (l0_7.length : Int) := od_; obtain ⟨ad302, A302_7, c302_7, e302, hx302_0, hx302_1, hx302_2, hx302_3, hx302_4, hx302_5, hx302_6, hx302_7, hl302_7, hi302_7⟩ := at_T26 HR0_7.out 0 p302 q302; have hw302_7 := ai_ hx302_7; have hw302_6 := ai_ hx302_6; have hw302_5 := ai_ hx302_5; have hw302_4 := ai_ hx302_4; have hw302_3 := ai_ hx302_3; have hw302_2 := ai_ hx302_2; have hw302_1 := ai_ hx302_1; have hw302_0 := ai_ hx302_0
      cases e302
      have qi302 : (0 < l0_7.length) = True := eq_true (by omega); replace hx302_0 := ai_ hx302_0; replace hx302_1 := ai_ hx302_1; replace hx302_2 := ai_ hx302_2; replace hx302_3 := ai_ hx302_3; replace hx302_4 := ai_ hx302_4; replace hx302_5 := ai_ hx302_5; replace hx302_6 := ai_ hx302_6; replace hx302_7 := ai_ hx302_7; replace hx302_0 := cl_ HB hx302_0; replace hx302_1 := cl_ HB hx302_1; replace hx302_2 := cl_ HB hx302_2; replace hx302_3 := cl_ HB hx302_3; replace hx302_4 := cl_ HB hx302_4; replace hx302_5 := cl_ HB hx302_5; replace hx302_6 := cl_ HB hx302_6; replace hx302_7 := cl_ HB hx302_7; have HR302_7 := A_ hi302_7; have HC302_7 := A_ hl302_7; clear hi302_7 hl302_7; replace p302 := eq_true p302; replace q302 := eq_true q302; have p304 : 0 ≤ (1 : Int) := (by omega); have q304 : 1 < (l0_7.length : Int) := od_; obtain ⟨ad304, A304_7, c304_7, e304, hx304_0, hx304_1, hx304_2, hx304_3, hx304_4, hx304_5, hx304_6, hx304_7, hl304_7, hi304_7⟩ := at_T26 HR0_7.out 1 p304 q304; have hw304_7 := aj_ hx304_7; have hw304_6 := aj_ hx304_6; have hw304_5 := aj_ hx304_5; have hw304_4 := aj_ hx304_4; have hw304_3 := aj_ hx304_3; have hw304_2 := aj_ hx304_2; have hw304_1 := aj_ hx304_1; have hw304_0 := aj_ hx304_0
      obtain rfl : ad302 = ad304 := (by injection e304); replace hx304_0 := aj_ hx304_0; replace hx304_1 := aj_ hx304_1; replace hx304_2 := aj_ hx304_2; replace hx304_3 := aj_ hx304_3; replace hx304_4 := aj_ hx304_4; replace hx304_5 := aj_ hx304_5; replace hx304_6 := aj_ hx304_6; replace hx304_7 := aj_ hx304_7; have qi304 : (1 < l0_7.length) = True := eq_true (by omega); (try rw [show ((1 : Int)).toNat = 1 from rfl] at hx304_0); (try rw [show 1 * 8 = 8 from rfl] at hx304_0); (try rw [show ((1 : Int)).toNat = 1 from rfl] at hx304_1); (try rw [show 1 * 8 = 8 from rfl] at hx304_1); (try rw [show ((1 : Int)).toNat = 1 from rfl] at hx304_2); (try rw [show 1 * 8 = 8 from rfl] at hx304_2); (try rw [show ((1 : Int)).toNat = 1 from rfl] at hx304_3); (try rw [show 1 * 8 = 8 from rfl] at hx304_3); (try rw [show ((1 : Int)).toNat = 1 from rfl] at hx304_4); (try rw [show 1 * 8 = 8 from rfl] at hx304_4); (try rw [show ((1 : Int)).toNat = 1 from rfl] at hx304_5); (try rw [show 1 * 8 = 8 from rfl] at hx304_5); (try rw [show ((1 : Int)).toNat = 1 from rfl] at hx304_6); (try rw [show 1 * 8 = 8 from rfl] at hx304_6); (try rw [show ((1 : Int)).toNat = 1 from rfl] at hx304_7); (try rw [show 1 * 8 = 8 from rfl] at hx304_7); replace hx304_0 := cl_ HB hx304_0; replace hx304_1 := cl_ HB hx304_1; replace hx304_2 := cl_ HB hx304_2; replace hx304_3 := cl_ HB hx304_3; replace hx304_4 := cl_ HB hx304_4; replace hx304_5 := cl_ HB hx304_5; replace hx304_6 := cl_ HB hx304_6; replace hx304_7 := cl_ HB hx304_7; have HR304_7 := A_ hi304_7; have HC304_7 := A_ hl304_7; clear hi304_7 hl304_7; replace p304 := eq_true p304; replace q304 := eq_true q304; refine start_ (n := 13) (S := fun w' => K8 w' gb301 (.int .i64 a0_0) (.int .i64 a0_1) (.string a0_2) (.string a0_3) (.string a0_4) (.bool a0_5) (.bool a0_6) (.slice (some ad302) l0_7.length c0_7) (w'.cell? ad302 = some (.int .i64 ((rd_T26 l0_7 0).f0)) ∧ w'.cell? ⟨ad302.block, ad302.off + 1, none⟩ = some (.int .i64 ((rd_T26 l0_7 0).f1.f0)) ∧ w'.cell? ⟨ad302.block, ad302.off + 2, none⟩ = some (.string ((rd_T26 l0_7 0).f1.f1)) ∧ w'.cell? ⟨ad302.block, ad302.off + 3, none⟩ = some (.string ((rd_T26 l0_7 0).f1.f2)) ∧ w'.cell? ⟨ad302.block, ad302.off + 4, none⟩ = some (.string ((rd_T26 l0_7 0).f1.f3)) ∧ w'.cell? ⟨ad302.block, ad302.off + 5, none⟩ = some (.bool ((rd_T26 l0_7 0).f2)) ∧ w'.cell? ⟨ad302.block, ad302.off + 6, none⟩ = some (.bool ((rd_T26 l0_7 0).f3)) ∧ w'.cell? ⟨ad302.block, ad302.off + 7, none⟩ = some (.slice A302_7 ((rd_T26 l0_7 0).f4).length c302_7) ∧ w'.cell? ⟨ad302.block, ad302.off + 8, none⟩ = some (.int .i64 ((rd_T26 l0_7 1).f0)) ∧ w'.cell? ⟨ad302.block, ad302.off + 8 + 1, none⟩ = some (.int .i64 ((rd_T26 l0_7 1).f1.f0)) ∧ w'.cell? ⟨ad302.block, ad302.off + 8 + 2, none⟩ = some (.string ((rd_T26 l0_7 1).f1.f1)) ∧ w'.cell? ⟨ad302.block, ad302.off + 8 + 3, none⟩ = some (.string ((rd_T26 l0_7 1).f1.f2)) ∧ w'.cell? ⟨ad302.block, ad302.off + 8 + 4, none⟩ = some (.string ((rd_T26 l0_7 1).f1.f3)) ∧ w'.cell? ⟨ad302.block, ad302.off + 8 + 5, none⟩ = some (.bool ((rd_T26 l0_7 1).f2)) ∧ w'.cell? ⟨ad302.block, ad302.off + 8 + 6, none⟩ = some (.bool ((rd_T26 l0_7 1).f3)) ∧ w'.cell? ⟨ad302.block, ad302.off + 8 + 7, none⟩ = some (.slice A304_7 ((rd_T26 l0_7 1).f4).length c304_7))) (ds := []) (ab 13 0) (by kernel_rfl) rfl rfl (kq8_ BK301 (⟨(cl_ HB hw302_0), (cl_ HB hw302_1), (cl_ HB hw302_2), (cl_ HB hw302_3), (cl_ HB hw302_4), (cl_ HB hw302_5), (cl_ HB hw302_6), (cl_ HB hw302_7), (cl_ HB hw304_0), (cl_ HB hw304_1), (cl_ HB hw304_2), (cl_ HB hw304_3), (cl_ HB hw304_4), (cl_ HB hw304_5), (cl_ HB hw304_6), (cl_ HB hw304_7)⟩)) (fun hHeld => ?_); refine with_tabW lustrumref11_text.tab3 lustrumref11_text.bits3 (fun HT_ HW_ => ?_)
      generalize w9.drew = w11 at BK301 HB HR302_7 HR304_7 hx302_0 hx302_1 hx302_2 hx302_3 hx302_4 hx302_5 hx302_6 hx302_7 hx304_0 hx304_1 hx304_2 hx304_3 hx304_4 hx304_5 hx304_6 hx304_7 hHeld ⊢; refine pA 0 10 13 1 ?_; refine pA 6 16 13 65 ?_; refine tB 1 11 13 67 ?_; refine pA 2 12 13 71 ?_; refine tB 3 13 13 79 ?_; refine tB 7 17 13 207 ?_; refine pA 8 18 13 463 ?_; refine tB 9 19 13 975 ?_; refine oA 4 (some 14) 13 991 fun K hK => ?_; refine gS Try.func59 #[.agg #[.int .i64 ((rd_T26 l0_7 0).f0), .int .i64 ((rd_T26 l0_7 0).f1.f0), .string ((rd_T26 l0_7 0).f1.f1), .string ((rd_T26 l0_7 0).f1.f2), .string ((rd_T26 l0_7 0).f1.f3), .bool ((rd_T26 l0_7 0).f2), .bool ((rd_T26 l0_7 0).f3), .slice A302_7 ((rd_T26 l0_7 0).f4).length c302_7]] ?_; (with_reducible refine (ih k (by omega) ((rd_T26 l0_7 0).f0) ((rd_T26 l0_7 0).f1.f0) ((rd_T26 l0_7 0).f1.f1) ((rd_T26 l0_7 0).f1.f2) ((rd_T26 l0_7 0).f1.f3) ((rd_T26 l0_7 0).f2) ((rd_T26 l0_7 0).f3) _ _ ((rd_T26 l0_7 0).f4) t303 _ ?side1 ?side2 A4.out).mono ?_)
      (case side1 => exact cb_ HR302_7)
      (case side2 => exact HC302_7.out)
      rintro e w12 ⟨rfl, hb⟩; refine ⟨_, rfl, ?_⟩; replace BK301 := bb_ BK301 hb; replace HB := bs_ hb; (try clear hb); refine hK.out _ _ (kq8_ BK301 (⟨(cl_ HB hw302_0), (cl_ HB hw302_1), (cl_ HB hw302_2), (cl_ HB hw302_3), (cl_ HB hw302_4), (cl_ HB hw302_5), (cl_ HB hw302_6), (cl_ HB hw302_7), (cl_ HB hw304_0), (cl_ HB hw304_1), (cl_ HB hw304_2), (cl_ HB hw304_3), (cl_ HB hw304_4), (cl_ HB hw304_5), (cl_ HB hw304_6), (cl_ HB hw304_7)⟩)) (fun hHeld => ?_); clear hK K; refine nA ?_; refine pA 5 15 13 1023 ?_; refine oA 10 (some 20) 13 2047 fun K hK => ?_; refine gS Try.func59 #[.agg #[.int .i64 ((rd_T26 l0_7 1).f0), .int .i64 ((rd_T26 l0_7 1).f1.f0), .string ((rd_T26 l0_7 1).f1.f1), .string ((rd_T26 l0_7 1).f1.f2), .string ((rd_T26 l0_7 1).f1.f3), .bool ((rd_T26 l0_7 1).f2), .bool ((rd_T26 l0_7 1).f3), .slice A304_7 ((rd_T26 l0_7 1).f4).length c304_7]] ?_; (with_reducible refine (ih k (by omega) ((rd_T26 l0_7 1).f0) ((rd_T26 l0_7 1).f1.f0) ((rd_T26 l0_7 1).f1.f1) ((rd_T26 l0_7 1).f1.f2) ((rd_T26 l0_7 1).f1.f3) ((rd_T26 l0_7 1).f2) ((rd_T26 l0_7 1).f3) _ _ ((rd_T26 l0_7 1).f4) t305 _ ?side1 ?side2 A7.out).mono ?_)
      (case side1 => exact cb_ HR304_7)
      (case side2 => exact HC304_7.out)
      rintro e w13 ⟨rfl, hb⟩; refine ⟨_, rfl, ?_⟩; replace BK301 := bb_ BK301 hb; replace HB := bs_ hb; (try clear hb); refine hK.out _ _ (kq8_ BK301 (⟨(cl_ HB hw302_0), (cl_ HB hw302_1), (cl_ HB hw302_2), (cl_ HB hw302_3), (cl_ HB hw302_4), (cl_ HB hw302_5), (cl_ HB hw302_6), (cl_ HB hw302_7), (cl_ HB hw304_0), (cl_ HB hw304_1), (cl_ HB hw304_2), (cl_ HB hw304_3), (cl_ HB hw304_4), (cl_ HB hw304_5), (cl_ HB hw304_6), (cl_ HB hw304_7)⟩)) (fun hHeld => ?_); clear hK K; refine nA ?_; refine pA 11 21 13 4095 ?_; refine pA 12 2 13 8191 ?_; refine done_ (done_of HT_.out (by kernel_rfl)) ?_; (try go_wp2); go_ret; exact ⟨re_, hs_⟩
     ·rw [if_neg c8] at H
      exact absurd H (by simp)
    ·rw [if_neg c6] at H
     exact absurd H (by simp)
   ·rw [if_neg c5] at H
    exact absurd H (by simp)
  ·rw [if_neg c3] at H
   exact absurd H (by simp)
 ·rw [if_neg c2] at H
  have c2b0 : (a0_0 == 1) = false := beq_eq_false_iff_ne.mpr c2; have c2b1 : (a0_0 != 1) = true := bne_iff_ne.mpr c2
  by_cases c14 : a0_0 = 2
  ·rw [if_pos c14] at H
   have c14b0 : (a0_0 == 2) = true := beq_iff_eq.mpr c14; have c14b1 : (a0_0 != 2) = false := bne_eq_false_iff_eq.mpr c14; clear c14; have H' := A_ H; clear H; go_enter Try.func59, Try.ntmps59; go_wp2_with (first | (refine gx_ w 1 (n8_ a0_0 a0_1 a0_2 a0_3 a0_4 a0_5 a0_6 (.slice A0_7 l0_7.length c0_7)) 26 ?_; clear HB; intro gb301 w15 BK301 GE301 HB; have GW301 := GE301; have Z16 := bz8_ BK301)); go_loopg [3, 4] k (fun kq v3 v4 w' => ∃ (x3_1 : ByteArray) (x4_1 : Int), v3 = .string x3_1 ∧ v4 = .int .i64 x4_1 ∧ Aside0 (lustrumref11_text.l0 kq x3_1 x4_1 a0_0 a0_1 a0_2 a0_3 a0_4 a0_5 a0_6 l0_7 = some r) ∧ Aside0 (kq ≤ k) ∧ Aside0 (w'.heap[gb301]? = some (.cells #[.int .i64 a0_0, .int .i64 a0_1, .string a0_2, .string a0_3, .string a0_4, .bool a0_5, .bool a0_6, (.slice A0_7 l0_7.length c0_7)] 26 (0, 0))) ∧ Aside0 (Below w.heap.size w w'))
   case atStart => exact ⟨((⟨#[91]⟩ : ByteArray)), (0), rf_, rf_, H', ⟨Nat.le_refl _⟩, ⟨bl_ BK301.out⟩, ⟨hs_⟩⟩
   case round =>
    clear H'; (try clear c1); (try clear c2); (try clear c2b0); (try clear c2b1); (try clear p2); (try clear c3); (try clear c3b0); (try clear c3b1); (try clear p3); (try clear q3); (try clear hx3); (try clear qi3); (try clear c5); (try clear c5b0); (try clear c5b1); (try clear c5b2); (try clear c6); (try clear c6b0); (try clear c6b1); (try clear c8); (try clear c8b0); (try clear c8b1); (try clear c8b2); (try clear c14); (try clear c14b0); (try clear c14b1); (try clear Z10); (try clear Z16); (try clear hx302_0); (try clear hx302_1); (try clear hx302_2); (try clear hx302_3); (try clear hx302_4); (try clear hx302_5); (try clear hx302_6); (try clear hx302_7); (try clear hx304_0); (try clear hx304_1); (try clear hx304_2); (try clear hx304_3); (try clear hx304_4); (try clear hx304_5); (try clear hx304_6); (try clear hx304_7); (try clear p302); (try clear p304); (try clear q302); (try clear q304); obtain ⟨x3_1, x4_1, rfl, rfl, HA, HK1, BK301, HB⟩ := hrel
    cases gk with
    | zero => exact absurd HA.out (by simp [lustrumref11_text.l0])
    | succ k1 =>
     have H := HA.out; clear HA; simp only [lustrumref11_text.l0] at H
     by_cases c17 : x4_1 < (l0_7.length : Int)
     ·rw [if_pos c17] at H
      have c17b0 := decide_eq_true c17; clear c17
      by_cases c18 : x4_1 > 0
      ·rw [if_pos c18] at H
       have c18b0 := decide_eq_true c18; clear c18
       by_cases c19 : x3_1.size + 2 ≤ 9223372036854775807
       ·rw [if_pos c19] at H
        have c19b0 := eq_true c19; have c19b1 := decide_eq_true c19; (try have c19b2 : (9223372036854775807 < x3_1.size + 2) = False := eq_false (Nat.not_lt.2 c19))
        by_cases c20 : 0 ≤ x4_1
        ·rw [if_pos c20] at H
         have c20b0 := decide_eq_true c20; clear c20; obtain ⟨t307, A21, H⟩ := bi_ H
         by_cases c22 : (x3_1 ++ (⟨#[44, 32]⟩ : ByteArray)).size + t307.size ≤ 9223372036854775807
         ·rw [if_pos c22] at H
          have c22b0 := eq_true c22; have c22b1 := decide_eq_true c22; (try have c22b2 : (9223372036854775807 < (x3_1 ++ (⟨#[44, 32]⟩ : ByteArray)).size + t307.size) = False := eq_false (Nat.not_lt.2 c22)); (try have c22b3 : (9223372036854775807 < x3_1.size + 2 + t307.size) = False := eq_false (Nat.not_lt.2 (by have h_ := c22; simp only [ByteArray.size_append] at h_; exact h_))); have H' := A_ H; clear H; have Z23 := bz8_ BK301; have p306 : 0 ≤ (x4_1 : Int) := od_; have q306 : x4_1 < (l0_7.length : Int) := od_; obtain ⟨ad306, A306_7, c306_7, e306, hx306_0, hx306_1, hx306_2, hx306_3, hx306_4, hx306_5, hx306_6, hx306_7, hl306_7, hi306_7⟩ := at_T26 HR0_7.out x4_1 p306 q306
          cases e306
          replace hx306_0 := cl_ HB hx306_0; replace hx306_1 := cl_ HB hx306_1; replace hx306_2 := cl_ HB hx306_2; replace hx306_3 := cl_ HB hx306_3; replace hx306_4 := cl_ HB hx306_4; replace hx306_5 := cl_ HB hx306_5; replace hx306_6 := cl_ HB hx306_6; replace hx306_7 := cl_ HB hx306_7; have HR306_7 := A_ hi306_7; have HC306_7 := A_ hl306_7; clear hi306_7 hl306_7; replace p306 := eq_true p306; replace q306 := eq_true q306; go_wp2_with (first | (refine gC 59 ?_; refine gL 41 Try.func59 #[.agg #[.int .i64 ((rd_T26 l0_7 x4_1).f0), .int .i64 ((rd_T26 l0_7 x4_1).f1.f0), .string ((rd_T26 l0_7 x4_1).f1.f1), .string ((rd_T26 l0_7 x4_1).f1.f2), .string ((rd_T26 l0_7 x4_1).f1.f3), .bool ((rd_T26 l0_7 x4_1).f2), .bool ((rd_T26 l0_7 x4_1).f3), .slice A306_7 ((rd_T26 l0_7 x4_1).f4).length c306_7]] ?_; (with_reducible refine (ih k1 (by have := HK1.out; omega) ((rd_T26 l0_7 x4_1).f0) ((rd_T26 l0_7 x4_1).f1.f0) ((rd_T26 l0_7 x4_1).f1.f1) ((rd_T26 l0_7 x4_1).f1.f2) ((rd_T26 l0_7 x4_1).f1.f3) ((rd_T26 l0_7 x4_1).f2) ((rd_T26 l0_7 x4_1).f3) _ _ ((rd_T26 l0_7 x4_1).f4) t307 _ ?side1 ?side2 A21.out).mono ?_); (case side1 => exact cb_ HR306_7); (case side2 => exact HC306_7.out); rintro e w24 ⟨rfl, hb⟩; refine ⟨_, rfl, ?_⟩; replace BK301 := bb_ BK301 hb; replace HB := bs_ hb; (try clear hb))); go_roundg k1
          case measure => have := HK1.out; omega
          case rel => exact ⟨((x3_1 ++ (⟨#[44, 32]⟩ : ByteArray)) ++ t307), (wrap64 (x4_1 + 1)), rf_, rf_, H', ⟨by have := HK1.out; omega⟩, ⟨bl_ BK301.out⟩, ⟨hs_⟩⟩
         ·rw [if_neg c22] at H
          exact absurd H (by simp)
        ·rw [if_neg c20] at H
         exact absurd H (by simp)
       ·rw [if_neg c19] at H
        exact absurd H (by simp)
      ·rw [if_neg c18] at H
       have c18b0 := decide_eq_false c18; clear c18
       by_cases c25 : 0 ≤ x4_1
       ·rw [if_pos c25] at H
        have c25b0 := decide_eq_true c25; clear c25; obtain ⟨t309, A26, H⟩ := bi_ H
        by_cases c27 : x3_1.size + t309.size ≤ 9223372036854775807
        ·rw [if_pos c27] at H
         have c27b0 := eq_true c27; have c27b1 := decide_eq_true c27; (try have c27b2 : (9223372036854775807 < x3_1.size + t309.size) = False := eq_false (Nat.not_lt.2 c27)); have H' := A_ H; clear H; have Z28 := bz8_ BK301; have p308 : 0 ≤ (x4_1 : Int) := od_; have q308 : x4_1 < (l0_7.length : Int) := od_; obtain ⟨ad308, A308_7, c308_7, e308, hx308_0, hx308_1, hx308_2, hx308_3, hx308_4, hx308_5, hx308_6, hx308_7, hl308_7, hi308_7⟩ := at_T26 HR0_7.out x4_1 p308 q308
         cases e308
         replace hx308_0 := cl_ HB hx308_0; replace hx308_1 := cl_ HB hx308_1; replace hx308_2 := cl_ HB hx308_2; replace hx308_3 := cl_ HB hx308_3; replace hx308_4 := cl_ HB hx308_4; replace hx308_5 := cl_ HB hx308_5; replace hx308_6 := cl_ HB hx308_6; replace hx308_7 := cl_ HB hx308_7; have HR308_7 := A_ hi308_7; have HC308_7 := A_ hl308_7; clear hi308_7 hl308_7; replace p308 := eq_true p308; replace q308 := eq_true q308; go_wp2_with (first | (refine gC 59 ?_; refine gL 41 Try.func59 #[.agg #[.int .i64 ((rd_T26 l0_7 x4_1).f0), .int .i64 ((rd_T26 l0_7 x4_1).f1.f0), .string ((rd_T26 l0_7 x4_1).f1.f1), .string ((rd_T26 l0_7 x4_1).f1.f2), .string ((rd_T26 l0_7 x4_1).f1.f3), .bool ((rd_T26 l0_7 x4_1).f2), .bool ((rd_T26 l0_7 x4_1).f3), .slice A308_7 ((rd_T26 l0_7 x4_1).f4).length c308_7]] ?_; (with_reducible refine (ih k1 (by have := HK1.out; omega) ((rd_T26 l0_7 x4_1).f0) ((rd_T26 l0_7 x4_1).f1.f0) ((rd_T26 l0_7 x4_1).f1.f1) ((rd_T26 l0_7 x4_1).f1.f2) ((rd_T26 l0_7 x4_1).f1.f3) ((rd_T26 l0_7 x4_1).f2) ((rd_T26 l0_7 x4_1).f3) _ _ ((rd_T26 l0_7 x4_1).f4) t309 _ ?side1 ?side2 A26.out).mono ?_); (case side1 => exact cb_ HR308_7); (case side2 => exact HC308_7.out); rintro e w29 ⟨rfl, hb⟩; refine ⟨_, rfl, ?_⟩; replace BK301 := bb_ BK301 hb; replace HB := bs_ hb; (try clear hb))); go_roundg k1
         case measure => have := HK1.out; omega
         case rel => exact ⟨(x3_1 ++ t309), (wrap64 (x4_1 + 1)), rf_, rf_, H', ⟨by have := HK1.out; omega⟩, ⟨bl_ BK301.out⟩, ⟨hs_⟩⟩
        ·rw [if_neg c27] at H
         exact absurd H (by simp)
       ·rw [if_neg c25] at H
        exact absurd H (by simp)
     ·rw [if_neg c17] at H
      have c17b0 := decide_eq_false c17; have c17b9 := c17b0; (try simp only [hl302_7] at c17b9); (try simp only [hl304_7] at c17b9); (try simp only [hl306_7] at c17b9); (try simp only [hl308_7] at c17b9); clear c17
      by_cases c30 : x3_1.size + 1 ≤ 9223372036854775807
      ·rw [if_pos c30] at H
       have c30b0 := eq_true c30; have c30b1 := decide_eq_true c30; (try have c30b2 : (9223372036854775807 < x3_1.size + 1) = False := eq_false (Nat.not_lt.2 c30)); obtain rfl := Option.some.inj H; have Z31 := bz8_ BK301; go_wp2; go_ret; exact ⟨re_, hs_⟩
      ·rw [if_neg c30] at H
       exact absurd H (by simp)
  ·rw [if_neg c14] at H
   have c14b0 : (a0_0 == 2) = false := beq_eq_false_iff_ne.mpr c14; have c14b1 : (a0_0 != 2) = true := bne_iff_ne.mpr c14
   by_cases c32 : a0_0 = 3
   ·rw [if_pos c32] at H
    have c32b0 : (a0_0 == 3) = true := beq_iff_eq.mpr c32; have c32b1 : (a0_0 != 3) = false := bne_eq_false_iff_eq.mpr c32; clear c32; obtain rfl := Option.some.inj H; go_enter Try.func59, Try.ntmps59; go_wp2_with (first | (refine gx_ w 1 (n8_ a0_0 a0_1 a0_2 a0_3 a0_4 a0_5 a0_6 (.slice A0_7 l0_7.length c0_7)) 26 ?_; clear HB; intro gb301 w33 BK301 GE301 HB; have GW301 := GE301; have Z34 := bz8_ BK301)); go_ret; exact ⟨re_, hs_⟩
   ·rw [if_neg c32] at H
    have c32b0 : (a0_0 == 3) = false := beq_eq_false_iff_ne.mpr c32; have c32b1 : (a0_0 != 3) = true := bne_iff_ne.mpr c32
    by_cases c35 : a0_0 = 4
    ·rw [if_pos c35] at H
     have c35b0 : (a0_0 == 4) = true := beq_iff_eq.mpr c35; have c35b1 : (a0_0 != 4) = false := bne_eq_false_iff_eq.mpr c35; clear c35; obtain rfl := Option.some.inj H; go_enter Try.func59, Try.ntmps59; go_wp2_with (first | (refine gx_ w 1 (n8_ a0_0 a0_1 a0_2 a0_3 a0_4 a0_5 a0_6 (.slice A0_7 l0_7.length c0_7)) 26 ?_; clear HB; intro gb301 w36 BK301 GE301 HB; have GW301 := GE301; have Z37 := bz8_ BK301)); go_ret; exact ⟨re_, hs_⟩
    ·rw [if_neg c35] at H
     have c35b0 : (a0_0 == 4) = false := beq_eq_false_iff_ne.mpr c35; have c35b1 : (a0_0 != 4) = true := bne_iff_ne.mpr c35; obtain ⟨t310, A38, H⟩ := bi_ H
     by_cases c39 : a0_5 = true
     ·subst c39
      replace H := iP_ H
      by_cases c40 : t310.size + 1 ≤ 9223372036854775807
      ·rw [if_pos c40] at H
       have c40b0 := eq_true c40; have c40b1 := decide_eq_true c40; (try have c40b2 : (9223372036854775807 < t310.size + 1) = False := eq_false (Nat.not_lt.2 c40))
       by_cases c41 : a0_6 = true
       ·subst c41
        replace H := iP_ H
        by_cases c42 : (t310 ++ (⟨#[63]⟩ : ByteArray)).size + 1 ≤ 9223372036854775807
        ·rw [if_pos c42] at H
         have c42b0 := eq_true c42; have c42b1 := decide_eq_true c42; (try have c42b2 : (9223372036854775807 < (t310 ++ (⟨#[63]⟩ : ByteArray)).size + 1) = False := eq_false (Nat.not_lt.2 c42)); (try have c42b3 : (9223372036854775807 < t310.size + 1 + 1) = False := eq_false (Nat.not_lt.2 (by have h_ := c42; simp only [ByteArray.size_append] at h_; exact h_))); obtain rfl := Option.some.inj H; go_enter Try.func59, Try.ntmps59; go_wp2_with (first | (refine gx_ w 1 (n8_ a0_0 a0_1 a0_2 a0_3 a0_4 true true (.slice A0_7 l0_7.length c0_7)) 26 ?_; clear HB; intro gb301 w43 BK301 GE301 HB; have GW301 := GE301; have Z44 := bz8_ BK301) | (refine gC 76 ?_; refine gL 51 Try.func76 #[.agg (n4_ a0_1 a0_2 a0_3 a0_4)] ?_; (with_reducible refine (lustrumref08_Text.calls k a0_1 a0_2 a0_3 a0_4 t310 _ A38.out).mono ?_); rintro e w45 ⟨rfl, hb⟩; refine ⟨_, rfl, ?_⟩; replace BK301 := bb_ BK301 hb; replace HB := bs_ hb; (try clear hb); have Z46 := bz8_ BK301))
         go_ret; exact ⟨re_, hs_⟩
        ·rw [if_neg c42] at H
         exact absurd H (by simp)
       ·replace c41 := Bool.eq_false_iff.mpr c41
        subst c41; replace H := iN_ H; obtain rfl := Option.some.inj H; go_enter Try.func59, Try.ntmps59; go_wp2_with (first | (refine gx_ w 1 (n8_ a0_0 a0_1 a0_2 a0_3 a0_4 true false (.slice A0_7 l0_7.length c0_7)) 26 ?_; clear HB; intro gb301 w47 BK301 GE301 HB; have GW301 := GE301; have Z48 := bz8_ BK301) | (refine gC 76 ?_; refine gL 51 Try.func76 #[.agg (n4_ a0_1 a0_2 a0_3 a0_4)] ?_; (with_reducible refine (lustrumref08_Text.calls k a0_1 a0_2 a0_3 a0_4 t310 _ A38.out).mono ?_); rintro e w49 ⟨rfl, hb⟩; refine ⟨_, rfl, ?_⟩; replace BK301 := bb_ BK301 hb; replace HB := bs_ hb; (try clear hb); have Z50 := bz8_ BK301))
        go_ret; exact ⟨re_, hs_⟩
      ·rw [if_neg c40] at H
       exact absurd H (by simp)
     ·replace c39 := Bool.eq_false_iff.mpr c39
      subst c39; replace H := iN_ H
      by_cases c51 : a0_6 = true
      ·subst c51
       replace H := iP_ H
       by_cases c52 : t310.size + 1 ≤ 9223372036854775807
       ·rw [if_pos c52] at H
        have c52b0 := eq_true c52; have c52b1 := decide_eq_true c52; (try have c52b2 : (9223372036854775807 < t310.size + 1) = False := eq_false (Nat.not_lt.2 c52)); obtain rfl := Option.some.inj H; go_enter Try.func59, Try.ntmps59; go_wp2_with (first | (refine gx_ w 1 (n8_ a0_0 a0_1 a0_2 a0_3 a0_4 false true (.slice A0_7 l0_7.length c0_7)) 26 ?_; clear HB; intro gb301 w53 BK301 GE301 HB; have GW301 := GE301; have Z54 := bz8_ BK301) | (refine gC 76 ?_; refine gL 51 Try.func76 #[.agg (n4_ a0_1 a0_2 a0_3 a0_4)] ?_; (with_reducible refine (lustrumref08_Text.calls k a0_1 a0_2 a0_3 a0_4 t310 _ A38.out).mono ?_); rintro e w55 ⟨rfl, hb⟩; refine ⟨_, rfl, ?_⟩; replace BK301 := bb_ BK301 hb; replace HB := bs_ hb; (try clear hb); have Z56 := bz8_ BK301))
        go_ret; exact ⟨re_, hs_⟩
       ·rw [if_neg c52] at H
        exact absurd H (by simp)
      ·replace c51 := Bool.eq_false_iff.mpr c51
       subst c51; replace H := iN_ H; obtain rfl := Option.some.inj H; go_enter Try.func59, Try.ntmps59; go_wp2_with (first | (refine gx_ w 1 (n8_ a0_0 a0_1 a0_2 a0_3 a0_4 false false (.slice A0_7 l0_7.length c0_7)) 26 ?_; clear HB; intro gb301 w57 BK301 GE301 HB; have GW301 := GE301; have Z58 := bz8_ BK301) | (refine gC 76 ?_; refine gL 51 Try.func76 #[.agg (n4_ a0_1 a0_2 a0_3 a0_4)] ?_; (with_reducible refine (lustrumref08_Text.calls k a0_1 a0_2 a0_3 a0_4 t310 _ A38.out).mono ?_); rintro e w59 ⟨rfl, hb⟩; refine ⟨_, rfl, ?_⟩; replace BK301 := bb_ BK301 hb; replace HB := bs_ hb; (try clear hb); have Z60 := bz8_ BK301))
       go_ret; exact ⟨re_, hs_⟩
set_option maxHeartbeats 8000000 in
set_option maxRecDepth 100000 in
theorem lustrumref11_Text.calls (k : Nat) (a0_0 a0_1 : Int) (a0_2 a0_3 a0_4 : ByteArray) (a0_5 a0_6 : Bool) (A0_7 : Option Addr) (c0_7 : Nat) (l0_7 : List (S26)) (r : ByteArray) (w : World) (hr0_7 : Kd.C k26 w A0_7 l0_7.length l0_7) (hc0_7 : l0_7.length ≤ c0_7) (h : lustrumref11_Text.f k a0_0 a0_1 a0_2 a0_3 a0_4 a0_5 a0_6 l0_7 = some r) :
  Calls Try.prog 34 #[.agg #[.int .i64 a0_0, .int .i64 a0_1, .string a0_2, .string a0_3, .string a0_4, .bool a0_5, .bool a0_6, .slice A0_7 l0_7.length c0_7]] w fun e w' => e = .returned (.string r) ∧ Below w.heap.size w w' := by
 have hu26 := Try.underlying26; have HR0_7 := A_ hr0_7; have HC0_7 := A_ hc0_7; clear hr0_7 hc0_7; have HB := A_ (Below.refl w.heap.size w); have H : ((lustrumref10_Sane.f k a0_0 a0_1 a0_2 a0_3 a0_4 a0_5 a0_6 l0_7).bind fun t312 => (if t312 = true then ((lustrumref11_text.f k a0_0 a0_1 a0_2 a0_3 a0_4 a0_5 a0_6 l0_7).bind fun t313 => (some t313)) else (some (⟨#[]⟩ : ByteArray)))) = some r := h; clear h; obtain ⟨t312, A2, H⟩ := bi_ H
 by_cases c3 : t312 = true
 ·subst c3
  replace H := iP_ H; obtain ⟨t313, A4, H⟩ := bi_ H; obtain rfl := Option.some.inj H; go_enter Try.func34, Try.ntmps34; go_wp2_with (first | (refine gx_ w 1 (n8_ a0_0 a0_1 a0_2 a0_3 a0_4 a0_5 a0_6 (.slice A0_7 l0_7.length c0_7)) 26 ?_; clear HB; intro gb311 w5 BK311 GE311 HB; have GW311 := GE311; have Z6 := bz8_ BK311) | (refine gC 19 ?_; refine gL 4 Try.func19 #[.agg (n8_ a0_0 a0_1 a0_2 a0_3 a0_4 a0_5 a0_6 (.slice A0_7 l0_7.length c0_7))] ?_; (with_reducible refine (lustrumref10_Sane.calls k a0_0 a0_1 a0_2 a0_3 a0_4 a0_5 a0_6 _ _ l0_7 true _ ?side1 ?side2 A2.out).mono ?_); (case side1 => exact cb_ HR0_7); (case side2 => exact HC0_7.out); rintro e w7 ⟨rfl, hb⟩; refine ⟨_, rfl, ?_⟩; replace BK311 := bb_ BK311 hb; replace HB := bs_ hb; (try clear hb); have Z8 := bz8_ BK311) | (refine gC 59 ?_; refine gL 7 Try.func59 #[.agg (n8_ a0_0 a0_1 a0_2 a0_3 a0_4 a0_5 a0_6 (.slice A0_7 l0_7.length c0_7))] ?_; (with_reducible refine (lustrumref11_text.calls k a0_0 a0_1 a0_2 a0_3 a0_4 a0_5 a0_6 _ _ l0_7 t313 _ ?side1 ?side2 A4.out).mono ?_); (case side1 => exact cb_ HR0_7); (case side2 => exact HC0_7.out); rintro e w9 ⟨rfl, hb⟩; refine ⟨_, rfl, ?_⟩; replace BK311 := bb_ BK311 hb; replace HB := bs_ hb; (try clear hb)))
  go_ret; exact ⟨re_, hs_⟩
 ·replace c3 := Bool.eq_false_iff.mpr c3
  subst c3; replace H := iN_ H; obtain rfl := Option.some.inj H; go_enter Try.func34, Try.ntmps34; go_wp2_with (first | (refine gx_ w 1 (n8_ a0_0 a0_1 a0_2 a0_3 a0_4 a0_5 a0_6 (.slice A0_7 l0_7.length c0_7)) 26 ?_; clear HB; intro gb311 w10 BK311 GE311 HB; have GW311 := GE311; have Z11 := bz8_ BK311) | (refine gC 19 ?_; refine gL 4 Try.func19 #[.agg (n8_ a0_0 a0_1 a0_2 a0_3 a0_4 a0_5 a0_6 (.slice A0_7 l0_7.length c0_7))] ?_; (with_reducible refine (lustrumref10_Sane.calls k a0_0 a0_1 a0_2 a0_3 a0_4 a0_5 a0_6 _ _ l0_7 false _ ?side1 ?side2 A2.out).mono ?_); (case side1 => exact cb_ HR0_7); (case side2 => exact HC0_7.out); rintro e w12 ⟨rfl, hb⟩; refine ⟨_, rfl, ?_⟩; replace BK311 := bb_ BK311 hb; replace HB := bs_ hb; (try clear hb))); go_ret; exact ⟨re_, hs_⟩
end Go.Proofs.Ytfehdlkklfcnpaa.A
namespace Go.Proofs.Ytfehdlkklfcnpaa.A
open Go.RowKit Go.Proofs.YtfehdlkklfcnpaaW.PrintWords Go.Proofs.YtfehdlkklfcnpaaW.PrintLast Go.Proofs.YtfehdlkklfcnpaaW.PrintMore
attribute [local go_sem] max2_int min2_int max_two min_two max_three min_three max_four min_four
attribute [local go_sem high] leq_flip
attribute [local go_sem] isSome_setCell
set_option maxHeartbeats 8000000 in
set_option maxRecDepth 100000 in
theorem lustrumref12_put.calls (k : Nat) (P0_ : Nat → Prop) (A0 : Option Addr) (c0 : Nat) (l0 : List (S26)) (a1_0 a1_1 : Int) (a1_2 a1_3 a1_4 : ByteArray) (a1_5 a1_6 : Bool) (P1_7_ : Nat → Prop) (A1_7 : Option Addr) (c1_7 : Nat) (l1_7 r : List (S26)) (w : World) (hs0 : Kd.V k26 26 w w.heap.size (fun k_ => P0_ k_) (.slice A0 l0.length c0) l0) (hs1_7 : Kd.V k26 26 w w.heap.size (fun k_ => P1_7_ k_) (.slice A1_7 l1_7.length c1_7) l1_7) (h : lustrumref12_put.f k l0 a1_0 a1_1 a1_2 a1_3 a1_4 a1_5 a1_6 l1_7 = some r) :
  Calls Try.prog 67 #[.slice A0 l0.length c0, .agg #[.int .i64 a1_0, .int .i64 a1_1, .string a1_2, .string a1_3, .string a1_4, .bool a1_5, .bool a1_6, .slice A1_7 l1_7.length c1_7]] w fun e w' => ∃ v0_ : Value, e = .returned (v0_) ∧ Kd.N k26 26 w' w.heap.size (fun k_ => ((P0_ k_ ∨ P1_7_ k_) ∨ w.heap.size ≤ k_)) v0_ r ∧ Below w.heap.size w w' := by
 have hu26 := Try.underlying26; have HO0 := A_ (show Kd.V k26 26 w w.heap.size (fun k_ => ((P0_ k_ ∨ P1_7_ k_) ∨ w.heap.size ≤ k_)) (.slice A0 l0.length c0) l0 from Kd.V_mono hs0 (fun k_ hk => .inl (.inl hk))); have HO1_7 := A_ (show Kd.V k26 26 w w.heap.size (fun k_ => ((P0_ k_ ∨ P1_7_ k_) ∨ w.heap.size ≤ k_)) (.slice A1_7 l1_7.length c1_7) l1_7 from Kd.V_mono hs1_7 (fun k_ hk => .inl (.inr hk))); have HB := A_ (Below.refl w.heap.size w); have H : ((lustrumref11_Text.f k a1_0 a1_1 a1_2 a1_3 a1_4 a1_5 a1_6 l1_7).bind fun t389 => (lustrumref12_put.l0 k l0 t389 ([] : List (S26)) false 0 a1_0 a1_1 a1_2 a1_3 a1_4 a1_5 a1_6 l1_7)) = some r := h; clear h; obtain ⟨t389, A3, H⟩ := bi_ H; have H' := A_ H; clear H; go_enter Try.func67, Try.ntmps67; go_wp2_with (first | (refine gD 3 ?_; refine bxe_ 3 (n8_ a1_0 a1_1 a1_2 a1_3 a1_4 a1_5 a1_6 (.slice A1_7 l1_7.length c1_7)) 26 ?_; intro gb388 hg w4 hbox hb; replace HO0 := eV_ HO0 hg hb; replace HO1_7 := eV_ HO1_7 hg hb; have BK388 := A_ (hbox); have GW388 := gs_ w hg; have GE388 := gs_ w hg; replace HB := bs_ hb; clear hb hbox hg; have Z5 := bz8_ BK388) | (refine gC 34 ?_; refine gL 11 Try.func34 #[.agg (n8_ a1_0 a1_1 a1_2 a1_3 a1_4 a1_5 a1_6 (.slice A1_7 l1_7.length c1_7))] ?_; (with_reducible refine (lustrumref11_Text.calls k a1_0 a1_1 a1_2 a1_3 a1_4 a1_5 a1_6 _ _ l1_7 t389 _ ?side1 ?side2 A3.out).mono ?_); (case side1 => exact cr_ (Kd.V_reads' HO1_7.out).2.2); (case side2 => exact (Kd.V_reads' HO1_7.out).2.1); rintro e w6 ⟨rfl, hb⟩; refine ⟨_, rfl, ?_⟩; replace HO0 := bV_ HO0 hb; replace HO1_7 := bV_ HO1_7 hb; replace BK388 := bb_ BK388 hb; replace HB := bs_ hb; (try clear hb)))
 go_loopg [6, 7, 8] k (fun kq v6 v7 v8 w' => ∃ (x6_1 : List (S26)) (x7_1 : Bool) (x8_1 : Int), v7 = .bool x7_1 ∧ v8 = .int .i64 x8_1 ∧ Aside0 (lustrumref12_put.l0 kq l0 t389 x6_1 x7_1 x8_1 a1_0 a1_1 a1_2 a1_3 a1_4 a1_5 a1_6 l1_7 = some r) ∧ Aside0 (kq ≤ k) ∧ Aside0 (Kd.V k26 26 w' w.heap.size (fun k_ => ((P0_ k_ ∨ P1_7_ k_) ∨ w.heap.size ≤ k_) ∧ nv_ k_ v6 ∧ k_ ≠ gb388) (.slice A0 l0.length c0) l0) ∧ Aside0 (Kd.N k26 26 w' w.heap.size (fun k_ => ((P0_ k_ ∨ P1_7_ k_) ∨ w.heap.size ≤ k_) ∧ k_ ≠ gb388) v6 x6_1) ∧ Aside0 (Kd.V k26 26 w' w.heap.size (fun k_ => ((P0_ k_ ∨ P1_7_ k_) ∨ w.heap.size ≤ k_) ∧ nv_ k_ v6 ∧ k_ ≠ gb388) (.slice A1_7 l1_7.length c1_7) l1_7) ∧ Aside0 (w'.heap[gb388]? = some (.cells #[.int .i64 a1_0, .int .i64 a1_1, .string a1_2, .string a1_3, .string a1_4, .bool a1_5, .bool a1_6, (.slice A1_7 l1_7.length c1_7)] 26 (0, 0))) ∧ Aside0 (Below w.heap.size w w'))
 case atStart => exact ⟨(([] : List (S26))), (false), (0), rf_, rf_, H', ⟨Nat.le_refl _⟩, ⟨by (with_reducible repeat (first | apply Kd.V_alloc | apply Kd.V_drewN | apply Kd.V_drew)); exact Kd.V_mono HO0.out (fun _ hk => ⟨hk.1, ⟨(by simp [Value.ownBlock]), hk.2⟩⟩)⟩, ⟨by first | exact Kd.R_nil _ _ _ _ _ | exact Kd.N_nil _ _ _ _ _ | exact Kd.V_nil _ _ _ _ _ | exact Kd.Q_nil _ _ _ _ _ | exact Kd.S_nil _ _ _ _ _⟩, ⟨by (with_reducible repeat (first | apply Kd.V_alloc | apply Kd.V_drewN | apply Kd.V_drew)); exact Kd.V_mono HO1_7.out (fun _ hk => ⟨hk.1, ⟨(by simp [Value.ownBlock]), hk.2⟩⟩)⟩, ⟨bl_ BK388.out⟩, ⟨hs_⟩⟩
 case round =>
  clear H'; (try clear c1); (try clear p2); (try clear c3); (try clear c6); (try clear Z5); obtain ⟨x6_1, x7_1, x8_1, rfl, rfl, HA, HK1, HO_0, HO_6, HO_389007, BK388, HB⟩ := hrel
  cases gk with
  | zero => exact absurd HA.out (by simp [lustrumref12_put.l0])
  | succ k1 =>
   have H := HA.out; clear HA; simp only [lustrumref12_put.l0] at H
   by_cases c7 : x8_1 < (l0.length : Int)
   ·rw [if_pos c7] at H
    have c7b0 := decide_eq_true c7; clear c7
    by_cases c8 : 0 ≤ x8_1
    ·rw [if_pos c8] at H
     have c8b0 := decide_eq_true c8; clear c8; obtain ⟨t394, A9, H⟩ := bi_ H; have HC10 := A_ H; clear H; have p393 : 0 ≤ (x8_1 : Int) := od_; have q393 : x8_1 < (l0.length : Int) := od_; obtain ⟨ad393, A393_7, c393_7, e393, hx393_0, hx393_1, hx393_2, hx393_3, hx393_4, hx393_5, hx393_6, hx393_7, hl393_7, hi393_7⟩ := at_T26 (Kd.V_reads' HO_0.out).2.2 x8_1 p393 q393
     cases e393
     obtain ⟨ce393, hce393, hMe393, hcc393⟩ := Kd.V_get HO_0.out z26 x8_1 p393 (by first | exact q393 | exact od_ | (have e_ := (Kd.V_reads' HO_0.out).1; omega)); obtain ⟨ua393_7, uc393_7, rfl, ul393_7, ge393_7⟩ := k26_openF hMe393; have hv393_7 := hcc393 7 _ rfl; rw [add_field _ _ 7 (by omega)] at hv393_7; replace hv393_7 := Option.some.inj (hv393_7.symm.trans hx393_7); injection hv393_7 with hva_ hvn_ hvc_; rw [hva_] at ge393_7; rw [hvc_] at ul393_7; have HL393_7 := A_ (show Kd.V k26 26 _ w.heap.size _ _ ((rd_T26 l0 x8_1).f4) from Kd.V_mk ul393_7 ge393_7); clear hva_ hvn_ hvc_ ge393_7 ul393_7; clear hcc393 hce393; have HR393_7 := A_ hi393_7; have HC393_7 := A_ hl393_7; clear hi393_7 hl393_7; replace p393 := eq_true p393; replace q393 := eq_true q393; go_upto_region 8 with (first | (refine gC 34 ?_; refine gL 22 Try.func34 #[.agg #[.int .i64 ((rd_T26 l0 x8_1).f0), .int .i64 ((rd_T26 l0 x8_1).f1.f0), .string ((rd_T26 l0 x8_1).f1.f1), .string ((rd_T26 l0 x8_1).f1.f2), .string ((rd_T26 l0 x8_1).f1.f3), .bool ((rd_T26 l0 x8_1).f2), .bool ((rd_T26 l0 x8_1).f3), .slice A393_7 ((rd_T26 l0 x8_1).f4).length c393_7]] ?_; (with_reducible refine (lustrumref11_Text.calls k1 ((rd_T26 l0 x8_1).f0) ((rd_T26 l0 x8_1).f1.f0) ((rd_T26 l0 x8_1).f1.f1) ((rd_T26 l0 x8_1).f1.f2) ((rd_T26 l0 x8_1).f1.f3) ((rd_T26 l0 x8_1).f2) ((rd_T26 l0 x8_1).f3) _ _ ((rd_T26 l0 x8_1).f4) t394 _ ?side1 ?side2 A9.out).mono ?_); (case side1 => repeat (first | exact (by repeat (first | (with_reducible exact HR393_7.out) | (with_reducible refine Kd.C_alloc ?_ _) | (with_reducible refine Kd.C_drewN ?_ _) | (with_reducible refine Kd.C_drew ?_) | exact HR393_7.out)) | (with_reducible refine Kd.C_alloc ?_ _) | (with_reducible refine Kd.C_drewN ?_ _) | (with_reducible refine Kd.C_drew ?_))); (case side2 => exact HC393_7.out); rintro e w11 ⟨rfl, hb⟩; refine ⟨_, rfl, ?_⟩; replace HO_0 := bV_ HO_0 hb; replace HO_6 := bN_ HO_6 hb; replace HO_389007 := bV_ HO_389007 hb; replace HL393_7 := bV_ HL393_7 hb; replace BK388 := bb_ BK388 hb; replace HR393_7 := A_ (Kd.C_below (by repeat (first | (with_reducible exact HR393_7.out) | (with_reducible refine Kd.C_alloc ?_ _) | (with_reducible refine Kd.C_drewN ?_ _) | (with_reducible refine Kd.C_drew ?_) | exact HR393_7.out)) hb); replace HB := bs_ hb; (try clear hb))); (try simp only [Act.put, List.setIfInBounds_toArray, List.set_cons_zero, List.set_cons_succ]); go_cut [29] (fun v29 wc => ∃ (kq : Nat) (x29_9 : Bool), v29 = .bool x29_9 ∧ Aside0 (lustrumref12_put.j1 kq l0 t389 x6_1 x7_1 x8_1 t394 x29_9 a1_0 a1_1 a1_2 a1_3 a1_4 a1_5 a1_6 l1_7 = some r) ∧ Aside0 (kq ≤ k1) ∧ Aside0 (Kd.V k26 26 wc w.heap.size (fun k_ => ((P0_ k_ ∨ P1_7_ k_) ∨ w.heap.size ≤ k_) ∧ nv_ k_ u6 ∧ k_ ≠ gb388) (.slice (some ad393) l0.length c0) l0) ∧ Aside0 (Kd.N k26 26 wc w.heap.size (fun k_ => ((P0_ k_ ∨ P1_7_ k_) ∨ w.heap.size ≤ k_) ∧ k_ ≠ gb388) u6 x6_1) ∧ Aside0 (Kd.V k26 26 wc w.heap.size (fun k_ => ((P0_ k_ ∨ P1_7_ k_) ∨ w.heap.size ≤ k_) ∧ nv_ k_ u6 ∧ k_ ≠ gb388) (.slice A1_7 l1_7.length c1_7) l1_7) ∧ Aside0 (wc.heap[gb388]? = some (.cells #[.int .i64 a1_0, .int .i64 a1_1, .string a1_2, .string a1_3, .string a1_4, .bool a1_5, .bool a1_6, (.slice A1_7 l1_7.length c1_7)] 26 (0, 0))) ∧ Aside0 (Kd.C k26 wc A393_7 ((rd_T26 l0 x8_1).f4).length ((rd_T26 l0 x8_1).f4)) ∧ Aside0 (Below w.heap.size w wc))
     case first =>
      have H := HC10.out; clear HC10
      by_cases c12 : x7_1 = true
      ·subst c12
       replace H := iP_ H; have H' := A_ H; clear H; go_wp2; go_meet
       case rel => exact ⟨_, (false), rf_, H', ⟨by have := HK1.out; first | omega | exact Nat.le_refl _⟩, ⟨fxV_ HO_0.out⟩, ⟨fxN_ HO_6.out⟩, ⟨fxV_ HO_389007.out⟩, ⟨bl_ BK388.out⟩, ⟨by repeat (first | (with_reducible exact HR393_7.out) | (with_reducible refine Kd.C_alloc ?_ _) | (with_reducible refine Kd.C_drewN ?_ _) | (with_reducible refine Kd.C_drew ?_) | exact HR393_7.out)⟩, ⟨hs_⟩⟩
      ·replace c12 := Bool.eq_false_iff.mpr c12
       subst c12; replace H := iN_ H; have H' := A_ H; clear H; go_wp2; go_meet
       case rel => exact ⟨_, (!(Op.bytesLess t394.toList t389.toList)), rf_, H', ⟨by have := HK1.out; first | omega | exact Nat.le_refl _⟩, ⟨fxV_ HO_0.out⟩, ⟨fxN_ HO_6.out⟩, ⟨fxV_ HO_389007.out⟩, ⟨bl_ BK388.out⟩, ⟨by repeat (first | (with_reducible exact HR393_7.out) | (with_reducible refine Kd.C_alloc ?_ _) | (with_reducible refine Kd.C_drewN ?_ _) | (with_reducible refine Kd.C_drew ?_) | exact HR393_7.out)⟩, ⟨hs_⟩⟩
     case rest =>
      clear HC10; (try clear c1); (try clear p2); (try clear c3); (try clear p3); (try clear q3); (try clear hx3); (try clear c6); (try clear c7); (try clear c7b0); (try clear c8); (try clear c8b0); (try clear c12); (try clear Z5); (try clear hx393_0); (try clear hx393_1); (try clear hx393_2); (try clear hx393_3); (try clear hx393_4); (try clear hx393_5); (try clear hx393_6); (try clear hx393_7); (try clear p2); (try clear p393); (try clear q393); obtain ⟨kq, x29_9, rfl, HA, HJ9, HO_0, HO_6, HO_389007, BK388, HR393_7, HB⟩ := hcut
      cases kq with
      | zero => exact absurd HA.out (by simp [lustrumref12_put.j1])
      | succ kj9 =>
       have H := HA.out; clear HA; simp only [lustrumref12_put.j1] at H
       by_cases c13 : x29_9 = true
       ·subst c13
        replace H := iP_ H
        by_cases c14 : (Op.bytesLess t389.toList t394.toList) = true
        ·rw [if_pos c14] at H
         have c14b0 : (Op.bytesLess t389.toList t394.toList) = true := c14; clear c14
         by_cases c15 : x6_1.length < 1466015503701
         ·rw [if_pos c15] at H
          have LMc15 := A_ c15; clear c15; obtain ⟨y395, hy395⟩ : ∃ y_ : List (S26), y_ = (x6_1 ++ [(⟨a1_0, (⟨a1_1, a1_2, a1_3, a1_4⟩ : S23), a1_5, a1_6, l1_7⟩ : S26)]) := ⟨_, rfl⟩; (replace H : (if 0 ≤ x8_1 then (if x8_1 < (l0.length : Int) then (if y395.length < 1466015503701 then (lustrumref12_put.l0 kj9 l0 t389 (y395 ++ [(⟨(rd_T26 l0 x8_1).f0, (⟨(rd_T26 l0 x8_1).f1.f0, (rd_T26 l0 x8_1).f1.f1, (rd_T26 l0 x8_1).f1.f2, (rd_T26 l0 x8_1).f1.f3⟩ : S23), (rd_T26 l0 x8_1).f2, (rd_T26 l0 x8_1).f3, (rd_T26 l0 x8_1).f4⟩ : S26)]) true (wrap64 (x8_1 + 1)) a1_0 a1_1 a1_2 a1_3 a1_4 a1_5 a1_6 l1_7) else (none)) else (none)) else (none)) = some r := hy_ hy395 H); have Ny395 := A_ hy395; clear hy395
          by_cases c16 : 0 ≤ x8_1
          ·rw [if_pos c16] at H
           have c16b0 := decide_eq_true c16; clear c16
           by_cases c17 : x8_1 < (l0.length : Int)
           ·rw [if_pos c17] at H
            have c17b0 := decide_eq_true c17; clear c17
            by_cases c18 : y395.length < 1466015503701
            ·rw [if_pos c18] at H
             have LMc18 := A_ c18; clear c18; obtain ⟨y399, hy399⟩ : ∃ y_ : List (S26), y_ = (y395 ++ [(⟨(rd_T26 l0 x8_1).f0, (⟨(rd_T26 l0 x8_1).f1.f0, (rd_T26 l0 x8_1).f1.f1, (rd_T26 l0 x8_1).f1.f2, (rd_T26 l0 x8_1).f1.f3⟩ : S23), (rd_T26 l0 x8_1).f2, (rd_T26 l0 x8_1).f3, (rd_T26 l0 x8_1).f4⟩ : S26)]) := ⟨_, rfl⟩; (replace H : (lustrumref12_put.l0 kj9 l0 t389 y399 true (wrap64 (x8_1 + 1)) a1_0 a1_1 a1_2 a1_3 a1_4 a1_5 a1_6 l1_7) = some r := hy_ hy399 H); have Ny399 := A_ hy399; clear hy399; have H' := A_ H; clear H; have Z19 := bz8_ BK388; go_wp2_with (first | ((with_reducible refine gate_builtin (b := .append) (xs := #[.tmp 33, .tmp 35]) rfl ?_); at_builtin; refine Kd.N_append k26 (w0 := w) w.heap.size rfl (.tmp 33) (.tmp 35) 24 26 (.agg #[(.int .i64 0), (.int .i64 0), (.string ⟨#[]⟩), (.string ⟨#[]⟩), (.string ⟨#[]⟩), (.bool false), (.bool false), (.slice none 0 0)]) 96 rfl Try.underlying24 info26 rfl (by decide) (by omega) u6 x6_1 (⟨a1_0, (⟨a1_1, a1_2, a1_3, a1_4⟩ : S23), a1_5, a1_6, l1_7⟩ : S26) [.int .i64 a1_0, .int .i64 a1_1, .string a1_2, .string a1_3, .string a1_4, .bool a1_5, .bool a1_6, .slice A1_7 l1_7.length c1_7] (fun k_ => ((P0_ k_ ∨ P1_7_ k_) ∨ w.heap.size ≤ k_) ∧ k_ ≠ gb388) (fun k_ => ((fun k_ => ((P0_ k_ ∨ P1_7_ k_) ∨ w.heap.size ≤ k_) ∧ k_ ≠ gb388)) k_ ∧ nv_ k_ u6) rfl rfl ?aP (fun _ hk => hk) ?aF ?aO ?aB ?aS ?aL ?_; (case aP => exact (k26_mkF _ _ (⟨a1_0, (⟨a1_1, a1_2, a1_3, a1_4⟩ : S23), a1_5, a1_6, l1_7⟩ : S26) (Kd.V_reads' (Kd.V_mono (ok' := (fun k_ => ((fun k_ => ((P0_ k_ ∨ P1_7_ k_) ∨ w.heap.size ≤ k_) ∧ k_ ≠ gb388)) k_ ∧ nv_ k_ u6)) (HO_389007.out) (fun k_ hk => ⟨⟨hk.1, hk.2.2⟩, hk.2.1⟩))).2.1 (Kd.V_F (Kd.V_mono (ok' := (fun k_ => ((fun k_ => ((P0_ k_ ∨ P1_7_ k_) ∨ w.heap.size ≤ k_) ∧ k_ ≠ gb388)) k_ ∧ nv_ k_ u6)) (HO_389007.out) (fun k_ hk => ⟨⟨hk.1, hk.2.2⟩, hk.2.1⟩))))); (case aB => exact hs_); (case aF => exact (fun k_ hk => ⟨(.inr (Nat.le_trans (below_size hs_) hk)), fb_ BK388 k_ hk⟩)); (case aO => exact (fxN_ HO_6.out)); (case aS => exact (below_size hs_)); (case aL => have := LMc15.out; omega); intro v396 w20 ho hb hg hat; rw [← Ny395.out] at ho; replace HO_0 := A_ (Kd.V_afterv (ok := (fun k_ => ((P0_ k_ ∨ P1_7_ k_) ∨ w.heap.size ≤ k_) ∧ k_ ≠ gb388)) (fmV_ HO_0.out) hg hat); replace HO_389007 := A_ (Kd.V_afterv (ok := (fun k_ => ((P0_ k_ ∨ P1_7_ k_) ∨ w.heap.size ≤ k_) ∧ k_ ≠ gb388)) (fmV_ HO_389007.out) hg hat); replace BK388 := A_ (blk_grown (g := gb388) (o := .cells (n8_ a1_0 a1_1 a1_2 a1_3 a1_4 a1_5 a1_6 (.slice A1_7 l1_7.length c1_7)) 26 (0, 0)) (bl_ BK388.out) hg (Kd.N_away HO_6.out (fun _ hk => hk.2))); replace HB := A_ (hb); have HO397 := A_ (ho); clear HO_6; clear ho hb hg hat; have p398 : 0 ≤ (x8_1 : Int) := od_; have q398 : x8_1 < (l0.length : Int) := od_; obtain ⟨ad398, A398_7, c398_7, e398, hx398_0, hx398_1, hx398_2, hx398_3, hx398_4, hx398_5, hx398_6, hx398_7, hl398_7, hi398_7⟩ := at_T26 (Kd.V_reads' HO_0.out).2.2 x8_1 p398 q398; obtain rfl : ad393 = ad398 := (by injection e398); obtain ⟨ce398, hce398, hMe398, hcc398⟩ := Kd.V_get HO_0.out z26 x8_1 p398 (by first | exact q398 | exact od_ | (have e_ := (Kd.V_reads' HO_0.out).1; omega)); obtain ⟨ua398_7, uc398_7, rfl, ul398_7, ge398_7⟩ := k26_openF hMe398; have hv398_7 := hcc398 7 _ rfl; rw [add_field _ _ 7 (by omega)] at hv398_7; replace hv398_7 := Option.some.inj (hv398_7.symm.trans hx398_7); injection hv398_7 with hva_ hvn_ hvc_; rw [hva_] at ge398_7; rw [hvc_] at ul398_7; have HL398_7 := A_ (show Kd.V k26 26 _ w.heap.size _ _ ((rd_T26 l0 x8_1).f4) from Kd.V_mk ul398_7 ge398_7); clear hva_ hvn_ hvc_ ge398_7 ul398_7; clear hcc398 hce398; have HR398_7 := A_ hi398_7; have HC398_7 := A_ hl398_7; clear hi398_7 hl398_7; replace p398 := eq_true p398; replace q398 := eq_true q398) | ((with_reducible refine gate_builtin (b := .append) (xs := #[.tmp 37, .tmp 42]) rfl ?_); at_builtin; refine Kd.N_append k26 (w0 := w) w.heap.size rfl (.tmp 37) (.tmp 42) 24 26 (.agg #[(.int .i64 0), (.int .i64 0), (.string ⟨#[]⟩), (.string ⟨#[]⟩), (.string ⟨#[]⟩), (.bool false), (.bool false), (.slice none 0 0)]) 96 rfl Try.underlying24 info26 rfl (by decide) (by omega) v396 y395 (⟨(rd_T26 l0 x8_1).f0, (⟨(rd_T26 l0 x8_1).f1.f0, (rd_T26 l0 x8_1).f1.f1, (rd_T26 l0 x8_1).f1.f2, (rd_T26 l0 x8_1).f1.f3⟩ : S23), (rd_T26 l0 x8_1).f2, (rd_T26 l0 x8_1).f3, (rd_T26 l0 x8_1).f4⟩ : S26) [.int .i64 ((rd_T26 l0 x8_1).f0), .int .i64 ((rd_T26 l0 x8_1).f1.f0), .string ((rd_T26 l0 x8_1).f1.f1), .string ((rd_T26 l0 x8_1).f1.f2), .string ((rd_T26 l0 x8_1).f1.f3), .bool ((rd_T26 l0 x8_1).f2), .bool ((rd_T26 l0 x8_1).f3), .slice A398_7 ((rd_T26 l0 x8_1).f4).length c398_7] (fun k_ => ((P0_ k_ ∨ P1_7_ k_) ∨ w.heap.size ≤ k_) ∧ k_ ≠ gb388) (fun k_ => ((fun k_ => ((P0_ k_ ∨ P1_7_ k_) ∨ w.heap.size ≤ k_) ∧ k_ ≠ gb388)) k_ ∧ nv_ k_ v396) rfl rfl ?aP (fun _ hk => hk) ?aF ?aO ?aB ?aS ?aL ?_; (case aP => exact (k26_mkF _ _ (⟨(rd_T26 l0 x8_1).f0, (⟨(rd_T26 l0 x8_1).f1.f0, (rd_T26 l0 x8_1).f1.f1, (rd_T26 l0 x8_1).f1.f2, (rd_T26 l0 x8_1).f1.f3⟩ : S23), (rd_T26 l0 x8_1).f2, (rd_T26 l0 x8_1).f3, (rd_T26 l0 x8_1).f4⟩ : S26) (Kd.V_reads' (Kd.V_mono (ok' := (fun k_ => ((fun k_ => ((P0_ k_ ∨ P1_7_ k_) ∨ w.heap.size ≤ k_) ∧ k_ ≠ gb388)) k_ ∧ nv_ k_ v396)) (HL398_7.out) (fun k_ hk => ⟨⟨hk.1.1, hk.1.2⟩, hk.2⟩))).2.1 (Kd.V_F (Kd.V_mono (ok' := (fun k_ => ((fun k_ => ((P0_ k_ ∨ P1_7_ k_) ∨ w.heap.size ≤ k_) ∧ k_ ≠ gb388)) k_ ∧ nv_ k_ v396)) (HL398_7.out) (fun k_ hk => ⟨⟨hk.1.1, hk.1.2⟩, hk.2⟩))))); (case aB => exact hs_); (case aF => exact (fun k_ hk => ⟨(.inr (Nat.le_trans (below_size hs_) hk)), fb_ BK388 k_ hk⟩)); (case aO => exact (fxN_ HO397.out)); (case aS => exact (below_size hs_)); (case aL => have := LMc18.out; omega); intro v400 w21 ho hb hg hat; rw [← Ny399.out] at ho; replace HO_0 := A_ (Kd.V_afterv (ok := (fun k_ => ((P0_ k_ ∨ P1_7_ k_) ∨ w.heap.size ≤ k_) ∧ k_ ≠ gb388)) (hrV_ HO_0.out) hg hat); replace HO_389007 := A_ (Kd.V_afterv (ok := (fun k_ => ((P0_ k_ ∨ P1_7_ k_) ∨ w.heap.size ≤ k_) ∧ k_ ≠ gb388)) (hrV_ HO_389007.out) hg hat); replace BK388 := A_ (blk_grown (g := gb388) (o := .cells (n8_ a1_0 a1_1 a1_2 a1_3 a1_4 a1_5 a1_6 (.slice A1_7 l1_7.length c1_7)) 26 (0, 0)) (bl_ BK388.out) hg (Kd.N_away HO397.out (fun _ hk => hk.2))); replace HL398_7 := A_ (Kd.V_afterv (ok := (fun k_ => ((P0_ k_ ∨ P1_7_ k_) ∨ w.heap.size ≤ k_) ∧ k_ ≠ gb388)) (hrV_ HL398_7.out) hg hat); replace HB := A_ (hb); have HO401 := A_ (ho); clear HO397; clear ho hb hg hat))
             go_roundg kj9
             case measure => have := HK1.out; have := HJ9.out; omega
             case rel => exact ⟨(y399), (true), (wrap64 (x8_1 + 1)), rf_, rf_, H', ⟨by have := HK1.out; have := HJ9.out; omega⟩, ⟨fmV_ HO_0.out⟩, ⟨fxN_ HO401.out⟩, ⟨fmV_ HO_389007.out⟩, ⟨bl_ BK388.out⟩, ⟨hs_⟩⟩
            ·rw [if_neg c18] at H
             exact absurd H (by simp)
           ·rw [if_neg c17] at H
            exact absurd H (by simp)
          ·rw [if_neg c16] at H
           exact absurd H (by simp)
         ·rw [if_neg c15] at H
          exact absurd H (by simp)
        ·rw [if_neg c14] at H
         (have c14b0 : (Op.bytesLess t389.toList t394.toList) = false := by simpa using c14); clear c14
         by_cases c22 : 0 ≤ x8_1
         ·rw [if_pos c22] at H
          have c22b0 := decide_eq_true c22; clear c22
          by_cases c23 : x8_1 < (l0.length : Int)
          ·rw [if_pos c23] at H
           have c23b0 := decide_eq_true c23; clear c23
           by_cases c24 : x6_1.length < 1466015503701
           ·rw [if_pos c24] at H
            have LMc24 := A_ c24; clear c24; obtain ⟨y403, hy403⟩ : ∃ y_ : List (S26), y_ = (x6_1 ++ [(⟨(rd_T26 l0 x8_1).f0, (⟨(rd_T26 l0 x8_1).f1.f0, (rd_T26 l0 x8_1).f1.f1, (rd_T26 l0 x8_1).f1.f2, (rd_T26 l0 x8_1).f1.f3⟩ : S23), (rd_T26 l0 x8_1).f2, (rd_T26 l0 x8_1).f3, (rd_T26 l0 x8_1).f4⟩ : S26)]) := ⟨_, rfl⟩; (replace H : (lustrumref12_put.l0 kj9 l0 t389 y403 true (wrap64 (x8_1 + 1)) a1_0 a1_1 a1_2 a1_3 a1_4 a1_5 a1_6 l1_7) = some r := hy_ hy403 H); have Ny403 := A_ hy403; clear hy403; have H' := A_ H; clear H; have p402 : 0 ≤ (x8_1 : Int) := od_; have q402 : x8_1 < (l0.length : Int) := od_; obtain ⟨ad402, A402_7, c402_7, e402, hx402_0, hx402_1, hx402_2, hx402_3, hx402_4, hx402_5, hx402_6, hx402_7, hl402_7, hi402_7⟩ := at_T26 (Kd.V_reads' HO_0.out).2.2 x8_1 p402 q402; obtain rfl : ad393 = ad402 := (by injection e402); obtain ⟨ce402, hce402, hMe402, hcc402⟩ := Kd.V_get HO_0.out z26 x8_1 p402 (by first | exact q402 | exact od_ | (have e_ := (Kd.V_reads' HO_0.out).1; omega)); obtain ⟨ua402_7, uc402_7, rfl, ul402_7, ge402_7⟩ := k26_openF hMe402; have hv402_7 := hcc402 7 _ rfl; rw [add_field _ _ 7 (by omega)] at hv402_7; replace hv402_7 := Option.some.inj (hv402_7.symm.trans hx402_7); injection hv402_7 with hva_ hvn_ hvc_; rw [hva_] at ge402_7; rw [hvc_] at ul402_7; have HL402_7 := A_ (show Kd.V k26 26 _ w.heap.size _ _ ((rd_T26 l0 x8_1).f4) from Kd.V_mk ul402_7 ge402_7); clear hva_ hvn_ hvc_ ge402_7 ul402_7; clear hcc402 hce402; have HR402_7 := A_ hi402_7; have HC402_7 := A_ hl402_7; clear hi402_7 hl402_7; replace p402 := eq_true p402; replace q402 := eq_true q402; go_wp2_with (first | ((with_reducible refine gate_builtin (b := .append) (xs := #[.tmp 37, .tmp 42]) rfl ?_); at_builtin; refine Kd.N_append k26 (w0 := w) w.heap.size rfl (.tmp 37) (.tmp 42) 24 26 (.agg #[(.int .i64 0), (.int .i64 0), (.string ⟨#[]⟩), (.string ⟨#[]⟩), (.string ⟨#[]⟩), (.bool false), (.bool false), (.slice none 0 0)]) 96 rfl Try.underlying24 info26 rfl (by decide) (by omega) u6 x6_1 (⟨(rd_T26 l0 x8_1).f0, (⟨(rd_T26 l0 x8_1).f1.f0, (rd_T26 l0 x8_1).f1.f1, (rd_T26 l0 x8_1).f1.f2, (rd_T26 l0 x8_1).f1.f3⟩ : S23), (rd_T26 l0 x8_1).f2, (rd_T26 l0 x8_1).f3, (rd_T26 l0 x8_1).f4⟩ : S26) [.int .i64 ((rd_T26 l0 x8_1).f0), .int .i64 ((rd_T26 l0 x8_1).f1.f0), .string ((rd_T26 l0 x8_1).f1.f1), .string ((rd_T26 l0 x8_1).f1.f2), .string ((rd_T26 l0 x8_1).f1.f3), .bool ((rd_T26 l0 x8_1).f2), .bool ((rd_T26 l0 x8_1).f3), .slice A402_7 ((rd_T26 l0 x8_1).f4).length c402_7] (fun k_ => ((P0_ k_ ∨ P1_7_ k_) ∨ w.heap.size ≤ k_) ∧ k_ ≠ gb388) (fun k_ => ((fun k_ => ((P0_ k_ ∨ P1_7_ k_) ∨ w.heap.size ≤ k_) ∧ k_ ≠ gb388)) k_ ∧ nv_ k_ u6) rfl rfl ?aP (fun _ hk => hk) ?aF ?aO ?aB ?aS ?aL ?_; (case aP => exact (k26_mkF _ _ (⟨(rd_T26 l0 x8_1).f0, (⟨(rd_T26 l0 x8_1).f1.f0, (rd_T26 l0 x8_1).f1.f1, (rd_T26 l0 x8_1).f1.f2, (rd_T26 l0 x8_1).f1.f3⟩ : S23), (rd_T26 l0 x8_1).f2, (rd_T26 l0 x8_1).f3, (rd_T26 l0 x8_1).f4⟩ : S26) (Kd.V_reads' (Kd.V_mono (ok' := (fun k_ => ((fun k_ => ((P0_ k_ ∨ P1_7_ k_) ∨ w.heap.size ≤ k_) ∧ k_ ≠ gb388)) k_ ∧ nv_ k_ u6)) (HL402_7.out) (fun k_ hk => ⟨⟨hk.1, hk.2.2⟩, hk.2.1⟩))).2.1 (Kd.V_F (Kd.V_mono (ok' := (fun k_ => ((fun k_ => ((P0_ k_ ∨ P1_7_ k_) ∨ w.heap.size ≤ k_) ∧ k_ ≠ gb388)) k_ ∧ nv_ k_ u6)) (HL402_7.out) (fun k_ hk => ⟨⟨hk.1, hk.2.2⟩, hk.2.1⟩))))); (case aB => exact hs_); (case aF => exact (fun k_ hk => ⟨(.inr (Nat.le_trans (below_size hs_) hk)), fb_ BK388 k_ hk⟩)); (case aO => exact (fxN_ HO_6.out)); (case aS => exact (below_size hs_)); (case aL => have := LMc24.out; omega); intro v404 w25 ho hb hg hat; rw [← Ny403.out] at ho; replace HO_0 := A_ (Kd.V_afterv (ok := (fun k_ => ((P0_ k_ ∨ P1_7_ k_) ∨ w.heap.size ≤ k_) ∧ k_ ≠ gb388)) (fmV_ HO_0.out) hg hat); replace HO_389007 := A_ (Kd.V_afterv (ok := (fun k_ => ((P0_ k_ ∨ P1_7_ k_) ∨ w.heap.size ≤ k_) ∧ k_ ≠ gb388)) (fmV_ HO_389007.out) hg hat); replace BK388 := A_ (blk_grown (g := gb388) (o := .cells (n8_ a1_0 a1_1 a1_2 a1_3 a1_4 a1_5 a1_6 (.slice A1_7 l1_7.length c1_7)) 26 (0, 0)) (bl_ BK388.out) hg (Kd.N_away HO_6.out (fun _ hk => hk.2))); replace HL402_7 := A_ (Kd.V_afterv (ok := (fun k_ => ((P0_ k_ ∨ P1_7_ k_) ∨ w.heap.size ≤ k_) ∧ k_ ≠ gb388)) (fmV_ HL402_7.out) hg hat); replace HB := A_ (hb); have HO405 := A_ (ho); clear HO_6; clear ho hb hg hat))
            go_roundg kj9
            case measure => have := HK1.out; have := HJ9.out; omega
            case rel => exact ⟨(y403), (true), (wrap64 (x8_1 + 1)), rf_, rf_, H', ⟨by have := HK1.out; have := HJ9.out; omega⟩, ⟨fmV_ HO_0.out⟩, ⟨fxN_ HO405.out⟩, ⟨fmV_ HO_389007.out⟩, ⟨bl_ BK388.out⟩, ⟨hs_⟩⟩
           ·rw [if_neg c24] at H
            exact absurd H (by simp)
          ·rw [if_neg c23] at H
           exact absurd H (by simp)
         ·rw [if_neg c22] at H
          exact absurd H (by simp)
       ·replace c13 := Bool.eq_false_iff.mpr c13
        subst c13; replace H := iN_ H
        by_cases c26 : 0 ≤ x8_1
        ·rw [if_pos c26] at H
         have c26b0 := decide_eq_true c26; clear c26
         by_cases c27 : x8_1 < (l0.length : Int)
         ·rw [if_pos c27] at H
          have c27b0 := decide_eq_true c27; clear c27
          by_cases c28 : x6_1.length < 1466015503701
          ·rw [if_pos c28] at H
           have LMc28 := A_ c28; clear c28; obtain ⟨y407, hy407⟩ : ∃ y_ : List (S26), y_ = (x6_1 ++ [(⟨(rd_T26 l0 x8_1).f0, (⟨(rd_T26 l0 x8_1).f1.f0, (rd_T26 l0 x8_1).f1.f1, (rd_T26 l0 x8_1).f1.f2, (rd_T26 l0 x8_1).f1.f3⟩ : S23), (rd_T26 l0 x8_1).f2, (rd_T26 l0 x8_1).f3, (rd_T26 l0 x8_1).f4⟩ : S26)]) := ⟨_, rfl⟩; (replace H : (lustrumref12_put.l0 kj9 l0 t389 y407 x7_1 (wrap64 (x8_1 + 1)) a1_0 a1_1 a1_2 a1_3 a1_4 a1_5 a1_6 l1_7) = some r := hy_ hy407 H); have Ny407 := A_ hy407; clear hy407; have H' := A_ H; clear H; have p406 : 0 ≤ (x8_1 : Int) := od_; have q406 : x8_1 < (l0.length : Int) := od_; obtain ⟨ad406, A406_7, c406_7, e406, hx406_0, hx406_1, hx406_2, hx406_3, hx406_4, hx406_5, hx406_6, hx406_7, hl406_7, hi406_7⟩ := at_T26 (Kd.V_reads' HO_0.out).2.2 x8_1 p406 q406; obtain rfl : ad393 = ad406 := (by injection e406); obtain ⟨ce406, hce406, hMe406, hcc406⟩ := Kd.V_get HO_0.out z26 x8_1 p406 (by first | exact q406 | exact od_ | (have e_ := (Kd.V_reads' HO_0.out).1; omega)); obtain ⟨ua406_7, uc406_7, rfl, ul406_7, ge406_7⟩ := k26_openF hMe406; have hv406_7 := hcc406 7 _ rfl; rw [add_field _ _ 7 (by omega)] at hv406_7; replace hv406_7 := Option.some.inj (hv406_7.symm.trans hx406_7); injection hv406_7 with hva_ hvn_ hvc_; rw [hva_] at ge406_7; rw [hvc_] at ul406_7; have HL406_7 := A_ (show Kd.V k26 26 _ w.heap.size _ _ ((rd_T26 l0 x8_1).f4) from Kd.V_mk ul406_7 ge406_7); clear hva_ hvn_ hvc_ ge406_7 ul406_7; clear hcc406 hce406; have HR406_7 := A_ hi406_7; have HC406_7 := A_ hl406_7; clear hi406_7 hl406_7; replace p406 := eq_true p406; replace q406 := eq_true q406; go_wp2_with (first | ((with_reducible refine gate_builtin (b := .append) (xs := #[.tmp 37, .tmp 42]) rfl ?_); at_builtin; refine Kd.N_append k26 (w0 := w) w.heap.size rfl (.tmp 37) (.tmp 42) 24 26 (.agg #[(.int .i64 0), (.int .i64 0), (.string ⟨#[]⟩), (.string ⟨#[]⟩), (.string ⟨#[]⟩), (.bool false), (.bool false), (.slice none 0 0)]) 96 rfl Try.underlying24 info26 rfl (by decide) (by omega) u6 x6_1 (⟨(rd_T26 l0 x8_1).f0, (⟨(rd_T26 l0 x8_1).f1.f0, (rd_T26 l0 x8_1).f1.f1, (rd_T26 l0 x8_1).f1.f2, (rd_T26 l0 x8_1).f1.f3⟩ : S23), (rd_T26 l0 x8_1).f2, (rd_T26 l0 x8_1).f3, (rd_T26 l0 x8_1).f4⟩ : S26) [.int .i64 ((rd_T26 l0 x8_1).f0), .int .i64 ((rd_T26 l0 x8_1).f1.f0), .string ((rd_T26 l0 x8_1).f1.f1), .string ((rd_T26 l0 x8_1).f1.f2), .string ((rd_T26 l0 x8_1).f1.f3), .bool ((rd_T26 l0 x8_1).f2), .bool ((rd_T26 l0 x8_1).f3), .slice A406_7 ((rd_T26 l0 x8_1).f4).length c406_7] (fun k_ => ((P0_ k_ ∨ P1_7_ k_) ∨ w.heap.size ≤ k_) ∧ k_ ≠ gb388) (fun k_ => ((fun k_ => ((P0_ k_ ∨ P1_7_ k_) ∨ w.heap.size ≤ k_) ∧ k_ ≠ gb388)) k_ ∧ nv_ k_ u6) rfl rfl ?aP (fun _ hk => hk) ?aF ?aO ?aB ?aS ?aL ?_; (case aP => exact (k26_mkF _ _ (⟨(rd_T26 l0 x8_1).f0, (⟨(rd_T26 l0 x8_1).f1.f0, (rd_T26 l0 x8_1).f1.f1, (rd_T26 l0 x8_1).f1.f2, (rd_T26 l0 x8_1).f1.f3⟩ : S23), (rd_T26 l0 x8_1).f2, (rd_T26 l0 x8_1).f3, (rd_T26 l0 x8_1).f4⟩ : S26) (Kd.V_reads' (Kd.V_mono (ok' := (fun k_ => ((fun k_ => ((P0_ k_ ∨ P1_7_ k_) ∨ w.heap.size ≤ k_) ∧ k_ ≠ gb388)) k_ ∧ nv_ k_ u6)) (HL406_7.out) (fun k_ hk => ⟨⟨hk.1, hk.2.2⟩, hk.2.1⟩))).2.1 (Kd.V_F (Kd.V_mono (ok' := (fun k_ => ((fun k_ => ((P0_ k_ ∨ P1_7_ k_) ∨ w.heap.size ≤ k_) ∧ k_ ≠ gb388)) k_ ∧ nv_ k_ u6)) (HL406_7.out) (fun k_ hk => ⟨⟨hk.1, hk.2.2⟩, hk.2.1⟩))))); (case aB => exact hs_); (case aF => exact (fun k_ hk => ⟨(.inr (Nat.le_trans (below_size hs_) hk)), fb_ BK388 k_ hk⟩)); (case aO => exact (fxN_ HO_6.out)); (case aS => exact (below_size hs_)); (case aL => have := LMc28.out; omega); intro v408 w29 ho hb hg hat; rw [← Ny407.out] at ho; replace HO_0 := A_ (Kd.V_afterv (ok := (fun k_ => ((P0_ k_ ∨ P1_7_ k_) ∨ w.heap.size ≤ k_) ∧ k_ ≠ gb388)) (fmV_ HO_0.out) hg hat); replace HO_389007 := A_ (Kd.V_afterv (ok := (fun k_ => ((P0_ k_ ∨ P1_7_ k_) ∨ w.heap.size ≤ k_) ∧ k_ ≠ gb388)) (fmV_ HO_389007.out) hg hat); replace BK388 := A_ (blk_grown (g := gb388) (o := .cells (n8_ a1_0 a1_1 a1_2 a1_3 a1_4 a1_5 a1_6 (.slice A1_7 l1_7.length c1_7)) 26 (0, 0)) (bl_ BK388.out) hg (Kd.N_away HO_6.out (fun _ hk => hk.2))); replace HL406_7 := A_ (Kd.V_afterv (ok := (fun k_ => ((P0_ k_ ∨ P1_7_ k_) ∨ w.heap.size ≤ k_) ∧ k_ ≠ gb388)) (fmV_ HL406_7.out) hg hat); replace HB := A_ (hb); have HO409 := A_ (ho); clear HO_6; clear ho hb hg hat))
           go_roundg kj9
           case measure => have := HK1.out; have := HJ9.out; omega
           case rel => exact ⟨(y407), (x7_1), (wrap64 (x8_1 + 1)), rf_, rf_, H', ⟨by have := HK1.out; have := HJ9.out; omega⟩, ⟨fmV_ HO_0.out⟩, ⟨fxN_ HO409.out⟩, ⟨fmV_ HO_389007.out⟩, ⟨bl_ BK388.out⟩, ⟨hs_⟩⟩
          ·rw [if_neg c28] at H
           exact absurd H (by simp)
         ·rw [if_neg c27] at H
          exact absurd H (by simp)
        ·rw [if_neg c26] at H
         exact absurd H (by simp)
    ·rw [if_neg c8] at H
     exact absurd H (by simp)
   ·rw [if_neg c7] at H
    have c7b0 := decide_eq_false c7; have c7b9 := c7b0; (try simp only [hl393_7] at c7b9); (try simp only [hl398_7] at c7b9); (try simp only [hl402_7] at c7b9); (try simp only [hl406_7] at c7b9); (try simp only [hl416_7] at c7b9); (try simp only [hl420_7] at c7b9); clear c7
    by_cases c30 : x7_1 = true
    ·subst c30
     replace H := iP_ H; obtain rfl := Option.some.inj H; go_wp2; go_ret; exact ⟨_, by first | rfl | (simp [errW_none, errW_some] <;> rfl) | (simp [*, errW_none, errW_some] <;> rfl), by (with_reducible repeat (first | apply Kd.N_alloc | apply Kd.N_drewN | apply Kd.N_drew)); exact Kd.N_mono HO_6.out (fun _ hk => hk.1), hs_⟩
    ·replace c30 := Bool.eq_false_iff.mpr c30
     subst c30; replace H := iN_ H
     by_cases c31 : x6_1.length < 1466015503701
     ·rw [if_pos c31] at H
      have LMc31 := A_ c31; clear c31; obtain ⟨y390, hy390⟩ : ∃ y_ : List (S26), y_ = (x6_1 ++ [(⟨a1_0, (⟨a1_1, a1_2, a1_3, a1_4⟩ : S23), a1_5, a1_6, l1_7⟩ : S26)]) := ⟨_, rfl⟩; (replace H : (some y390) = some r := hy_ hy390 H); have Ny390 := A_ hy390; clear hy390; obtain rfl := Option.some.inj H; have Z32 := bz8_ BK388; go_wp2_with (first | ((with_reducible refine gate_builtin (b := .append) (xs := #[.tmp 46, .tmp 48]) rfl ?_); at_builtin; refine Kd.N_append k26 (w0 := w) w.heap.size rfl (.tmp 46) (.tmp 48) 24 26 (.agg #[(.int .i64 0), (.int .i64 0), (.string ⟨#[]⟩), (.string ⟨#[]⟩), (.string ⟨#[]⟩), (.bool false), (.bool false), (.slice none 0 0)]) 96 rfl Try.underlying24 info26 rfl (by decide) (by omega) u6 x6_1 (⟨a1_0, (⟨a1_1, a1_2, a1_3, a1_4⟩ : S23), a1_5, a1_6, l1_7⟩ : S26) [.int .i64 a1_0, .int .i64 a1_1, .string a1_2, .string a1_3, .string a1_4, .bool a1_5, .bool a1_6, .slice A1_7 l1_7.length c1_7] (fun k_ => ((P0_ k_ ∨ P1_7_ k_) ∨ w.heap.size ≤ k_) ∧ k_ ≠ gb388) (fun k_ => ((fun k_ => ((P0_ k_ ∨ P1_7_ k_) ∨ w.heap.size ≤ k_) ∧ k_ ≠ gb388)) k_ ∧ nv_ k_ u6) rfl rfl ?aP (fun _ hk => hk) ?aF ?aO ?aB ?aS ?aL ?_; (case aP => exact (k26_mkF _ _ (⟨a1_0, (⟨a1_1, a1_2, a1_3, a1_4⟩ : S23), a1_5, a1_6, l1_7⟩ : S26) (Kd.V_reads' (Kd.V_mono (ok' := (fun k_ => ((fun k_ => ((P0_ k_ ∨ P1_7_ k_) ∨ w.heap.size ≤ k_) ∧ k_ ≠ gb388)) k_ ∧ nv_ k_ u6)) (HO_389007.out) (fun k_ hk => ⟨⟨hk.1, hk.2.2⟩, hk.2.1⟩))).2.1 (Kd.V_F (Kd.V_mono (ok' := (fun k_ => ((fun k_ => ((P0_ k_ ∨ P1_7_ k_) ∨ w.heap.size ≤ k_) ∧ k_ ≠ gb388)) k_ ∧ nv_ k_ u6)) (HO_389007.out) (fun k_ hk => ⟨⟨hk.1, hk.2.2⟩, hk.2.1⟩))))); (case aB => exact hs_); (case aF => exact (fun k_ hk => ⟨(.inr (Nat.le_trans (below_size hs_) hk)), fb_ BK388 k_ hk⟩)); (case aO => exact (fxN_ HO_6.out)); (case aS => exact (below_size hs_)); (case aL => have := LMc31.out; omega); intro v391 w33 ho hb hg hat; rw [← Ny390.out] at ho; replace HO_0 := A_ (Kd.V_afterv (ok := (fun k_ => ((P0_ k_ ∨ P1_7_ k_) ∨ w.heap.size ≤ k_) ∧ k_ ≠ gb388)) (fmV_ HO_0.out) hg hat); replace HO_389007 := A_ (Kd.V_afterv (ok := (fun k_ => ((P0_ k_ ∨ P1_7_ k_) ∨ w.heap.size ≤ k_) ∧ k_ ≠ gb388)) (fmV_ HO_389007.out) hg hat); replace BK388 := A_ (blk_grown (g := gb388) (o := .cells (n8_ a1_0 a1_1 a1_2 a1_3 a1_4 a1_5 a1_6 (.slice A1_7 l1_7.length c1_7)) 26 (0, 0)) (bl_ BK388.out) hg (Kd.N_away HO_6.out (fun _ hk => hk.2))); replace HB := A_ (hb); have HO392 := A_ (ho); clear HO_6; clear ho hb hg hat))
      go_ret; exact ⟨_, by first | rfl | (simp [errW_none, errW_some] <;> rfl) | (simp [*, errW_none, errW_some] <;> rfl), by (with_reducible repeat (first | apply Kd.N_alloc | apply Kd.N_drewN | apply Kd.N_drew)); exact Kd.N_mono HO392.out (fun _ hk => hk.1), hs_⟩
     ·rw [if_neg c31] at H
      exact absurd H (by simp)
set_option maxHeartbeats 8000000 in
set_option maxRecDepth 100000 in
theorem lustrumref12_Canon.calls (k : Nat) (a0_0 a0_1 : Int) (a0_2 a0_3 a0_4 : ByteArray) (a0_5 a0_6 : Bool) (P0_7_ : Nat → Prop) (A0_7 : Option Addr) (c0_7 : Nat) (l0_7 : List (S26)) (r1 r2 : Int) (r3 r4 r5 : ByteArray) (r6 r7 : Bool) (r8 : List (S26)) (w : World) (hs0_7 : Kd.V k26 26 w w.heap.size (fun k_ => P0_7_ k_) (.slice A0_7 l0_7.length c0_7) l0_7) (h : lustrumref12_Canon.f k a0_0 a0_1 a0_2 a0_3 a0_4 a0_5 a0_6 l0_7 = some (r1, r2, r3, r4, r5, r6, r7, r8)) :
  Calls Try.prog 41 #[.agg #[.int .i64 a0_0, .int .i64 a0_1, .string a0_2, .string a0_3, .string a0_4, .bool a0_5, .bool a0_6, .slice A0_7 l0_7.length c0_7]] w fun e w' => ∃ v7_ : Value, e = .returned (.agg #[.int .i64 r1, .int .i64 r2, .string r3, .string r4, .string r5, .bool r6, .bool r7, v7_]) ∧ Kd.V k26 26 w' w.heap.size (fun k_ => (P0_7_ k_ ∨ w.heap.size ≤ k_)) v7_ r8 ∧ Below w.heap.size w w' := by
 have hu26 := Try.underlying26; have HO0_7 := A_ (show Kd.V k26 26 w w.heap.size (fun k_ => (P0_7_ k_ ∨ w.heap.size ≤ k_)) (.slice A0_7 l0_7.length c0_7) l0_7 from Kd.V_mono hs0_7 (fun k_ hk => .inl hk)); have HB := A_ (Below.refl w.heap.size w); have H : ((lustrumref10_Sane.f k a0_0 a0_1 a0_2 a0_3 a0_4 a0_5 a0_6 l0_7).bind fun t412 => (if t412 = true then (if a0_0 = 2 then ((lustrumref12_flat.f k a0_0 a0_1 a0_2 a0_3 a0_4 a0_5 a0_6 l0_7).bind fun t413 => (lustrumref12_Canon.l0 k t413 ([] : List (S26)) 0)) else (some (a0_0, a0_1, a0_2, a0_3, a0_4, a0_5, a0_6, l0_7))) else (some (0, 0, (⟨#[]⟩ : ByteArray), (⟨#[]⟩ : ByteArray), (⟨#[]⟩ : ByteArray), false, false, ([] : List (S26)))))) = some (r1, r2, r3, r4, r5, r6, r7, r8) := h; clear h; obtain ⟨t412, A2, H⟩ := bi_ H
 by_cases c3 : t412 = true
 ·subst c3
  (have H1 : (if a0_0 = 2 then ((lustrumref12_flat.f k a0_0 a0_1 a0_2 a0_3 a0_4 a0_5 a0_6 l0_7).bind fun t413 => (lustrumref12_Canon.l0 k t413 ([] : List (S26)) 0)) else (some (a0_0, a0_1, a0_2, a0_3, a0_4, a0_5, a0_6, l0_7))) = some (r1, r2, r3, r4, r5, r6, r7, r8) := by rw [if_pos rfl] at H; exact H); clear H; have H := H1; clear H1
  by_cases c4 : a0_0 = 2
  ·rw [if_pos c4] at H
   have c4b0 : (a0_0 == 2) = true := beq_iff_eq.mpr c4; have c4b1 : (a0_0 != 2) = false := bne_eq_false_iff_eq.mpr c4; clear c4; obtain ⟨t413, A5, H⟩ := bi_ H; have H' := A_ H; clear H; go_enter Try.func41, Try.ntmps41; go_wp2_with (first | (refine gD 1 ?_; refine bxe_ 1 (n8_ a0_0 a0_1 a0_2 a0_3 a0_4 a0_5 a0_6 (.slice A0_7 l0_7.length c0_7)) 26 ?_; intro gb410 hg w6 hbox hb; replace HO0_7 := eV_ HO0_7 hg hb; have BK410 := A_ (hbox); have GW410 := gs_ w hg; have GE410 := gs_ w hg; replace HB := bs_ hb; clear hb hbox hg) | (refine gD 2 ?_; refine bxe_ 2 z8_ 26 ?_; intro gb411 hg w7 hbox hb; replace HO0_7 := eV_ HO0_7 hg hb; have BK411 := A_ (hbox); have GW411 := gs_ w hg; have GE411 := gs_ w hg; replace HB := bs_ hb; have NB410_411 := nl_ BK410 hg; have NB411_410 := ng_ BK410 hg; replace BK410 := bb_ BK410 hb; clear hb hbox hg; have hnb8 := NB410_411.out; have hnc8 := NB411_410.out; have Z9 := bz8_ BK410) | (refine gC 19 ?_; refine gL 7 Try.func19 #[.agg (n8_ a0_0 a0_1 a0_2 a0_3 a0_4 a0_5 a0_6 (.slice A0_7 l0_7.length c0_7))] ?_; (with_reducible refine (lustrumref10_Sane.calls k a0_0 a0_1 a0_2 a0_3 a0_4 a0_5 a0_6 _ _ l0_7 true _ ?side1 ?side2 A2.out).mono ?_); (case side1 => exact cr_ (Kd.V_reads' HO0_7.out).2.2); (case side2 => exact (Kd.V_reads' HO0_7.out).2.1); rintro e w10 ⟨rfl, hb⟩; refine ⟨_, rfl, ?_⟩; replace HO0_7 := bV_ HO0_7 hb; replace BK410 := bb_ BK410 hb; replace BK411 := bb_ BK411 hb; replace HB := bs_ hb; (try clear hb); have Z11 := bz8_ BK410) | (refine gC 66 ?_; refine gL 15 Try.func66 #[.agg (n8_ a0_0 a0_1 a0_2 a0_3 a0_4 a0_5 a0_6 (.slice A0_7 l0_7.length c0_7))] ?_; (with_reducible refine (lustrumref12_flat.calls k a0_0 a0_1 a0_2 a0_3 a0_4 a0_5 a0_6 (fun k_ => (((P0_7_ k_ ∨ w.heap.size ≤ k_) ∧ k_ ≠ gb410) ∧ k_ ≠ gb411)) _ _ l0_7 t413 _ ?side1 A5.out).mono ?_); (case side1 => exact HO0_7.out); rintro e w12 ⟨v414, rfl, ho0, hb⟩; refine ⟨_, rfl, ?_⟩; replace HO0_7 := dV_ HO0_7 ho0 hb; have HO415 := A_ (Kd.N_lower (Kd.N_mono (ok' := fun k_ => (P0_7_ k_ ∨ w.heap.size ≤ k_) ∧ k_ ≠ gb410 ∧ k_ ≠ gb411) ho0 (fun k_ hk_ => ⟨hk_.elim (·.1.1) (fun hn_ => (.inr (Nat.le_trans (below_size hs_) hn_))), hk_.elim (·.1.2) (fb_ BK410 k_), hk_.elim (·.2) (fb_ BK411 k_)⟩)) (below_size hs_)); replace BK410 := bb_ BK410 hb; replace BK411 := bb_ BK411 hb; replace HB := bs_ hb; (try clear hb); (try clear ho0)))
   go_loopg [4, 5] k (fun kq v4 v5 w' => ∃ (x4_1 : List (S26)) (x5_1 : Int), v5 = .int .i64 x5_1 ∧ Aside0 (lustrumref12_Canon.l0 kq t413 x4_1 x5_1 = some (r1, r2, r3, r4, r5, r6, r7, r8)) ∧ Aside0 (kq ≤ k) ∧ Aside0 (Kd.N k26 26 w' w.heap.size (fun k_ => (P0_7_ k_ ∨ w.heap.size ≤ k_) ∧ nv_ k_ v4 ∧ k_ ≠ gb410 ∧ k_ ≠ gb411) v414 t413) ∧ Aside0 (Kd.N k26 26 w' w.heap.size (fun k_ => (P0_7_ k_ ∨ w.heap.size ≤ k_) ∧ nv_ k_ v414 ∧ k_ ≠ gb410 ∧ k_ ≠ gb411) v4 x4_1) ∧ Aside0 (Kd.V k26 26 w' w.heap.size (fun k_ => (P0_7_ k_ ∨ w.heap.size ≤ k_) ∧ nv_ k_ v414 ∧ nv_ k_ v4 ∧ k_ ≠ gb410 ∧ k_ ≠ gb411) (.slice A0_7 l0_7.length c0_7) l0_7) ∧ Aside0 (w'.heap[gb410]? = some (.cells #[.int .i64 a0_0, .int .i64 a0_1, .string a0_2, .string a0_3, .string a0_4, .bool a0_5, .bool a0_6, (.slice A0_7 l0_7.length c0_7)] 26 (0, 0))) ∧ Aside0 (w'.heap[gb411]? = some (.cells #[.int .i64 0, .int .i64 0, .string ⟨#[]⟩, .string ⟨#[]⟩, .string ⟨#[]⟩, .bool false, .bool false, (.slice none 0 0)] 26 (0, 0))) ∧ Aside0 (Below w.heap.size w w'))
   case atStart => exact ⟨(([] : List (S26))), (0), rf_, H', ⟨Nat.le_refl _⟩, ⟨by (with_reducible repeat (first | apply Kd.N_alloc | apply Kd.N_drewN | apply Kd.N_drew)); exact Kd.N_mono HO415.out (fun _ hk => ⟨hk.1, ⟨(by simp [Value.ownBlock]), ⟨hk.2.1, hk.2.2⟩⟩⟩)⟩, ⟨by first | exact Kd.R_nil _ _ _ _ _ | exact Kd.N_nil _ _ _ _ _ | exact Kd.V_nil _ _ _ _ _ | exact Kd.Q_nil _ _ _ _ _ | exact Kd.S_nil _ _ _ _ _⟩, ⟨by (with_reducible repeat (first | apply Kd.V_alloc | apply Kd.V_drewN | apply Kd.V_drew)); exact Kd.V_mono HO0_7.out (fun _ hk => ⟨hk.1.1.1, ⟨hk.2, ⟨(by simp [Value.ownBlock]), ⟨hk.1.1.2, hk.1.2⟩⟩⟩⟩)⟩, ⟨bl_ BK410.out⟩, ⟨bl_ BK411.out⟩, ⟨hs_⟩⟩
   case round =>
    clear H'; (try clear c1); (try clear p2); (try clear c3); (try clear c4); (try clear c4b0); (try clear c4b1); (try clear c6); (try clear c8); (try clear Z11); (try clear Z9); obtain ⟨x4_1, x5_1, rfl, HA, HK1, HO_3, HO_4, HO_411007, BK410, BK411, HB⟩ := hrel
    cases gk with
    | zero => exact absurd HA.out (by simp [lustrumref12_Canon.l0])
    | succ k1 =>
     have H := HA.out; clear HA; simp only [lustrumref12_Canon.l0] at H
     by_cases c13 : x5_1 < (t413.length : Int)
     ·rw [if_pos c13] at H
      have c13b0 := decide_eq_true c13; clear c13
      by_cases c14 : 0 ≤ x5_1
      ·rw [if_pos c14] at H
       have c14b0 := decide_eq_true c14; clear c14; obtain ⟨t417, A15, H⟩ := bi_ H; have H' := A_ H; clear H; obtain ⟨Ao16, co16, eo16⟩ := Kd.N_slice HO_3.out; subst eo16; have p416 : 0 ≤ (x5_1 : Int) := od_; have q416 : x5_1 < (t413.length : Int) := od_; obtain ⟨ad416, A416_7, c416_7, e416, hx416_0, hx416_1, hx416_2, hx416_3, hx416_4, hx416_5, hx416_6, hx416_7, hl416_7, hi416_7⟩ := at_T26 (Kd.N_reads' HO_3.out).2.2 x5_1 p416 q416
       cases e416
       obtain ⟨ce416, hce416, hMe416, hcc416⟩ := Kd.N_get HO_3.out z26 x5_1 p416 (by first | exact q416 | exact od_ | (have e_ := (Kd.N_reads' HO_3.out).1; omega)); obtain ⟨ua416_7, uc416_7, rfl, ul416_7, ge416_7⟩ := k26_openF hMe416; have hv416_7 := hcc416 7 _ rfl; rw [add_field _ _ 7 (by omega)] at hv416_7; replace hv416_7 := Option.some.inj (hv416_7.symm.trans hx416_7); injection hv416_7 with hva_ hvn_ hvc_; rw [hva_] at ge416_7; rw [hvc_] at ul416_7; have HL416_7 := A_ (show Kd.V k26 26 _ w.heap.size _ _ ((rd_T26 t413 x5_1).f4) from Kd.V_mk ul416_7 ge416_7); clear hva_ hvn_ hvc_ ge416_7 ul416_7; clear hcc416 hce416; have HR416_7 := A_ hi416_7; have HC416_7 := A_ hl416_7; clear hi416_7 hl416_7; replace p416 := eq_true p416; replace q416 := eq_true q416; obtain ⟨Ao17, co17, eo17⟩ := Kd.N_slice HO_4.out; subst eo17; go_wp2_with (first | (refine gC 67 ?_; refine gL 27 Try.func67 #[.slice Ao17 x4_1.length co17, .agg #[.int .i64 ((rd_T26 t413 x5_1).f0), .int .i64 ((rd_T26 t413 x5_1).f1.f0), .string ((rd_T26 t413 x5_1).f1.f1), .string ((rd_T26 t413 x5_1).f1.f2), .string ((rd_T26 t413 x5_1).f1.f3), .bool ((rd_T26 t413 x5_1).f2), .bool ((rd_T26 t413 x5_1).f3), .slice A416_7 ((rd_T26 t413 x5_1).f4).length c416_7]] ?_; (with_reducible refine (lustrumref12_put.calls k1 (fun k_ => ((P0_7_ k_ ∨ w.heap.size ≤ k_) ∧ (nv_ k_ (.slice (some ad416) t413.length co16) ∧ (k_ ≠ gb410 ∧ k_ ≠ gb411)))) _ _ x4_1 ((rd_T26 t413 x5_1).f0) ((rd_T26 t413 x5_1).f1.f0) ((rd_T26 t413 x5_1).f1.f1) ((rd_T26 t413 x5_1).f1.f2) ((rd_T26 t413 x5_1).f1.f3) ((rd_T26 t413 x5_1).f2) ((rd_T26 t413 x5_1).f3) (fun k_ => (((P0_7_ k_ ∨ w.heap.size ≤ k_) ∧ (nv_ k_ (.slice Ao17 x4_1.length co17) ∧ (k_ ≠ gb410 ∧ k_ ≠ gb411))) ∧ nv_ k_ (.slice (some ad416) t413.length co16))) _ _ ((rd_T26 t413 x5_1).f4) t417 _ ?side1 ?side2 A15.out).mono ?_); (case side1 => exact Kd.N_V (HO_4.out)); (case side2 => exact HL416_7.out); rintro e w18 ⟨v418, rfl, ho0, hb⟩; refine ⟨_, rfl, ?_⟩; replace HO_4 := dN_ HO_4 ho0 hb; replace HO_411007 := dV_ HO_411007 ho0 hb; replace HL416_7 := dV_ HL416_7 ho0 hb; have HO419 := A_ (Kd.N_lower (Kd.N_mono (ok' := fun k_ => (P0_7_ k_ ∨ w.heap.size ≤ k_) ∧ nv_ k_ (.slice (some ad416) t413.length co16) ∧ k_ ≠ gb410 ∧ k_ ≠ gb411) ho0 (fun k_ hk_ => ⟨Or.elim hk_ (fun hs_ => Or.elim hs_ (fun hs_ => hs_.1) (fun hs_ => hs_.1.1)) (fun hn_ => (.inr (Nat.le_trans (below_size hs_) hn_))), Or.elim hk_ (fun hs_ => Or.elim hs_ (fun hs_ => hs_.2.1) (fun hs_ => hs_.2)) (fN_ HO_3 k_), Or.elim hk_ (fun hs_ => Or.elim hs_ (fun hs_ => hs_.2.2.1) (fun hs_ => hs_.1.2.2.1)) (fb_ BK410 k_), Or.elim hk_ (fun hs_ => Or.elim hs_ (fun hs_ => hs_.2.2.2) (fun hs_ => hs_.1.2.2.2)) (fb_ BK411 k_)⟩)) (below_size hs_)); replace HO_3 := dN_ HO_3 ho0 hb; replace BK410 := bb_ BK410 hb; replace BK411 := bb_ BK411 hb; replace HR416_7 := A_ (Kd.C_below (by repeat (first | (with_reducible exact HR416_7.out) | (with_reducible refine Kd.C_alloc ?_ _) | (with_reducible refine Kd.C_drewN ?_ _) | (with_reducible refine Kd.C_drew ?_) | exact HR416_7.out)) hb); replace HB := bs_ hb; (try clear hb); (try clear ho0)))
       go_roundg k1
       case measure => have := HK1.out; omega
       case rel => exact ⟨(t417), (wrap64 (x5_1 + 1)), rf_, H', ⟨by have := HK1.out; omega⟩, ⟨fmN_ HO_3.out⟩, ⟨fxN_ HO419.out⟩, ⟨fmV_ HO_411007.out⟩, ⟨bl_ BK410.out⟩, ⟨bl_ BK411.out⟩, ⟨hs_⟩⟩
      ·rw [if_neg c14] at H
       exact absurd H (by simp)
     ·rw [if_neg c13] at H
      have c13b0 := decide_eq_false c13; have c13b9 := c13b0; (try simp only [hl393_7] at c13b9); (try simp only [hl398_7] at c13b9); (try simp only [hl402_7] at c13b9); (try simp only [hl406_7] at c13b9); (try simp only [hl416_7] at c13b9); (try simp only [hl420_7] at c13b9); clear c13
      by_cases c19 : (x4_1.length : Int) = 1
      ·rw [if_pos c19] at H
       have c19b0 : ((x4_1.length : Int) == 1) = true := beq_iff_eq.mpr c19; have c19b1 : ((x4_1.length : Int) != 1) = false := bne_eq_false_iff_eq.mpr c19; clear c19
       by_cases c20 : 0 < (x4_1.length : Int)
       ·rw [if_pos c20] at H
        have c20b0 := decide_eq_true c20; have c20b1 : decide (0 < x4_1.length) = true := decide_eq_true (by omega); clear c20; simp only [Option.some.injEq, Prod.mk.injEq] at H; obtain ⟨rfl, rfl, rfl, rfl, rfl, rfl, rfl, rfl⟩ := H; obtain ⟨Ao21, co21, eo21⟩ := Kd.N_slice HO_3.out; subst eo21; obtain ⟨Ao22, co22, eo22⟩ := Kd.N_slice HO_4.out; subst eo22; have p420 : 0 ≤ (0 : Int) := (by omega); have q420 : 0 < (x4_1.length : Int) := od_; obtain ⟨ad420, A420_7, c420_7, e420, hx420_0, hx420_1, hx420_2, hx420_3, hx420_4, hx420_5, hx420_6, hx420_7, hl420_7, hi420_7⟩ := at_T26 (Kd.N_reads' HO_4.out).2.2 0 p420 q420
        cases e420
        obtain ⟨ce420, hce420, hMe420, hcc420⟩ := Kd.N_get HO_4.out z26 0 p420 (by first | exact q420 | exact od_ | (have e_ := (Kd.N_reads' HO_4.out).1; omega)); obtain ⟨ua420_7, uc420_7, rfl, ul420_7, ge420_7⟩ := k26_openF hMe420; have hv420_7 := hcc420 7 _ rfl; rw [add_field _ _ 7 (by omega)] at hv420_7; replace hv420_7 := Option.some.inj (hv420_7.symm.trans hx420_7); injection hv420_7 with hva_ hvn_ hvc_; rw [hva_] at ge420_7; rw [hvc_] at ul420_7; have HL420_7 := A_ (show Kd.V k26 26 _ w.heap.size _ _ ((rd_T26 x4_1 0).f4) from Kd.V_mk ul420_7 ge420_7); clear hva_ hvn_ hvc_ ge420_7 ul420_7; clear hcc420 hce420; have qi420 : (0 < x4_1.length) = True := eq_true (by omega); replace hx420_0 := ai_ hx420_0; replace hx420_1 := ai_ hx420_1; replace hx420_2 := ai_ hx420_2; replace hx420_3 := ai_ hx420_3; replace hx420_4 := ai_ hx420_4; replace hx420_5 := ai_ hx420_5; replace hx420_6 := ai_ hx420_6; replace hx420_7 := ai_ hx420_7; have HR420_7 := A_ hi420_7; have HC420_7 := A_ hl420_7; clear hi420_7 hl420_7; replace p420 := eq_true p420; replace q420 := eq_true q420; have hnb23 := NB411_410.out; have hnc23 := NB410_411.out; have Z24 := bz8_ BK411; go_wp2; refine bodyPost_ret (results_cell_row rfl _ _ gb411 26 #[.int .i64 ((rd_T26 x4_1 0).f0), .int .i64 ((rd_T26 x4_1 0).f1.f0), .string ((rd_T26 x4_1 0).f1.f1), .string ((rd_T26 x4_1 0).f1.f2), .string ((rd_T26 x4_1 0).f1.f3), .bool ((rd_T26 x4_1 0).f2), .bool ((rd_T26 x4_1 0).f3), .slice A420_7 ((rd_T26 x4_1 0).f4).length c420_7] (0, 0) _ rfl (pb_ BK411.out) Try.underlying26 rfl (by kernel_rfl)) rfl ?_
        exact ⟨_, by first | rfl | (simp [errW_none, errW_some] <;> rfl) | (simp [*, errW_none, errW_some] <;> rfl), by (with_reducible repeat (first | apply Kd.V_alloc | apply Kd.V_drewN | apply Kd.V_drew)); exact Kd.V_mono (Kd.V_far (p := ⟨gb411, 7, none⟩) (Kd.V_far (p := ⟨gb411, 6, none⟩) (Kd.V_far (p := ⟨gb411, 5, none⟩) (Kd.V_far (p := ⟨gb411, 4, none⟩) (Kd.V_far (p := ⟨gb411, 3, none⟩) (Kd.V_far (p := ⟨gb411, 2, none⟩) (Kd.V_far (p := ⟨gb411, 1, none⟩) (Kd.V_far (p := ⟨gb411, 0, none⟩) (Kd.V_mono HL420_7.out (fun k_ hk => (⟨hk, hk.1.2.2.2⟩ : _ ∧ k_ ≠ gb411))) (fun _ hk => hk.2) (.int .i64 ((rd_T26 x4_1 0).f0))) (fun _ hk => hk.2) (.int .i64 ((rd_T26 x4_1 0).f1.f0))) (fun _ hk => hk.2) (.string ((rd_T26 x4_1 0).f1.f1))) (fun _ hk => hk.2) (.string ((rd_T26 x4_1 0).f1.f2))) (fun _ hk => hk.2) (.string ((rd_T26 x4_1 0).f1.f3))) (fun _ hk => hk.2) (.bool ((rd_T26 x4_1 0).f2))) (fun _ hk => hk.2) (.bool ((rd_T26 x4_1 0).f3))) (fun _ hk => hk.2) (.slice A420_7 ((rd_T26 x4_1 0).f4).length c420_7)) (fun _ hk => hk.1.1.1), hs_⟩
       ·rw [if_neg c20] at H
        exact absurd H (by simp)
      ·rw [if_neg c19] at H
       have c19b0 : ((x4_1.length : Int) == 1) = false := beq_eq_false_iff_ne.mpr c19; have c19b1 : ((x4_1.length : Int) != 1) = true := bne_iff_ne.mpr c19; simp only [Option.some.injEq, Prod.mk.injEq] at H; obtain ⟨rfl, rfl, rfl, rfl, rfl, rfl, rfl, rfl⟩ := H; obtain ⟨Ao25, co25, eo25⟩ := Kd.N_slice HO_3.out; subst eo25; obtain ⟨Ao26, co26, eo26⟩ := Kd.N_slice HO_4.out; subst eo26; have hnb27 := NB411_410.out; have hnc27 := NB410_411.out; have Z28 := bz8_ BK411; go_wp2; refine bodyPost_ret (results_cell_row rfl _ _ gb411 26 #[.int .i64 2, .int .i64 0, .string ⟨#[]⟩, .string ⟨#[]⟩, .string ⟨#[]⟩, .bool false, .bool false, .slice Ao26 x4_1.length co26] (0, 0) _ rfl (pb_ BK411.out) Try.underlying26 rfl (by kernel_rfl)) rfl ?_
       exact ⟨_, by first | rfl | (simp [errW_none, errW_some] <;> rfl) | (simp [*, errW_none, errW_some] <;> rfl), Kd.N_V (by (with_reducible repeat (first | apply Kd.N_alloc | apply Kd.N_drewN | apply Kd.N_drew)); exact Kd.N_mono (Kd.N_far (p := ⟨gb411, 7, none⟩) (Kd.N_far (p := ⟨gb411, 6, none⟩) (Kd.N_far (p := ⟨gb411, 5, none⟩) (Kd.N_far (p := ⟨gb411, 4, none⟩) (Kd.N_far (p := ⟨gb411, 3, none⟩) (Kd.N_far (p := ⟨gb411, 2, none⟩) (Kd.N_far (p := ⟨gb411, 1, none⟩) (Kd.N_far (p := ⟨gb411, 0, none⟩) (Kd.N_mono HO_4.out (fun k_ hk => (⟨hk, hk.2.2.2⟩ : _ ∧ k_ ≠ gb411))) (fun _ hk => hk.2) (.int .i64 2)) (fun _ hk => hk.2) (.int .i64 0)) (fun _ hk => hk.2) (.string ⟨#[]⟩)) (fun _ hk => hk.2) (.string ⟨#[]⟩)) (fun _ hk => hk.2) (.string ⟨#[]⟩)) (fun _ hk => hk.2) (.bool false)) (fun _ hk => hk.2) (.bool false)) (fun _ hk => hk.2) (.slice Ao26 x4_1.length co26)) (fun _ hk => hk.1.1)), hs_⟩
  ·rw [if_neg c4] at H
   have c4b0 : (a0_0 == 2) = false := beq_eq_false_iff_ne.mpr c4; have c4b1 : (a0_0 != 2) = true := bne_iff_ne.mpr c4; simp only [Option.some.injEq, Prod.mk.injEq] at H; obtain ⟨rfl, rfl, rfl, rfl, rfl, rfl, rfl, rfl⟩ := H; go_enter Try.func41, Try.ntmps41; go_wp2_with (first | (refine gD 1 ?_; refine bxe_ 1 (n8_ a0_0 a0_1 a0_2 a0_3 a0_4 a0_5 a0_6 (.slice A0_7 l0_7.length c0_7)) 26 ?_; intro gb410 hg w29 hbox hb; replace HO0_7 := eV_ HO0_7 hg hb; have BK410 := A_ (hbox); have GW410 := gs_ w hg; have GE410 := gs_ w hg; replace HB := bs_ hb; clear hb hbox hg) | (refine gD 2 ?_; refine bxe_ 2 z8_ 26 ?_; intro gb411 hg w30 hbox hb; replace HO0_7 := eV_ HO0_7 hg hb; have BK411 := A_ (hbox); have GW411 := gs_ w hg; have GE411 := gs_ w hg; replace HB := bs_ hb; have NB410_411 := nl_ BK410 hg; have NB411_410 := ng_ BK410 hg; replace BK410 := bb_ BK410 hb; clear hb hbox hg; have hnb31 := NB410_411.out; have hnc31 := NB411_410.out; have Z32 := bz8_ BK410) | (refine gC 19 ?_; refine gL 7 Try.func19 #[.agg (n8_ a0_0 a0_1 a0_2 a0_3 a0_4 a0_5 a0_6 (.slice A0_7 l0_7.length c0_7))] ?_; (with_reducible refine (lustrumref10_Sane.calls k a0_0 a0_1 a0_2 a0_3 a0_4 a0_5 a0_6 _ _ l0_7 true _ ?side1 ?side2 A2.out).mono ?_); (case side1 => exact cr_ (Kd.V_reads' HO0_7.out).2.2); (case side2 => exact (Kd.V_reads' HO0_7.out).2.1); rintro e w33 ⟨rfl, hb⟩; refine ⟨_, rfl, ?_⟩; replace HO0_7 := bV_ HO0_7 hb; replace BK410 := bb_ BK410 hb; replace BK411 := bb_ BK411 hb; replace HB := bs_ hb; (try clear hb); have Z34 := bz8_ BK410; have Z35 := bz8_ BK411))
   refine bodyPost_ret (results_cell_row rfl _ _ gb411 26 #[.int .i64 a0_0, .int .i64 a0_1, .string a0_2, .string a0_3, .string a0_4, .bool a0_5, .bool a0_6, .slice A0_7 l0_7.length c0_7] (0, 0) _ rfl (pb_ BK411.out) Try.underlying26 rfl (by kernel_rfl)) rfl ?_; exact ⟨_, by first | rfl | (simp [errW_none, errW_some] <;> rfl) | (simp [*, errW_none, errW_some] <;> rfl), fpV_ HO0_7.out, hs_⟩
 ·replace c3 := Bool.eq_false_iff.mpr c3
  subst c3; (have H1 : (some (0, 0, (⟨#[]⟩ : ByteArray), (⟨#[]⟩ : ByteArray), (⟨#[]⟩ : ByteArray), false, false, ([] : List (S26)))) = some (r1, r2, r3, r4, r5, r6, r7, r8) := by rw [if_neg (show ¬ (false = true) by decide)] at H; exact H); clear H; have H := H1; clear H1; simp only [Option.some.injEq, Prod.mk.injEq] at H; obtain ⟨rfl, rfl, rfl, rfl, rfl, rfl, rfl, rfl⟩ := H; go_enter Try.func41, Try.ntmps41; go_wp2_with (first | (refine gD 1 ?_; refine bxe_ 1 (n8_ a0_0 a0_1 a0_2 a0_3 a0_4 a0_5 a0_6 (.slice A0_7 l0_7.length c0_7)) 26 ?_; intro gb410 hg w36 hbox hb; replace HO0_7 := eV_ HO0_7 hg hb; have BK410 := A_ (hbox); have GW410 := gs_ w hg; have GE410 := gs_ w hg; replace HB := bs_ hb; clear hb hbox hg) | (refine gD 2 ?_; refine bxe_ 2 z8_ 26 ?_; intro gb411 hg w37 hbox hb; replace HO0_7 := eV_ HO0_7 hg hb; have BK411 := A_ (hbox); have GW411 := gs_ w hg; have GE411 := gs_ w hg; replace HB := bs_ hb; have NB410_411 := nl_ BK410 hg; have NB411_410 := ng_ BK410 hg; replace BK410 := bb_ BK410 hb; clear hb hbox hg; have hnb38 := NB410_411.out; have hnc38 := NB411_410.out; have Z39 := bz8_ BK410) | (refine gC 19 ?_; refine gL 7 Try.func19 #[.agg (n8_ a0_0 a0_1 a0_2 a0_3 a0_4 a0_5 a0_6 (.slice A0_7 l0_7.length c0_7))] ?_; (with_reducible refine (lustrumref10_Sane.calls k a0_0 a0_1 a0_2 a0_3 a0_4 a0_5 a0_6 _ _ l0_7 false _ ?side1 ?side2 A2.out).mono ?_); (case side1 => exact cr_ (Kd.V_reads' HO0_7.out).2.2); (case side2 => exact (Kd.V_reads' HO0_7.out).2.1); rintro e w40 ⟨rfl, hb⟩; refine ⟨_, rfl, ?_⟩; replace HO0_7 := bV_ HO0_7 hb; replace BK410 := bb_ BK410 hb; replace BK411 := bb_ BK411 hb; replace HB := bs_ hb; (try clear hb); have Z41 := bz8_ BK411))
  refine bodyPost_ret (results_cell_row rfl _ _ gb411 26 #[.int .i64 0, .int .i64 0, .string ⟨#[]⟩, .string ⟨#[]⟩, .string ⟨#[]⟩, .bool false, .bool false, .slice none 0 0] (0, 0) _ rfl (pb_ BK411.out) Try.underlying26 rfl (by kernel_rfl)) rfl ?_; exact ⟨_, by first | rfl | (simp [errW_none, errW_some] <;> rfl) | (simp [*, errW_none, errW_some] <;> rfl), (Kd.V_nil _ _ _ _ _), hs_⟩
end Go.Proofs.Ytfehdlkklfcnpaa.A
namespace Go.Proofs.Ytfehdlkklfcnpaa.A
open Go.RowKit Go.Proofs.YtfehdlkklfcnpaaW.PrintWords Go.Proofs.YtfehdlkklfcnpaaW.PrintLast Go.Proofs.YtfehdlkklfcnpaaW.PrintMore
attribute [local go_sem] max2_int min2_int max_two min_two max_three min_three max_four min_four
attribute [local go_sem high] eqA23
attribute [local go_sem] isSome_setCell
def lustrumref10_Same.T6 : Bool × List (List Nat × List Nat) := (true, [([], []), ([0], [0]), ([], []), ([1, 2], [1, 2]), ([3], [3]), ([], []), ([5], [5]), ([], []), ([6, 7], [6, 7]), ([8], [8]), ([4, 9], [4, 9]), ([10], [10])])
def lustrumref10_Same.B6 : List Nat := [0, 1, 0, 7, 15, 0, 32, 0, 224, 480, 1023, 2047]
theorem lustrumref10_Same.tab6 : rtab .any (opsOf Try.f27 6) = lustrumref10_Same.T6 := by kernel_rfl
theorem lustrumref10_Same.bits6 : waitsOk lustrumref10_Same.T6.2 lustrumref10_Same.B6 = true := by kernel_rfl
set_option maxHeartbeats 8000000 in
set_option maxRecDepth 100000 in
theorem lustrumref10_Same.calls (k : Nat) : ∀ (a0_0 a0_1 : Int) (a0_2 a0_3 a0_4 : ByteArray) (a0_5 a0_6 : Bool) (A0_7 : Option Addr) (c0_7 : Nat) (l0_7 : List (S26)) (a1_0 a1_1 : Int) (a1_2 a1_3 a1_4 : ByteArray) (a1_5 a1_6 : Bool) (A1_7 : Option Addr) (c1_7 : Nat) (l1_7 : List (S26)) (r : Bool) (w : World) (hr0_7 : Kd.C k26 w A0_7 l0_7.length l0_7) (hc0_7 : l0_7.length ≤ c0_7) (hr1_7 : Kd.C k26 w A1_7 l1_7.length l1_7) (hc1_7 : l1_7.length ≤ c1_7) (h : lustrumref10_Same.f k a0_0 a0_1 a0_2 a0_3 a0_4 a0_5 a0_6 l0_7 a1_0 a1_1 a1_2 a1_3 a1_4 a1_5 a1_6 l1_7 = some r),
  Calls Try.prog 27 #[.agg #[.int .i64 a0_0, .int .i64 a0_1, .string a0_2, .string a0_3, .string a0_4, .bool a0_5, .bool a0_6, .slice A0_7 l0_7.length c0_7], .agg #[.int .i64 a1_0, .int .i64 a1_1, .string a1_2, .string a1_3, .string a1_4, .bool a1_5, .bool a1_6, .slice A1_7 l1_7.length c1_7]] w fun e w' => e = .returned (.bool r) ∧ Below w.heap.size w w' := by
 induction k using Nat.strongRecOn with
 | _ k ih =>
 intro a0_0 a0_1 a0_2 a0_3 a0_4 a0_5 a0_6 A0_7 c0_7 l0_7 a1_0 a1_1 a1_2 a1_3 a1_4 a1_5 a1_6 A1_7 c1_7 l1_7 r w hr0_7 hc0_7 hr1_7 hc1_7 h
 cases k with
 | zero => exact absurd h (by simp [lustrumref10_Same.f])
 | succ k =>
 simp only [lustrumref10_Same.f] at h; have hu26 := Try.underlying26; have hu23 := Try.underlying23; have HR0_7 := A_ hr0_7; have HC0_7 := A_ hc0_7; clear hr0_7 hc0_7; have HR1_7 := A_ hr1_7; have HC1_7 := A_ hc1_7; clear hr1_7 hc1_7; have HB := A_ (Below.refl w.heap.size w); have H : (if a0_0 = a1_0 then (if (!(a0_1 == a1_1) || (!(a0_2.toList == a1_2.toList) || (!(a0_3.toList == a1_3.toList) || (!(a0_4.toList == a1_4.toList))))) = true then (lustrumref10_Same.j0 k true a0_0 a0_1 a0_2 a0_3 a0_4 a0_5 a0_6 l0_7 a1_0 a1_1 a1_2 a1_3 a1_4 a1_5 a1_6 l1_7) else (if (a0_5 != a1_5) = true then (lustrumref10_Same.j0 k true a0_0 a0_1 a0_2 a0_3 a0_4 a0_5 a0_6 l0_7 a1_0 a1_1 a1_2 a1_3 a1_4 a1_5 a1_6 l1_7) else (if (a0_6 != a1_6) = true then (lustrumref10_Same.j0 k true a0_0 a0_1 a0_2 a0_3 a0_4 a0_5 a0_6 l0_7 a1_0 a1_1 a1_2 a1_3 a1_4 a1_5 a1_6 l1_7) else (lustrumref10_Same.j0 k ((l0_7.length : Int) != (l1_7.length : Int)) a0_0 a0_1 a0_2 a0_3 a0_4 a0_5 a0_6 l0_7 a1_0 a1_1 a1_2 a1_3 a1_4 a1_5 a1_6 l1_7)))) else (lustrumref10_Same.j0 k true a0_0 a0_1 a0_2 a0_3 a0_4 a0_5 a0_6 l0_7 a1_0 a1_1 a1_2 a1_3 a1_4 a1_5 a1_6 l1_7)) = some r := h; clear h; have HC3 := A_ H; clear H; go_enter Try.func27, Try.ntmps27; go_upto_region 1 with (first | (refine gD 2 ?_; (try (refine gate_guard (by rfl) ?_; dsimp only)); refine bxe_ 2 (n8_ a0_0 a0_1 a0_2 a0_3 a0_4 a0_5 a0_6 (.slice A0_7 l0_7.length c0_7)) 26 ?_; intro gb270 hg w4 hbox hb; have BK270 := A_ (hbox); have GW270 := gs_ w hg; have GE270 := gs_ w hg; replace HB := bs_ hb; clear hb hbox hg) | (refine gD 3 ?_; (try (refine gate_guard (by rfl) ?_; dsimp only)); refine bxe_ 3 (n8_ a1_0 a1_1 a1_2 a1_3 a1_4 a1_5 a1_6 (.slice A1_7 l1_7.length c1_7)) 26 ?_; intro gb271 hg w5 hbox hb; have BK271 := A_ (hbox); have GW271 := gs_ w hg; have GE271 := gs_ w hg; replace HB := bs_ hb; have NB270_271 := nl_ BK270 hg; have NB271_270 := ng_ BK270 hg; replace BK270 := bb_ BK270 hb; clear hb hbox hg))
 (try simp only [Act.put, List.setIfInBounds_toArray, List.set_cons_zero, List.set_cons_succ]); go_cut [40] (fun v40 wc => ∃ (kq : Nat) (x40_2 : Bool), v40 = .bool x40_2 ∧ Aside0 (lustrumref10_Same.j0 kq x40_2 a0_0 a0_1 a0_2 a0_3 a0_4 a0_5 a0_6 l0_7 a1_0 a1_1 a1_2 a1_3 a1_4 a1_5 a1_6 l1_7 = some r) ∧ Aside0 (kq ≤ k) ∧ Aside0 (wc.heap[gb270]? = some (.cells #[.int .i64 a0_0, .int .i64 a0_1, .string a0_2, .string a0_3, .string a0_4, .bool a0_5, .bool a0_6, (.slice A0_7 l0_7.length c0_7)] 26 (0, 0))) ∧ Aside0 (wc.heap[gb271]? = some (.cells #[.int .i64 a1_0, .int .i64 a1_1, .string a1_2, .string a1_3, .string a1_4, .bool a1_5, .bool a1_6, (.slice A1_7 l1_7.length c1_7)] 26 (0, 0))) ∧ Aside0 (Below w.heap.size w wc))
 case first =>
  have H := HC3.out; clear HC3
  by_cases c6 : a0_0 = a1_0
  ·rw [if_pos c6] at H
   have c6b0 : (a0_0 == a1_0) = true := beq_iff_eq.mpr c6; have c6b1 : (a0_0 != a1_0) = false := bne_eq_false_iff_eq.mpr c6; clear c6; (first | rw [c6b0] | (simp only [i64_w, i32_w]; rw [c6b0]) | skip)
   by_cases c7 : (!(a0_1 == a1_1) || (!(a0_2.toList == a1_2.toList) || (!(a0_3.toList == a1_3.toList) || (!(a0_4.toList == a1_4.toList))))) = true
   ·rw [if_pos c7] at H
    have c7b0 : (!(a0_1 == a1_1) || (!(a0_2.toList == a1_2.toList) || (!(a0_3.toList == a1_3.toList) || (!(a0_4.toList == a1_4.toList))))) = true := c7; clear c7; have H' := A_ H; clear H; have hnb8 := NB270_271.out; have hnc8 := NB271_270.out; have Z9 := bz8_ BK270; have Z10 := bz8_ BK271; go_wp2; go_meet
    case rel => exact ⟨_, (true), rf_, H', ⟨by first | omega | exact Nat.le_refl _⟩, ⟨bl_ BK270.out⟩, ⟨bl_ BK271.out⟩, ⟨hs_⟩⟩
   ·rw [if_neg c7] at H
    (have c7b0 : (!(a0_1 == a1_1) || (!(a0_2.toList == a1_2.toList) || (!(a0_3.toList == a1_3.toList) || (!(a0_4.toList == a1_4.toList))))) = false := by simpa using c7); clear c7
    by_cases c11 : (a0_5 != a1_5) = true
    ·rw [if_pos c11] at H
     have c11b0 : (a0_5 != a1_5) = true := c11; (try (have c11b1 : decide (a0_5 = a1_5) = false := by simpa using c11)); (try (have c11b2 : (a0_5 == a1_5) = false := by simpa using c11)); (try (have c11b3 : ¬ (a0_5 = a1_5) := by simpa using c11)); clear c11; have H' := A_ H; clear H; have hnb12 := NB270_271.out; have hnc12 := NB271_270.out; have Z13 := bz8_ BK270; have Z14 := bz8_ BK271; go_wp2; go_meet
     case rel => exact ⟨_, (true), rf_, H', ⟨by first | omega | exact Nat.le_refl _⟩, ⟨bl_ BK270.out⟩, ⟨bl_ BK271.out⟩, ⟨hs_⟩⟩
    ·rw [if_neg c11] at H
     (have c11b0 : (a0_5 != a1_5) = false := by simpa using c11); (try (have c11b1 : decide (a0_5 = a1_5) = true := by simpa using c11)); (try (have c11b2 : (a0_5 == a1_5) = true := by simpa using c11)); clear c11
     by_cases c15 : (a0_6 != a1_6) = true
     ·rw [if_pos c15] at H
      have c15b0 : (a0_6 != a1_6) = true := c15; (try (have c15b1 : decide (a0_6 = a1_6) = false := by simpa using c15)); (try (have c15b2 : (a0_6 == a1_6) = false := by simpa using c15)); (try (have c15b3 : ¬ (a0_6 = a1_6) := by simpa using c15)); clear c15; have H' := A_ H; clear H; have hnb16 := NB270_271.out; have hnc16 := NB271_270.out; have Z17 := bz8_ BK270; have Z18 := bz8_ BK271; go_wp2; go_meet
      case rel => exact ⟨_, (true), rf_, H', ⟨by first | omega | exact Nat.le_refl _⟩, ⟨bl_ BK270.out⟩, ⟨bl_ BK271.out⟩, ⟨hs_⟩⟩
     ·rw [if_neg c15] at H
      (have c15b0 : (a0_6 != a1_6) = false := by simpa using c15); (try (have c15b1 : decide (a0_6 = a1_6) = true := by simpa using c15)); (try (have c15b2 : (a0_6 == a1_6) = true := by simpa using c15)); clear c15; have H' := A_ H; clear H; have hnb19 := NB270_271.out; have hnc19 := NB271_270.out; have Z20 := bz8_ BK270; have Z21 := bz8_ BK271; go_wp2; go_meet
      case rel => exact ⟨_, (((l0_7.length : Int) != (l1_7.length : Int))), rf_, H', ⟨by first | omega | exact Nat.le_refl _⟩, ⟨bl_ BK270.out⟩, ⟨bl_ BK271.out⟩, ⟨hs_⟩⟩
  ·rw [if_neg c6] at H
   have c6b0 : (a0_0 == a1_0) = false := beq_eq_false_iff_ne.mpr c6; have c6b1 : (a0_0 != a1_0) = true := bne_iff_ne.mpr c6; (first | rw [c6b0] | (simp only [i64_w, i32_w]; rw [c6b0]) | skip); have H' := A_ H; clear H; have hnb22 := NB270_271.out; have hnc22 := NB271_270.out; have Z23 := bz8_ BK270; have Z24 := bz8_ BK271; go_wp2; go_meet
   case rel => exact ⟨_, (true), rf_, H', ⟨by first | omega | exact Nat.le_refl _⟩, ⟨bl_ BK270.out⟩, ⟨bl_ BK271.out⟩, ⟨hs_⟩⟩
 case rest =>
  clear HC3; (try clear c1); (try clear c2); (try clear p2); (try clear c6); (try clear c6b0); (try clear c6b1); (try clear c7); (try clear c7b0); (try clear c8); (try clear c11); (try clear c11b0); (try clear c11b1); (try clear c11b2); (try clear c12); (try clear c15); (try clear c15b0); (try clear c15b1); (try clear c15b2); (try clear c16); (try clear c19); (try clear c22); (try clear Z10); (try clear Z13); (try clear Z14); (try clear Z17); (try clear Z18); (try clear Z20); (try clear Z21); (try clear Z23); (try clear Z24); (try clear Z9); obtain ⟨kq, x40_2, rfl, HA, HJ2, BK270, BK271, HB⟩ := hcut
  cases kq with
  | zero => exact absurd HA.out (by simp [lustrumref10_Same.j0])
  | succ kj2 =>
   have H := HA.out; clear HA; simp only [lustrumref10_Same.j0] at H
   by_cases c25 : x40_2 = true
   ·subst c25
    replace H := iP_ H; obtain rfl := Option.some.inj H; go_wp2; go_ret; exact ⟨re_, hs_⟩
   ·replace c25 := Bool.eq_false_iff.mpr c25
    subst c25; replace H := iN_ H; have H' := A_ H; clear H; go_wp2; go_loopg [5] kj2 (fun kq v5 w' => ∃ (x5_2 : Int), v5 = .int .i64 x5_2 ∧ Aside0 (lustrumref10_Same.l0 kq x5_2 a0_0 a0_1 a0_2 a0_3 a0_4 a0_5 a0_6 l0_7 a1_0 a1_1 a1_2 a1_3 a1_4 a1_5 a1_6 l1_7 = some r) ∧ Aside0 (kq ≤ kj2) ∧ Aside0 (w'.heap[gb270]? = some (.cells #[.int .i64 a0_0, .int .i64 a0_1, .string a0_2, .string a0_3, .string a0_4, .bool a0_5, .bool a0_6, (.slice A0_7 l0_7.length c0_7)] 26 (0, 0))) ∧ Aside0 (w'.heap[gb271]? = some (.cells #[.int .i64 a1_0, .int .i64 a1_1, .string a1_2, .string a1_3, .string a1_4, .bool a1_5, .bool a1_6, (.slice A1_7 l1_7.length c1_7)] 26 (0, 0))) ∧ Aside0 (Below w.heap.size w w'))
    case atStart => exact ⟨(0), rf_, H', ⟨Nat.le_refl _⟩, ⟨bl_ BK270.out⟩, ⟨bl_ BK271.out⟩, ⟨hs_⟩⟩
    case round =>
     clear H'; (try clear c1); (try clear c2); (try clear p2); (try clear c6); (try clear c6b0); (try clear c6b1); (try clear c7); (try clear c7b0); (try clear c8); (try clear c11); (try clear c11b0); (try clear c11b1); (try clear c11b2); (try clear c12); (try clear c15); (try clear c15b0); (try clear c15b1); (try clear c15b2); (try clear c16); (try clear c19); (try clear c22); (try clear c25); (try clear Z10); (try clear Z13); (try clear Z14); (try clear Z17); (try clear Z18); (try clear Z20); (try clear Z21); (try clear Z23); (try clear Z24); (try clear Z9); (try clear p2); obtain ⟨x5_2, rfl, HA, HK2, BK270, BK271, HB⟩ := hrel
     cases gk with
     | zero => exact absurd HA.out (by simp [lustrumref10_Same.l0])
     | succ k2 =>
      have H := HA.out; clear HA; simp only [lustrumref10_Same.l0] at H
      by_cases c26 : x5_2 < (l0_7.length : Int)
      ·rw [if_pos c26] at H
       have c26b0 := decide_eq_true c26; clear c26
       by_cases c27 : 0 ≤ x5_2
       ·rw [if_pos c27] at H
        have c27b0 := decide_eq_true c27; clear c27
        by_cases c28 : x5_2 < (l1_7.length : Int)
        ·rw [if_pos c28] at H
         have c28b0 := decide_eq_true c28; clear c28; obtain ⟨t274, A29, H⟩ := bi_ H
         by_cases c30 : t274 = true
         ·subst c30
          replace H := iP_ H; have H' := A_ H; clear H; have hnb31 := NB270_271.out; have hnc31 := NB271_270.out; have Z32 := bz8_ BK270; (try go_wp2); replace BK270 := A_ (blk_drew BK270.out); replace BK271 := A_ (blk_drew BK271.out); replace HB := A_ (below_drew1 HB.out); have p272 : 0 ≤ (x5_2 : Int) := od_; have q272 : x5_2 < (l0_7.length : Int) := od_; obtain ⟨ad272, A272_7, c272_7, e272, hx272_0, hx272_1, hx272_2, hx272_3, hx272_4, hx272_5, hx272_6, hx272_7, hl272_7, hi272_7⟩ := at_T26 HR0_7.out x5_2 p272 q272; have hw272_7 := hx272_7; have hw272_6 := hx272_6; have hw272_5 := hx272_5; have hw272_4 := hx272_4; have hw272_3 := hx272_3; have hw272_2 := hx272_2; have hw272_1 := hx272_1; have hw272_0 := hx272_0
          cases e272
          replace hx272_0 := cl_ HB hx272_0; replace hx272_1 := cl_ HB hx272_1; replace hx272_2 := cl_ HB hx272_2; replace hx272_3 := cl_ HB hx272_3; replace hx272_4 := cl_ HB hx272_4; replace hx272_5 := cl_ HB hx272_5; replace hx272_6 := cl_ HB hx272_6; replace hx272_7 := cl_ HB hx272_7; have HR272_7 := A_ hi272_7; have HC272_7 := A_ hl272_7; clear hi272_7 hl272_7; replace p272 := eq_true p272; replace q272 := eq_true q272; have p273 : 0 ≤ (x5_2 : Int) := od_; have q273 : x5_2 < (l1_7.length : Int) := od_; obtain ⟨ad273, A273_7, c273_7, e273, hx273_0, hx273_1, hx273_2, hx273_3, hx273_4, hx273_5, hx273_6, hx273_7, hl273_7, hi273_7⟩ := at_T26 HR1_7.out x5_2 p273 q273; have hw273_7 := hx273_7; have hw273_6 := hx273_6; have hw273_5 := hx273_5; have hw273_4 := hx273_4; have hw273_3 := hx273_3; have hw273_2 := hx273_2; have hw273_1 := hx273_1; have hw273_0 := hx273_0
          cases e273
          replace hx273_0 := cl_ HB hx273_0; replace hx273_1 := cl_ HB hx273_1; replace hx273_2 := cl_ HB hx273_2; replace hx273_3 := cl_ HB hx273_3; replace hx273_4 := cl_ HB hx273_4; replace hx273_5 := cl_ HB hx273_5; replace hx273_6 := cl_ HB hx273_6; replace hx273_7 := cl_ HB hx273_7; have HR273_7 := A_ hi273_7; have HC273_7 := A_ hl273_7; clear hi273_7 hl273_7; replace p273 := eq_true p273; replace q273 := eq_true q273; refine start_ (n := 12) (S := fun w' => K8 w' gb270 (.int .i64 a0_0) (.int .i64 a0_1) (.string a0_2) (.string a0_3) (.string a0_4) (.bool a0_5) (.bool a0_6) (.slice (some ad272) l0_7.length c0_7) (K8 w' gb271 (.int .i64 a1_0) (.int .i64 a1_1) (.string a1_2) (.string a1_3) (.string a1_4) (.bool a1_5) (.bool a1_6) (.slice (some ad273) l1_7.length c1_7) (w'.cell? (ad272.add ((x5_2).toNat * 8)) = some (.int .i64 ((rd_T26 l0_7 x5_2).f0)) ∧ w'.cell? ⟨(ad272.add ((x5_2).toNat * 8)).block, (ad272.add ((x5_2).toNat * 8)).off + 1, none⟩ = some (.int .i64 ((rd_T26 l0_7 x5_2).f1.f0)) ∧ w'.cell? ⟨(ad272.add ((x5_2).toNat * 8)).block, (ad272.add ((x5_2).toNat * 8)).off + 2, none⟩ = some (.string ((rd_T26 l0_7 x5_2).f1.f1)) ∧ w'.cell? ⟨(ad272.add ((x5_2).toNat * 8)).block, (ad272.add ((x5_2).toNat * 8)).off + 3, none⟩ = some (.string ((rd_T26 l0_7 x5_2).f1.f2)) ∧ w'.cell? ⟨(ad272.add ((x5_2).toNat * 8)).block, (ad272.add ((x5_2).toNat * 8)).off + 4, none⟩ = some (.string ((rd_T26 l0_7 x5_2).f1.f3)) ∧ w'.cell? ⟨(ad272.add ((x5_2).toNat * 8)).block, (ad272.add ((x5_2).toNat * 8)).off + 5, none⟩ = some (.bool ((rd_T26 l0_7 x5_2).f2)) ∧ w'.cell? ⟨(ad272.add ((x5_2).toNat * 8)).block, (ad272.add ((x5_2).toNat * 8)).off + 6, none⟩ = some (.bool ((rd_T26 l0_7 x5_2).f3)) ∧ w'.cell? ⟨(ad272.add ((x5_2).toNat * 8)).block, (ad272.add ((x5_2).toNat * 8)).off + 7, none⟩ = some (.slice A272_7 ((rd_T26 l0_7 x5_2).f4).length c272_7) ∧ w'.cell? (ad273.add ((x5_2).toNat * 8)) = some (.int .i64 ((rd_T26 l1_7 x5_2).f0)) ∧ w'.cell? ⟨(ad273.add ((x5_2).toNat * 8)).block, (ad273.add ((x5_2).toNat * 8)).off + 1, none⟩ = some (.int .i64 ((rd_T26 l1_7 x5_2).f1.f0)) ∧ w'.cell? ⟨(ad273.add ((x5_2).toNat * 8)).block, (ad273.add ((x5_2).toNat * 8)).off + 2, none⟩ = some (.string ((rd_T26 l1_7 x5_2).f1.f1)) ∧ w'.cell? ⟨(ad273.add ((x5_2).toNat * 8)).block, (ad273.add ((x5_2).toNat * 8)).off + 3, none⟩ = some (.string ((rd_T26 l1_7 x5_2).f1.f2)) ∧ w'.cell? ⟨(ad273.add ((x5_2).toNat * 8)).block, (ad273.add ((x5_2).toNat * 8)).off + 4, none⟩ = some (.string ((rd_T26 l1_7 x5_2).f1.f3)) ∧ w'.cell? ⟨(ad273.add ((x5_2).toNat * 8)).block, (ad273.add ((x5_2).toNat * 8)).off + 5, none⟩ = some (.bool ((rd_T26 l1_7 x5_2).f2)) ∧ w'.cell? ⟨(ad273.add ((x5_2).toNat * 8)).block, (ad273.add ((x5_2).toNat * 8)).off + 6, none⟩ = some (.bool ((rd_T26 l1_7 x5_2).f3)) ∧ w'.cell? ⟨(ad273.add ((x5_2).toNat * 8)).block, (ad273.add ((x5_2).toNat * 8)).off + 7, none⟩ = some (.slice A273_7 ((rd_T26 l1_7 x5_2).f4).length c273_7)))) (ds := []) (ab 12 0) (by kernel_rfl) rfl rfl (kq8_ BK270 (kq8_ BK271 (⟨(cl_ HB hw272_0), (cl_ HB hw272_1), (cl_ HB hw272_2), (cl_ HB hw272_3), (cl_ HB hw272_4), (cl_ HB hw272_5), (cl_ HB hw272_6), (cl_ HB hw272_7), (cl_ HB hw273_0), (cl_ HB hw273_1), (cl_ HB hw273_2), (cl_ HB hw273_3), (cl_ HB hw273_4), (cl_ HB hw273_5), (cl_ HB hw273_6), (cl_ HB hw273_7)⟩))) (fun hHeld => ?_); refine with_tabW lustrumref10_Same.tab6 lustrumref10_Same.bits6 (fun HT_ HW_ => ?_)
          generalize wr.drew = w33 at BK270 BK271 HB HR272_7 HR273_7 hx272_0 hx272_1 hx272_2 hx272_3 hx272_4 hx272_5 hx272_6 hx272_7 hx273_0 hx273_1 hx273_2 hx273_3 hx273_4 hx273_5 hx273_6 hx273_7 hHeld ⊢; refine pA 0 48 12 1 ?_; refine pA 2 50 12 5 ?_; refine pA 5 53 12 37 ?_; refine pA 7 55 12 165 ?_; refine tB 1 49 12 167 ?_; refine pA 3 51 12 175 ?_; refine tB 4 52 12 191 ?_; refine tB 6 54 12 255 ?_; refine pA 8 56 12 511 ?_; refine tB 9 57 12 1023 ?_; refine oA 10 (some 58) 12 2047 fun K hK => ?_; refine gS Try.func27 #[.agg #[.int .i64 ((rd_T26 l0_7 x5_2).f0), .int .i64 ((rd_T26 l0_7 x5_2).f1.f0), .string ((rd_T26 l0_7 x5_2).f1.f1), .string ((rd_T26 l0_7 x5_2).f1.f2), .string ((rd_T26 l0_7 x5_2).f1.f3), .bool ((rd_T26 l0_7 x5_2).f2), .bool ((rd_T26 l0_7 x5_2).f3), .slice A272_7 ((rd_T26 l0_7 x5_2).f4).length c272_7], .agg #[.int .i64 ((rd_T26 l1_7 x5_2).f0), .int .i64 ((rd_T26 l1_7 x5_2).f1.f0), .string ((rd_T26 l1_7 x5_2).f1.f1), .string ((rd_T26 l1_7 x5_2).f1.f2), .string ((rd_T26 l1_7 x5_2).f1.f3), .bool ((rd_T26 l1_7 x5_2).f2), .bool ((rd_T26 l1_7 x5_2).f3), .slice A273_7 ((rd_T26 l1_7 x5_2).f4).length c273_7]] ?_; (with_reducible refine (ih k2 (by have := HJ2.out; have := HK2.out; omega) ((rd_T26 l0_7 x5_2).f0) ((rd_T26 l0_7 x5_2).f1.f0) ((rd_T26 l0_7 x5_2).f1.f1) ((rd_T26 l0_7 x5_2).f1.f2) ((rd_T26 l0_7 x5_2).f1.f3) ((rd_T26 l0_7 x5_2).f2) ((rd_T26 l0_7 x5_2).f3) _ _ ((rd_T26 l0_7 x5_2).f4) ((rd_T26 l1_7 x5_2).f0) ((rd_T26 l1_7 x5_2).f1.f0) ((rd_T26 l1_7 x5_2).f1.f1) ((rd_T26 l1_7 x5_2).f1.f2) ((rd_T26 l1_7 x5_2).f1.f3) ((rd_T26 l1_7 x5_2).f2) ((rd_T26 l1_7 x5_2).f3) _ _ ((rd_T26 l1_7 x5_2).f4) true _ ?side1 ?side2 ?side3 ?side4 A29.out).mono ?_)
          (case side1 => exact cb_ HR272_7)
          (case side2 => exact HC272_7.out)
          (case side3 => exact cb_ HR273_7)
          (case side4 => exact HC273_7.out)
          rintro e w34 ⟨rfl, hb⟩; refine ⟨_, rfl, ?_⟩; replace BK270 := bb_ BK270 hb; replace BK271 := bb_ BK271 hb; replace HB := bs_ hb; (try clear hb); refine hK.out _ _ (kq8_ BK270 (kq8_ BK271 (⟨(cl_ HB hw272_0), (cl_ HB hw272_1), (cl_ HB hw272_2), (cl_ HB hw272_3), (cl_ HB hw272_4), (cl_ HB hw272_5), (cl_ HB hw272_6), (cl_ HB hw272_7), (cl_ HB hw273_0), (cl_ HB hw273_1), (cl_ HB hw273_2), (cl_ HB hw273_3), (cl_ HB hw273_4), (cl_ HB hw273_5), (cl_ HB hw273_6), (cl_ HB hw273_7)⟩))) (fun hHeld => ?_); clear hK K; refine nA ?_; refine pA 11 59 12 4095 ?_; refine done_ (done_of HT_.out (by kernel_rfl)) ?_; (try go_wp2); go_roundg k2
          case measure => have := HJ2.out; have := HK2.out; omega
          case rel => exact ⟨(wrap64 (x5_2 + 1)), rf_, H', ⟨by have := HJ2.out; have := HK2.out; omega⟩, ⟨bl_ BK270.out⟩, ⟨bl_ BK271.out⟩, ⟨hs_⟩⟩
         ·replace c30 := Bool.eq_false_iff.mpr c30
          subst c30; replace H := iN_ H; obtain rfl := Option.some.inj H; have hnb35 := NB270_271.out; have hnc35 := NB271_270.out; have Z36 := bz8_ BK270; (try go_wp2); replace BK270 := A_ (blk_drew BK270.out); replace BK271 := A_ (blk_drew BK271.out); replace HB := A_ (below_drew1 HB.out); have p272 : 0 ≤ (x5_2 : Int) := od_; have q272 : x5_2 < (l0_7.length : Int) := od_; obtain ⟨ad272, A272_7, c272_7, e272, hx272_0, hx272_1, hx272_2, hx272_3, hx272_4, hx272_5, hx272_6, hx272_7, hl272_7, hi272_7⟩ := at_T26 HR0_7.out x5_2 p272 q272; have hw272_7 := hx272_7; have hw272_6 := hx272_6; have hw272_5 := hx272_5; have hw272_4 := hx272_4; have hw272_3 := hx272_3; have hw272_2 := hx272_2; have hw272_1 := hx272_1; have hw272_0 := hx272_0
          cases e272
          replace hx272_0 := cl_ HB hx272_0; replace hx272_1 := cl_ HB hx272_1; replace hx272_2 := cl_ HB hx272_2; replace hx272_3 := cl_ HB hx272_3; replace hx272_4 := cl_ HB hx272_4; replace hx272_5 := cl_ HB hx272_5; replace hx272_6 := cl_ HB hx272_6; replace hx272_7 := cl_ HB hx272_7; have HR272_7 := A_ hi272_7; have HC272_7 := A_ hl272_7; clear hi272_7 hl272_7; replace p272 := eq_true p272; replace q272 := eq_true q272; have p273 : 0 ≤ (x5_2 : Int) := od_; have q273 : x5_2 < (l1_7.length : Int) := od_; obtain ⟨ad273, A273_7, c273_7, e273, hx273_0, hx273_1, hx273_2, hx273_3, hx273_4, hx273_5, hx273_6, hx273_7, hl273_7, hi273_7⟩ := at_T26 HR1_7.out x5_2 p273 q273; have hw273_7 := hx273_7; have hw273_6 := hx273_6; have hw273_5 := hx273_5; have hw273_4 := hx273_4; have hw273_3 := hx273_3; have hw273_2 := hx273_2; have hw273_1 := hx273_1; have hw273_0 := hx273_0
          cases e273
          replace hx273_0 := cl_ HB hx273_0; replace hx273_1 := cl_ HB hx273_1; replace hx273_2 := cl_ HB hx273_2; replace hx273_3 := cl_ HB hx273_3; replace hx273_4 := cl_ HB hx273_4; replace hx273_5 := cl_ HB hx273_5; replace hx273_6 := cl_ HB hx273_6; replace hx273_7 := cl_ HB hx273_7; have HR273_7 := A_ hi273_7; have HC273_7 := A_ hl273_7; clear hi273_7 hl273_7; replace p273 := eq_true p273; replace q273 := eq_true q273; refine start_ (n := 12) (S := fun w' => K8 w' gb270 (.int .i64 a0_0) (.int .i64 a0_1) (.string a0_2) (.string a0_3) (.string a0_4) (.bool a0_5) (.bool a0_6) (.slice (some ad272) l0_7.length c0_7) (K8 w' gb271 (.int .i64 a1_0) (.int .i64 a1_1) (.string a1_2) (.string a1_3) (.string a1_4) (.bool a1_5) (.bool a1_6) (.slice (some ad273) l1_7.length c1_7) (w'.cell? (ad272.add ((x5_2).toNat * 8)) = some (.int .i64 ((rd_T26 l0_7 x5_2).f0)) ∧ w'.cell? ⟨(ad272.add ((x5_2).toNat * 8)).block, (ad272.add ((x5_2).toNat * 8)).off + 1, none⟩ = some (.int .i64 ((rd_T26 l0_7 x5_2).f1.f0)) ∧ w'.cell? ⟨(ad272.add ((x5_2).toNat * 8)).block, (ad272.add ((x5_2).toNat * 8)).off + 2, none⟩ = some (.string ((rd_T26 l0_7 x5_2).f1.f1)) ∧ w'.cell? ⟨(ad272.add ((x5_2).toNat * 8)).block, (ad272.add ((x5_2).toNat * 8)).off + 3, none⟩ = some (.string ((rd_T26 l0_7 x5_2).f1.f2)) ∧ w'.cell? ⟨(ad272.add ((x5_2).toNat * 8)).block, (ad272.add ((x5_2).toNat * 8)).off + 4, none⟩ = some (.string ((rd_T26 l0_7 x5_2).f1.f3)) ∧ w'.cell? ⟨(ad272.add ((x5_2).toNat * 8)).block, (ad272.add ((x5_2).toNat * 8)).off + 5, none⟩ = some (.bool ((rd_T26 l0_7 x5_2).f2)) ∧ w'.cell? ⟨(ad272.add ((x5_2).toNat * 8)).block, (ad272.add ((x5_2).toNat * 8)).off + 6, none⟩ = some (.bool ((rd_T26 l0_7 x5_2).f3)) ∧ w'.cell? ⟨(ad272.add ((x5_2).toNat * 8)).block, (ad272.add ((x5_2).toNat * 8)).off + 7, none⟩ = some (.slice A272_7 ((rd_T26 l0_7 x5_2).f4).length c272_7) ∧ w'.cell? (ad273.add ((x5_2).toNat * 8)) = some (.int .i64 ((rd_T26 l1_7 x5_2).f0)) ∧ w'.cell? ⟨(ad273.add ((x5_2).toNat * 8)).block, (ad273.add ((x5_2).toNat * 8)).off + 1, none⟩ = some (.int .i64 ((rd_T26 l1_7 x5_2).f1.f0)) ∧ w'.cell? ⟨(ad273.add ((x5_2).toNat * 8)).block, (ad273.add ((x5_2).toNat * 8)).off + 2, none⟩ = some (.string ((rd_T26 l1_7 x5_2).f1.f1)) ∧ w'.cell? ⟨(ad273.add ((x5_2).toNat * 8)).block, (ad273.add ((x5_2).toNat * 8)).off + 3, none⟩ = some (.string ((rd_T26 l1_7 x5_2).f1.f2)) ∧ w'.cell? ⟨(ad273.add ((x5_2).toNat * 8)).block, (ad273.add ((x5_2).toNat * 8)).off + 4, none⟩ = some (.string ((rd_T26 l1_7 x5_2).f1.f3)) ∧ w'.cell? ⟨(ad273.add ((x5_2).toNat * 8)).block, (ad273.add ((x5_2).toNat * 8)).off + 5, none⟩ = some (.bool ((rd_T26 l1_7 x5_2).f2)) ∧ w'.cell? ⟨(ad273.add ((x5_2).toNat * 8)).block, (ad273.add ((x5_2).toNat * 8)).off + 6, none⟩ = some (.bool ((rd_T26 l1_7 x5_2).f3)) ∧ w'.cell? ⟨(ad273.add ((x5_2).toNat * 8)).block, (ad273.add ((x5_2).toNat * 8)).off + 7, none⟩ = some (.slice A273_7 ((rd_T26 l1_7 x5_2).f4).length c273_7)))) (ds := []) (ab 12 0) (by kernel_rfl) rfl rfl (kq8_ BK270 (kq8_ BK271 (⟨(cl_ HB hw272_0), (cl_ HB hw272_1), (cl_ HB hw272_2), (cl_ HB hw272_3), (cl_ HB hw272_4), (cl_ HB hw272_5), (cl_ HB hw272_6), (cl_ HB hw272_7), (cl_ HB hw273_0), (cl_ HB hw273_1), (cl_ HB hw273_2), (cl_ HB hw273_3), (cl_ HB hw273_4), (cl_ HB hw273_5), (cl_ HB hw273_6), (cl_ HB hw273_7)⟩))) (fun hHeld => ?_); refine with_tabW lustrumref10_Same.tab6 lustrumref10_Same.bits6 (fun HT_ HW_ => ?_)
          generalize wr.drew = w37 at BK270 BK271 HB HR272_7 HR273_7 hx272_0 hx272_1 hx272_2 hx272_3 hx272_4 hx272_5 hx272_6 hx272_7 hx273_0 hx273_1 hx273_2 hx273_3 hx273_4 hx273_5 hx273_6 hx273_7 hHeld ⊢; refine pA 0 48 12 1 ?_; refine pA 2 50 12 5 ?_; refine pA 5 53 12 37 ?_; refine pA 7 55 12 165 ?_; refine tB 1 49 12 167 ?_; refine pA 3 51 12 175 ?_; refine tB 4 52 12 191 ?_; refine tB 6 54 12 255 ?_; refine pA 8 56 12 511 ?_; refine tB 9 57 12 1023 ?_; refine oA 10 (some 58) 12 2047 fun K hK => ?_; refine gS Try.func27 #[.agg #[.int .i64 ((rd_T26 l0_7 x5_2).f0), .int .i64 ((rd_T26 l0_7 x5_2).f1.f0), .string ((rd_T26 l0_7 x5_2).f1.f1), .string ((rd_T26 l0_7 x5_2).f1.f2), .string ((rd_T26 l0_7 x5_2).f1.f3), .bool ((rd_T26 l0_7 x5_2).f2), .bool ((rd_T26 l0_7 x5_2).f3), .slice A272_7 ((rd_T26 l0_7 x5_2).f4).length c272_7], .agg #[.int .i64 ((rd_T26 l1_7 x5_2).f0), .int .i64 ((rd_T26 l1_7 x5_2).f1.f0), .string ((rd_T26 l1_7 x5_2).f1.f1), .string ((rd_T26 l1_7 x5_2).f1.f2), .string ((rd_T26 l1_7 x5_2).f1.f3), .bool ((rd_T26 l1_7 x5_2).f2), .bool ((rd_T26 l1_7 x5_2).f3), .slice A273_7 ((rd_T26 l1_7 x5_2).f4).length c273_7]] ?_; (with_reducible refine (ih k2 (by have := HJ2.out; have := HK2.out; omega) ((rd_T26 l0_7 x5_2).f0) ((rd_T26 l0_7 x5_2).f1.f0) ((rd_T26 l0_7 x5_2).f1.f1) ((rd_T26 l0_7 x5_2).f1.f2) ((rd_T26 l0_7 x5_2).f1.f3) ((rd_T26 l0_7 x5_2).f2) ((rd_T26 l0_7 x5_2).f3) _ _ ((rd_T26 l0_7 x5_2).f4) ((rd_T26 l1_7 x5_2).f0) ((rd_T26 l1_7 x5_2).f1.f0) ((rd_T26 l1_7 x5_2).f1.f1) ((rd_T26 l1_7 x5_2).f1.f2) ((rd_T26 l1_7 x5_2).f1.f3) ((rd_T26 l1_7 x5_2).f2) ((rd_T26 l1_7 x5_2).f3) _ _ ((rd_T26 l1_7 x5_2).f4) false _ ?side1 ?side2 ?side3 ?side4 A29.out).mono ?_)
          (case side1 => exact cb_ HR272_7)
          (case side2 => exact HC272_7.out)
          (case side3 => exact cb_ HR273_7)
          (case side4 => exact HC273_7.out)
          rintro e w38 ⟨rfl, hb⟩; refine ⟨_, rfl, ?_⟩; replace BK270 := bb_ BK270 hb; replace BK271 := bb_ BK271 hb; replace HB := bs_ hb; (try clear hb); refine hK.out _ _ (kq8_ BK270 (kq8_ BK271 (⟨(cl_ HB hw272_0), (cl_ HB hw272_1), (cl_ HB hw272_2), (cl_ HB hw272_3), (cl_ HB hw272_4), (cl_ HB hw272_5), (cl_ HB hw272_6), (cl_ HB hw272_7), (cl_ HB hw273_0), (cl_ HB hw273_1), (cl_ HB hw273_2), (cl_ HB hw273_3), (cl_ HB hw273_4), (cl_ HB hw273_5), (cl_ HB hw273_6), (cl_ HB hw273_7)⟩))) (fun hHeld => ?_); clear hK K; refine nA ?_; refine pA 11 59 12 4095 ?_; refine done_ (done_of HT_.out (by kernel_rfl)) ?_; (try go_wp2); go_ret; exact ⟨re_, hs_⟩
        ·rw [if_neg c28] at H
         exact absurd H (by simp)
       ·rw [if_neg c27] at H
        exact absurd H (by simp)
      ·rw [if_neg c26] at H
       have c26b0 := decide_eq_false c26; have c26b9 := c26b0; (try simp only [hl272_7] at c26b9); (try simp only [hl273_7] at c26b9); clear c26; obtain rfl := Option.some.inj H; have hnb39 := NB270_271.out; have hnc39 := NB271_270.out; have Z40 := bz8_ BK270; go_wp2; go_ret; exact ⟨re_, hs_⟩
def lustrumref12_Is.T1 : Bool × List (List Nat × List Nat) := (true, [([], []), ([0], [0]), ([1, 1], [1]), ([2], [2]), ([3, 2, 2], [2, 3]), ([2], [2]), ([4, 5, 4, 2], [2, 4, 5]), ([2, 6], [2, 6]), ([7, 6, 0, 1, 2, 3, 4, 5, 6, 7], [7])])
def lustrumref12_Is.B1 : List Nat := [0, 1, 3, 7, 15, 7, 63, 127, 255]
theorem lustrumref12_Is.tab1 : rtab .any (opsOf Try.f43 1) = lustrumref12_Is.T1 := by kernel_rfl
theorem lustrumref12_Is.bits1 : waitsOk lustrumref12_Is.T1.2 lustrumref12_Is.B1 = true := by kernel_rfl
set_option maxHeartbeats 8000000 in
set_option maxRecDepth 100000 in
theorem lustrumref12_Is.calls (k : Nat) (a0_0 a0_1 : Int) (a0_2 a0_3 a0_4 : ByteArray) (a0_5 a0_6 : Bool) (A0_7 : Option Addr) (c0_7 : Nat) (l0_7 : List (S26)) (r : Bool) (w : World) (hr0_7 : Kd.C k26 w A0_7 l0_7.length l0_7) (hc0_7 : l0_7.length ≤ c0_7) (h : lustrumref12_Is.f k a0_0 a0_1 a0_2 a0_3 a0_4 a0_5 a0_6 l0_7 = some r) :
  Calls Try.prog 43 #[.agg #[.int .i64 a0_0, .int .i64 a0_1, .string a0_2, .string a0_3, .string a0_4, .bool a0_5, .bool a0_6, .slice A0_7 l0_7.length c0_7]] w fun e w' => e = .returned (.bool r) ∧ Below w.heap.size w w' := by
 have hu26 := Try.underlying26; have HR0_7 := A_ hr0_7; have HC0_7 := A_ hc0_7; clear hr0_7 hc0_7; have HB := A_ (Below.refl w.heap.size w); have H : ((lustrumref10_Sane.f k a0_0 a0_1 a0_2 a0_3 a0_4 a0_5 a0_6 l0_7).bind fun t427 => (if t427 = true then ((lustrumref12_Canon.f k a0_0 a0_1 a0_2 a0_3 a0_4 a0_5 a0_6 l0_7).bind fun bt428 => ((lustrumref10_Same.f k bt428.1 bt428.2.1 bt428.2.2.1 bt428.2.2.2.1 bt428.2.2.2.2.1 bt428.2.2.2.2.2.1 bt428.2.2.2.2.2.2.1 bt428.2.2.2.2.2.2.2 a0_0 a0_1 a0_2 a0_3 a0_4 a0_5 a0_6 l0_7).bind fun t438 => (some t438))) else (some false))) = some r := h; clear h; obtain ⟨t427, A2, H⟩ := bi_ H
 by_cases c3 : t427 = true
 ·subst c3
  replace H := iP_ H; obtain ⟨⟨t428, t429, t430, t431, t432, t433, t434, t435⟩, A4, H⟩ := bi_ H; obtain ⟨t438, A5, H⟩ := bi_ H; obtain rfl := Option.some.inj H; go_enter Try.func43, Try.ntmps43; (try go_wp2_with (first | (refine gx_ w 1 (n8_ a0_0 a0_1 a0_2 a0_3 a0_4 a0_5 a0_6 (.slice A0_7 l0_7.length c0_7)) 26 ?_; clear HB; intro gb426 w6 BK426 GE426 HB; have GW426 := GE426))); replace BK426 := A_ (blk_drew BK426.out); replace HB := A_ (below_drew1 HB.out); refine start_ (n := 9) (S := fun w' => C8 w' gb426 (.int .i64 a0_0) (.int .i64 a0_1) (.string a0_2) (.string a0_3) (.string a0_4) (.bool a0_5) (.bool a0_6) (.slice A0_7 l0_7.length c0_7)) (ds := []) (ab 9 0) (by kernel_rfl) rfl rfl (cq8_ BK426) (fun hHeld => ?_); refine with_tabW lustrumref12_Is.tab1 lustrumref12_Is.bits1 (fun HT_ HW_ => ?_); generalize w6.drew = w7 at BK426 HB hHeld ⊢; refine tB 0 3 9 1 ?_; refine oA 1 (some 4) 9 3 fun K hK => ?_; refine gS Try.func19 #[.agg (n8_ a0_0 a0_1 a0_2 a0_3 a0_4 a0_5 a0_6 (.slice A0_7 l0_7.length c0_7))] ?_; (with_reducible refine (lustrumref10_Sane.calls k a0_0 a0_1 a0_2 a0_3 a0_4 a0_5 a0_6 _ _ l0_7 true _ ?side1 ?side2 A2.out).mono ?_)
  (case side1 => exact cb_ HR0_7)
  (case side2 => exact HC0_7.out)
  rintro e w8 ⟨rfl, hb⟩; refine ⟨_, rfl, ?_⟩; replace BK426 := bb_ BK426 hb; replace HB := bs_ hb; (try clear hb); refine hK.out _ _ (cq8_ BK426) (fun hHeld => ?_); clear hK K; refine nA ?_; refine pA 2 5 9 7 ?_; refine tB 3 6 9 15 ?_; refine tB 5 8 9 47 ?_; refine oA 4 (some 7) 9 63 fun K hK => ?_; refine gS Try.func41 #[.agg (n8_ a0_0 a0_1 a0_2 a0_3 a0_4 a0_5 a0_6 (.slice A0_7 l0_7.length c0_7))] ?_; (with_reducible refine (lustrumref12_Canon.calls k a0_0 a0_1 a0_2 a0_3 a0_4 a0_5 a0_6 (fun k_ => k_ < w.heap.size) _ _ l0_7 t428 t429 t430 t431 t432 t433 t434 t435 _ ?side1 A4.out).mono ?_)
  (case side1 => exact Kd.V_mk HC0_7.out (Kd.F_below (Kd.C_F k26_heap HR0_7.out) hs_))
  rintro e w9 ⟨v436, rfl, ho0, hb⟩; refine ⟨_, rfl, ?_⟩; have HO437 := A_ (Kd.V_lower (Kd.V_mono (ok' := fun k_ => k_ ≠ gb426) ho0 (fun k_ hk_ => Or.elim hk_ (fun hs_ => fun e_ => Nat.not_le.2 hs_ (by rw [e_]; exact GW426.out)) (fb_ BK426 k_))) (below_size hs_)); replace BK426 := bb_ BK426 hb; replace HB := bs_ hb; (try clear hb); (try clear ho0); obtain ⟨Ao10, co10, eo10⟩ := Kd.V_slice HO437.out; (first | subst eo10 | (injection eo10 with f1_ f2_ f3_; have f4_ := f1_.symm; have f5_ := f3_.symm; clear f1_ f2_ f3_; subst f4_; subst f5_)); refine hK.out _ _ (cq8_ BK426) (fun hHeld => ?_); clear hK K; refine nA ?_; refine oA 6 (some 9) 9 127 fun K hK => ?_; refine gS Try.func27 #[.agg (n8_ t428 t429 t430 t431 t432 t433 t434 (.slice Ao10 t435.length co10)), .agg (n8_ a0_0 a0_1 a0_2 a0_3 a0_4 a0_5 a0_6 (.slice A0_7 l0_7.length c0_7))] ?_; (with_reducible refine (lustrumref10_Same.calls k t428 t429 t430 t431 t432 t433 t434 _ _ t435 a0_0 a0_1 a0_2 a0_3 a0_4 a0_5 a0_6 _ _ l0_7 t438 _ ?side1 ?side2 ?side3 ?side4 A5.out).mono ?_)
  (case side1 => exact cr_ (Kd.V_reads' HO437.out).2.2)
  (case side2 => exact (Kd.V_reads' HO437.out).2.1)
  (case side3 => exact cb_ HR0_7)
  (case side4 => exact HC0_7.out)
  rintro e w11 ⟨rfl, hb⟩; refine ⟨_, rfl, ?_⟩; replace HO437 := bV_ HO437 hb; replace BK426 := bb_ BK426 hb; replace HB := bs_ hb; (try clear hb); refine hK.out _ _ (cq8_ BK426) (fun hHeld => ?_); clear hK K; refine nA ?_; refine pA 7 10 9 255 ?_; refine pA 8 2 9 511 ?_; refine done_ (done_of HT_.out (by kernel_rfl)) ?_; (try go_wp2); go_ret; exact ⟨re_, hs_⟩
 ·replace c3 := Bool.eq_false_iff.mpr c3
  subst c3; replace H := iN_ H; obtain rfl := Option.some.inj H; go_enter Try.func43, Try.ntmps43; (try go_wp2_with (first | (refine gx_ w 1 (n8_ a0_0 a0_1 a0_2 a0_3 a0_4 a0_5 a0_6 (.slice A0_7 l0_7.length c0_7)) 26 ?_; clear HB; intro gb426 w12 BK426 GE426 HB; have GW426 := GE426))); replace BK426 := A_ (blk_drew BK426.out); replace HB := A_ (below_drew1 HB.out); refine start_ (n := 9) (S := fun w' => C8 w' gb426 (.int .i64 a0_0) (.int .i64 a0_1) (.string a0_2) (.string a0_3) (.string a0_4) (.bool a0_5) (.bool a0_6) (.slice A0_7 l0_7.length c0_7)) (ds := []) (ab 9 0) (by kernel_rfl) rfl rfl (cq8_ BK426) (fun hHeld => ?_); refine with_tabW lustrumref12_Is.tab1 lustrumref12_Is.bits1 (fun HT_ HW_ => ?_); generalize w12.drew = w13 at BK426 HB hHeld ⊢; refine tB 0 3 9 1 ?_; refine oA 1 (some 4) 9 3 fun K hK => ?_; refine gS Try.func19 #[.agg (n8_ a0_0 a0_1 a0_2 a0_3 a0_4 a0_5 a0_6 (.slice A0_7 l0_7.length c0_7))] ?_; (with_reducible refine (lustrumref10_Sane.calls k a0_0 a0_1 a0_2 a0_3 a0_4 a0_5 a0_6 _ _ l0_7 false _ ?side1 ?side2 A2.out).mono ?_)
  (case side1 => exact cb_ HR0_7)
  (case side2 => exact HC0_7.out)
  rintro e w14 ⟨rfl, hb⟩; refine ⟨_, rfl, ?_⟩; replace BK426 := bb_ BK426 hb; replace HB := bs_ hb; (try clear hb); refine hK.out _ _ (cq8_ BK426) (fun hHeld => ?_); clear hK K; refine nA ?_; refine pA 2 5 9 7 ?_; refine uA 3 6 9 15 ?_; refine uA 4 7 9 31 ?_; refine uA 5 8 9 63 ?_; refine uA 6 9 9 127 ?_; refine pA 7 10 9 255 ?_; refine pA 8 2 9 511 ?_; refine done_ (done_of HT_.out (by kernel_rfl)) ?_; (try go_wp2); go_ret; exact ⟨re_, hs_⟩
def lustrumlaw12_CanonIs.T4 : Bool × List (List Nat × List Nat) := (true, [([], []), ([0], [0]), ([1], [1]), ([2, 1, 1], [1, 2]), ([1], [1]), ([4, 3, 1], [1, 4]), ([3, 5, 5, 1], [1, 3, 5]), ([1, 6], [1, 6]), ([7, 6], [7]), ([8], [8]), ([9, 8, 8], [8, 9]), ([8], [8]), ([11, 10, 8], [8, 11]), ([10, 12, 8], [8, 10, 12]), ([8, 13], [8, 13]), ([14, 12, 0, 1, 2, 3, 4, 5, 6, 7, 8, 9, 10, 11, 12, 13, 14], [14])])
def lustrumlaw12_CanonIs.B4 : List Nat := [0, 1, 3, 7, 3, 31, 63, 127, 255, 511, 1023, 511, 4095, 8191, 16383, 32767]
theorem lustrumlaw12_CanonIs.tab4 : rtab .any (opsOf Try.f11 4) = lustrumlaw12_CanonIs.T4 := by kernel_rfl
theorem lustrumlaw12_CanonIs.bits4 : waitsOk lustrumlaw12_CanonIs.T4.2 lustrumlaw12_CanonIs.B4 = true := by kernel_rfl
set_option maxHeartbeats 8000000 in
set_option maxRecDepth 100000 in
theorem lustrumlaw12_CanonIs.calls (k : Nat) (a0_0 a0_1 : Int) (a0_2 a0_3 a0_4 : ByteArray) (a0_5 a0_6 : Bool) (A0_7 : Option Addr) (c0_7 : Nat) (l0_7 : List (S26)) (r : Bool) (w : World) (hr0_7 : Kd.C k26 w A0_7 l0_7.length l0_7) (hc0_7 : l0_7.length ≤ c0_7) (h : lustrumlaw12_CanonIs.f k a0_0 a0_1 a0_2 a0_3 a0_4 a0_5 a0_6 l0_7 = some r) :
  Calls Try.prog 11 #[.agg #[.int .i64 a0_0, .int .i64 a0_1, .string a0_2, .string a0_3, .string a0_4, .bool a0_5, .bool a0_6, .slice A0_7 l0_7.length c0_7]] w fun e w' => e = .returned (.bool r) ∧ Below w.heap.size w w' := by
 have hu26 := Try.underlying26; have HR0_7 := A_ hr0_7; have HC0_7 := A_ hc0_7; clear hr0_7 hc0_7; have HB := A_ (Below.refl w.heap.size w); have H : ((lustrumlaw12_awake.f k).bind fun t440 => ((lustrumref10_Few.f k a0_0 a0_1 a0_2 a0_3 a0_4 a0_5 a0_6 l0_7).bind fun t441 => (if t441 = true then (if t440 = true then ((canon_Canon.f k a0_0 a0_1 a0_2 a0_3 a0_4 a0_5 a0_6 l0_7).bind fun bt442 => ((lustrumref12_Canon.f k a0_0 a0_1 a0_2 a0_3 a0_4 a0_5 a0_6 l0_7).bind fun bt452 => ((tree_Same.f k bt442.1 bt442.2.1 bt442.2.2.1 bt442.2.2.2.1 bt442.2.2.2.2.1 bt442.2.2.2.2.2.1 bt442.2.2.2.2.2.2.1 bt442.2.2.2.2.2.2.2 bt452.1 bt452.2.1 bt452.2.2.1 bt452.2.2.2.1 bt452.2.2.2.2.1 bt452.2.2.2.2.2.1 bt452.2.2.2.2.2.2.1 bt452.2.2.2.2.2.2.2).bind fun t462 => (if t462 = true then ((canon_Is.f k a0_0 a0_1 a0_2 a0_3 a0_4 a0_5 a0_6 l0_7).bind fun t463 => ((lustrumref12_Is.f k a0_0 a0_1 a0_2 a0_3 a0_4 a0_5 a0_6 l0_7).bind fun t464 => (some (t463 == t464)))) else (some false))))) else (some false)) else (some t440)))) = some r := h; clear h; obtain ⟨t440, A2, H⟩ := bi_ H; obtain ⟨t441, A3, H⟩ := bi_ H
 by_cases c4 : t441 = true
 ·subst c4
  replace H := iP_ H
  by_cases c5 : t440 = true
  ·subst c5
   replace H := iP_ H; obtain ⟨⟨t442, t443, t444, t445, t446, t447, t448, t449⟩, A6, H⟩ := bi_ H; obtain ⟨⟨t452, t453, t454, t455, t456, t457, t458, t459⟩, A7, H⟩ := bi_ H; obtain ⟨t462, A8, H⟩ := bi_ H
   by_cases c9 : t462 = true
   ·subst c9
    replace H := iP_ H; obtain ⟨t463, A10, H⟩ := bi_ H; obtain ⟨t464, A11, H⟩ := bi_ H; obtain rfl := Option.some.inj H; go_enter Try.func11, Try.ntmps11; (try go_wp2_with (first | (refine gx_ w 1 (n8_ a0_0 a0_1 a0_2 a0_3 a0_4 a0_5 a0_6 (.slice A0_7 l0_7.length c0_7)) 26 ?_; clear HB; intro gb439 w12 BK439 GE439 HB; have GW439 := GE439) | (refine gC 39 ?_; refine gL 4 Try.func39 #[] ?_; (with_reducible refine (lustrumlaw12_awake.calls k  true _ A2.out).mono ?_); rintro e w13 ⟨rfl, hb⟩; refine ⟨_, rfl, ?_⟩; replace BK439 := bb_ BK439 hb; replace HB := bs_ hb; (try clear hb); have Z14 := bz8_ BK439) | (refine gC 17 ?_; refine gL 6 Try.func17 #[.agg (n8_ a0_0 a0_1 a0_2 a0_3 a0_4 a0_5 a0_6 (.slice A0_7 l0_7.length c0_7))] ?_; (with_reducible refine (lustrumref10_Few.calls k a0_0 a0_1 a0_2 a0_3 a0_4 a0_5 a0_6 _ _ l0_7 true _ ?side1 ?side2 A3.out).mono ?_); (case side1 => exact cb_ HR0_7); (case side2 => exact HC0_7.out); rintro e w15 ⟨rfl, hb⟩; refine ⟨_, rfl, ?_⟩; replace BK439 := bb_ BK439 hb; replace HB := bs_ hb; (try clear hb))))
    replace BK439 := A_ (blk_drew BK439.out); replace HB := A_ (below_drew1 HB.out); refine start_ (n := 16) (S := fun w' => C8 w' gb439 (.int .i64 a0_0) (.int .i64 a0_1) (.string a0_2) (.string a0_3) (.string a0_4) (.bool a0_5) (.bool a0_6) (.slice A0_7 l0_7.length c0_7)) (ds := []) (ab 16 0) (by kernel_rfl) rfl rfl (cq8_ BK439) (fun hHeld => ?_); refine with_tabW lustrumlaw12_CanonIs.tab4 lustrumlaw12_CanonIs.bits4 (fun HT_ HW_ => ?_); generalize w15.drew = w16 at BK439 HB hHeld ⊢; refine pA 0 9 16 1 ?_; refine pA 1 10 16 3 ?_; refine tB 2 11 16 7 ?_; refine tB 4 13 16 23 ?_; refine oA 3 (some 12) 16 31 fun K hK => ?_; refine gS Try.func40 #[.agg (n8_ a0_0 a0_1 a0_2 a0_3 a0_4 a0_5 a0_6 (.slice A0_7 l0_7.length c0_7))] ?_; (with_reducible refine (canon_Canon.calls k a0_0 a0_1 a0_2 a0_3 a0_4 a0_5 a0_6 (fun k_ => k_ < w.heap.size) _ _ l0_7 t442 t443 t444 t445 t446 t447 t448 t449 _ ?side1 A6.out).mono ?_)
    (case side1 => exact Kd.V_mk HC0_7.out (Kd.F_below (Kd.C_F k26_heap HR0_7.out) hs_))
    rintro e w17 ⟨v450, rfl, ho0, hb⟩; refine ⟨_, rfl, ?_⟩; have HO451 := A_ (Kd.V_lower (Kd.V_mono (ok' := fun k_ => k_ ≠ gb439) ho0 (fun k_ hk_ => Or.elim hk_ (fun hs_ => fun e_ => Nat.not_le.2 hs_ (by rw [e_]; exact GW439.out)) (fb_ BK439 k_))) (below_size hs_)); replace BK439 := bb_ BK439 hb; replace HB := bs_ hb; (try clear hb); (try clear ho0); refine hK.out _ _ (cq8_ BK439) (fun hHeld => ?_); clear hK K; refine nA ?_; refine oA 5 (some 14) 16 63 fun K hK => ?_; refine gS Try.func41 #[.agg (n8_ a0_0 a0_1 a0_2 a0_3 a0_4 a0_5 a0_6 (.slice A0_7 l0_7.length c0_7))] ?_; (with_reducible refine (lustrumref12_Canon.calls k a0_0 a0_1 a0_2 a0_3 a0_4 a0_5 a0_6 (fun k_ => k_ < w.heap.size) _ _ l0_7 t452 t453 t454 t455 t456 t457 t458 t459 _ ?side1 A7.out).mono ?_)
    (case side1 => exact Kd.V_mk HC0_7.out (Kd.F_below (Kd.C_F k26_heap HR0_7.out) hs_))
    rintro e w18 ⟨v460, rfl, ho0, hb⟩; refine ⟨_, rfl, ?_⟩; replace HO451 := bV_ HO451 hb; have HO461 := A_ (Kd.V_lower (Kd.V_mono (ok' := fun k_ => k_ ≠ gb439) ho0 (fun k_ hk_ => Or.elim hk_ (fun hs_ => fun e_ => Nat.not_le.2 hs_ (by rw [e_]; exact GW439.out)) (fb_ BK439 k_))) (below_size hs_)); replace BK439 := bb_ BK439 hb; replace HB := bs_ hb; (try clear hb); (try clear ho0); obtain ⟨Ao19, co19, eo19⟩ := Kd.V_slice HO451.out; (first | subst eo19 | (injection eo19 with f1_ f2_ f3_; have f4_ := f1_.symm; have f5_ := f3_.symm; clear f1_ f2_ f3_; subst f4_; subst f5_)); obtain ⟨Ao20, co20, eo20⟩ := Kd.V_slice HO461.out; (first | subst eo20 | (injection eo20 with f1_ f2_ f3_; have f4_ := f1_.symm; have f5_ := f3_.symm; clear f1_ f2_ f3_; subst f4_; subst f5_)); refine hK.out _ _ (cq8_ BK439) (fun hHeld => ?_); clear hK K; refine nA ?_; refine oA 6 (some 15) 16 127 fun K hK => ?_; refine gS Try.func26 #[.agg (n8_ t442 t443 t444 t445 t446 t447 t448 (.slice Ao19 t449.length co19)), .agg (n8_ t452 t453 t454 t455 t456 t457 t458 (.slice Ao20 t459.length co20))] ?_; (with_reducible refine (tree_Same.calls k t442 t443 t444 t445 t446 t447 t448 _ _ t449 t452 t453 t454 t455 t456 t457 t458 _ _ t459 true _ ?side1 ?side2 ?side3 ?side4 A8.out).mono ?_)
    (case side1 => exact cr_ (Kd.V_reads' HO451.out).2.2)
    (case side2 => exact (Kd.V_reads' HO451.out).2.1)
    (case side3 => exact cr_ (Kd.V_reads' HO461.out).2.2)
    (case side4 => exact (Kd.V_reads' HO461.out).2.1)
    rintro e w21 ⟨rfl, hb⟩; refine ⟨_, rfl, ?_⟩; replace HO451 := bV_ HO451 hb; replace HO461 := bV_ HO461 hb; replace BK439 := bb_ BK439 hb; replace HB := bs_ hb; (try clear hb); refine hK.out _ _ (cq8_ BK439) (fun hHeld => ?_); clear hK K; refine nA ?_; refine pA 7 16 16 255 ?_; refine pA 8 17 16 511 ?_; refine tB 9 18 16 1023 ?_; refine tB 11 20 16 3071 ?_; refine oA 10 (some 19) 16 4095 fun K hK => ?_; refine gS Try.func42 #[.agg (n8_ a0_0 a0_1 a0_2 a0_3 a0_4 a0_5 a0_6 (.slice A0_7 l0_7.length c0_7))] ?_; (with_reducible refine (canon_Is.calls k a0_0 a0_1 a0_2 a0_3 a0_4 a0_5 a0_6 _ _ l0_7 t463 _ ?side1 ?side2 A10.out).mono ?_)
    (case side1 => exact cb_ HR0_7)
    (case side2 => exact HC0_7.out)
    rintro e w22 ⟨rfl, hb⟩; refine ⟨_, rfl, ?_⟩; replace HO451 := bV_ HO451 hb; replace HO461 := bV_ HO461 hb; replace BK439 := bb_ BK439 hb; replace HB := bs_ hb; (try clear hb); refine hK.out _ _ (cq8_ BK439) (fun hHeld => ?_); clear hK K; refine nA ?_; refine oA 12 (some 21) 16 8191 fun K hK => ?_; refine gS Try.func43 #[.agg (n8_ a0_0 a0_1 a0_2 a0_3 a0_4 a0_5 a0_6 (.slice A0_7 l0_7.length c0_7))] ?_; (with_reducible refine (lustrumref12_Is.calls k a0_0 a0_1 a0_2 a0_3 a0_4 a0_5 a0_6 _ _ l0_7 t464 _ ?side1 ?side2 A11.out).mono ?_)
    (case side1 => exact cb_ HR0_7)
    (case side2 => exact HC0_7.out)
    rintro e w23 ⟨rfl, hb⟩; refine ⟨_, rfl, ?_⟩; replace HO451 := bV_ HO451 hb; replace HO461 := bV_ HO461 hb; replace BK439 := bb_ BK439 hb; replace HB := bs_ hb; (try clear hb); refine hK.out _ _ (cq8_ BK439) (fun hHeld => ?_); clear hK K; refine nA ?_; refine pA 13 22 16 16383 ?_; refine pA 14 23 16 32767 ?_; refine pA 15 2 16 65535 ?_; refine done_ (done_of HT_.out (by kernel_rfl)) ?_; (try go_wp2); go_ret; exact ⟨re_, hs_⟩
   ·replace c9 := Bool.eq_false_iff.mpr c9
    subst c9; replace H := iN_ H; obtain rfl := Option.some.inj H; go_enter Try.func11, Try.ntmps11; (try go_wp2_with (first | (refine gx_ w 1 (n8_ a0_0 a0_1 a0_2 a0_3 a0_4 a0_5 a0_6 (.slice A0_7 l0_7.length c0_7)) 26 ?_; clear HB; intro gb439 w24 BK439 GE439 HB; have GW439 := GE439) | (refine gC 39 ?_; refine gL 4 Try.func39 #[] ?_; (with_reducible refine (lustrumlaw12_awake.calls k  true _ A2.out).mono ?_); rintro e w25 ⟨rfl, hb⟩; refine ⟨_, rfl, ?_⟩; replace BK439 := bb_ BK439 hb; replace HB := bs_ hb; (try clear hb); have Z26 := bz8_ BK439) | (refine gC 17 ?_; refine gL 6 Try.func17 #[.agg (n8_ a0_0 a0_1 a0_2 a0_3 a0_4 a0_5 a0_6 (.slice A0_7 l0_7.length c0_7))] ?_; (with_reducible refine (lustrumref10_Few.calls k a0_0 a0_1 a0_2 a0_3 a0_4 a0_5 a0_6 _ _ l0_7 true _ ?side1 ?side2 A3.out).mono ?_); (case side1 => exact cb_ HR0_7); (case side2 => exact HC0_7.out); rintro e w27 ⟨rfl, hb⟩; refine ⟨_, rfl, ?_⟩; replace BK439 := bb_ BK439 hb; replace HB := bs_ hb; (try clear hb))))
    replace BK439 := A_ (blk_drew BK439.out); replace HB := A_ (below_drew1 HB.out); refine start_ (n := 16) (S := fun w' => C8 w' gb439 (.int .i64 a0_0) (.int .i64 a0_1) (.string a0_2) (.string a0_3) (.string a0_4) (.bool a0_5) (.bool a0_6) (.slice A0_7 l0_7.length c0_7)) (ds := []) (ab 16 0) (by kernel_rfl) rfl rfl (cq8_ BK439) (fun hHeld => ?_); refine with_tabW lustrumlaw12_CanonIs.tab4 lustrumlaw12_CanonIs.bits4 (fun HT_ HW_ => ?_); generalize w27.drew = w28 at BK439 HB hHeld ⊢; refine pA 0 9 16 1 ?_; refine pA 1 10 16 3 ?_; refine tB 2 11 16 7 ?_; refine tB 4 13 16 23 ?_; refine oA 3 (some 12) 16 31 fun K hK => ?_; refine gS Try.func40 #[.agg (n8_ a0_0 a0_1 a0_2 a0_3 a0_4 a0_5 a0_6 (.slice A0_7 l0_7.length c0_7))] ?_; (with_reducible refine (canon_Canon.calls k a0_0 a0_1 a0_2 a0_3 a0_4 a0_5 a0_6 (fun k_ => k_ < w.heap.size) _ _ l0_7 t442 t443 t444 t445 t446 t447 t448 t449 _ ?side1 A6.out).mono ?_)
    (case side1 => exact Kd.V_mk HC0_7.out (Kd.F_below (Kd.C_F k26_heap HR0_7.out) hs_))
    rintro e w29 ⟨v450, rfl, ho0, hb⟩; refine ⟨_, rfl, ?_⟩; have HO451 := A_ (Kd.V_lower (Kd.V_mono (ok' := fun k_ => k_ ≠ gb439) ho0 (fun k_ hk_ => Or.elim hk_ (fun hs_ => fun e_ => Nat.not_le.2 hs_ (by rw [e_]; exact GW439.out)) (fb_ BK439 k_))) (below_size hs_)); replace BK439 := bb_ BK439 hb; replace HB := bs_ hb; (try clear hb); (try clear ho0); refine hK.out _ _ (cq8_ BK439) (fun hHeld => ?_); clear hK K; refine nA ?_; refine oA 5 (some 14) 16 63 fun K hK => ?_; refine gS Try.func41 #[.agg (n8_ a0_0 a0_1 a0_2 a0_3 a0_4 a0_5 a0_6 (.slice A0_7 l0_7.length c0_7))] ?_; (with_reducible refine (lustrumref12_Canon.calls k a0_0 a0_1 a0_2 a0_3 a0_4 a0_5 a0_6 (fun k_ => k_ < w.heap.size) _ _ l0_7 t452 t453 t454 t455 t456 t457 t458 t459 _ ?side1 A7.out).mono ?_)
    (case side1 => exact Kd.V_mk HC0_7.out (Kd.F_below (Kd.C_F k26_heap HR0_7.out) hs_))
    rintro e w30 ⟨v460, rfl, ho0, hb⟩; refine ⟨_, rfl, ?_⟩; replace HO451 := bV_ HO451 hb; have HO461 := A_ (Kd.V_lower (Kd.V_mono (ok' := fun k_ => k_ ≠ gb439) ho0 (fun k_ hk_ => Or.elim hk_ (fun hs_ => fun e_ => Nat.not_le.2 hs_ (by rw [e_]; exact GW439.out)) (fb_ BK439 k_))) (below_size hs_)); replace BK439 := bb_ BK439 hb; replace HB := bs_ hb; (try clear hb); (try clear ho0); obtain ⟨Ao31, co31, eo31⟩ := Kd.V_slice HO451.out; (first | subst eo31 | (injection eo31 with f1_ f2_ f3_; have f4_ := f1_.symm; have f5_ := f3_.symm; clear f1_ f2_ f3_; subst f4_; subst f5_)); obtain ⟨Ao32, co32, eo32⟩ := Kd.V_slice HO461.out; (first | subst eo32 | (injection eo32 with f1_ f2_ f3_; have f4_ := f1_.symm; have f5_ := f3_.symm; clear f1_ f2_ f3_; subst f4_; subst f5_)); refine hK.out _ _ (cq8_ BK439) (fun hHeld => ?_); clear hK K; refine nA ?_; refine oA 6 (some 15) 16 127 fun K hK => ?_; refine gS Try.func26 #[.agg (n8_ t442 t443 t444 t445 t446 t447 t448 (.slice Ao31 t449.length co31)), .agg (n8_ t452 t453 t454 t455 t456 t457 t458 (.slice Ao32 t459.length co32))] ?_; (with_reducible refine (tree_Same.calls k t442 t443 t444 t445 t446 t447 t448 _ _ t449 t452 t453 t454 t455 t456 t457 t458 _ _ t459 false _ ?side1 ?side2 ?side3 ?side4 A8.out).mono ?_)
    (case side1 => exact cr_ (Kd.V_reads' HO451.out).2.2)
    (case side2 => exact (Kd.V_reads' HO451.out).2.1)
    (case side3 => exact cr_ (Kd.V_reads' HO461.out).2.2)
    (case side4 => exact (Kd.V_reads' HO461.out).2.1)
    rintro e w33 ⟨rfl, hb⟩; refine ⟨_, rfl, ?_⟩; replace HO451 := bV_ HO451 hb; replace HO461 := bV_ HO461 hb; replace BK439 := bb_ BK439 hb; replace HB := bs_ hb; (try clear hb); refine hK.out _ _ (cq8_ BK439) (fun hHeld => ?_); clear hK K; refine nA ?_; refine pA 7 16 16 255 ?_; refine pA 8 17 16 511 ?_; refine uA 9 18 16 1023 ?_; refine uA 10 19 16 2047 ?_; refine uA 11 20 16 4095 ?_; refine uA 12 21 16 8191 ?_; refine uA 13 22 16 16383 ?_; refine pA 14 23 16 32767 ?_; refine pA 15 2 16 65535 ?_; refine done_ (done_of HT_.out (by kernel_rfl)) ?_; (try go_wp2); go_ret; exact ⟨re_, hs_⟩
  ·replace c5 := Bool.eq_false_iff.mpr c5
   subst c5; replace H := iN_ H; obtain rfl := Option.some.inj H; go_enter Try.func11, Try.ntmps11; (try go_wp2_with (first | (refine gx_ w 1 (n8_ a0_0 a0_1 a0_2 a0_3 a0_4 a0_5 a0_6 (.slice A0_7 l0_7.length c0_7)) 26 ?_; clear HB; intro gb439 w34 BK439 GE439 HB; have GW439 := GE439) | (refine gC 39 ?_; refine gL 4 Try.func39 #[] ?_; (with_reducible refine (lustrumlaw12_awake.calls k  false _ A2.out).mono ?_); rintro e w35 ⟨rfl, hb⟩; refine ⟨_, rfl, ?_⟩; replace BK439 := bb_ BK439 hb; replace HB := bs_ hb; (try clear hb); have Z36 := bz8_ BK439) | (refine gC 17 ?_; refine gL 6 Try.func17 #[.agg (n8_ a0_0 a0_1 a0_2 a0_3 a0_4 a0_5 a0_6 (.slice A0_7 l0_7.length c0_7))] ?_; (with_reducible refine (lustrumref10_Few.calls k a0_0 a0_1 a0_2 a0_3 a0_4 a0_5 a0_6 _ _ l0_7 true _ ?side1 ?side2 A3.out).mono ?_); (case side1 => exact cb_ HR0_7); (case side2 => exact HC0_7.out); rintro e w37 ⟨rfl, hb⟩; refine ⟨_, rfl, ?_⟩; replace BK439 := bb_ BK439 hb; replace HB := bs_ hb; (try clear hb))))
   replace BK439 := A_ (blk_drew BK439.out); replace HB := A_ (below_drew1 HB.out); refine start_ (n := 16) (S := fun w' => True) (ds := []) (ab 16 0) (by kernel_rfl) rfl rfl trivial (fun hHeld => ?_); refine with_tabW lustrumlaw12_CanonIs.tab4 lustrumlaw12_CanonIs.bits4 (fun HT_ HW_ => ?_); generalize w37.drew = w38 at BK439 HB hHeld ⊢; refine pA 0 9 16 1 ?_; refine pA 1 10 16 3 ?_; refine uA 2 11 16 7 ?_; refine uA 3 12 16 15 ?_; refine uA 4 13 16 31 ?_; refine uA 5 14 16 63 ?_; refine uA 6 15 16 127 ?_; refine pA 7 16 16 255 ?_; refine pA 8 17 16 511 ?_; refine uA 9 18 16 1023 ?_; refine uA 10 19 16 2047 ?_; refine uA 11 20 16 4095 ?_; refine uA 12 21 16 8191 ?_; refine uA 13 22 16 16383 ?_; refine pA 14 23 16 32767 ?_; refine pA 15 2 16 65535 ?_; refine done_ (done_of HT_.out (by kernel_rfl)) ?_; (try go_wp2); go_ret; exact ⟨re_, hs_⟩
 ·replace c4 := Bool.eq_false_iff.mpr c4
  subst c4; replace H := iN_ H; obtain rfl := Option.some.inj H; go_enter Try.func11, Try.ntmps11; go_wp2_with (first | (refine gx_ w 1 (n8_ a0_0 a0_1 a0_2 a0_3 a0_4 a0_5 a0_6 (.slice A0_7 l0_7.length c0_7)) 26 ?_; clear HB; intro gb439 w39 BK439 GE439 HB; have GW439 := GE439) | (refine gC 39 ?_; refine gL 4 Try.func39 #[] ?_; (with_reducible refine (lustrumlaw12_awake.calls k  t440 _ A2.out).mono ?_); rintro e w40 ⟨rfl, hb⟩; refine ⟨_, rfl, ?_⟩; replace BK439 := bb_ BK439 hb; replace HB := bs_ hb; (try clear hb); have Z41 := bz8_ BK439) | (refine gC 17 ?_; refine gL 6 Try.func17 #[.agg (n8_ a0_0 a0_1 a0_2 a0_3 a0_4 a0_5 a0_6 (.slice A0_7 l0_7.length c0_7))] ?_; (with_reducible refine (lustrumref10_Few.calls k a0_0 a0_1 a0_2 a0_3 a0_4 a0_5 a0_6 _ _ l0_7 false _ ?side1 ?side2 A3.out).mono ?_); (case side1 => exact cb_ HR0_7); (case side2 => exact HC0_7.out); rintro e w42 ⟨rfl, hb⟩; refine ⟨_, rfl, ?_⟩; replace BK439 := bb_ BK439 hb; replace HB := bs_ hb; (try clear hb)))
  go_ret; exact ⟨re_, hs_⟩
end Go.Proofs.Ytfehdlkklfcnpaa.A