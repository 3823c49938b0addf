/- Walks of functions, and plain facts about what they compute. No conditions. -/
import Derived.Test.YtfehdlkklfcnpaaZs2
import Derived.Deep.Slices
import Derived.SizedLaws
import Derived.ChangeArms
import Derived.Test.YtfehdlkklfcnpaaRows
import Derived.ChangeSame
set_option linter.unusedVariables false
set_option linter.unusedSimpArgs false
namespace Go.Proofs.Ytfehdlkklfcnpaa.Rd
open Go.RowKit Go.Deep Go.Proofs.YtfehdlkklfcnpaaW.PrintWords
def RdF {α : Type} (P : Program) (t : TypeId) (d : Kd α) (wf : α → Prop) (f : Nat) : Prop :=
  ∀ {H : Type} (enc : TypeId × Value → H) (W : World) (cs : List Value) (x : DataW H × List MemPlace),
    DataW.trod enc P W 0 (fun _ => true) true f t cs = some x → (x.1.weights P t).all (· ≤ reachBytes) = true → ∃ a, d.K W a cs ∧ wf a
def Rd {α : Type} (P : Program) (t : TypeId) (d : Kd α) (wf : α → Prop) : Prop := ∀ f, RdF P t d wf f
section
variable {P : Program} {t e : TypeId} {α : Type} {d : Kd α} {wf : α → Prop}
theorem Rd.int {k : IntKind} (ht : P.underlying t = some (.int k)) : Rd P t (Kd.int k) (fun a => (Lit.int k a).wf = true) := by
  intro f H enc W cs x h _
  obtain ⟨n, rfl, _, hw⟩ := DataW.trod_int ht h
  exact ⟨n, rfl, hw⟩
theorem Rd.bool (ht : P.underlying t = some .bool) : Rd P t Kd.bool (fun _ => True) := by
  intro f H enc W cs x h _
  obtain ⟨b, rfl, _⟩ := DataW.trod_bool ht h
  exact ⟨b, rfl, trivial⟩
theorem Rd.string (ht : P.underlying t = some .string) : Rd P t Kd.string (fun s => s.size ≤ 140737488351232) := by
  intro f H enc W cs x h hw
  obtain ⟨s, rfl, rfl, _⟩ := DataW.trod_string ht h
  refine ⟨s, rfl, ?_⟩
  have h1 := of_decide_eq_true (List.all_eq_true.1 hw s.data.toList.length (by simp [DataW.weights]))
  rw [Array.length_toList] at h1
  exact h1
theorem all_weights {H : Type} {l : List (DataW H)} (h : (DataW.weightsAll P e l).all (· ≤ reachBytes) = true) : ∀ x, x ∈ l → (x.weights P e).all (· ≤ reachBytes) = true := by
  induction l with
  | nil => intro x hx; simp at hx
  | cons y l ih =>
    simp only [DataW.weightsAll, List.all_append, Bool.and_eq_true] at h
    intro x hx
    rcases List.mem_cons.1 hx with rfl | hx
    · exact h.1
    · exact ih h.2 x hx
theorem list_of {β : Type} (Q : Nat → β → Prop) : ∀ (n : Nat), (∀ i, i < n → ∃ b, Q i b) → ∃ l : List β, l.length = n ∧ ∀ i b, l[i]? = some b → Q i b
  | 0, _ => ⟨[], rfl, fun i b h => by simp at h⟩
  | n + 1, h => by
    obtain ⟨l, hl, hq⟩ := list_of Q n (fun i hi => h i (by omega))
    obtain ⟨b, hb⟩ := h n (by omega)
    refine ⟨l ++ [b], by simp [hl], fun i c hc => ?_⟩
    rcases Nat.lt_or_ge i l.length with hi | hi
    · rw [List.getElem?_append_left hi] at hc
      exact hq i c hc
    · have hlt := (List.getElem?_eq_some_iff.1 hc).1
      rw [List.length_append, List.length_singleton] at hlt
      have : i = n := by omega
      subst this
      rw [List.getElem?_append_right hi, hl, Nat.sub_self] at hc
      simp at hc
      subst hc
      exact hb
theorem RdF.slice (ht : P.underlying t = some (.slice e)) (hc : P.cellsOf e = d.sz) {f : Nat} (hd : ∀ g, g < f → RdF P e d wf g) : RdF P t (Kd.slice e d) (fun l => l.length * P.bytesOf e ≤ 140737488351232 ∧ ∀ x, x ∈ l → wf x) f := by
  intro H enc W cs x h hw
  rcases DataW.trod_slice ht h with ⟨rfl, rfl⟩ | ⟨a, len, cap, elems, rest, n, rfl, rfl, rfl, _, hlc, hm, hlen, hel, _, _⟩
  · exact ⟨[], ⟨none, 0, rfl, Nat.le_refl _, rfl, by simp, fun h => absurd h (by simp)⟩, by simp, fun x h => by simp at h⟩
  simp only [DataW.weights, ht, List.all_cons, List.all_append, Bool.and_eq_true, decide_eq_true_eq] at hw
  obtain ⟨hb, hw1, _⟩ := hw
  rw [List.length_map, List.length_map] at hb
  obtain ⟨l, hl, hq⟩ := list_of (fun i b => ∃ c, c.length = d.sz ∧ d.K W b c ∧ wf b ∧ ∀ j u, c[j]? = some u → W.cell? (a.add (i * d.sz + j)) = some u) len fun i hi => by
    have hi' : i < elems.length := by omega
    have h1 := hel i hi
    rw [List.getElem?_eq_getElem hi'] at h1
    obtain ⟨c, hc1, hc2⟩ := Option.bind_eq_some_iff.1 h1
    obtain ⟨_, hcl, hcell⟩ := World.cells?_some hc1
    obtain ⟨b, hk, hwf⟩ := hd n (Nat.lt_succ_self n) enc W c _ hc2 (all_weights hw1 _ (List.mem_map.2 ⟨_, List.getElem_mem hi', rfl⟩))
    refine ⟨b, c, by rw [hcl, hc], hk, hwf, fun j u hj => ?_⟩
    have hjl := (List.getElem?_eq_some_iff.1 hj).1
    have h2 := hcell j (by omega)
    rw [hj, hc] at h2
    rw [← h2]
    congr 1
    exact (Deep.add_add _ _ _).symm
  refine ⟨l, ⟨some a, cap, by rw [hl], by rw [hl]; exact hlc, hl ▸ rfl, by unfold maxLen at hm; omega, fun _ => ⟨a, rfl, fun j p hj => ?_⟩⟩, ?_, fun x hx => ?_⟩
  · obtain ⟨c, h1, h2, _, h4⟩ := hq j p hj
    exact ⟨c, h1, h2, h4⟩
  · have : l.length * P.bytesOf e ≤ (elems.length + rest.length) * P.bytesOf e := Nat.mul_le_mul_right _ (by omega)
    unfold reachBytes at hb
    omega
  · obtain ⟨i, hi⟩ := List.getElem?_of_mem hx
    obtain ⟨c, _, _, h3, _⟩ := hq i x hi
    exact h3
theorem Rd.slice (ht : P.underlying t = some (.slice e)) (hc : P.cellsOf e = d.sz) (hd : Rd P e d wf) : Rd P t (Kd.slice e d) (fun l => l.length * P.bytesOf e ≤ 140737488351232 ∧ ∀ x, x ∈ l → wf x) :=
  fun f => RdF.slice ht hc (fun g _ => hd g)
end
end Go.Proofs.Ytfehdlkklfcnpaa.Rd
namespace Go.Proofs.Ytfehdlkklfcnpaa.Rd
open Go.RowKit Go.Deep Go.Proofs.YtfehdlkklfcnpaaW.PrintWords Go.Proofs.Ytfehdlkklfcnpaa.A
def wfI (n : Int) : Prop := -9223372036854775808 ≤ n ∧ n ≤ 9223372036854775807
theorem wfI_of {n : Int} (h : (Lit.int .i64 n).wf = true) : wfI n := by
  have h1 := of_decide_eq_true (p := _ ∧ _) (by simpa [Lit.wf, IntKind.signed, IntKind.bits, Bool.and_eq_true, decide_eq_true_eq] using h)
  exact h1
theorem len4 {α : Type} {l : List α} (h : l.length = 4) : ∃ a b c d, l = [a, b, c, d] := by
  match l, h with
  | [a, b, c, d], _ => exact ⟨a, b, c, d, rfl⟩
theorem len5 {α : Type} {l : List α} (h : l.length = 5) : ∃ a b c d e, l = [a, b, c, d, e] := by
  match l, h with
  | [a, b, c, d, e], _ => exact ⟨a, b, c, d, e, rfl⟩
theorem len8 {α : Type} {l : List α} (h : l.length = 8) : ∃ a b c d e f g i, l = [a, b, c, d, e, f, g, i] := by
  match l, h with
  | [a, b, c, d, e, f, g, i], _ => exact ⟨a, b, c, d, e, f, g, i, rfl⟩
theorem pt_read (f : Nat) {H : Type} (enc : TypeId × Value → H) (W : World) (cs : List Value) (x : DataW H × List MemPlace)
    (h : DataW.trod enc Try.prog W 0 (fun _ => true) true f 23 cs = some x) (hw : (x.1.weights Try.prog 23).all (· ≤ reachBytes) = true) :
    ∃ p : S23, cs = [.int .i64 p.f0, .string p.f1, .string p.f2, .string p.f3] ∧ wfI p.f0 ∧ p.f1.size ≤ 140737488351232 ∧ p.f2.size ≤ 140737488351232 ∧ p.f3.size ≤ 140737488351232 := by
  obtain ⟨xs, m, rfl, rfl, hl, hlen, hf⟩ := DataW.trod_struct Try.underlying23 h
  have e1 : Try.prog.cellsOf 23 = 4 := by kernel_rfl
  have e2 : Try.prog.cellsOf 3 = 1 := by kernel_rfl
  have e3 : Try.prog.cellsOf 9 = 1 := by kernel_rfl
  rw [e1] at hl
  have hlen : xs.length = 4 := hlen
  obtain ⟨y0, y1, y2, y3, rfl⟩ := len4 hlen
  obtain ⟨c0, c1, c2, c3, rfl⟩ := len4 hl
  · skip
    have h0 : DataW.trod enc Try.prog W 0 (fun _ => true) true m 3 (([c0, c1, c2, c3].drop 0).take (Try.prog.cellsOf 3)) = some y0 := hf 0 _ rfl
    have h1 : DataW.trod enc Try.prog W 0 (fun _ => true) true m 9 (([c0, c1, c2, c3].drop 1).take (Try.prog.cellsOf 9)) = some y1 := hf 1 _ rfl
    have h2 : DataW.trod enc Try.prog W 0 (fun _ => true) true m 9 (([c0, c1, c2, c3].drop 2).take (Try.prog.cellsOf 9)) = some y2 := hf 2 _ rfl
    have h3 : DataW.trod enc Try.prog W 0 (fun _ => true) true m 9 (([c0, c1, c2, c3].drop 3).take (Try.prog.cellsOf 9)) = some y3 := hf 3 _ rfl
    rw [e2] at h0
    rw [e3] at h1 h2 h3
    simp only [DataW.weights, Try.underlying23, List.map_cons, List.map_nil, DataW.weightsEach, List.all_append, Bool.and_eq_true] at hw
    obtain ⟨_, w1, w2, w3, _⟩ := hw
    obtain ⟨a, ha, _, wa⟩ := DataW.trod_int Try.underlying3 h0
    obtain ⟨s1, hs1, z1⟩ := Rd.string Try.underlying9 m enc W _ _ h1 w1
    obtain ⟨s2, hs2, z2⟩ := Rd.string Try.underlying9 m enc W _ _ h2 w2
    obtain ⟨s3, hs3, z3⟩ := Rd.string Try.underlying9 m enc W _ _ h3 w3
    replace ha : [c0] = [.int .i64 a] := ha
    replace hs1 : [c1] = [.string s1] := hs1
    replace hs2 : [c2] = [.string s2] := hs2
    replace hs3 : [c3] = [.string s3] := hs3
    simp only [List.cons.injEq, and_true] at ha hs1 hs2 hs3
    subst ha hs1 hs2 hs3
    exact ⟨⟨a, s1, s2, s3⟩, rfl, wfI_of wa, z1, z2, z3⟩
theorem ndL_le {H : Type} : ∀ (l : List S26) (ds : List (DataW H)), l.length = ds.length → (∀ (i : Nat) (b : S26), l[i]? = some b → ∃ d, ds[i]? = some d ∧ nd b ≤ Rows.uptoBulk d) → ndL l ≤ Rows.uptoBulkAll ds
  | [], [], _, _ => by rw [ndL]; exact Nat.zero_le _
  | b :: l, d :: ds, e, h => by
    obtain ⟨d', h1, h2⟩ := h 0 b rfl
    obtain rfl : d = d' := by simpa using h1
    have := ndL_le l ds (by simpa using e) (fun (i : Nat) (b : S26) hb => by have := h (i + 1) b (by simpa using hb); simpa using this)
    rw [ndL, Rows.uptoBulkAll]
    omega
  | [], _ :: _, e, _ => by simp at e
  | _ :: _, [], e, _ => by simp at e
theorem node_read : ∀ (f : Nat) {H : Type} (enc : TypeId × Value → H) (W : World) (cs : List Value) (x : DataW H × List MemPlace),
    DataW.trod enc Try.prog W 0 (fun _ => true) true f 26 cs = some x → (x.1.weights Try.prog 26).all (· ≤ reachBytes) = true → ∃ n : S26, k26.K W n cs ∧ wfN n ∧ wfI n.f0 ∧ nd n ≤ Rows.uptoBulk x.1 := by
  intro f
  induction f using Nat.strongRecOn with
  | _ f ih =>
  intro H enc W cs x h hw
  obtain ⟨xs, m, rfl, rfl, hl, hlen, hf⟩ := DataW.trod_struct Try.underlying26 h
  have e1 : Try.prog.cellsOf 26 = 8 := by kernel_rfl
  have e2 : Try.prog.cellsOf 3 = 1 := by kernel_rfl
  have e3 : Try.prog.cellsOf 23 = 4 := by kernel_rfl
  have e4 : Try.prog.cellsOf 4 = 1 := by kernel_rfl
  have e5 : Try.prog.cellsOf 24 = 1 := by kernel_rfl
  rw [e1] at hl
  have hlen : xs.length = 5 := hlen
  obtain ⟨y0, y1, y2, y3, y4, rfl⟩ := len5 hlen
  obtain ⟨c0, c1, c2, c3, c4, c5, c6, c7, rfl⟩ := len8 hl
  · skip
    have h0 : DataW.trod enc Try.prog W 0 (fun _ => true) true m 3 (([c0, c1, c2, c3, c4, c5, c6, c7].drop 0).take (Try.prog.cellsOf 3)) = some y0 := hf 0 _ rfl
    have h1 : DataW.trod enc Try.prog W 0 (fun _ => true) true m 23 (([c0, c1, c2, c3, c4, c5, c6, c7].drop 1).take (Try.prog.cellsOf 23)) = some y1 := hf 1 _ rfl
    have h2 : DataW.trod enc Try.prog W 0 (fun _ => true) true m 4 (([c0, c1, c2, c3, c4, c5, c6, c7].drop 5).take (Try.prog.cellsOf 4)) = some y2 := hf 2 _ rfl
    have h3 : DataW.trod enc Try.prog W 0 (fun _ => true) true m 4 (([c0, c1, c2, c3, c4, c5, c6, c7].drop 6).take (Try.prog.cellsOf 4)) = some y3 := hf 3 _ rfl
    have h4 : DataW.trod enc Try.prog W 0 (fun _ => true) true m 24 (([c0, c1, c2, c3, c4, c5, c6, c7].drop 7).take (Try.prog.cellsOf 24)) = some y4 := hf 4 _ rfl
    rw [e2] at h0
    rw [e3] at h1
    rw [e4] at h2 h3
    rw [e5] at h4
    simp only [DataW.weights, Try.underlying26, List.map_cons, List.map_nil, DataW.weightsEach, List.all_append, Bool.and_eq_true] at hw
    obtain ⟨_, w1, _, _, w4, _⟩ := hw
    obtain ⟨a, ha, _, wa⟩ := DataW.trod_int Try.underlying3 h0
    obtain ⟨p, hp, wp, z1, z2, z3⟩ := pt_read m enc W _ _ h1 w1
    obtain ⟨b2, hb2, _⟩ := DataW.trod_bool Try.underlying4 h2
    obtain ⟨b3, hb3, _⟩ := DataW.trod_bool Try.underlying4 h3
    replace ha : [c0] = [.int .i64 a] := ha
    replace hp : [c1, c2, c3, c4] = [.int .i64 p.f0, .string p.f1, .string p.f2, .string p.f3] := hp
    replace hb2 : [c5] = [.bool b2] := hb2
    replace hb3 : [c6] = [.bool b3] := hb3
    replace h4 : DataW.trod enc Try.prog W 0 (fun _ => true) true m 24 [c7] = some y4 := h4
    simp only [List.cons.injEq, and_true] at ha hp hb2 hb3
    obtain ⟨rfl, rfl, rfl, rfl⟩ := hp
    subst ha hb2 hb3
    have hL : ∃ l : List S26, (Kd.slice 26 k26).K W l [c7] ∧ l.length ≤ 1466015503711 ∧ (∀ x, x ∈ l → wfN x) ∧ ndL l + 1 ≤ Rows.uptoBulk y4.1 := by
      rcases DataW.trod_slice Try.underlying24 h4 with ⟨e, rfl⟩ | ⟨ad, len, cap, elems, rest, g, rfl, e, rfl, _, hlc, hm, hle, hel, _, _⟩
      · simp only [List.cons.injEq, and_true] at e
        subst e
        exact ⟨[], ⟨none, 0, rfl, Nat.le_refl _, rfl, by simp, fun h => absurd h (by simp)⟩, by simp, fun x h => (by cases h), by rw [ndL, Rows.uptoBulk]; omega⟩
      · simp only [List.cons.injEq, and_true] at e
        subst e
        simp only [DataW.weights, Try.underlying24, List.all_cons, List.all_append, Bool.and_eq_true, decide_eq_true_eq] at w4
        obtain ⟨hb, hw1, _⟩ := w4
        rw [List.length_map, List.length_map] at hb
        have eb : Try.prog.bytesOf 26 = 96 := by kernel_rfl
        rw [eb] at hb
        obtain ⟨l, hl, hq⟩ := list_of (fun i b => ∃ c, c.length = k26.sz ∧ k26.K W b c ∧ wfN b ∧ (∃ d, (elems.map (·.1))[i]? = some d ∧ nd b ≤ Rows.uptoBulk d) ∧ ∀ j u, c[j]? = some u → W.cell? (ad.add (i * k26.sz + j)) = some u) len fun i hi => by
          have hi' : i < elems.length := by omega
          have h1 := hel i hi
          rw [List.getElem?_eq_getElem hi'] at h1
          obtain ⟨c, hc1, hc2⟩ := Option.bind_eq_some_iff.1 h1
          obtain ⟨_, hcl, hcell⟩ := World.cells?_some hc1
          obtain ⟨b, hk, hwf, _, hbk⟩ := ih g (by omega) enc W c _ hc2 (all_weights hw1 _ (List.mem_map.2 ⟨_, List.getElem_mem hi', rfl⟩))
          have esz : k26.sz = 8 := rfl
          refine ⟨b, c, by rw [hcl, e1, esz], hk, hwf, ⟨_, by rw [List.getElem?_map, List.getElem?_eq_getElem hi']; rfl, hbk⟩, fun j u hj => ?_⟩
          have hjl := (List.getElem?_eq_some_iff.1 hj).1
          have h2 := hcell j (by omega)
          rw [hj, e1] at h2
          rw [← h2, esz]
          exact congrArg W.cell? (Deep.add_add _ _ _).symm
        refine ⟨l, ⟨some ad, cap, by rw [hl], by rw [hl]; exact hlc, hl ▸ rfl, by unfold maxLen at hm; omega, fun _ => ⟨ad, rfl, fun j p hj => ?_⟩⟩, by unfold reachBytes at hb; omega, fun x hx => ?_, ?_⟩
        · obtain ⟨c, h1, h2, _, _, h4⟩ := hq j p hj
          exact ⟨c, h1, h2, h4⟩
        · obtain ⟨i, hi⟩ := List.getElem?_of_mem hx
          obtain ⟨c, _, _, h3, _, _⟩ := hq i x hi
          exact h3
        · have := ndL_le l (elems.map (·.1)) (by rw [List.length_map]; omega) (fun i b hb => by obtain ⟨c, _, _, _, h5, _⟩ := hq i b hb; exact h5)
          clear hb hm hw1 hlc
          rw [Rows.uptoBulk]
          omega
    obtain ⟨l, ⟨A, c, e, hlc, hC⟩, hlen, hwl, hbl⟩ := hL
    simp only [List.cons.injEq, and_true] at e
    subst e
    refine ⟨⟨a, p, b2, b3, l⟩, k26_mk W ⟨a, p, b2, b3, l⟩ hlc hC, .mk _ z1 z2 z3 hlen hwl, wfI_of wa, ?_⟩
    rw [nd_eq]
    simp only [List.map_cons, List.map_nil, Rows.uptoBulk, Rows.uptoBulkAll]
    omega
theorem node_arg {H : Type} {enc : TypeId × Value → H} {W : World} {ts : List TypeId} {ds : List (DataW H)} {j : Nat} {v : Value} {x : DataW H} {ps : List MemPlace} (hsz : (DataW.weightsEach Try.prog ts ds).all (· ≤ reachBytes) = true) (ht : ts[j]? = some 26) (hd : ds[j]? = some x)
    (h : DataW.Trod enc Try.prog W 0 (fun _ => true) true 26 v x ps) (hv : ∃ cs, v = .agg cs) :
    ∃ (n : S26) (A : Option Addr) (c : Nat), v = .agg #[.int .i64 n.f0, .int .i64 n.f1.f0, .string n.f1.f1, .string n.f1.f2, .string n.f1.f3, .bool n.f2, .bool n.f3, .slice A n.f4.length c] ∧ n.f4.length ≤ c ∧ Kd.C k26 W A n.f4.length n.f4 ∧ wfN n ∧ wfI n.f0 ∧ nd n ≤ Rows.uptoBulk x := by
  obtain ⟨f, hf⟩ := h
  obtain ⟨n, hk, hw, hi, hb⟩ := node_read f enc W _ _ hf (by
    rw [List.all_eq_true] at hsz ⊢
    exact fun n hn => hsz n (DataW.weights_mem_each ht hd n hn))
  obtain ⟨cs, rfl⟩ := hv
  obtain ⟨A, c, e, hl, hC⟩ := k26_open hk
  have e : cs.toList = _ := e
  obtain ⟨l⟩ := cs
  simp only at e
  exact ⟨n, A, c, by rw [show l = _ from e], hl, hC, hw, hi, hb⟩
end Go.Proofs.Ytfehdlkklfcnpaa.Rd
namespace Go.Proofs.Ytfehdlkklfcnpaa.A
open Go.RowKit Go.Proofs.YtfehdlkklfcnpaaW.PrintWords Go.Proofs.YtfehdlkklfcnpaaW.PrintLast Go.Proofs.YtfehdlkklfcnpaaW.PrintMore
attribute [local go_sem] max2_int min2_int max_two min_two max_three min_three max_four min_four
mutual
noncomputable def lustrumlaw12_CanonOnce.j0 : Nat → Bool → Bool → Int → Int → ByteArray → ByteArray → ByteArray → Bool → Bool → List (S26) → Option (Bool)
  | 0, _, _, _, _, _, _, _, _, _, _ => none
  | k + 1, x3, x61, x479000, x479001, x479002, x479003, x479004, x479005, x479006, x479007 => if x61 = true then (some false) else (if x479000 = 2 then (lustrumlaw12_CanonOnce.j1 k x3 (decide ((x479007.length : Int) < 2)) x479000 x479001 x479002 x479003 x479004 x479005 x479006 x479007) else (lustrumlaw12_CanonOnce.j1 k x3 false x479000 x479001 x479002 x479003 x479004 x479005 x479006 x479007))
noncomputable def lustrumlaw12_CanonOnce.j1 : Nat → Bool → Bool → Int → Int → ByteArray → ByteArray → ByteArray → Bool → Bool → List (S26) → Option (Bool)
  | 0, _, _, _, _, _, _, _, _, _, _ => none
  | k + 1, x3, x70, x479000, x479001, x479002, x479003, x479004, x479005, x479006, x479007 => if x70 = true then (some false) else (lustrumlaw12_CanonOnce.l0 k x3 1 x479000 x479001 x479002 x479003 x479004 x479005 x479006 x479007)
noncomputable def lustrumlaw12_CanonOnce.l0 : Nat → Bool → Int → Int → Int → ByteArray → ByteArray → ByteArray → Bool → Bool → List (S26) → Option (Bool)
  | 0, _, _, _, _, _, _, _, _, _, _ => none
  | k + 1, x3, x5, x479000, x479001, x479002, x479003, x479004, x479005, x479006, x479007 => if x479000 = 2 then (lustrumlaw12_CanonOnce.j3 k x3 x5 (decide (x5 < (x479007.length : Int))) x479000 x479001 x479002 x479003 x479004 x479005 x479006 x479007) else (lustrumlaw12_CanonOnce.j3 k x3 x5 false x479000 x479001 x479002 x479003 x479004 x479005 x479006 x479007)
noncomputable def lustrumlaw12_CanonOnce.j3 : Nat → Bool → Int → Bool → Int → Int → ByteArray → ByteArray → ByteArray → Bool → Bool → List (S26) → Option (Bool)
  | 0, _, _, _, _, _, _, _, _, _, _, _ => none
  | k + 1, x3, x5, x80, x479000, x479001, x479002, x479003, x479004, x479005, x479006, x479007 => if x80 = true then (if 0 ≤ (wrap64 (x5 - 1)) then (if (wrap64 (x5 - 1)) < (x479007.length : Int) then ((print_Text.f k ((rd_T26 x479007 (wrap64 (x5 - 1))).f0) ((rd_T26 x479007 (wrap64 (x5 - 1))).f1.f0) ((rd_T26 x479007 (wrap64 (x5 - 1))).f1.f1) ((rd_T26 x479007 (wrap64 (x5 - 1))).f1.f2) ((rd_T26 x479007 (wrap64 (x5 - 1))).f1.f3) ((rd_T26 x479007 (wrap64 (x5 - 1))).f2) ((rd_T26 x479007 (wrap64 (x5 - 1))).f3) ((rd_T26 x479007 (wrap64 (x5 - 1))).f4)).bind fun t501 => (if 0 ≤ x5 then (if x5 < (x479007.length : Int) then ((print_Text.f k ((rd_T26 x479007 x5).f0) ((rd_T26 x479007 x5).f1.f0) ((rd_T26 x479007 x5).f1.f1) ((rd_T26 x479007 x5).f1.f2) ((rd_T26 x479007 x5).f1.f3) ((rd_T26 x479007 x5).f2) ((rd_T26 x479007 x5).f3) ((rd_T26 x479007 x5).f4)).bind fun t503 => (if ((Op.bytesLess t501.toList t503.toList) = true) then (lustrumlaw12_CanonOnce.l0 k x3 (wrap64 (x5 + 1)) x479000 x479001 x479002 x479003 x479004 x479005 x479006 x479007) else (some false))) else (none)) else (none))) else (none)) else (none)) else (some x3)
end
noncomputable def lustrumlaw12_CanonOnce.f (k : Nat) (a0_0 : Int) (a0_1 : Int) (a0_2 : ByteArray) (a0_3 : ByteArray) (a0_4 : ByteArray) (a0_5 : Bool) (a0_6 : Bool) (l0_7 : List (S26)) : Option (Bool) := (lustrumlaw12_awake.f k).bind fun t466 => ((lustrumref10_Few.f k a0_0 a0_1 a0_2 a0_3 a0_4 a0_5 a0_6 l0_7).bind fun t467 => (if t467 = true then ((canon_Canon.f k a0_0 a0_1 a0_2 a0_3 a0_4 a0_5 a0_6 l0_7).bind fun bt468 => ((tree_Sane.f k a0_0 a0_1 a0_2 a0_3 a0_4 a0_5 a0_6 l0_7).bind fun t479 => (if t479 = true then ((tree_Sane.f k bt468.1 bt468.2.1 bt468.2.2.1 bt468.2.2.2.1 bt468.2.2.2.2.1 bt468.2.2.2.2.2.1 bt468.2.2.2.2.2.2.1 bt468.2.2.2.2.2.2.2).bind fun t482 => (if t482 = true then ((canon_Is.f k bt468.1 bt468.2.1 bt468.2.2.1 bt468.2.2.2.1 bt468.2.2.2.2.1 bt468.2.2.2.2.2.1 bt468.2.2.2.2.2.2.1 bt468.2.2.2.2.2.2.2).bind fun t483 => (if t483 = true then ((canon_Canon.f k bt468.1 bt468.2.1 bt468.2.2.1 bt468.2.2.2.1 bt468.2.2.2.2.1 bt468.2.2.2.2.2.1 bt468.2.2.2.2.2.2.1 bt468.2.2.2.2.2.2.2).bind fun bt484 => ((tree_Same.f k bt484.1 bt484.2.1 bt484.2.2.1 bt484.2.2.2.1 bt484.2.2.2.2.1 bt484.2.2.2.2.2.1 bt484.2.2.2.2.2.2.1 bt484.2.2.2.2.2.2.2 bt468.1 bt468.2.1 bt468.2.2.1 bt468.2.2.2.1 bt468.2.2.2.2.1 bt468.2.2.2.2.2.1 bt468.2.2.2.2.2.2.1 bt468.2.2.2.2.2.2.2).bind fun t494 => (if t494 = true then ((tree_Count.f k bt468.1 bt468.2.1 bt468.2.2.1 bt468.2.2.2.1 bt468.2.2.2.2.1 bt468.2.2.2.2.2.1 bt468.2.2.2.2.2.2.1 bt468.2.2.2.2.2.2.2).bind fun t495 => ((tree_Count.f k a0_0 a0_1 a0_2 a0_3 a0_4 a0_5 a0_6 l0_7).bind fun t496 => (if t495 > t496 then (lustrumlaw12_CanonOnce.j0 k t466 true bt468.1 bt468.2.1 bt468.2.2.1 bt468.2.2.2.1 bt468.2.2.2.2.1 bt468.2.2.2.2.2.1 bt468.2.2.2.2.2.2.1 bt468.2.2.2.2.2.2.2) else ((tree_Deep.f k bt468.1 bt468.2.1 bt468.2.2.1 bt468.2.2.2.1 bt468.2.2.2.2.1 bt468.2.2.2.2.2.1 bt468.2.2.2.2.2.2.1 bt468.2.2.2.2.2.2.2).bind fun t497 => (if t497 > 1 then (lustrumlaw12_CanonOnce.j0 k t466 true bt468.1 bt468.2.1 bt468.2.2.1 bt468.2.2.2.1 bt468.2.2.2.2.1 bt468.2.2.2.2.2.1 bt468.2.2.2.2.2.2.1 bt468.2.2.2.2.2.2.2) else ((canon_Is.f k a0_0 a0_1 a0_2 a0_3 a0_4 a0_5 a0_6 l0_7).bind fun t498 => ((tree_Same.f k bt468.1 bt468.2.1 bt468.2.2.1 bt468.2.2.2.1 bt468.2.2.2.2.1 bt468.2.2.2.2.2.1 bt468.2.2.2.2.2.2.1 bt468.2.2.2.2.2.2.2 a0_0 a0_1 a0_2 a0_3 a0_4 a0_5 a0_6 l0_7).bind fun t499 => (lustrumlaw12_CanonOnce.j0 k t466 (t498 != t499) bt468.1 bt468.2.1 bt468.2.2.1 bt468.2.2.2.1 bt468.2.2.2.2.1 bt468.2.2.2.2.2.1 bt468.2.2.2.2.2.2.1 bt468.2.2.2.2.2.2.2)))))))) else (lustrumlaw12_CanonOnce.j0 k t466 true bt468.1 bt468.2.1 bt468.2.2.1 bt468.2.2.2.1 bt468.2.2.2.2.1 bt468.2.2.2.2.2.1 bt468.2.2.2.2.2.2.1 bt468.2.2.2.2.2.2.2)))) else (lustrumlaw12_CanonOnce.j0 k t466 true bt468.1 bt468.2.1 bt468.2.2.1 bt468.2.2.2.1 bt468.2.2.2.2.1 bt468.2.2.2.2.2.1 bt468.2.2.2.2.2.2.1 bt468.2.2.2.2.2.2.2))) else (lustrumlaw12_CanonOnce.j0 k t466 true bt468.1 bt468.2.1 bt468.2.2.1 bt468.2.2.2.1 bt468.2.2.2.2.1 bt468.2.2.2.2.2.1 bt468.2.2.2.2.2.2.1 bt468.2.2.2.2.2.2.2))) else (if t466 = true then ((canon_Is.f k a0_0 a0_1 a0_2 a0_3 a0_4 a0_5 a0_6 l0_7).bind fun t480 => (if t480 = true then (some false) else ((tree_Same.f k bt468.1 bt468.2.1 bt468.2.2.1 bt468.2.2.2.1 bt468.2.2.2.2.1 bt468.2.2.2.2.2.1 bt468.2.2.2.2.2.2.1 bt468.2.2.2.2.2.2.2 0 0 (⟨#[]⟩ : ByteArray) (⟨#[]⟩ : ByteArray) (⟨#[]⟩ : ByteArray) false false ([] : List (S26))).bind fun t481 => (some t481)))) else (some false))))) else (some t466)))
end Go.Proofs.Ytfehdlkklfcnpaa.A
namespace Go.Proofs.Ytfehdlkklfcnpaa.A
open Go.RowKit Go.Proofs.YtfehdlkklfcnpaaW.PrintWords Go.Proofs.YtfehdlkklfcnpaaW.PrintLast Go.Proofs.YtfehdlkklfcnpaaW.PrintMore
attribute [local go_sem] max2_int min2_int max_two min_two max_three min_three max_four min_four
attribute [local go_sem] isSome_setCell
set_option maxHeartbeats 8000000 in
set_option maxRecDepth 100000 in
theorem lustrumref10_Count.calls (k : Nat) : ∀ (a0_0 a0_1 : Int) (a0_2 a0_3 a0_4 : ByteArray) (a0_5 a0_6 : Bool) (A0_7 : Option Addr) (c0_7 : Nat) (l0_7 : List (S26)) (r : Int) (w : World) (hr0_7 : Kd.C k26 w A0_7 l0_7.length l0_7) (hc0_7 : l0_7.length ≤ c0_7) (h : lustrumref10_Count.f k a0_0 a0_1 a0_2 a0_3 a0_4 a0_5 a0_6 l0_7 = some r),
  Calls Try.prog 23 #[.agg #[.int .i64 a0_0, .int .i64 a0_1, .string a0_2, .string a0_3, .string a0_4, .bool a0_5, .bool a0_6, .slice A0_7 l0_7.length c0_7]] w fun e w' => e = .returned (.int .i64 r) ∧ Below w.heap.size w w' := by
 induction k using Nat.strongRecOn with
 | _ k ih =>
 intro a0_0 a0_1 a0_2 a0_3 a0_4 a0_5 a0_6 A0_7 c0_7 l0_7 r w hr0_7 hc0_7 h
 cases k with
 | zero => exact absurd h (by simp [lustrumref10_Count.f])
 | succ k =>
 simp only [lustrumref10_Count.f] at h; have hu26 := Try.underlying26; have HR0_7 := A_ hr0_7; have HC0_7 := A_ hc0_7; clear hr0_7 hc0_7; have HB := A_ (Below.refl w.heap.size w); have H : (lustrumref10_Count.l0 k 1 0 a0_0 a0_1 a0_2 a0_3 a0_4 a0_5 a0_6 l0_7) = some r := h; clear h; have H' := A_ H; clear H; go_enter Try.func23, Try.ntmps23; go_wp2_with (first | (refine gx_ w 1 (n8_ a0_0 a0_1 a0_2 a0_3 a0_4 a0_5 a0_6 (.slice A0_7 l0_7.length c0_7)) 26 ?_; clear HB; intro gb229 w2 BK229 GE229 HB; have GW229 := GE229)); go_loopg [3, 4] k (fun kq v3 v4 w' => ∃ (x3_1 : Int) (x4_1 : Int), v3 = .int .i64 x3_1 ∧ v4 = .int .i64 x4_1 ∧ Aside0 (lustrumref10_Count.l0 kq x3_1 x4_1 a0_0 a0_1 a0_2 a0_3 a0_4 a0_5 a0_6 l0_7 = some r) ∧ Aside0 (kq ≤ k) ∧ Aside0 (w'.heap[gb229]? = some (.cells #[.int .i64 a0_0, .int .i64 a0_1, .string a0_2, .string a0_3, .string a0_4, .bool a0_5, .bool a0_6, (.slice A0_7 l0_7.length c0_7)] 26 (0, 0))) ∧ Aside0 (Below w.heap.size w w'))
 case atStart => exact ⟨(1), (0), rf_, rf_, H', ⟨Nat.le_refl _⟩, ⟨bl_ BK229.out⟩, ⟨hs_⟩⟩
 case round =>
  clear H'; (try clear c2); (try clear p2); obtain ⟨x3_1, x4_1, rfl, rfl, HA, HK1, BK229, HB⟩ := hrel
  cases gk with
  | zero => exact absurd HA.out (by simp [lustrumref10_Count.l0])
  | succ k1 =>
   have H := HA.out; clear HA; simp only [lustrumref10_Count.l0] at H
   by_cases c3 : x4_1 < (l0_7.length : Int)
   ·rw [if_pos c3] at H
    have c3b0 := decide_eq_true c3; clear c3
    by_cases c4 : 0 ≤ x4_1
    ·rw [if_pos c4] at H
     have c4b0 := decide_eq_true c4; clear c4; obtain ⟨t231, A5, H⟩ := bi_ H; have H' := A_ H; clear H; have Z6 := bz8_ BK229; have p230 : 0 ≤ (x4_1 : Int) := od_; have q230 : x4_1 < (l0_7.length : Int) := od_; obtain ⟨ad230, A230_7, c230_7, e230, hx230_0, hx230_1, hx230_2, hx230_3, hx230_4, hx230_5, hx230_6, hx230_7, hl230_7, hi230_7⟩ := at_T26 HR0_7.out x4_1 p230 q230
     cases e230
     replace hx230_0 := cl_ HB hx230_0; replace hx230_1 := cl_ HB hx230_1; replace hx230_2 := cl_ HB hx230_2; replace hx230_3 := cl_ HB hx230_3; replace hx230_4 := cl_ HB hx230_4; replace hx230_5 := cl_ HB hx230_5; replace hx230_6 := cl_ HB hx230_6; replace hx230_7 := cl_ HB hx230_7; have HR230_7 := A_ hi230_7; have HC230_7 := A_ hl230_7; clear hi230_7 hl230_7; replace p230 := eq_true p230; replace q230 := eq_true q230; go_wp2_with (first | (refine gC 23 ?_; refine gL 18 Try.func23 #[.agg #[.int .i64 ((rd_T26 l0_7 x4_1).f0), .int .i64 ((rd_T26 l0_7 x4_1).f1.f0), .string ((rd_T26 l0_7 x4_1).f1.f1), .string ((rd_T26 l0_7 x4_1).f1.f2), .string ((rd_T26 l0_7 x4_1).f1.f3), .bool ((rd_T26 l0_7 x4_1).f2), .bool ((rd_T26 l0_7 x4_1).f3), .slice A230_7 ((rd_T26 l0_7 x4_1).f4).length c230_7]] ?_; (with_reducible refine (ih k1 (by have := HK1.out; omega) ((rd_T26 l0_7 x4_1).f0) ((rd_T26 l0_7 x4_1).f1.f0) ((rd_T26 l0_7 x4_1).f1.f1) ((rd_T26 l0_7 x4_1).f1.f2) ((rd_T26 l0_7 x4_1).f1.f3) ((rd_T26 l0_7 x4_1).f2) ((rd_T26 l0_7 x4_1).f3) _ _ ((rd_T26 l0_7 x4_1).f4) t231 _ ?side1 ?side2 A5.out).mono ?_); (case side1 => exact cb_ HR230_7); (case side2 => exact HC230_7.out); rintro e w7 ⟨rfl, hb⟩; refine ⟨_, rfl, ?_⟩; replace BK229 := bb_ BK229 hb; replace HB := bs_ hb; (try clear hb))); go_roundg k1
     case measure => have := HK1.out; omega
     case rel => exact ⟨(wrap64 (x3_1 + t231)), (wrap64 (x4_1 + 1)), rf_, rf_, H', ⟨by have := HK1.out; omega⟩, ⟨bl_ BK229.out⟩, ⟨hs_⟩⟩
    ·rw [if_neg c4] at H
     exact absurd H (by simp)
   ·rw [if_neg c3] at H
    have c3b0 := decide_eq_false c3; have c3b9 := c3b0; (try simp only [hl230_7] at c3b9); clear c3; obtain rfl := Option.some.inj H; have Z8 := bz8_ BK229; go_wp2; go_ret; exact ⟨re_, hs_⟩
set_option maxHeartbeats 8000000 in
set_option maxRecDepth 100000 in
theorem lustrumref10_short.calls (k : Nat) : ∀ (a0_0 a0_1 : Int) (a0_2 a0_3 a0_4 : ByteArray) (a0_5 a0_6 : Bool) (A0_7 : Option Addr) (c0_7 : Nat) (l0_7 : List (S26)) (r : Bool) (w : World) (hr0_7 : Kd.C k26 w A0_7 l0_7.length l0_7) (hc0_7 : l0_7.length ≤ c0_7) (h : lustrumref10_short.f k a0_0 a0_1 a0_2 a0_3 a0_4 a0_5 a0_6 l0_7 = some r),
  Calls Try.prog 46 #[.agg #[.int .i64 a0_0, .int .i64 a0_1, .string a0_2, .string a0_3, .string a0_4, .bool a0_5, .bool a0_6, .slice A0_7 l0_7.length c0_7]] w fun e w' => e = .returned (.bool r) ∧ Below w.heap.size w w' := by
 induction k using Nat.strongRecOn with
 | _ k ih =>
 intro a0_0 a0_1 a0_2 a0_3 a0_4 a0_5 a0_6 A0_7 c0_7 l0_7 r w hr0_7 hc0_7 h
 cases k with
 | zero => exact absurd h (by simp [lustrumref10_short.f])
 | succ k =>
 simp only [lustrumref10_short.f] at h; have hu26 := Try.underlying26; have HR0_7 := A_ hr0_7; have HC0_7 := A_ hc0_7; clear hr0_7 hc0_7; have HB := A_ (Below.refl w.heap.size w); have H : (if (a0_2.size : Int) > 10 then (lustrumref10_short.j0 k true a0_0 a0_1 a0_2 a0_3 a0_4 a0_5 a0_6 l0_7) else (if (a0_3.size : Int) > 10 then (lustrumref10_short.j0 k true a0_0 a0_1 a0_2 a0_3 a0_4 a0_5 a0_6 l0_7) else (lustrumref10_short.j0 k (decide ((a0_4.size : Int) > 10)) a0_0 a0_1 a0_2 a0_3 a0_4 a0_5 a0_6 l0_7))) = some r := h; clear h; have HC2 := A_ H; clear H; go_enter Try.func46, Try.ntmps46; go_upto_region 1 with (first | (refine gD 1 ?_; (try (refine gate_guard (by rfl) ?_; dsimp only)); refine bxe_ 1 (n8_ a0_0 a0_1 a0_2 a0_3 a0_4 a0_5 a0_6 (.slice A0_7 l0_7.length c0_7)) 26 ?_; intro gb232 hg w3 hbox hb; have BK232 := A_ (hbox); have GW232 := gs_ w hg; have GE232 := gs_ w hg; replace HB := bs_ hb; clear hb hbox hg)); (try simp only [Act.put, List.setIfInBounds_toArray, List.set_cons_zero, List.set_cons_succ]); go_cut [22] (fun v22 wc => ∃ (kq : Nat) (x22_1 : Bool), v22 = .bool x22_1 ∧ Aside0 (lustrumref10_short.j0 kq x22_1 a0_0 a0_1 a0_2 a0_3 a0_4 a0_5 a0_6 l0_7 = some r) ∧ Aside0 (kq ≤ k) ∧ Aside0 (wc.heap[gb232]? = some (.cells #[.int .i64 a0_0, .int .i64 a0_1, .string a0_2, .string a0_3, .string a0_4, .bool a0_5, .bool a0_6, (.slice A0_7 l0_7.length c0_7)] 26 (0, 0))) ∧ Aside0 (Below w.heap.size w wc))
 case first =>
  have H := HC2.out; clear HC2
  by_cases c4 : (a0_2.size : Int) > 10
  ·rw [if_pos c4] at H
   have c4b0 := decide_eq_true c4; have c4b1 : decide (10 < a0_2.size) = true := decide_eq_true (by omega); clear c4; (first | rw [c4b0] | (simp only [i64_w, i32_w]; rw [c4b0]) | skip); have H' := A_ H; clear H; have Z5 := bz8_ BK232; go_wp2; go_meet
   case rel => exact ⟨_, (true), rf_, H', ⟨by first | omega | exact Nat.le_refl _⟩, ⟨bl_ BK232.out⟩, ⟨hs_⟩⟩
  ·rw [if_neg c4] at H
   have c4b0 := decide_eq_false c4; have c4b1 : decide (10 < a0_2.size) = false := decide_eq_false (by omega); clear c4; (first | rw [c4b0] | (simp only [i64_w, i32_w]; rw [c4b0]) | skip)
   by_cases c6 : (a0_3.size : Int) > 10
   ·rw [if_pos c6] at H
    have c6b0 := decide_eq_true c6; have c6b1 : decide (10 < a0_3.size) = true := decide_eq_true (by omega); clear c6; have H' := A_ H; clear H; have Z7 := bz8_ BK232; go_wp2; go_meet
    case rel => exact ⟨_, (true), rf_, H', ⟨by first | omega | exact Nat.le_refl _⟩, ⟨bl_ BK232.out⟩, ⟨hs_⟩⟩
   ·rw [if_neg c6] at H
    have c6b0 := decide_eq_false c6; have c6b1 : decide (10 < a0_3.size) = false := decide_eq_false (by omega); clear c6; have H' := A_ H; clear H; have Z8 := bz8_ BK232; go_wp2; go_meet
    case rel => exact ⟨_, (decide ((a0_4.size : Int) > 10)), rf_, H', ⟨by first | omega | exact Nat.le_refl _⟩, ⟨bl_ BK232.out⟩, ⟨hs_⟩⟩
 case rest =>
  clear HC2; (try clear p2); (try clear c4); (try clear c4b0); (try clear c4b1); (try clear c6); (try clear c6b0); (try clear c6b1); (try clear Z5); (try clear Z7); (try clear Z8); obtain ⟨kq, x22_1, rfl, HA, HJ1, BK232, HB⟩ := hcut
  cases kq with
  | zero => exact absurd HA.out (by simp [lustrumref10_short.j0])
  | succ kj1 =>
   have H := HA.out; clear HA; simp only [lustrumref10_short.j0] at H
   by_cases c9 : x22_1 = true
   ·subst c9
    replace H := iP_ H; obtain rfl := Option.some.inj H; go_wp2; go_ret; exact ⟨re_, hs_⟩
   ·replace c9 := Bool.eq_false_iff.mpr c9
    subst c9; replace H := iN_ H; have H' := A_ H; clear H; go_wp2; go_loopg [3] kj1 (fun kq v3 w' => ∃ (x3_2 : Int), v3 = .int .i64 x3_2 ∧ Aside0 (lustrumref10_short.l0 kq x3_2 a0_0 a0_1 a0_2 a0_3 a0_4 a0_5 a0_6 l0_7 = some r) ∧ Aside0 (kq ≤ kj1) ∧ Aside0 (w'.heap[gb232]? = some (.cells #[.int .i64 a0_0, .int .i64 a0_1, .string a0_2, .string a0_3, .string a0_4, .bool a0_5, .bool a0_6, (.slice A0_7 l0_7.length c0_7)] 26 (0, 0))) ∧ Aside0 (Below w.heap.size w w'))
    case atStart => exact ⟨(0), rf_, H', ⟨Nat.le_refl _⟩, ⟨bl_ BK232.out⟩, ⟨hs_⟩⟩
    case round =>
     clear H'; (try clear p2); (try clear c4); (try clear c4b0); (try clear c4b1); (try clear c6); (try clear c6b0); (try clear c6b1); (try clear c9); (try clear Z5); (try clear Z7); (try clear Z8); (try clear p2); obtain ⟨x3_2, rfl, HA, HK2, BK232, HB⟩ := hrel
     cases gk with
     | zero => exact absurd HA.out (by simp [lustrumref10_short.l0])
     | succ k2 =>
      have H := HA.out; clear HA; simp only [lustrumref10_short.l0] at H
      by_cases c10 : x3_2 < (l0_7.length : Int)
      ·rw [if_pos c10] at H
       have c10b0 := decide_eq_true c10; clear c10
       by_cases c11 : 0 ≤ x3_2
       ·rw [if_pos c11] at H
        have c11b0 := decide_eq_true c11; clear c11; obtain ⟨t234, A12, H⟩ := bi_ H
        by_cases c13 : t234 = true
        ·subst c13
         replace H := iP_ H; have H' := A_ H; clear H; have Z14 := bz8_ BK232; have p233 : 0 ≤ (x3_2 : Int) := od_; have q233 : x3_2 < (l0_7.length : Int) := od_; obtain ⟨ad233, A233_7, c233_7, e233, hx233_0, hx233_1, hx233_2, hx233_3, hx233_4, hx233_5, hx233_6, hx233_7, hl233_7, hi233_7⟩ := at_T26 HR0_7.out x3_2 p233 q233
         cases e233
         replace hx233_0 := cl_ HB hx233_0; replace hx233_1 := cl_ HB hx233_1; replace hx233_2 := cl_ HB hx233_2; replace hx233_3 := cl_ HB hx233_3; replace hx233_4 := cl_ HB hx233_4; replace hx233_5 := cl_ HB hx233_5; replace hx233_6 := cl_ HB hx233_6; replace hx233_7 := cl_ HB hx233_7; have HR233_7 := A_ hi233_7; have HC233_7 := A_ hl233_7; clear hi233_7 hl233_7; replace p233 := eq_true p233; replace q233 := eq_true q233; go_wp2_with (first | (refine gC 46 ?_; refine gL 35 Try.func46 #[.agg #[.int .i64 ((rd_T26 l0_7 x3_2).f0), .int .i64 ((rd_T26 l0_7 x3_2).f1.f0), .string ((rd_T26 l0_7 x3_2).f1.f1), .string ((rd_T26 l0_7 x3_2).f1.f2), .string ((rd_T26 l0_7 x3_2).f1.f3), .bool ((rd_T26 l0_7 x3_2).f2), .bool ((rd_T26 l0_7 x3_2).f3), .slice A233_7 ((rd_T26 l0_7 x3_2).f4).length c233_7]] ?_; (with_reducible refine (ih k2 (by have := HJ1.out; have := HK2.out; omega) ((rd_T26 l0_7 x3_2).f0) ((rd_T26 l0_7 x3_2).f1.f0) ((rd_T26 l0_7 x3_2).f1.f1) ((rd_T26 l0_7 x3_2).f1.f2) ((rd_T26 l0_7 x3_2).f1.f3) ((rd_T26 l0_7 x3_2).f2) ((rd_T26 l0_7 x3_2).f3) _ _ ((rd_T26 l0_7 x3_2).f4) true _ ?side1 ?side2 A12.out).mono ?_); (case side1 => exact cb_ HR233_7); (case side2 => exact HC233_7.out); rintro e w15 ⟨rfl, hb⟩; refine ⟨_, rfl, ?_⟩; replace BK232 := bb_ BK232 hb; replace HB := bs_ hb; (try clear hb))); go_roundg k2
         case measure => have := HJ1.out; have := HK2.out; omega
         case rel => exact ⟨(wrap64 (x3_2 + 1)), rf_, H', ⟨by have := HJ1.out; have := HK2.out; omega⟩, ⟨bl_ BK232.out⟩, ⟨hs_⟩⟩
        ·replace c13 := Bool.eq_false_iff.mpr c13
         subst c13; replace H := iN_ H; obtain rfl := Option.some.inj H; have Z16 := bz8_ BK232; have p233 : 0 ≤ (x3_2 : Int) := od_; have q233 : x3_2 < (l0_7.length : Int) := od_; obtain ⟨ad233, A233_7, c233_7, e233, hx233_0, hx233_1, hx233_2, hx233_3, hx233_4, hx233_5, hx233_6, hx233_7, hl233_7, hi233_7⟩ := at_T26 HR0_7.out x3_2 p233 q233
         cases e233
         replace hx233_0 := cl_ HB hx233_0; replace hx233_1 := cl_ HB hx233_1; replace hx233_2 := cl_ HB hx233_2; replace hx233_3 := cl_ HB hx233_3; replace hx233_4 := cl_ HB hx233_4; replace hx233_5 := cl_ HB hx233_5; replace hx233_6 := cl_ HB hx233_6; replace hx233_7 := cl_ HB hx233_7; have HR233_7 := A_ hi233_7; have HC233_7 := A_ hl233_7; clear hi233_7 hl233_7; replace p233 := eq_true p233; replace q233 := eq_true q233; go_wp2_with (first | (refine gC 46 ?_; refine gL 35 Try.func46 #[.agg #[.int .i64 ((rd_T26 l0_7 x3_2).f0), .int .i64 ((rd_T26 l0_7 x3_2).f1.f0), .string ((rd_T26 l0_7 x3_2).f1.f1), .string ((rd_T26 l0_7 x3_2).f1.f2), .string ((rd_T26 l0_7 x3_2).f1.f3), .bool ((rd_T26 l0_7 x3_2).f2), .bool ((rd_T26 l0_7 x3_2).f3), .slice A233_7 ((rd_T26 l0_7 x3_2).f4).length c233_7]] ?_; (with_reducible refine (ih k2 (by have := HJ1.out; have := HK2.out; omega) ((rd_T26 l0_7 x3_2).f0) ((rd_T26 l0_7 x3_2).f1.f0) ((rd_T26 l0_7 x3_2).f1.f1) ((rd_T26 l0_7 x3_2).f1.f2) ((rd_T26 l0_7 x3_2).f1.f3) ((rd_T26 l0_7 x3_2).f2) ((rd_T26 l0_7 x3_2).f3) _ _ ((rd_T26 l0_7 x3_2).f4) false _ ?side1 ?side2 A12.out).mono ?_); (case side1 => exact cb_ HR233_7); (case side2 => exact HC233_7.out); rintro e w17 ⟨rfl, hb⟩; refine ⟨_, rfl, ?_⟩; replace BK232 := bb_ BK232 hb; replace HB := bs_ hb; (try clear hb))); go_ret; exact ⟨re_, hs_⟩
       ·rw [if_neg c11] at H
        exact absurd H (by simp)
      ·rw [if_neg c10] at H
       have c10b0 := decide_eq_false c10; have c10b9 := c10b0; (try simp only [hl233_7] at c10b9); (try simp only [hl239_7] at c10b9); clear c10; obtain rfl := Option.some.inj H; have Z18 := bz8_ BK232; go_wp2; go_ret; exact ⟨re_, hs_⟩
set_option maxHeartbeats 8000000 in
set_option maxRecDepth 100000 in
theorem lustrumref10_Few.calls (k : Nat) (a0_0 a0_1 : Int) (a0_2 a0_3 a0_4 : ByteArray) (a0_5 a0_6 : Bool) (A0_7 : Option Addr) (c0_7 : Nat) (l0_7 : List (S26)) (r : Bool) (w : World) (hr0_7 : Kd.C k26 w A0_7 l0_7.length l0_7) (hc0_7 : l0_7.length ≤ c0_7) (h : lustrumref10_Few.f k a0_0 a0_1 a0_2 a0_3 a0_4 a0_5 a0_6 l0_7 = some r) :
  Calls Try.prog 17 #[.agg #[.int .i64 a0_0, .int .i64 a0_1, .string a0_2, .string a0_3, .string a0_4, .bool a0_5, .bool a0_6, .slice A0_7 l0_7.length c0_7]] w fun e w' => e = .returned (.bool r) ∧ Below w.heap.size w w' := by
 have hu26 := Try.underlying26; have HR0_7 := A_ hr0_7; have HC0_7 := A_ hc0_7; clear hr0_7 hc0_7; have HB := A_ (Below.refl w.heap.size w); have H : ((lustrumref10_Count.f k a0_0 a0_1 a0_2 a0_3 a0_4 a0_5 a0_6 l0_7).bind fun t236 => (if t236 ≤ 120 then ((lustrumref10_short.f k a0_0 a0_1 a0_2 a0_3 a0_4 a0_5 a0_6 l0_7).bind fun t237 => (some t237)) else (some false))) = some r := h; clear h; obtain ⟨t236, A2, H⟩ := bi_ H
 by_cases c3 : t236 ≤ 120
 ·rw [if_pos c3] at H
  have c3b0 := decide_eq_true c3; clear c3; obtain ⟨t237, A4, H⟩ := bi_ H; obtain rfl := Option.some.inj H; go_enter Try.func17, Try.ntmps17; go_wp2_with (first | (refine gx_ w 1 (n8_ a0_0 a0_1 a0_2 a0_3 a0_4 a0_5 a0_6 (.slice A0_7 l0_7.length c0_7)) 26 ?_; clear HB; intro gb235 w5 BK235 GE235 HB; have GW235 := GE235; have Z6 := bz8_ BK235) | (refine gC 23 ?_; refine gL 4 Try.func23 #[.agg (n8_ a0_0 a0_1 a0_2 a0_3 a0_4 a0_5 a0_6 (.slice A0_7 l0_7.length c0_7))] ?_; (with_reducible refine (lustrumref10_Count.calls k a0_0 a0_1 a0_2 a0_3 a0_4 a0_5 a0_6 _ _ l0_7 t236 _ ?side1 ?side2 A2.out).mono ?_); (case side1 => exact cb_ HR0_7); (case side2 => exact HC0_7.out); rintro e w7 ⟨rfl, hb⟩; refine ⟨_, rfl, ?_⟩; replace BK235 := bb_ BK235 hb; replace HB := bs_ hb; (try clear hb); have Z8 := bz8_ BK235) | (go_at_call 46; (with_reducible refine (lustrumref10_short.calls k a0_0 a0_1 a0_2 a0_3 a0_4 a0_5 a0_6 _ _ l0_7 t237 _ ?side1 ?side2 A4.out).mono ?_); (case side1 => exact cb_ HR0_7); (case side2 => exact HC0_7.out); rintro e w9 ⟨rfl, hb⟩; replace BK235 := bb_ BK235 hb; replace HB := bs_ hb; (try clear hb)))
  go_ret; exact ⟨re_, hs_⟩
 ·rw [if_neg c3] at H
  have c3b0 := decide_eq_false c3; clear c3; obtain rfl := Option.some.inj H; go_enter Try.func17, Try.ntmps17; go_wp2_with (first | (refine gx_ w 1 (n8_ a0_0 a0_1 a0_2 a0_3 a0_4 a0_5 a0_6 (.slice A0_7 l0_7.length c0_7)) 26 ?_; clear HB; intro gb235 w10 BK235 GE235 HB; have GW235 := GE235; have Z11 := bz8_ BK235) | (refine gC 23 ?_; refine gL 4 Try.func23 #[.agg (n8_ a0_0 a0_1 a0_2 a0_3 a0_4 a0_5 a0_6 (.slice A0_7 l0_7.length c0_7))] ?_; (with_reducible refine (lustrumref10_Count.calls k a0_0 a0_1 a0_2 a0_3 a0_4 a0_5 a0_6 _ _ l0_7 t236 _ ?side1 ?side2 A2.out).mono ?_); (case side1 => exact cb_ HR0_7); (case side2 => exact HC0_7.out); rintro e w12 ⟨rfl, hb⟩; refine ⟨_, rfl, ?_⟩; replace BK235 := bb_ BK235 hb; replace HB := bs_ hb; (try clear hb))); go_ret; exact ⟨re_, hs_⟩
end Go.Proofs.Ytfehdlkklfcnpaa.A
namespace Go.Proofs.Ytfehdlkklfcnpaa.A
open Go.RowKit Go.Proofs.YtfehdlkklfcnpaaW.PrintWords Go.Proofs.YtfehdlkklfcnpaaW.PrintLast Go.Proofs.YtfehdlkklfcnpaaW.PrintMore
attribute [local go_sem] max2_int min2_int max_two min_two max_three min_three max_four min_four
attribute [local go_sem high] leq_flip
attribute [local go_sem] isSome_setCell
def lustrumlaw12_CanonOnce.T7 : Bool × List (List Nat × List Nat) := (true, [([], []), ([0], [0]), ([1], [1]), ([2, 1], [2]), ([3], [3]), ([4, 3, 3], [3, 4]), ([5, 3], [3, 5]), ([3, 6], [3, 6]), ([7, 5], [7]), ([8], [8]), ([9, 8, 8], [8, 9]), ([8], [8]), ([10, 11, 10, 8], [8, 10, 11]), ([12, 8], [8, 12]), ([8, 13], [8, 13]), ([14, 12], [14]), ([15], [15]), ([16, 15, 15], [15, 16]), ([15], [15]), ([18, 17, 15], [15, 18]), ([17, 19, 15], [15, 17, 19]), ([15, 20], [15, 20]), ([21, 19], [21]), ([22], [22]), ([23, 22, 22], [22, 23]), ([24, 22], [22, 24]), ([22, 25], [22, 25]), ([26, 24], [26]), ([27], [27]), ([28, 27, 27], [27, 28]), ([27], [27]), ([27], [27]), ([30, 31, 29, 27], [27, 30, 31]), ([29, 32, 27], [27, 29, 32]), ([27, 33], [27, 33])])
def lustrumlaw12_CanonOnce.B7 : List Nat := [0, 1, 3, 7, 15, 31, 63, 127, 255, 511, 1023, 511, 4095, 8191, 16383, 32767, 65535, 131071, 65535, 524287, 1048575, 2097151, 4194303, 8388607, 16777215, 33554431, 67108863, 134217727, 268435455, 536870911, 268435455, 268435455, 4294967295, 8589934591, 17179869183]
theorem lustrumlaw12_CanonOnce.tab7 : rtab .any (opsOf Try.f12 7) = lustrumlaw12_CanonOnce.T7 := by kernel_rfl
theorem lustrumlaw12_CanonOnce.bits7 : waitsOk lustrumlaw12_CanonOnce.T7.2 lustrumlaw12_CanonOnce.B7 = true := by kernel_rfl
def lustrumlaw12_CanonOnce.T14 : Bool × List (List Nat × List Nat) := (true, [([], []), ([0], [0]), ([], []), ([2], [2]), ([1, 3], [1, 3]), ([4], [4]), ([5], [5]), ([], []), ([7], [7]), ([], []), ([8, 9], [8, 9]), ([10], [10]), ([11, 6], [11]), ([6, 12], [6, 12])])
def lustrumlaw12_CanonOnce.B14 : List Nat := [0, 1, 0, 4, 15, 31, 63, 0, 128, 0, 896, 1920, 4095, 8191]
theorem lustrumlaw12_CanonOnce.tab14 : rtab .any (opsOf Try.f12 14) = lustrumlaw12_CanonOnce.T14 := by kernel_rfl
theorem lustrumlaw12_CanonOnce.bits14 : waitsOk lustrumlaw12_CanonOnce.T14.2 lustrumlaw12_CanonOnce.B14 = true := by kernel_rfl
set_option maxHeartbeats 8000000 in
set_option maxRecDepth 100000 in
theorem lustrumlaw12_CanonOnce.calls (k : Nat) (a0_0 a0_1 : Int) (a0_2 a0_3 a0_4 : ByteArray) (a0_5 a0_6 : Bool) (A0_7 : Option Addr) (c0_7 : Nat) (l0_7 : List (S26)) (r : Bool) (w : World) (hrT_ : r = true) (hr0_7 : Kd.C k26 w A0_7 l0_7.length l0_7) (hc0_7 : l0_7.length ≤ c0_7) (h : lustrumlaw12_CanonOnce.f k a0_0 a0_1 a0_2 a0_3 a0_4 a0_5 a0_6 l0_7 = some r) :
  Calls Try.prog 12 #[.agg #[.int .i64 a0_0, .int .i64 a0_1, .string a0_2, .string a0_3, .string a0_4, .bool a0_5, .bool a0_6, .slice A0_7 l0_7.length c0_7]] w fun e w' => e = .returned (.bool r) ∧ Below w.heap.size w w' := by
 have hu26 := Try.underlying26; have HR0_7 := A_ hr0_7; have HC0_7 := A_ hc0_7; clear hr0_7 hc0_7; have HB := A_ (Below.refl w.heap.size w); have H : ((lustrumlaw12_awake.f k).bind fun t466 => ((lustrumref10_Few.f k a0_0 a0_1 a0_2 a0_3 a0_4 a0_5 a0_6 l0_7).bind fun t467 => (if t467 = true then ((canon_Canon.f k a0_0 a0_1 a0_2 a0_3 a0_4 a0_5 a0_6 l0_7).bind fun bt468 => ((tree_Sane.f k a0_0 a0_1 a0_2 a0_3 a0_4 a0_5 a0_6 l0_7).bind fun t479 => (if t479 = true then ((tree_Sane.f k bt468.1 bt468.2.1 bt468.2.2.1 bt468.2.2.2.1 bt468.2.2.2.2.1 bt468.2.2.2.2.2.1 bt468.2.2.2.2.2.2.1 bt468.2.2.2.2.2.2.2).bind fun t482 => (if t482 = true then ((canon_Is.f k bt468.1 bt468.2.1 bt468.2.2.1 bt468.2.2.2.1 bt468.2.2.2.2.1 bt468.2.2.2.2.2.1 bt468.2.2.2.2.2.2.1 bt468.2.2.2.2.2.2.2).bind fun t483 => (if t483 = true then ((canon_Canon.f k bt468.1 bt468.2.1 bt468.2.2.1 bt468.2.2.2.1 bt468.2.2.2.2.1 bt468.2.2.2.2.2.1 bt468.2.2.2.2.2.2.1 bt468.2.2.2.2.2.2.2).bind fun bt484 => ((tree_Same.f k bt484.1 bt484.2.1 bt484.2.2.1 bt484.2.2.2.1 bt484.2.2.2.2.1 bt484.2.2.2.2.2.1 bt484.2.2.2.2.2.2.1 bt484.2.2.2.2.2.2.2 bt468.1 bt468.2.1 bt468.2.2.1 bt468.2.2.2.1 bt468.2.2.2.2.1 bt468.2.2.2.2.2.1 bt468.2.2.2.2.2.2.1 bt468.2.2.2.2.2.2.2).bind fun t494 => (if t494 = true then ((tree_Count.f k bt468.1 bt468.2.1 bt468.2.2.1 bt468.2.2.2.1 bt468.2.2.2.2.1 bt468.2.2.2.2.2.1 bt468.2.2.2.2.2.2.1 bt468.2.2.2.2.2.2.2).bind fun t495 => ((tree_Count.f k a0_0 a0_1 a0_2 a0_3 a0_4 a0_5 a0_6 l0_7).bind fun t496 => (if t495 > t496 then (lustrumlaw12_CanonOnce.j0 k t466 true bt468.1 bt468.2.1 bt468.2.2.1 bt468.2.2.2.1 bt468.2.2.2.2.1 bt468.2.2.2.2.2.1 bt468.2.2.2.2.2.2.1 bt468.2.2.2.2.2.2.2) else ((tree_Deep.f k bt468.1 bt468.2.1 bt468.2.2.1 bt468.2.2.2.1 bt468.2.2.2.2.1 bt468.2.2.2.2.2.1 bt468.2.2.2.2.2.2.1 bt468.2.2.2.2.2.2.2).bind fun t497 => (if t497 > 1 then (lustrumlaw12_CanonOnce.j0 k t466 true bt468.1 bt468.2.1 bt468.2.2.1 bt468.2.2.2.1 bt468.2.2.2.2.1 bt468.2.2.2.2.2.1 bt468.2.2.2.2.2.2.1 bt468.2.2.2.2.2.2.2) else ((canon_Is.f k a0_0 a0_1 a0_2 a0_3 a0_4 a0_5 a0_6 l0_7).bind fun t498 => ((tree_Same.f k bt468.1 bt468.2.1 bt468.2.2.1 bt468.2.2.2.1 bt468.2.2.2.2.1 bt468.2.2.2.2.2.1 bt468.2.2.2.2.2.2.1 bt468.2.2.2.2.2.2.2 a0_0 a0_1 a0_2 a0_3 a0_4 a0_5 a0_6 l0_7).bind fun t499 => (lustrumlaw12_CanonOnce.j0 k t466 (t498 != t499) bt468.1 bt468.2.1 bt468.2.2.1 bt468.2.2.2.1 bt468.2.2.2.2.1 bt468.2.2.2.2.2.1 bt468.2.2.2.2.2.2.1 bt468.2.2.2.2.2.2.2)))))))) else (lustrumlaw12_CanonOnce.j0 k t466 true bt468.1 bt468.2.1 bt468.2.2.1 bt468.2.2.2.1 bt468.2.2.2.2.1 bt468.2.2.2.2.2.1 bt468.2.2.2.2.2.2.1 bt468.2.2.2.2.2.2.2)))) else (lustrumlaw12_CanonOnce.j0 k t466 true bt468.1 bt468.2.1 bt468.2.2.1 bt468.2.2.2.1 bt468.2.2.2.2.1 bt468.2.2.2.2.2.1 bt468.2.2.2.2.2.2.1 bt468.2.2.2.2.2.2.2))) else (lustrumlaw12_CanonOnce.j0 k t466 true bt468.1 bt468.2.1 bt468.2.2.1 bt468.2.2.2.1 bt468.2.2.2.2.1 bt468.2.2.2.2.2.1 bt468.2.2.2.2.2.2.1 bt468.2.2.2.2.2.2.2))) else (if t466 = true then ((canon_Is.f k a0_0 a0_1 a0_2 a0_3 a0_4 a0_5 a0_6 l0_7).bind fun t480 => (if t480 = true then (some false) else ((tree_Same.f k bt468.1 bt468.2.1 bt468.2.2.1 bt468.2.2.2.1 bt468.2.2.2.2.1 bt468.2.2.2.2.2.1 bt468.2.2.2.2.2.2.1 bt468.2.2.2.2.2.2.2 0 0 (⟨#[]⟩ : ByteArray) (⟨#[]⟩ : ByteArray) (⟨#[]⟩ : ByteArray) false false ([] : List (S26))).bind fun t481 => (some t481)))) else (some false))))) else (some t466)))) = some r := h; clear h; obtain ⟨t466, A2, H⟩ := bi_ H; obtain ⟨t467, A3, H⟩ := bi_ H
 by_cases c4 : t467 = true
 ·subst c4
  replace H := iP_ H; obtain ⟨⟨t468, t469, t470, t471, t472, t473, t474, t475⟩, A5, H⟩ := bi_ H; obtain ⟨t479, A6, H⟩ := bi_ H
  by_cases c7 : t479 = true
  ·subst c7
   replace H := iP_ H; have HC8 := A_ H; clear H; go_enter Try.func12, Try.ntmps12; go_upto_region 7 with (first | ((with_reducible refine gD 1 ?_); (try (refine gate_guard (by rfl) ?_; dsimp only)); refine bxe_ 1 (n8_ a0_0 a0_1 a0_2 a0_3 a0_4 a0_5 a0_6 (.slice A0_7 l0_7.length c0_7)) 26 ?_; intro gb465 hg w9 hbox hb; have BK465 := A_ (hbox); have GW465 := gs_ w hg; have GE465 := gs_ w hg; replace HB := bs_ hb; clear hb hbox hg) | ((with_reducible refine gC 39 ?_); refine gL 6 Try.func39 #[] ?_; (with_reducible refine (lustrumlaw12_awake.calls k  t466 _ A2.out).mono ?_); rintro e w10 ⟨rfl, hb⟩; refine ⟨_, rfl, ?_⟩; replace BK465 := bb_ BK465 hb; replace HB := bs_ hb; (try clear hb); have Z11 := bz8_ BK465) | ((with_reducible refine gC 17 ?_); refine gL 8 Try.func17 #[.agg (n8_ a0_0 a0_1 a0_2 a0_3 a0_4 a0_5 a0_6 (.slice A0_7 l0_7.length c0_7))] ?_; (with_reducible refine (lustrumref10_Few.calls k a0_0 a0_1 a0_2 a0_3 a0_4 a0_5 a0_6 _ _ l0_7 true _ ?side1 ?side2 A3.out).mono ?_); (case side1 => exact cb_ HR0_7); (case side2 => exact HC0_7.out); rintro e w12 ⟨rfl, hb⟩; refine ⟨_, rfl, ?_⟩; replace BK465 := bb_ BK465 hb; replace HB := bs_ hb; (try clear hb); have Z13 := bz8_ BK465) | ((with_reducible refine gC 40 ?_); refine gL 12 Try.func40 #[.agg (n8_ a0_0 a0_1 a0_2 a0_3 a0_4 a0_5 a0_6 (.slice A0_7 l0_7.length c0_7))] ?_; (with_reducible refine (canon_Canon.calls k a0_0 a0_1 a0_2 a0_3 a0_4 a0_5 a0_6 (fun k_ => k_ < w.heap.size) _ _ l0_7 t468 t469 t470 t471 t472 t473 t474 t475 _ ?side1 A5.out).mono ?_); (case side1 => exact Kd.V_mk HC0_7.out (Kd.F_below (Kd.C_F k26_heap HR0_7.out) hs_)); rintro e w14 ⟨v476, rfl, ho0, hb⟩; refine ⟨_, rfl, ?_⟩; have HO477 := A_ (Kd.V_lower (Kd.V_mono (ok' := fun k_ => k_ ≠ gb465) ho0 (fun k_ hk_ => Or.elim hk_ (fun hs_ => fun e_ => Nat.not_le.2 hs_ (by rw [e_]; exact GW465.out)) (fb_ BK465 k_))) (below_size hs_)); replace BK465 := bb_ BK465 hb; replace HB := bs_ hb; (try clear hb); (try clear ho0)) | ((with_reducible refine gD 4 ?_); (try (refine gate_guard (by rfl) ?_; dsimp only)); refine bxe_ 4 z8_ 26 ?_; intro gb478 hg w15 hbox hb; replace HO477 := eV_ HO477 hg hb; have BK478 := A_ (hbox); have GW478 := gs_ w hg; have GE478 := gs_ w hg; replace HB := bs_ hb; have NB465_478 := nl_ BK465 hg; have NB478_465 := ng_ BK465 hg; replace BK465 := bb_ BK465 hb; clear hb hbox hg; have hnb16 := NB478_465.out; have hnc16 := NB465_478.out; have Z17 := bz8_ BK478; obtain ⟨Ao18, co18, eo18⟩ := Kd.V_slice HO477.out; subst eo18; have Z19 := bz8_ BK465) | ((with_reducible refine gC 18 ?_); refine gL 14 Try.func18 #[.agg (n8_ a0_0 a0_1 a0_2 a0_3 a0_4 a0_5 a0_6 (.slice A0_7 l0_7.length c0_7))] ?_; (with_reducible refine (tree_Sane.calls k a0_0 a0_1 a0_2 a0_3 a0_4 a0_5 a0_6 _ _ l0_7 true _ ?side1 ?side2 A6.out).mono ?_); (case side1 => exact Kd.C_below HR0_7.out hs_); (case side2 => exact HC0_7.out); rintro e w20 ⟨rfl, hb⟩; refine ⟨_, rfl, ?_⟩; replace HO477 := bV_ HO477 hb; replace BK465 := A_ (blk_below (g := gb465) (o := .cells (n8_ a0_0 a0_1 a0_2 a0_3 a0_4 a0_5 a0_6 (.slice A0_7 l0_7.length c0_7)) 26 (0, 0)) (pf_ NB465_478 BK465) hb); replace BK478 := bp_ BK478 (.cells (n8_ t468 t469 t470 t471 t472 t473 t474 (.slice Ao18 t475.length co18)) 26 (0, 0)) hb; replace HB := bs_ hb; (try clear hb)))
   (try simp only [Act.put, List.setIfInBounds_toArray, List.set_cons_zero, List.set_cons_succ]); go_cut [61] (fun v61 wc => ∃ (kq : Nat) (x61_7 : Bool), v61 = .bool x61_7 ∧ Aside0 (lustrumlaw12_CanonOnce.j0 kq t466 x61_7 t468 t469 t470 t471 t472 t473 t474 t475 = some r) ∧ Aside0 (kq ≤ k) ∧ Aside0 (Kd.V k26 26 wc w.heap.size (fun k_ => k_ ≠ gb465 ∧ k_ ≠ gb478) (.slice Ao18 t475.length co18) t475) ∧ Aside0 (wc.heap[gb465]? = some (.cells #[.int .i64 a0_0, .int .i64 a0_1, .string a0_2, .string a0_3, .string a0_4, .bool a0_5, .bool a0_6, (.slice A0_7 l0_7.length c0_7)] 26 (0, 0))) ∧ Aside0 (wc.heap[gb478]? = some (.cells #[.int .i64 t468, .int .i64 t469, .string t470, .string t471, .string t472, .bool t473, .bool t474, (.slice Ao18 t475.length co18)] 26 (0, 0))) ∧ Aside0 (Below w.heap.size w wc))
   case first =>
    have H := HC8.out; clear HC8; obtain ⟨t482, A21, H⟩ := bi_ H
    by_cases c22 : t482 = true
    ·subst c22
     replace H := iP_ H; obtain ⟨t483, A23, H⟩ := bi_ H
     by_cases c24 : t483 = true
     ·subst c24
      replace H := iP_ H; obtain ⟨⟨t484, t485, t486, t487, t488, t489, t490, t491⟩, A25, H⟩ := bi_ H; obtain ⟨t494, A26, H⟩ := bi_ H
      by_cases c27 : t494 = true
      ·subst c27
       replace H := iP_ H; obtain ⟨t495, A28, H⟩ := bi_ H; obtain ⟨t496, A29, H⟩ := bi_ H
       by_cases c30 : t495 > t496
       ·rw [if_pos c30] at H
        have c30b0 := decide_eq_true c30; clear c30; (first | rw [c30b0] | (simp only [i64_w, i32_w]; rw [c30b0]) | skip); have H' := A_ H; clear H; (try go_wp2); replace HO477 := A_ (Kd.V_drew HO477.out); replace BK465 := A_ (blk_drew BK465.out); replace BK478 := A_ (blk_drew BK478.out); replace HB := A_ (below_drew1 HB.out); refine start_ (n := 35) (S := fun w' => K8 w' gb478 (.int .i64 t468) (.int .i64 t469) (.string t470) (.string t471) (.string t472) (.bool t473) (.bool t474) (.slice Ao18 t475.length co18) (C8 w' gb465 (.int .i64 a0_0) (.int .i64 a0_1) (.string a0_2) (.string a0_3) (.string a0_4) (.bool a0_5) (.bool a0_6) (.slice A0_7 l0_7.length c0_7))) (ds := []) (ab 35 0) (by kernel_rfl) rfl rfl (kq8_ BK478 (cq8_ BK465)) (fun hHeld => ?_); refine with_tabW lustrumlaw12_CanonOnce.tab7 lustrumlaw12_CanonOnce.bits7 (fun HT_ HW_ => ?_); generalize w20.drew = w31 at HO477 BK465 BK478 HB hHeld ⊢; refine tB 0 27 35 1 ?_; refine oA 1 (some 28) 35 3 fun K hK => ?_; refine gS Try.func18 #[.agg (n8_ t468 t469 t470 t471 t472 t473 t474 (.slice Ao18 t475.length co18))] ?_; (with_reducible refine (tree_Sane.calls k t468 t469 t470 t471 t472 t473 t474 _ _ t475 true _ ?side1 ?side2 A21.out).mono ?_)
        (case side1 => exact cr_ (Kd.V_reads' HO477.out).2.2)
        (case side2 => exact (Kd.V_reads' HO477.out).2.1)
        rintro e w32 ⟨rfl, hb⟩; refine ⟨_, rfl, ?_⟩; replace HO477 := bV_ HO477 hb; replace BK465 := bb_ BK465 hb; replace BK478 := bb_ BK478 hb; replace HB := bs_ hb; (try clear hb); refine hK.out _ _ (kq8_ BK478 (cq8_ BK465)) (fun hHeld => ?_); clear hK K; refine nA ?_; refine pA 2 29 35 7 ?_; refine pA 3 30 35 15 ?_; refine tB 4 31 35 31 ?_; refine oA 5 (some 32) 35 63 fun K hK => ?_; refine gS Try.func42 #[.agg (n8_ t468 t469 t470 t471 t472 t473 t474 (.slice Ao18 t475.length co18))] ?_; (with_reducible refine (canon_Is.calls k t468 t469 t470 t471 t472 t473 t474 _ _ t475 true _ ?side1 ?side2 A23.out).mono ?_)
        (case side1 => exact cr_ (Kd.V_reads' HO477.out).2.2)
        (case side2 => exact (Kd.V_reads' HO477.out).2.1)
        rintro e w33 ⟨rfl, hb⟩; refine ⟨_, rfl, ?_⟩; replace HO477 := bV_ HO477 hb; replace BK465 := bb_ BK465 hb; replace BK478 := bb_ BK478 hb; replace HB := bs_ hb; (try clear hb); refine hK.out _ _ (kq8_ BK478 (cq8_ BK465)) (fun hHeld => ?_); clear hK K; refine nA ?_; refine pA 6 33 35 127 ?_; refine pA 7 34 35 255 ?_; refine pA 8 35 35 511 ?_; refine tB 9 36 35 1023 ?_; refine tB 11 38 35 3071 ?_; refine oA 10 (some 37) 35 4095 fun K hK => ?_; refine gS Try.func40 #[.agg (n8_ t468 t469 t470 t471 t472 t473 t474 (.slice Ao18 t475.length co18))] ?_; (with_reducible refine (canon_Canon.calls k t468 t469 t470 t471 t472 t473 t474 (fun k_ => (k_ ≠ gb465 ∧ k_ ≠ gb478)) _ _ t475 t484 t485 t486 t487 t488 t489 t490 t491 _ ?side1 A25.out).mono ?_)
        (case side1 => exact HO477.out)
        rintro e w34 ⟨v492, rfl, ho0, hb⟩; refine ⟨_, rfl, ?_⟩; replace HO477 := bV_ HO477 hb; have HO493 := A_ (Kd.V_lower (Kd.V_mono (ok' := fun k_ => k_ ≠ gb465 ∧ k_ ≠ gb478) ho0 (fun k_ hk_ => ⟨hk_.elim (·.1) (fb_ BK465 k_), hk_.elim (·.2) (fb_ BK478 k_)⟩)) (below_size hs_)); replace BK465 := bb_ BK465 hb; replace BK478 := bb_ BK478 hb; replace HB := bs_ hb; (try clear hb); (try clear ho0); obtain ⟨Ao35, co35, eo35⟩ := Kd.V_slice HO493.out; (first | subst eo35 | (injection eo35 with f1_ f2_ f3_; have f4_ := f1_.symm; have f5_ := f3_.symm; clear f1_ f2_ f3_; subst f4_; subst f5_)); refine hK.out _ _ (kq8_ BK478 (cq8_ BK465)) (fun hHeld => ?_); clear hK K; refine nA ?_; refine oA 12 (some 39) 35 8191 fun K hK => ?_; refine gS Try.func26 #[.agg (n8_ t484 t485 t486 t487 t488 t489 t490 (.slice Ao35 t491.length co35)), .agg (n8_ t468 t469 t470 t471 t472 t473 t474 (.slice Ao18 t475.length co18))] ?_; (with_reducible refine (tree_Same.calls k t484 t485 t486 t487 t488 t489 t490 _ _ t491 t468 t469 t470 t471 t472 t473 t474 _ _ t475 true _ ?side1 ?side2 ?side3 ?side4 A26.out).mono ?_)
        (case side1 => exact cr_ (Kd.V_reads' HO493.out).2.2)
        (case side2 => exact (Kd.V_reads' HO493.out).2.1)
        (case side3 => exact cr_ (Kd.V_reads' HO477.out).2.2)
        (case side4 => exact (Kd.V_reads' HO477.out).2.1)
        rintro e w36 ⟨rfl, hb⟩; refine ⟨_, rfl, ?_⟩; replace HO477 := bV_ HO477 hb; replace HO493 := bV_ HO493 hb; replace BK465 := bb_ BK465 hb; replace BK478 := bb_ BK478 hb; replace HB := bs_ hb; (try clear hb); refine hK.out _ _ (kq8_ BK478 (cq8_ BK465)) (fun hHeld => ?_); clear hK K; refine nA ?_; refine pA 13 40 35 16383 ?_; refine pA 14 41 35 32767 ?_; refine pA 15 42 35 65535 ?_; refine tB 16 43 35 131071 ?_; refine tB 18 45 35 393215 ?_; refine oA 17 (some 44) 35 524287 fun K hK => ?_; refine gS Try.func22 #[.agg (n8_ t468 t469 t470 t471 t472 t473 t474 (.slice Ao18 t475.length co18))] ?_; (with_reducible refine (tree_Count.calls k t468 t469 t470 t471 t472 t473 t474 _ _ t475 t495 _ ?side1 ?side2 A28.out).mono ?_)
        (case side1 => exact cr_ (Kd.V_reads' HO477.out).2.2)
        (case side2 => exact (Kd.V_reads' HO477.out).2.1)
        rintro e w37 ⟨rfl, hb⟩; refine ⟨_, rfl, ?_⟩; replace HO477 := bV_ HO477 hb; replace HO493 := bV_ HO493 hb; replace BK465 := bb_ BK465 hb; replace BK478 := bb_ BK478 hb; replace HB := bs_ hb; (try clear hb); refine hK.out _ _ (kq8_ BK478 (cq8_ BK465)) (fun hHeld => ?_); clear hK K; refine nA ?_; refine oA 19 (some 46) 35 1048575 fun K hK => ?_; refine gS Try.func22 #[.agg (n8_ a0_0 a0_1 a0_2 a0_3 a0_4 a0_5 a0_6 (.slice A0_7 l0_7.length c0_7))] ?_; (with_reducible refine (tree_Count.calls k a0_0 a0_1 a0_2 a0_3 a0_4 a0_5 a0_6 _ _ l0_7 t496 _ ?side1 ?side2 A29.out).mono ?_)
        (case side1 => exact cb_ HR0_7)
        (case side2 => exact HC0_7.out)
        rintro e w38 ⟨rfl, hb⟩; refine ⟨_, rfl, ?_⟩; replace HO477 := bV_ HO477 hb; replace HO493 := bV_ HO493 hb; replace BK465 := bb_ BK465 hb; replace BK478 := bb_ BK478 hb; replace HB := bs_ hb; (try clear hb); refine hK.out _ _ (kq8_ BK478 (cq8_ BK465)) (fun hHeld => ?_); clear hK K; refine nA ?_; refine pA 20 47 35 2097151 ?_; refine pA 21 48 35 4194303 ?_; refine pA 22 49 35 8388607 ?_; refine uA 23 50 35 16777215 ?_; refine uA 24 51 35 33554431 ?_; refine uA 25 52 35 67108863 ?_; refine pA 26 53 35 134217727 ?_; refine pA 27 54 35 268435455 ?_; refine uA 28 55 35 536870911 ?_; refine uA 29 56 35 1073741823 ?_; refine uA 30 57 35 2147483647 ?_; refine uA 31 58 35 4294967295 ?_; refine uA 32 59 35 8589934591 ?_; refine uA 33 60 35 17179869183 ?_; refine pA 34 61 35 34359738367 ?_; refine done_ (done_of HT_.out (by kernel_rfl)) ?_; (try go_wp2); go_meet
        case rel => exact ⟨_, (true), rf_, H', ⟨by first | omega | exact Nat.le_refl _⟩, ⟨fxV_ HO477.out⟩, ⟨bl_ BK465.out⟩, ⟨bl_ BK478.out⟩, ⟨hs_⟩⟩
       ·rw [if_neg c30] at H
        have c30b0 := decide_eq_false c30; clear c30; (first | rw [c30b0] | (simp only [i64_w, i32_w]; rw [c30b0]) | skip); obtain ⟨t497, A39, H⟩ := bi_ H
        by_cases c40 : t497 > 1
        ·rw [if_pos c40] at H
         have c40b0 := decide_eq_true c40; clear c40; have H' := A_ H; clear H; (try go_wp2); replace HO477 := A_ (Kd.V_drew HO477.out); replace BK465 := A_ (blk_drew BK465.out); replace BK478 := A_ (blk_drew BK478.out); replace HB := A_ (below_drew1 HB.out); refine start_ (n := 35) (S := fun w' => K8 w' gb478 (.int .i64 t468) (.int .i64 t469) (.string t470) (.string t471) (.string t472) (.bool t473) (.bool t474) (.slice Ao18 t475.length co18) (C8 w' gb465 (.int .i64 a0_0) (.int .i64 a0_1) (.string a0_2) (.string a0_3) (.string a0_4) (.bool a0_5) (.bool a0_6) (.slice A0_7 l0_7.length c0_7))) (ds := []) (ab 35 0) (by kernel_rfl) rfl rfl (kq8_ BK478 (cq8_ BK465)) (fun hHeld => ?_); refine with_tabW lustrumlaw12_CanonOnce.tab7 lustrumlaw12_CanonOnce.bits7 (fun HT_ HW_ => ?_); generalize w20.drew = w41 at HO477 BK465 BK478 HB hHeld ⊢; refine tB 0 27 35 1 ?_; refine oA 1 (some 28) 35 3 fun K hK => ?_; refine gS Try.func18 #[.agg (n8_ t468 t469 t470 t471 t472 t473 t474 (.slice Ao18 t475.length co18))] ?_; (with_reducible refine (tree_Sane.calls k t468 t469 t470 t471 t472 t473 t474 _ _ t475 true _ ?side1 ?side2 A21.out).mono ?_)
         (case side1 => exact cr_ (Kd.V_reads' HO477.out).2.2)
         (case side2 => exact (Kd.V_reads' HO477.out).2.1)
         rintro e w42 ⟨rfl, hb⟩; refine ⟨_, rfl, ?_⟩; replace HO477 := bV_ HO477 hb; replace BK465 := bb_ BK465 hb; replace BK478 := bb_ BK478 hb; replace HB := bs_ hb; (try clear hb); refine hK.out _ _ (kq8_ BK478 (cq8_ BK465)) (fun hHeld => ?_); clear hK K; refine nA ?_; refine pA 2 29 35 7 ?_; refine pA 3 30 35 15 ?_; refine tB 4 31 35 31 ?_; refine oA 5 (some 32) 35 63 fun K hK => ?_; refine gS Try.func42 #[.agg (n8_ t468 t469 t470 t471 t472 t473 t474 (.slice Ao18 t475.length co18))] ?_; (with_reducible refine (canon_Is.calls k t468 t469 t470 t471 t472 t473 t474 _ _ t475 true _ ?side1 ?side2 A23.out).mono ?_)
         (case side1 => exact cr_ (Kd.V_reads' HO477.out).2.2)
         (case side2 => exact (Kd.V_reads' HO477.out).2.1)
         rintro e w43 ⟨rfl, hb⟩; refine ⟨_, rfl, ?_⟩; replace HO477 := bV_ HO477 hb; replace BK465 := bb_ BK465 hb; replace BK478 := bb_ BK478 hb; replace HB := bs_ hb; (try clear hb); refine hK.out _ _ (kq8_ BK478 (cq8_ BK465)) (fun hHeld => ?_); clear hK K; refine nA ?_; refine pA 6 33 35 127 ?_; refine pA 7 34 35 255 ?_; refine pA 8 35 35 511 ?_; refine tB 9 36 35 1023 ?_; refine tB 11 38 35 3071 ?_; refine oA 10 (some 37) 35 4095 fun K hK => ?_; refine gS Try.func40 #[.agg (n8_ t468 t469 t470 t471 t472 t473 t474 (.slice Ao18 t475.length co18))] ?_; (with_reducible refine (canon_Canon.calls k t468 t469 t470 t471 t472 t473 t474 (fun k_ => (k_ ≠ gb465 ∧ k_ ≠ gb478)) _ _ t475 t484 t485 t486 t487 t488 t489 t490 t491 _ ?side1 A25.out).mono ?_)
         (case side1 => exact HO477.out)
         rintro e w44 ⟨v492, rfl, ho0, hb⟩; refine ⟨_, rfl, ?_⟩; replace HO477 := bV_ HO477 hb; have HO493 := A_ (Kd.V_lower (Kd.V_mono (ok' := fun k_ => k_ ≠ gb465 ∧ k_ ≠ gb478) ho0 (fun k_ hk_ => ⟨hk_.elim (·.1) (fb_ BK465 k_), hk_.elim (·.2) (fb_ BK478 k_)⟩)) (below_size hs_)); replace BK465 := bb_ BK465 hb; replace BK478 := bb_ BK478 hb; replace HB := bs_ hb; (try clear hb); (try clear ho0); obtain ⟨Ao45, co45, eo45⟩ := Kd.V_slice HO493.out; (first | subst eo45 | (injection eo45 with f1_ f2_ f3_; have f4_ := f1_.symm; have f5_ := f3_.symm; clear f1_ f2_ f3_; subst f4_; subst f5_)); refine hK.out _ _ (kq8_ BK478 (cq8_ BK465)) (fun hHeld => ?_); clear hK K; refine nA ?_; refine oA 12 (some 39) 35 8191 fun K hK => ?_; refine gS Try.func26 #[.agg (n8_ t484 t485 t486 t487 t488 t489 t490 (.slice Ao45 t491.length co45)), .agg (n8_ t468 t469 t470 t471 t472 t473 t474 (.slice Ao18 t475.length co18))] ?_; (with_reducible refine (tree_Same.calls k t484 t485 t486 t487 t488 t489 t490 _ _ t491 t468 t469 t470 t471 t472 t473 t474 _ _ t475 true _ ?side1 ?side2 ?side3 ?side4 A26.out).mono ?_)
         (case side1 => exact cr_ (Kd.V_reads' HO493.out).2.2)
         (case side2 => exact (Kd.V_reads' HO493.out).2.1)
         (case side3 => exact cr_ (Kd.V_reads' HO477.out).2.2)
         (case side4 => exact (Kd.V_reads' HO477.out).2.1)
         rintro e w46 ⟨rfl, hb⟩; refine ⟨_, rfl, ?_⟩; replace HO477 := bV_ HO477 hb; replace HO493 := bV_ HO493 hb; replace BK465 := bb_ BK465 hb; replace BK478 := bb_ BK478 hb; replace HB := bs_ hb; (try clear hb); refine hK.out _ _ (kq8_ BK478 (cq8_ BK465)) (fun hHeld => ?_); clear hK K; refine nA ?_; refine pA 13 40 35 16383 ?_; refine pA 14 41 35 32767 ?_; refine pA 15 42 35 65535 ?_; refine tB 16 43 35 131071 ?_; refine tB 18 45 35 393215 ?_; refine oA 17 (some 44) 35 524287 fun K hK => ?_; refine gS Try.func22 #[.agg (n8_ t468 t469 t470 t471 t472 t473 t474 (.slice Ao18 t475.length co18))] ?_; (with_reducible refine (tree_Count.calls k t468 t469 t470 t471 t472 t473 t474 _ _ t475 t495 _ ?side1 ?side2 A28.out).mono ?_)
         (case side1 => exact cr_ (Kd.V_reads' HO477.out).2.2)
         (case side2 => exact (Kd.V_reads' HO477.out).2.1)
         rintro e w47 ⟨rfl, hb⟩; refine ⟨_, rfl, ?_⟩; replace HO477 := bV_ HO477 hb; replace HO493 := bV_ HO493 hb; replace BK465 := bb_ BK465 hb; replace BK478 := bb_ BK478 hb; replace HB := bs_ hb; (try clear hb); refine hK.out _ _ (kq8_ BK478 (cq8_ BK465)) (fun hHeld => ?_); clear hK K; refine nA ?_; refine oA 19 (some 46) 35 1048575 fun K hK => ?_; refine gS Try.func22 #[.agg (n8_ a0_0 a0_1 a0_2 a0_3 a0_4 a0_5 a0_6 (.slice A0_7 l0_7.length c0_7))] ?_; (with_reducible refine (tree_Count.calls k a0_0 a0_1 a0_2 a0_3 a0_4 a0_5 a0_6 _ _ l0_7 t496 _ ?side1 ?side2 A29.out).mono ?_)
         (case side1 => exact cb_ HR0_7)
         (case side2 => exact HC0_7.out)
         rintro e w48 ⟨rfl, hb⟩; refine ⟨_, rfl, ?_⟩; replace HO477 := bV_ HO477 hb; replace HO493 := bV_ HO493 hb; replace BK465 := bb_ BK465 hb; replace BK478 := bb_ BK478 hb; replace HB := bs_ hb; (try clear hb); refine hK.out _ _ (kq8_ BK478 (cq8_ BK465)) (fun hHeld => ?_); clear hK K; refine nA ?_; refine pA 20 47 35 2097151 ?_; refine pA 21 48 35 4194303 ?_; refine pA 22 49 35 8388607 ?_; refine tB 23 50 35 16777215 ?_; refine oA 24 (some 51) 35 33554431 fun K hK => ?_; refine gS Try.func24 #[.agg (n8_ t468 t469 t470 t471 t472 t473 t474 (.slice Ao18 t475.length co18))] ?_; (with_reducible refine (tree_Deep.calls k t468 t469 t470 t471 t472 t473 t474 _ _ t475 t497 _ ?side1 ?side2 A39.out).mono ?_)
         (case side1 => exact cr_ (Kd.V_reads' HO477.out).2.2)
         (case side2 => exact (Kd.V_reads' HO477.out).2.1)
         rintro e w49 ⟨rfl, hb⟩; refine ⟨_, rfl, ?_⟩; replace HO477 := bV_ HO477 hb; replace HO493 := bV_ HO493 hb; replace BK465 := bb_ BK465 hb; replace BK478 := bb_ BK478 hb; replace HB := bs_ hb; (try clear hb); refine hK.out _ _ (kq8_ BK478 (cq8_ BK465)) (fun hHeld => ?_); clear hK K; refine nA ?_; refine pA 25 52 35 67108863 ?_; refine pA 26 53 35 134217727 ?_; refine pA 27 54 35 268435455 ?_; refine uA 28 55 35 536870911 ?_; refine uA 29 56 35 1073741823 ?_; refine uA 30 57 35 2147483647 ?_; refine uA 31 58 35 4294967295 ?_; refine uA 32 59 35 8589934591 ?_; refine uA 33 60 35 17179869183 ?_; refine pA 34 61 35 34359738367 ?_; refine done_ (done_of HT_.out (by kernel_rfl)) ?_; (try go_wp2); go_meet
         case rel => exact ⟨_, (true), rf_, H', ⟨by first | omega | exact Nat.le_refl _⟩, ⟨fxV_ HO477.out⟩, ⟨bl_ BK465.out⟩, ⟨bl_ BK478.out⟩, ⟨hs_⟩⟩
        ·rw [if_neg c40] at H
         have c40b0 := decide_eq_false c40; clear c40; obtain ⟨t498, A50, H⟩ := bi_ H; obtain ⟨t499, A51, H⟩ := bi_ H; have H' := A_ H; clear H; (try go_wp2); replace HO477 := A_ (Kd.V_drew HO477.out); replace BK465 := A_ (blk_drew BK465.out); replace BK478 := A_ (blk_drew BK478.out); replace HB := A_ (below_drew1 HB.out); refine start_ (n := 35) (S := fun w' => K8 w' gb478 (.int .i64 t468) (.int .i64 t469) (.string t470) (.string t471) (.string t472) (.bool t473) (.bool t474) (.slice Ao18 t475.length co18) (C8 w' gb465 (.int .i64 a0_0) (.int .i64 a0_1) (.string a0_2) (.string a0_3) (.string a0_4) (.bool a0_5) (.bool a0_6) (.slice A0_7 l0_7.length c0_7))) (ds := []) (ab 35 0) (by kernel_rfl) rfl rfl (kq8_ BK478 (cq8_ BK465)) (fun hHeld => ?_); refine with_tabW lustrumlaw12_CanonOnce.tab7 lustrumlaw12_CanonOnce.bits7 (fun HT_ HW_ => ?_); generalize w20.drew = w52 at HO477 BK465 BK478 HB hHeld ⊢; refine tB 0 27 35 1 ?_; refine oA 1 (some 28) 35 3 fun K hK => ?_; refine gS Try.func18 #[.agg (n8_ t468 t469 t470 t471 t472 t473 t474 (.slice Ao18 t475.length co18))] ?_; (with_reducible refine (tree_Sane.calls k t468 t469 t470 t471 t472 t473 t474 _ _ t475 true _ ?side1 ?side2 A21.out).mono ?_)
         (case side1 => exact cr_ (Kd.V_reads' HO477.out).2.2)
         (case side2 => exact (Kd.V_reads' HO477.out).2.1)
         rintro e w53 ⟨rfl, hb⟩; refine ⟨_, rfl, ?_⟩; replace HO477 := bV_ HO477 hb; replace BK465 := bb_ BK465 hb; replace BK478 := bb_ BK478 hb; replace HB := bs_ hb; (try clear hb); refine hK.out _ _ (kq8_ BK478 (cq8_ BK465)) (fun hHeld => ?_); clear hK K; refine nA ?_; refine pA 2 29 35 7 ?_; refine pA 3 30 35 15 ?_; refine tB 4 31 35 31 ?_; refine oA 5 (some 32) 35 63 fun K hK => ?_; refine gS Try.func42 #[.agg (n8_ t468 t469 t470 t471 t472 t473 t474 (.slice Ao18 t475.length co18))] ?_; (with_reducible refine (canon_Is.calls k t468 t469 t470 t471 t472 t473 t474 _ _ t475 true _ ?side1 ?side2 A23.out).mono ?_)
         (case side1 => exact cr_ (Kd.V_reads' HO477.out).2.2)
         (case side2 => exact (Kd.V_reads' HO477.out).2.1)
         rintro e w54 ⟨rfl, hb⟩; refine ⟨_, rfl, ?_⟩; replace HO477 := bV_ HO477 hb; replace BK465 := bb_ BK465 hb; replace BK478 := bb_ BK478 hb; replace HB := bs_ hb; (try clear hb); refine hK.out _ _ (kq8_ BK478 (cq8_ BK465)) (fun hHeld => ?_); clear hK K; refine nA ?_; refine pA 6 33 35 127 ?_; refine pA 7 34 35 255 ?_; refine pA 8 35 35 511 ?_; refine tB 9 36 35 1023 ?_; refine tB 11 38 35 3071 ?_; refine oA 10 (some 37) 35 4095 fun K hK => ?_; refine gS Try.func40 #[.agg (n8_ t468 t469 t470 t471 t472 t473 t474 (.slice Ao18 t475.length co18))] ?_; (with_reducible refine (canon_Canon.calls k t468 t469 t470 t471 t472 t473 t474 (fun k_ => (k_ ≠ gb465 ∧ k_ ≠ gb478)) _ _ t475 t484 t485 t486 t487 t488 t489 t490 t491 _ ?side1 A25.out).mono ?_)
         (case side1 => exact HO477.out)
         rintro e w55 ⟨v492, rfl, ho0, hb⟩; refine ⟨_, rfl, ?_⟩; replace HO477 := bV_ HO477 hb; have HO493 := A_ (Kd.V_lower (Kd.V_mono (ok' := fun k_ => k_ ≠ gb465 ∧ k_ ≠ gb478) ho0 (fun k_ hk_ => ⟨hk_.elim (·.1) (fb_ BK465 k_), hk_.elim (·.2) (fb_ BK478 k_)⟩)) (below_size hs_)); replace BK465 := bb_ BK465 hb; replace BK478 := bb_ BK478 hb; replace HB := bs_ hb; (try clear hb); (try clear ho0); obtain ⟨Ao56, co56, eo56⟩ := Kd.V_slice HO493.out; (first | subst eo56 | (injection eo56 with f1_ f2_ f3_; have f4_ := f1_.symm; have f5_ := f3_.symm; clear f1_ f2_ f3_; subst f4_; subst f5_)); refine hK.out _ _ (kq8_ BK478 (cq8_ BK465)) (fun hHeld => ?_); clear hK K; refine nA ?_; refine oA 12 (some 39) 35 8191 fun K hK => ?_; refine gS Try.func26 #[.agg (n8_ t484 t485 t486 t487 t488 t489 t490 (.slice Ao56 t491.length co56)), .agg (n8_ t468 t469 t470 t471 t472 t473 t474 (.slice Ao18 t475.length co18))] ?_; (with_reducible refine (tree_Same.calls k t484 t485 t486 t487 t488 t489 t490 _ _ t491 t468 t469 t470 t471 t472 t473 t474 _ _ t475 true _ ?side1 ?side2 ?side3 ?side4 A26.out).mono ?_)
         (case side1 => exact cr_ (Kd.V_reads' HO493.out).2.2)
         (case side2 => exact (Kd.V_reads' HO493.out).2.1)
         (case side3 => exact cr_ (Kd.V_reads' HO477.out).2.2)
         (case side4 => exact (Kd.V_reads' HO477.out).2.1)
         rintro e w57 ⟨rfl, hb⟩; refine ⟨_, rfl, ?_⟩; replace HO477 := bV_ HO477 hb; replace HO493 := bV_ HO493 hb; replace BK465 := bb_ BK465 hb; replace BK478 := bb_ BK478 hb; replace HB := bs_ hb; (try clear hb); refine hK.out _ _ (kq8_ BK478 (cq8_ BK465)) (fun hHeld => ?_); clear hK K; refine nA ?_; refine pA 13 40 35 16383 ?_; refine pA 14 41 35 32767 ?_; refine pA 15 42 35 65535 ?_; refine tB 16 43 35 131071 ?_; refine tB 18 45 35 393215 ?_; refine oA 17 (some 44) 35 524287 fun K hK => ?_; refine gS Try.func22 #[.agg (n8_ t468 t469 t470 t471 t472 t473 t474 (.slice Ao18 t475.length co18))] ?_; (with_reducible refine (tree_Count.calls k t468 t469 t470 t471 t472 t473 t474 _ _ t475 t495 _ ?side1 ?side2 A28.out).mono ?_)
         (case side1 => exact cr_ (Kd.V_reads' HO477.out).2.2)
         (case side2 => exact (Kd.V_reads' HO477.out).2.1)
         rintro e w58 ⟨rfl, hb⟩; refine ⟨_, rfl, ?_⟩; replace HO477 := bV_ HO477 hb; replace HO493 := bV_ HO493 hb; replace BK465 := bb_ BK465 hb; replace BK478 := bb_ BK478 hb; replace HB := bs_ hb; (try clear hb); refine hK.out _ _ (kq8_ BK478 (cq8_ BK465)) (fun hHeld => ?_); clear hK K; refine nA ?_; refine oA 19 (some 46) 35 1048575 fun K hK => ?_; refine gS Try.func22 #[.agg (n8_ a0_0 a0_1 a0_2 a0_3 a0_4 a0_5 a0_6 (.slice A0_7 l0_7.length c0_7))] ?_; (with_reducible refine (tree_Count.calls k a0_0 a0_1 a0_2 a0_3 a0_4 a0_5 a0_6 _ _ l0_7 t496 _ ?side1 ?side2 A29.out).mono ?_)
         (case side1 => exact cb_ HR0_7)
         (case side2 => exact HC0_7.out)
         rintro e w59 ⟨rfl, hb⟩; refine ⟨_, rfl, ?_⟩; replace HO477 := bV_ HO477 hb; replace HO493 := bV_ HO493 hb; replace BK465 := bb_ BK465 hb; replace BK478 := bb_ BK478 hb; replace HB := bs_ hb; (try clear hb); refine hK.out _ _ (kq8_ BK478 (cq8_ BK465)) (fun hHeld => ?_); clear hK K; refine nA ?_; refine pA 20 47 35 2097151 ?_; refine pA 21 48 35 4194303 ?_; refine pA 22 49 35 8388607 ?_; refine tB 23 50 35 16777215 ?_; refine oA 24 (some 51) 35 33554431 fun K hK => ?_; refine gS Try.func24 #[.agg (n8_ t468 t469 t470 t471 t472 t473 t474 (.slice Ao18 t475.length co18))] ?_; (with_reducible refine (tree_Deep.calls k t468 t469 t470 t471 t472 t473 t474 _ _ t475 t497 _ ?side1 ?side2 A39.out).mono ?_)
         (case side1 => exact cr_ (Kd.V_reads' HO477.out).2.2)
         (case side2 => exact (Kd.V_reads' HO477.out).2.1)
         rintro e w60 ⟨rfl, hb⟩; refine ⟨_, rfl, ?_⟩; replace HO477 := bV_ HO477 hb; replace HO493 := bV_ HO493 hb; replace BK465 := bb_ BK465 hb; replace BK478 := bb_ BK478 hb; replace HB := bs_ hb; (try clear hb); refine hK.out _ _ (kq8_ BK478 (cq8_ BK465)) (fun hHeld => ?_); clear hK K; refine nA ?_; refine pA 25 52 35 67108863 ?_; refine pA 26 53 35 134217727 ?_; refine pA 27 54 35 268435455 ?_; refine tB 28 55 35 536870911 ?_; refine tB 30 57 35 1610612735 ?_; refine tB 31 58 35 3758096383 ?_; refine oA 29 (some 56) 35 4294967295 fun K hK => ?_; refine gS Try.func42 #[.agg (n8_ a0_0 a0_1 a0_2 a0_3 a0_4 a0_5 a0_6 (.slice A0_7 l0_7.length c0_7))] ?_; (with_reducible refine (canon_Is.calls k a0_0 a0_1 a0_2 a0_3 a0_4 a0_5 a0_6 _ _ l0_7 t498 _ ?side1 ?side2 A50.out).mono ?_)
         (case side1 => exact cb_ HR0_7)
         (case side2 => exact HC0_7.out)
         rintro e w61 ⟨rfl, hb⟩; refine ⟨_, rfl, ?_⟩; replace HO477 := bV_ HO477 hb; replace HO493 := bV_ HO493 hb; replace BK465 := bb_ BK465 hb; replace BK478 := bb_ BK478 hb; replace HB := bs_ hb; (try clear hb); refine hK.out _ _ (kq8_ BK478 (cq8_ BK465)) (fun hHeld => ?_); clear hK K; refine nA ?_; refine oA 32 (some 59) 35 8589934591 fun K hK => ?_; refine gS Try.func26 #[.agg (n8_ t468 t469 t470 t471 t472 t473 t474 (.slice Ao18 t475.length co18)), .agg (n8_ a0_0 a0_1 a0_2 a0_3 a0_4 a0_5 a0_6 (.slice A0_7 l0_7.length c0_7))] ?_; (with_reducible refine (tree_Same.calls k t468 t469 t470 t471 t472 t473 t474 _ _ t475 a0_0 a0_1 a0_2 a0_3 a0_4 a0_5 a0_6 _ _ l0_7 t499 _ ?side1 ?side2 ?side3 ?side4 A51.out).mono ?_)
         (case side1 => exact cr_ (Kd.V_reads' HO477.out).2.2)
         (case side2 => exact (Kd.V_reads' HO477.out).2.1)
         (case side3 => exact cb_ HR0_7)
         (case side4 => exact HC0_7.out)
         rintro e w62 ⟨rfl, hb⟩; refine ⟨_, rfl, ?_⟩; replace HO477 := bV_ HO477 hb; replace HO493 := bV_ HO493 hb; replace BK465 := bb_ BK465 hb; replace BK478 := bb_ BK478 hb; replace HB := bs_ hb; (try clear hb); refine hK.out _ _ (kq8_ BK478 (cq8_ BK465)) (fun hHeld => ?_); clear hK K; refine nA ?_; refine pA 33 60 35 17179869183 ?_; refine pA 34 61 35 34359738367 ?_; refine done_ (done_of HT_.out (by kernel_rfl)) ?_; (try go_wp2); go_meet
         case rel => exact ⟨_, ((t498 != t499)), rf_, H', ⟨by first | omega | exact Nat.le_refl _⟩, ⟨fxV_ HO477.out⟩, ⟨bl_ BK465.out⟩, ⟨bl_ BK478.out⟩, ⟨hs_⟩⟩
      ·replace c27 := Bool.eq_false_iff.mpr c27
       subst c27; replace H := iN_ H; have H' := A_ H; clear H; (try go_wp2); replace HO477 := A_ (Kd.V_drew HO477.out); replace BK465 := A_ (blk_drew BK465.out); replace BK478 := A_ (blk_drew BK478.out); replace HB := A_ (below_drew1 HB.out); refine start_ (n := 35) (S := fun w' => C8 w' gb478 (.int .i64 t468) (.int .i64 t469) (.string t470) (.string t471) (.string t472) (.bool t473) (.bool t474) (.slice Ao18 t475.length co18)) (ds := []) (ab 35 0) (by kernel_rfl) rfl rfl (cq8_ BK478) (fun hHeld => ?_); refine with_tabW lustrumlaw12_CanonOnce.tab7 lustrumlaw12_CanonOnce.bits7 (fun HT_ HW_ => ?_); generalize w20.drew = w63 at HO477 BK465 BK478 HB hHeld ⊢; refine tB 0 27 35 1 ?_; refine oA 1 (some 28) 35 3 fun K hK => ?_; refine gS Try.func18 #[.agg (n8_ t468 t469 t470 t471 t472 t473 t474 (.slice Ao18 t475.length co18))] ?_; (with_reducible refine (tree_Sane.calls k t468 t469 t470 t471 t472 t473 t474 _ _ t475 true _ ?side1 ?side2 A21.out).mono ?_)
       (case side1 => exact cr_ (Kd.V_reads' HO477.out).2.2)
       (case side2 => exact (Kd.V_reads' HO477.out).2.1)
       rintro e w64 ⟨rfl, hb⟩; refine ⟨_, rfl, ?_⟩; replace HO477 := bV_ HO477 hb; replace BK465 := bb_ BK465 hb; replace BK478 := bb_ BK478 hb; replace HB := bs_ hb; (try clear hb); refine hK.out _ _ (cq8_ BK478) (fun hHeld => ?_); clear hK K; refine nA ?_; refine pA 2 29 35 7 ?_; refine pA 3 30 35 15 ?_; refine tB 4 31 35 31 ?_; refine oA 5 (some 32) 35 63 fun K hK => ?_; refine gS Try.func42 #[.agg (n8_ t468 t469 t470 t471 t472 t473 t474 (.slice Ao18 t475.length co18))] ?_; (with_reducible refine (canon_Is.calls k t468 t469 t470 t471 t472 t473 t474 _ _ t475 true _ ?side1 ?side2 A23.out).mono ?_)
       (case side1 => exact cr_ (Kd.V_reads' HO477.out).2.2)
       (case side2 => exact (Kd.V_reads' HO477.out).2.1)
       rintro e w65 ⟨rfl, hb⟩; refine ⟨_, rfl, ?_⟩; replace HO477 := bV_ HO477 hb; replace BK465 := bb_ BK465 hb; replace BK478 := bb_ BK478 hb; replace HB := bs_ hb; (try clear hb); refine hK.out _ _ (cq8_ BK478) (fun hHeld => ?_); clear hK K; refine nA ?_; refine pA 6 33 35 127 ?_; refine pA 7 34 35 255 ?_; refine pA 8 35 35 511 ?_; refine tB 9 36 35 1023 ?_; refine tB 11 38 35 3071 ?_; refine oA 10 (some 37) 35 4095 fun K hK => ?_; refine gS Try.func40 #[.agg (n8_ t468 t469 t470 t471 t472 t473 t474 (.slice Ao18 t475.length co18))] ?_; (with_reducible refine (canon_Canon.calls k t468 t469 t470 t471 t472 t473 t474 (fun k_ => (k_ ≠ gb465 ∧ k_ ≠ gb478)) _ _ t475 t484 t485 t486 t487 t488 t489 t490 t491 _ ?side1 A25.out).mono ?_)
       (case side1 => exact HO477.out)
       rintro e w66 ⟨v492, rfl, ho0, hb⟩; refine ⟨_, rfl, ?_⟩; replace HO477 := bV_ HO477 hb; have HO493 := A_ (Kd.V_lower (Kd.V_mono (ok' := fun k_ => k_ ≠ gb465 ∧ k_ ≠ gb478) ho0 (fun k_ hk_ => ⟨hk_.elim (·.1) (fb_ BK465 k_), hk_.elim (·.2) (fb_ BK478 k_)⟩)) (below_size hs_)); replace BK465 := bb_ BK465 hb; replace BK478 := bb_ BK478 hb; replace HB := bs_ hb; (try clear hb); (try clear ho0); obtain ⟨Ao67, co67, eo67⟩ := Kd.V_slice HO493.out; (first | subst eo67 | (injection eo67 with f1_ f2_ f3_; have f4_ := f1_.symm; have f5_ := f3_.symm; clear f1_ f2_ f3_; subst f4_; subst f5_)); refine hK.out _ _ (cq8_ BK478) (fun hHeld => ?_); clear hK K; refine nA ?_; refine oA 12 (some 39) 35 8191 fun K hK => ?_; refine gS Try.func26 #[.agg (n8_ t484 t485 t486 t487 t488 t489 t490 (.slice Ao67 t491.length co67)), .agg (n8_ t468 t469 t470 t471 t472 t473 t474 (.slice Ao18 t475.length co18))] ?_; (with_reducible refine (tree_Same.calls k t484 t485 t486 t487 t488 t489 t490 _ _ t491 t468 t469 t470 t471 t472 t473 t474 _ _ t475 false _ ?side1 ?side2 ?side3 ?side4 A26.out).mono ?_)
       (case side1 => exact cr_ (Kd.V_reads' HO493.out).2.2)
       (case side2 => exact (Kd.V_reads' HO493.out).2.1)
       (case side3 => exact cr_ (Kd.V_reads' HO477.out).2.2)
       (case side4 => exact (Kd.V_reads' HO477.out).2.1)
       rintro e w68 ⟨rfl, hb⟩; refine ⟨_, rfl, ?_⟩; replace HO477 := bV_ HO477 hb; replace HO493 := bV_ HO493 hb; replace BK465 := bb_ BK465 hb; replace BK478 := bb_ BK478 hb; replace HB := bs_ hb; (try clear hb); refine hK.out _ _ (cq8_ BK478) (fun hHeld => ?_); clear hK K; refine nA ?_; refine pA 13 40 35 16383 ?_; refine pA 14 41 35 32767 ?_; refine pA 15 42 35 65535 ?_; refine uA 16 43 35 131071 ?_; refine uA 17 44 35 262143 ?_; refine uA 18 45 35 524287 ?_; refine uA 19 46 35 1048575 ?_; refine uA 20 47 35 2097151 ?_; refine pA 21 48 35 4194303 ?_; refine pA 22 49 35 8388607 ?_; refine uA 23 50 35 16777215 ?_; refine uA 24 51 35 33554431 ?_; refine uA 25 52 35 67108863 ?_; refine pA 26 53 35 134217727 ?_; refine pA 27 54 35 268435455 ?_; refine uA 28 55 35 536870911 ?_; refine uA 29 56 35 1073741823 ?_; refine uA 30 57 35 2147483647 ?_; refine uA 31 58 35 4294967295 ?_; refine uA 32 59 35 8589934591 ?_; refine uA 33 60 35 17179869183 ?_; refine pA 34 61 35 34359738367 ?_; refine done_ (done_of HT_.out (by kernel_rfl)) ?_; (try go_wp2); go_meet
       case rel => exact ⟨_, (true), rf_, H', ⟨by first | omega | exact Nat.le_refl _⟩, ⟨fxV_ HO477.out⟩, ⟨bl_ BK465.out⟩, ⟨bl_ BK478.out⟩, ⟨hs_⟩⟩
     ·replace c24 := Bool.eq_false_iff.mpr c24
      subst c24; replace H := iN_ H; have H' := A_ H; clear H; (try go_wp2); replace HO477 := A_ (Kd.V_drew HO477.out); replace BK465 := A_ (blk_drew BK465.out); replace BK478 := A_ (blk_drew BK478.out); replace HB := A_ (below_drew1 HB.out); refine start_ (n := 35) (S := fun w' => C8 w' gb478 (.int .i64 t468) (.int .i64 t469) (.string t470) (.string t471) (.string t472) (.bool t473) (.bool t474) (.slice Ao18 t475.length co18)) (ds := []) (ab 35 0) (by kernel_rfl) rfl rfl (cq8_ BK478) (fun hHeld => ?_); refine with_tabW lustrumlaw12_CanonOnce.tab7 lustrumlaw12_CanonOnce.bits7 (fun HT_ HW_ => ?_); generalize w20.drew = w69 at HO477 BK465 BK478 HB hHeld ⊢; refine tB 0 27 35 1 ?_; refine oA 1 (some 28) 35 3 fun K hK => ?_; refine gS Try.func18 #[.agg (n8_ t468 t469 t470 t471 t472 t473 t474 (.slice Ao18 t475.length co18))] ?_; (with_reducible refine (tree_Sane.calls k t468 t469 t470 t471 t472 t473 t474 _ _ t475 true _ ?side1 ?side2 A21.out).mono ?_)
      (case side1 => exact cr_ (Kd.V_reads' HO477.out).2.2)
      (case side2 => exact (Kd.V_reads' HO477.out).2.1)
      rintro e w70 ⟨rfl, hb⟩; refine ⟨_, rfl, ?_⟩; replace HO477 := bV_ HO477 hb; replace BK465 := bb_ BK465 hb; replace BK478 := bb_ BK478 hb; replace HB := bs_ hb; (try clear hb); refine hK.out _ _ (cq8_ BK478) (fun hHeld => ?_); clear hK K; refine nA ?_; refine pA 2 29 35 7 ?_; refine pA 3 30 35 15 ?_; refine tB 4 31 35 31 ?_; refine oA 5 (some 32) 35 63 fun K hK => ?_; refine gS Try.func42 #[.agg (n8_ t468 t469 t470 t471 t472 t473 t474 (.slice Ao18 t475.length co18))] ?_; (with_reducible refine (canon_Is.calls k t468 t469 t470 t471 t472 t473 t474 _ _ t475 false _ ?side1 ?side2 A23.out).mono ?_)
      (case side1 => exact cr_ (Kd.V_reads' HO477.out).2.2)
      (case side2 => exact (Kd.V_reads' HO477.out).2.1)
      rintro e w71 ⟨rfl, hb⟩; refine ⟨_, rfl, ?_⟩; replace HO477 := bV_ HO477 hb; replace BK465 := bb_ BK465 hb; replace BK478 := bb_ BK478 hb; replace HB := bs_ hb; (try clear hb); refine hK.out _ _ (cq8_ BK478) (fun hHeld => ?_); clear hK K; refine nA ?_; refine pA 6 33 35 127 ?_; refine pA 7 34 35 255 ?_; refine pA 8 35 35 511 ?_; refine uA 9 36 35 1023 ?_; refine uA 10 37 35 2047 ?_; refine uA 11 38 35 4095 ?_; refine uA 12 39 35 8191 ?_; refine uA 13 40 35 16383 ?_; refine pA 14 41 35 32767 ?_; refine pA 15 42 35 65535 ?_; refine uA 16 43 35 131071 ?_; refine uA 17 44 35 262143 ?_; refine uA 18 45 35 524287 ?_; refine uA 19 46 35 1048575 ?_; refine uA 20 47 35 2097151 ?_; refine pA 21 48 35 4194303 ?_; refine pA 22 49 35 8388607 ?_; refine uA 23 50 35 16777215 ?_; refine uA 24 51 35 33554431 ?_; refine uA 25 52 35 67108863 ?_; refine pA 26 53 35 134217727 ?_; refine pA 27 54 35 268435455 ?_; refine uA 28 55 35 536870911 ?_; refine uA 29 56 35 1073741823 ?_; refine uA 30 57 35 2147483647 ?_; refine uA 31 58 35 4294967295 ?_; refine uA 32 59 35 8589934591 ?_; refine uA 33 60 35 17179869183 ?_; refine pA 34 61 35 34359738367 ?_; refine done_ (done_of HT_.out (by kernel_rfl)) ?_; (try go_wp2); go_meet
      case rel => exact ⟨_, (true), rf_, H', ⟨by first | omega | exact Nat.le_refl _⟩, ⟨fxV_ HO477.out⟩, ⟨bl_ BK465.out⟩, ⟨bl_ BK478.out⟩, ⟨hs_⟩⟩
    ·replace c22 := Bool.eq_false_iff.mpr c22
     subst c22; replace H := iN_ H; have H' := A_ H; clear H; (try go_wp2); replace HO477 := A_ (Kd.V_drew HO477.out); replace BK465 := A_ (blk_drew BK465.out); replace BK478 := A_ (blk_drew BK478.out); replace HB := A_ (below_drew1 HB.out); refine start_ (n := 35) (S := fun w' => C8 w' gb478 (.int .i64 t468) (.int .i64 t469) (.string t470) (.string t471) (.string t472) (.bool t473) (.bool t474) (.slice Ao18 t475.length co18)) (ds := []) (ab 35 0) (by kernel_rfl) rfl rfl (cq8_ BK478) (fun hHeld => ?_); refine with_tabW lustrumlaw12_CanonOnce.tab7 lustrumlaw12_CanonOnce.bits7 (fun HT_ HW_ => ?_); generalize w20.drew = w72 at HO477 BK465 BK478 HB hHeld ⊢; refine tB 0 27 35 1 ?_; refine oA 1 (some 28) 35 3 fun K hK => ?_; refine gS Try.func18 #[.agg (n8_ t468 t469 t470 t471 t472 t473 t474 (.slice Ao18 t475.length co18))] ?_; (with_reducible refine (tree_Sane.calls k t468 t469 t470 t471 t472 t473 t474 _ _ t475 false _ ?side1 ?side2 A21.out).mono ?_)
     (case side1 => exact cr_ (Kd.V_reads' HO477.out).2.2)
     (case side2 => exact (Kd.V_reads' HO477.out).2.1)
     rintro e w73 ⟨rfl, hb⟩; refine ⟨_, rfl, ?_⟩; replace HO477 := bV_ HO477 hb; replace BK465 := bb_ BK465 hb; replace BK478 := bb_ BK478 hb; replace HB := bs_ hb; (try clear hb); refine hK.out _ _ (cq8_ BK478) (fun hHeld => ?_); clear hK K; refine nA ?_; refine pA 2 29 35 7 ?_; refine pA 3 30 35 15 ?_; refine uA 4 31 35 31 ?_; refine uA 5 32 35 63 ?_; refine uA 6 33 35 127 ?_; refine pA 7 34 35 255 ?_; refine pA 8 35 35 511 ?_; refine uA 9 36 35 1023 ?_; refine uA 10 37 35 2047 ?_; refine uA 11 38 35 4095 ?_; refine uA 12 39 35 8191 ?_; refine uA 13 40 35 16383 ?_; refine pA 14 41 35 32767 ?_; refine pA 15 42 35 65535 ?_; refine uA 16 43 35 131071 ?_; refine uA 17 44 35 262143 ?_; refine uA 18 45 35 524287 ?_; refine uA 19 46 35 1048575 ?_; refine uA 20 47 35 2097151 ?_; refine pA 21 48 35 4194303 ?_; refine pA 22 49 35 8388607 ?_; refine uA 23 50 35 16777215 ?_; refine uA 24 51 35 33554431 ?_; refine uA 25 52 35 67108863 ?_; refine pA 26 53 35 134217727 ?_; refine pA 27 54 35 268435455 ?_; refine uA 28 55 35 536870911 ?_; refine uA 29 56 35 1073741823 ?_; refine uA 30 57 35 2147483647 ?_; refine uA 31 58 35 4294967295 ?_; refine uA 32 59 35 8589934591 ?_; refine uA 33 60 35 17179869183 ?_; refine pA 34 61 35 34359738367 ?_; refine done_ (done_of HT_.out (by kernel_rfl)) ?_; (try go_wp2); go_meet
     case rel => exact ⟨_, (true), rf_, H', ⟨by first | omega | exact Nat.le_refl _⟩, ⟨fxV_ HO477.out⟩, ⟨bl_ BK465.out⟩, ⟨bl_ BK478.out⟩, ⟨hs_⟩⟩
   case rest =>
    clear HC8; (try clear c1); (try clear c2); (try clear p2); (try clear c4); (try clear c18); (try clear c22); (try clear c24); (try clear c42); obtain ⟨kq, x61_7, rfl, HA, HJ7, HO_479007, BK465, BK478, HB⟩ := hcut
    cases kq with
    | zero => exact absurd HA.out (by simp [lustrumlaw12_CanonOnce.j0])
    | succ kj7 =>
     have H := HA.out; clear HA; simp only [lustrumlaw12_CanonOnce.j0] at H
     by_cases c74 : x61_7 = true
     ·subst c74
      replace H := iP_ H; exact absurd ((Option.some.inj H).trans hrT_) (by decide)
     ·replace c74 := Bool.eq_false_iff.mpr c74
      subst c74; replace H := iN_ H; have HC75 := A_ H; clear H; go_upto_region 9 with (fail); go_cut [70] (fun v70 wc => ∃ (kq : Nat) (x70_74 : Bool), v70 = .bool x70_74 ∧ Aside0 (lustrumlaw12_CanonOnce.j1 kq t466 x70_74 t468 t469 t470 t471 t472 t473 t474 t475 = some r) ∧ Aside0 (kq ≤ kj7) ∧ Aside0 (Kd.V k26 26 wc w.heap.size (fun k_ => k_ ≠ gb465 ∧ k_ ≠ gb478) (.slice Ao18 t475.length co18) t475) ∧ Aside0 (wc.heap[gb465]? = some (.cells #[.int .i64 a0_0, .int .i64 a0_1, .string a0_2, .string a0_3, .string a0_4, .bool a0_5, .bool a0_6, (.slice A0_7 l0_7.length c0_7)] 26 (0, 0))) ∧ Aside0 (wc.heap[gb478]? = some (.cells #[.int .i64 t468, .int .i64 t469, .string t470, .string t471, .string t472, .bool t473, .bool t474, (.slice Ao18 t475.length co18)] 26 (0, 0))) ∧ Aside0 (Below w.heap.size w wc))
      case first =>
       have H := HC75.out; clear HC75
       by_cases c76 : t468 = 2
       ·rw [if_pos c76] at H
        have c76b0 : (t468 == 2) = true := beq_iff_eq.mpr c76; have c76b1 : (t468 != 2) = false := bne_eq_false_iff_eq.mpr c76; clear c76; (first | rw [c76b0] | (simp only [i64_w, i32_w]; rw [c76b0]) | skip); have H' := A_ H; clear H; have hnb77 := NB478_465.out; have hnc77 := NB465_478.out; have Z78 := bz8_ BK478; go_wp2; go_meet
        case rel => exact ⟨_, (decide ((t475.length : Int) < 2)), rf_, H', ⟨by have := HJ7.out; first | omega | exact Nat.le_refl _⟩, ⟨fxV_ HO_479007.out⟩, ⟨bl_ BK465.out⟩, ⟨bl_ BK478.out⟩, ⟨hs_⟩⟩
       ·rw [if_neg c76] at H
        have c76b0 : (t468 == 2) = false := beq_eq_false_iff_ne.mpr c76; have c76b1 : (t468 != 2) = true := bne_iff_ne.mpr c76; (first | rw [c76b0] | (simp only [i64_w, i32_w]; rw [c76b0]) | skip); have H' := A_ H; clear H; have hnb79 := NB478_465.out; have hnc79 := NB465_478.out; have Z80 := bz8_ BK478; go_wp2; go_meet
        case rel => exact ⟨_, (false), rf_, H', ⟨by have := HJ7.out; first | omega | exact Nat.le_refl _⟩, ⟨fxV_ HO_479007.out⟩, ⟨bl_ BK465.out⟩, ⟨bl_ BK478.out⟩, ⟨hs_⟩⟩
      case rest =>
       clear HC75; (try clear c1); (try clear c2); (try clear p2); (try clear c4); (try clear c7); (try clear c18); (try clear c22); (try clear c24); (try clear c42); (try clear c74); (try clear c76); (try clear c76b0); (try clear c76b1); (try clear c77); (try clear c79); (try clear Z78); (try clear Z80); (try clear p2); obtain ⟨kq, x70_74, rfl, HA, HJ74, HO_479007, BK465, BK478, HB⟩ := hcut
       cases kq with
       | zero => exact absurd HA.out (by simp [lustrumlaw12_CanonOnce.j1])
       | succ kj74 =>
        have H := HA.out; clear HA; simp only [lustrumlaw12_CanonOnce.j1] at H
        by_cases c81 : x70_74 = true
        ·subst c81
         replace H := iP_ H; exact absurd ((Option.some.inj H).trans hrT_) (by decide)
        ·replace c81 := Bool.eq_false_iff.mpr c81
         subst c81; replace H := iN_ H; have H' := A_ H; clear H; go_wp2; go_loopg [5] kj74 (fun kq v5 w' => ∃ (x5_3 : Int), v5 = .int .i64 x5_3 ∧ Aside0 (lustrumlaw12_CanonOnce.l0 kq t466 x5_3 t468 t469 t470 t471 t472 t473 t474 t475 = some r) ∧ Aside0 (kq ≤ kj74) ∧ Aside0 (Kd.V k26 26 w' w.heap.size (fun k_ => k_ ≠ gb465 ∧ k_ ≠ gb478) (.slice Ao18 t475.length co18) t475) ∧ Aside0 (w'.heap[gb465]? = some (.cells #[.int .i64 a0_0, .int .i64 a0_1, .string a0_2, .string a0_3, .string a0_4, .bool a0_5, .bool a0_6, (.slice A0_7 l0_7.length c0_7)] 26 (0, 0))) ∧ Aside0 (w'.heap[gb478]? = some (.cells #[.int .i64 t468, .int .i64 t469, .string t470, .string t471, .string t472, .bool t473, .bool t474, (.slice Ao18 t475.length co18)] 26 (0, 0))) ∧ Aside0 (Below w.heap.size w w'))
         case atStart => exact ⟨(1), rf_, H', ⟨Nat.le_refl _⟩, ⟨fxV_ HO_479007.out⟩, ⟨bl_ BK465.out⟩, ⟨bl_ BK478.out⟩, ⟨hs_⟩⟩
         case round =>
          clear H'; (try clear c1); (try clear c2); (try clear p2); (try clear c4); (try clear c7); (try clear c8); (try clear c18); (try clear c22); (try clear c24); (try clear c42); (try clear c74); (try clear c76); (try clear c76b0); (try clear c76b1); (try clear c77); (try clear c79); (try clear c81); (try clear Z78); (try clear Z80); (try clear p2); obtain ⟨x5_3, rfl, HA, HK3, HO_479007, BK465, BK478, HB⟩ := hrel
          cases gk with
          | zero => exact absurd HA.out (by simp [lustrumlaw12_CanonOnce.l0])
          | succ k3 =>
           have H := HA.out; clear HA; simp only [lustrumlaw12_CanonOnce.l0] at H; have HC82 := A_ H; clear H; go_upto_region 12 with (fail); go_cut [80] (fun v80 wc => ∃ (kq : Nat) (x80_81 : Bool), v80 = .bool x80_81 ∧ Aside0 (lustrumlaw12_CanonOnce.j3 kq t466 x5_3 x80_81 t468 t469 t470 t471 t472 t473 t474 t475 = some r) ∧ Aside0 (kq ≤ k3) ∧ Aside0 (Kd.V k26 26 wc w.heap.size (fun k_ => k_ ≠ gb465 ∧ k_ ≠ gb478) (.slice Ao18 t475.length co18) t475) ∧ Aside0 (wc.heap[gb465]? = some (.cells #[.int .i64 a0_0, .int .i64 a0_1, .string a0_2, .string a0_3, .string a0_4, .bool a0_5, .bool a0_6, (.slice A0_7 l0_7.length c0_7)] 26 (0, 0))) ∧ Aside0 (wc.heap[gb478]? = some (.cells #[.int .i64 t468, .int .i64 t469, .string t470, .string t471, .string t472, .bool t473, .bool t474, (.slice Ao18 t475.length co18)] 26 (0, 0))) ∧ Aside0 (Below w.heap.size w wc))
           case first =>
            have H := HC82.out; clear HC82
            by_cases c83 : t468 = 2
            ·rw [if_pos c83] at H
             have c83b0 : (t468 == 2) = true := beq_iff_eq.mpr c83; have c83b1 : (t468 != 2) = false := bne_eq_false_iff_eq.mpr c83; clear c83; (first | rw [c83b0] | (simp only [i64_w, i32_w]; rw [c83b0]) | skip); have H' := A_ H; clear H; have hnb84 := NB478_465.out; have hnc84 := NB465_478.out; have Z85 := bz8_ BK478; go_wp2; go_meet
             case rel => exact ⟨_, (decide (x5_3 < (t475.length : Int))), rf_, H', ⟨by have := HJ7.out; have := HJ74.out; have := HK3.out; first | omega | exact Nat.le_refl _⟩, ⟨fxV_ HO_479007.out⟩, ⟨bl_ BK465.out⟩, ⟨bl_ BK478.out⟩, ⟨hs_⟩⟩
            ·rw [if_neg c83] at H
             have c83b0 : (t468 == 2) = false := beq_eq_false_iff_ne.mpr c83; have c83b1 : (t468 != 2) = true := bne_iff_ne.mpr c83; (first | rw [c83b0] | (simp only [i64_w, i32_w]; rw [c83b0]) | skip); have H' := A_ H; clear H; have hnb86 := NB478_465.out; have hnc86 := NB465_478.out; have Z87 := bz8_ BK478; go_wp2; go_meet
             case rel => exact ⟨_, (false), rf_, H', ⟨by have := HJ7.out; have := HJ74.out; have := HK3.out; first | omega | exact Nat.le_refl _⟩, ⟨fxV_ HO_479007.out⟩, ⟨bl_ BK465.out⟩, ⟨bl_ BK478.out⟩, ⟨hs_⟩⟩
           case rest =>
            clear HC82; (try clear c1); (try clear c2); (try clear p2); (try clear c4); (try clear c7); (try clear c8); (try clear c18); (try clear c22); (try clear c24); (try clear c42); (try clear c74); (try clear c76); (try clear c76b0); (try clear c76b1); (try clear c77); (try clear c79); (try clear c81); (try clear c83); (try clear c83b0); (try clear c83b1); (try clear c84); (try clear c86); (try clear Z78); (try clear Z80); (try clear Z85); (try clear Z87); (try clear p2); obtain ⟨kq, x80_81, rfl, HA, HJ81, HO_479007, BK465, BK478, HB⟩ := hcut
            cases kq with
            | zero => exact absurd HA.out (by simp [lustrumlaw12_CanonOnce.j3])
            | succ kj81 =>
             have H := HA.out; clear HA; simp only [lustrumlaw12_CanonOnce.j3] at H
             by_cases c88 : x80_81 = true
             ·subst c88
              replace H := iP_ H; obtain ⟨ji89, hji89⟩ : ∃ j_ : Int, (wrap64 (x5_3 - 1)) = j_ := ⟨_, rfl⟩; (replace H : (if 0 ≤ (ji89) then (if (ji89) < (t475.length : Int) then ((print_Text.f kj81 ((rd_T26 t475 (ji89)).f0) ((rd_T26 t475 (ji89)).f1.f0) ((rd_T26 t475 (ji89)).f1.f1) ((rd_T26 t475 (ji89)).f1.f2) ((rd_T26 t475 (ji89)).f1.f3) ((rd_T26 t475 (ji89)).f2) ((rd_T26 t475 (ji89)).f3) ((rd_T26 t475 (ji89)).f4)).bind fun t501 => (if 0 ≤ x5_3 then (if x5_3 < (t475.length : Int) then ((print_Text.f kj81 ((rd_T26 t475 x5_3).f0) ((rd_T26 t475 x5_3).f1.f0) ((rd_T26 t475 x5_3).f1.f1) ((rd_T26 t475 x5_3).f1.f2) ((rd_T26 t475 x5_3).f1.f3) ((rd_T26 t475 x5_3).f2) ((rd_T26 t475 x5_3).f3) ((rd_T26 t475 x5_3).f4)).bind fun t503 => (if ((Op.bytesLess t501.toList t503.toList) = true) then (lustrumlaw12_CanonOnce.l0 kj81 t466 (wrap64 (x5_3 + 1)) t468 t469 t470 t471 t472 t473 t474 t475) else (some false))) else (none)) else (none))) else (none)) else (none)) = some r := by first | (rw [hji89] at H; exact H) | (simp only [hji89] at H ⊢; exact H)); have hji89w : (IntKind.i64.wrap (x5_3 - 1)) = ji89 := (i64_w _).trans hji89
              by_cases c90 : 0 ≤ (ji89)
              ·rw [if_pos c90] at H
               have c90b0 := decide_eq_true c90; clear c90
               by_cases c91 : (ji89) < (t475.length : Int)
               ·rw [if_pos c91] at H
                have c91b0 := decide_eq_true c91; clear c91; obtain ⟨t501, A92, H⟩ := bi_ H
                by_cases c93 : 0 ≤ x5_3
                ·rw [if_pos c93] at H
                 have c93b0 := decide_eq_true c93; clear c93
                 by_cases c94 : x5_3 < (t475.length : Int)
                 ·rw [if_pos c94] at H
                  have c94b0 := decide_eq_true c94; clear c94; obtain ⟨t503, A95, H⟩ := bi_ H
                  by_cases c96 : ((Op.bytesLess t501.toList t503.toList) = true)
                  ·rw [if_pos c96] at H
                   have c96b0 : (Op.bytesLess t501.toList t503.toList) = true := c96; clear c96; have H' := A_ H; clear H; (try go_wp2); replace HO_479007 := A_ (Kd.V_drew HO_479007.out); replace BK465 := A_ (blk_drew BK465.out); replace BK478 := A_ (blk_drew BK478.out); replace HB := A_ (below_drew1 HB.out); have p500 : 0 ≤ ((ji89) : Int) := od_; have q500 : (ji89) < (t475.length : Int) := od_; obtain ⟨ad500, A500_7, c500_7, e500, hx500_0, hx500_1, hx500_2, hx500_3, hx500_4, hx500_5, hx500_6, hx500_7, hl500_7, hi500_7⟩ := at_T26 (Kd.V_reads' HO_479007.out).2.2 (ji89) p500 q500
                   cases e500
                   obtain ⟨ce500, hce500, hMe500, hcc500⟩ := Kd.V_get HO_479007.out z26 (ji89) p500 (by first | exact q500 | exact od_ | (have e_ := (Kd.V_reads' HO_479007.out).1; omega)); obtain ⟨ua500_7, uc500_7, rfl, ul500_7, ge500_7⟩ := k26_openF hMe500; have hv500_7 := hcc500 7 _ rfl; rw [add_field _ _ 7 (by omega)] at hv500_7; replace hv500_7 := Option.some.inj (hv500_7.symm.trans hx500_7); injection hv500_7 with hva_ hvn_ hvc_; rw [hva_] at ge500_7; rw [hvc_] at ul500_7; have HL500_7 := A_ (show Kd.V k26 26 _ w.heap.size _ _ ((rd_T26 t475 (ji89)).f4) from Kd.V_mk ul500_7 ge500_7); clear hva_ hvn_ hvc_ ge500_7 ul500_7; clear hcc500 hce500; have HR500_7 := A_ hi500_7; have HC500_7 := A_ hl500_7; clear hi500_7 hl500_7; replace p500 := eq_true p500; replace q500 := eq_true q500; have p502 : 0 ≤ (x5_3 : Int) := od_; have q502 : x5_3 < (t475.length : Int) := od_; obtain ⟨ad502, A502_7, c502_7, e502, hx502_0, hx502_1, hx502_2, hx502_3, hx502_4, hx502_5, hx502_6, hx502_7, hl502_7, hi502_7⟩ := at_T26 (Kd.V_reads' HO_479007.out).2.2 x5_3 p502 q502; obtain rfl : ad500 = ad502 := (by injection e502); obtain ⟨ce502, hce502, hMe502, hcc502⟩ := Kd.V_get HO_479007.out z26 x5_3 p502 (by first | exact q502 | exact od_ | (have e_ := (Kd.V_reads' HO_479007.out).1; omega)); obtain ⟨ua502_7, uc502_7, rfl, ul502_7, ge502_7⟩ := k26_openF hMe502; have hv502_7 := hcc502 7 _ rfl; rw [add_field _ _ 7 (by omega)] at hv502_7; replace hv502_7 := Option.some.inj (hv502_7.symm.trans hx502_7); injection hv502_7 with hva_ hvn_ hvc_; rw [hva_] at ge502_7; rw [hvc_] at ul502_7; have HL502_7 := A_ (show Kd.V k26 26 _ w.heap.size _ _ ((rd_T26 t475 x5_3).f4) from Kd.V_mk ul502_7 ge502_7); clear hva_ hvn_ hvc_ ge502_7 ul502_7; clear hcc502 hce502; have HR502_7 := A_ hi502_7; have HC502_7 := A_ hl502_7; clear hi502_7 hl502_7; replace p502 := eq_true p502; replace q502 := eq_true q502; refine start_ (n := 14) (S := fun w' => K8 w' gb478 (.int .i64 t468) (.int .i64 t469) (.string t470) (.string t471) (.string t472) (.bool t473) (.bool t474) (.slice (some ad500) t475.length co18) (w'.cell? (ad500.add (((ji89)).toNat * 8)) = some (.int .i64 ((rd_T26 t475 (ji89)).f0)) ∧ w'.cell? ⟨(ad500.add (((ji89)).toNat * 8)).block, (ad500.add (((ji89)).toNat * 8)).off + 1, none⟩ = some (.int .i64 ((rd_T26 t475 (ji89)).f1.f0)) ∧ w'.cell? ⟨(ad500.add (((ji89)).toNat * 8)).block, (ad500.add (((ji89)).toNat * 8)).off + 2, none⟩ = some (.string ((rd_T26 t475 (ji89)).f1.f1)) ∧ w'.cell? ⟨(ad500.add (((ji89)).toNat * 8)).block, (ad500.add (((ji89)).toNat * 8)).off + 3, none⟩ = some (.string ((rd_T26 t475 (ji89)).f1.f2)) ∧ w'.cell? ⟨(ad500.add (((ji89)).toNat * 8)).block, (ad500.add (((ji89)).toNat * 8)).off + 4, none⟩ = some (.string ((rd_T26 t475 (ji89)).f1.f3)) ∧ w'.cell? ⟨(ad500.add (((ji89)).toNat * 8)).block, (ad500.add (((ji89)).toNat * 8)).off + 5, none⟩ = some (.bool ((rd_T26 t475 (ji89)).f2)) ∧ w'.cell? ⟨(ad500.add (((ji89)).toNat * 8)).block, (ad500.add (((ji89)).toNat * 8)).off + 6, none⟩ = some (.bool ((rd_T26 t475 (ji89)).f3)) ∧ w'.cell? ⟨(ad500.add (((ji89)).toNat * 8)).block, (ad500.add (((ji89)).toNat * 8)).off + 7, none⟩ = some (.slice A500_7 ((rd_T26 t475 (ji89)).f4).length c500_7) ∧ w'.cell? (ad500.add ((x5_3).toNat * 8)) = some (.int .i64 ((rd_T26 t475 x5_3).f0)) ∧ w'.cell? ⟨(ad500.add ((x5_3).toNat * 8)).block, (ad500.add ((x5_3).toNat * 8)).off + 1, none⟩ = some (.int .i64 ((rd_T26 t475 x5_3).f1.f0)) ∧ w'.cell? ⟨(ad500.add ((x5_3).toNat * 8)).block, (ad500.add ((x5_3).toNat * 8)).off + 2, none⟩ = some (.string ((rd_T26 t475 x5_3).f1.f1)) ∧ w'.cell? ⟨(ad500.add ((x5_3).toNat * 8)).block, (ad500.add ((x5_3).toNat * 8)).off + 3, none⟩ = some (.string ((rd_T26 t475 x5_3).f1.f2)) ∧ w'.cell? ⟨(ad500.add ((x5_3).toNat * 8)).block, (ad500.add ((x5_3).toNat * 8)).off + 4, none⟩ = some (.string ((rd_T26 t475 x5_3).f1.f3)) ∧ w'.cell? ⟨(ad500.add ((x5_3).toNat * 8)).block, (ad500.add ((x5_3).toNat * 8)).off + 5, none⟩ = some (.bool ((rd_T26 t475 x5_3).f2)) ∧ w'.cell? ⟨(ad500.add ((x5_3).toNat * 8)).block, (ad500.add ((x5_3).toNat * 8)).off + 6, none⟩ = some (.bool ((rd_T26 t475 x5_3).f3)) ∧ w'.cell? ⟨(ad500.add ((x5_3).toNat * 8)).block, (ad500.add ((x5_3).toNat * 8)).off + 7, none⟩ = some (.slice A502_7 ((rd_T26 t475 x5_3).f4).length c502_7))) (ds := []) (ab 14 0) (by kernel_rfl) rfl rfl (kq8_ BK478 (⟨hx500_0, hx500_1, hx500_2, hx500_3, hx500_4, hx500_5, hx500_6, hx500_7, hx502_0, hx502_1, hx502_2, hx502_3, hx502_4, hx502_5, hx502_6, hx502_7⟩)) (fun hHeld => ?_); refine with_tabW lustrumlaw12_CanonOnce.tab14 lustrumlaw12_CanonOnce.bits14 (fun HT_ HW_ => ?_)
                   generalize wc.drew = w97 at HO_479007 BK465 BK478 HB HL500_7 HL502_7 HR500_7 HR502_7 hx500_0 hx500_1 hx500_2 hx500_3 hx500_4 hx500_5 hx500_6 hx500_7 hx502_0 hx502_1 hx502_2 hx502_3 hx502_4 hx502_5 hx502_6 hx502_7 hHeld ⊢; refine pA 0 83 14 1 ?_; refine pA 2 85 14 5 ?_; refine pA 3 86 14 13 ?_; refine pA 7 90 14 141 ?_; refine pA 9 92 14 653 ?_; refine tB 1 84 14 655 ?_; refine pA 4 87 14 671 ?_; refine tB 5 88 14 703 ?_; refine tB 8 91 14 959 ?_; refine pA 10 93 14 1983 ?_; refine tB 11 94 14 4031 ?_; refine oA 6 (some 89) 14 4095 fun K hK => ?_; refine goes_ Try.func33 (by kernel_rfl) rfl #[.agg #[.int .i64 ((rd_T26 t475 (ji89)).f0), .int .i64 ((rd_T26 t475 (ji89)).f1.f0), .string ((rd_T26 t475 (ji89)).f1.f1), .string ((rd_T26 t475 (ji89)).f1.f2), .string ((rd_T26 t475 (ji89)).f1.f3), .bool ((rd_T26 t475 (ji89)).f2), .bool ((rd_T26 t475 (ji89)).f3), .slice A500_7 ((rd_T26 t475 (ji89)).f4).length c500_7]] (by rfl) rfl rfl (by (try simp only [List.map_toArray, List.map_cons, List.map_nil]); first | done | (simp only [hji89]; rfl) | rfl | (simp only [List.length_drop, List.length_take]; rfl)) ?_; (with_reducible refine (print_Text.calls kj81 ((rd_T26 t475 (ji89)).f0) ((rd_T26 t475 (ji89)).f1.f0) ((rd_T26 t475 (ji89)).f1.f1) ((rd_T26 t475 (ji89)).f1.f2) ((rd_T26 t475 (ji89)).f1.f3) ((rd_T26 t475 (ji89)).f2) ((rd_T26 t475 (ji89)).f3) _ _ ((rd_T26 t475 (ji89)).f4) t501 _ ?side1 ?side2 A92.out).mono ?_)
                   (case side1 => repeat (first | exact (by repeat (first | (with_reducible exact HR500_7.out) | (with_reducible refine Kd.C_alloc ?_ _) | (with_reducible refine Kd.C_drewN ?_ _) | (with_reducible refine Kd.C_drew ?_) | exact HR500_7.out)) | (with_reducible refine Kd.C_alloc ?_ _) | (with_reducible refine Kd.C_drewN ?_ _) | (with_reducible refine Kd.C_drew ?_)))
                   (case side2 => exact HC500_7.out)
                   rintro e w98 ⟨rfl, hb⟩; have HS8_ := (hb.cell (World.block_lt_of_cell? _ _ (hHeld.2.2.2.2.2.2.2.2.1))).trans (hHeld.2.2.2.2.2.2.2.2.1); have HS9_ := (hb.cell (World.block_lt_of_cell? _ _ (hHeld.2.2.2.2.2.2.2.2.2.1))).trans (hHeld.2.2.2.2.2.2.2.2.2.1); have HS10_ := (hb.cell (World.block_lt_of_cell? _ _ (hHeld.2.2.2.2.2.2.2.2.2.2.1))).trans (hHeld.2.2.2.2.2.2.2.2.2.2.1); have HS11_ := (hb.cell (World.block_lt_of_cell? _ _ (hHeld.2.2.2.2.2.2.2.2.2.2.2.1))).trans (hHeld.2.2.2.2.2.2.2.2.2.2.2.1); have HS12_ := (hb.cell (World.block_lt_of_cell? _ _ (hHeld.2.2.2.2.2.2.2.2.2.2.2.2.1))).trans (hHeld.2.2.2.2.2.2.2.2.2.2.2.2.1); have HS13_ := (hb.cell (World.block_lt_of_cell? _ _ (hHeld.2.2.2.2.2.2.2.2.2.2.2.2.2.1))).trans (hHeld.2.2.2.2.2.2.2.2.2.2.2.2.2.1); have HS14_ := (hb.cell (World.block_lt_of_cell? _ _ (hHeld.2.2.2.2.2.2.2.2.2.2.2.2.2.2.1))).trans (hHeld.2.2.2.2.2.2.2.2.2.2.2.2.2.2.1); have HS15_ := (hb.cell (World.block_lt_of_cell? _ _ (hHeld.2.2.2.2.2.2.2.2.2.2.2.2.2.2.2.1))).trans (hHeld.2.2.2.2.2.2.2.2.2.2.2.2.2.2.2.1); have HS16_ := (hb.cell (World.block_lt_of_cell? _ _ (hHeld.2.2.2.2.2.2.2.2.2.2.2.2.2.2.2.2.1))).trans (hHeld.2.2.2.2.2.2.2.2.2.2.2.2.2.2.2.2.1); have HS17_ := (hb.cell (World.block_lt_of_cell? _ _ (hHeld.2.2.2.2.2.2.2.2.2.2.2.2.2.2.2.2.2.1))).trans (hHeld.2.2.2.2.2.2.2.2.2.2.2.2.2.2.2.2.2.1); have HS18_ := (hb.cell (World.block_lt_of_cell? _ _ (hHeld.2.2.2.2.2.2.2.2.2.2.2.2.2.2.2.2.2.2.1))).trans (hHeld.2.2.2.2.2.2.2.2.2.2.2.2.2.2.2.2.2.2.1); have HS19_ := (hb.cell (World.block_lt_of_cell? _ _ (hHeld.2.2.2.2.2.2.2.2.2.2.2.2.2.2.2.2.2.2.2.1))).trans (hHeld.2.2.2.2.2.2.2.2.2.2.2.2.2.2.2.2.2.2.2.1); have HS20_ := (hb.cell (World.block_lt_of_cell? _ _ (hHeld.2.2.2.2.2.2.2.2.2.2.2.2.2.2.2.2.2.2.2.2.1))).trans (hHeld.2.2.2.2.2.2.2.2.2.2.2.2.2.2.2.2.2.2.2.2.1); have HS21_ := (hb.cell (World.block_lt_of_cell? _ _ (hHeld.2.2.2.2.2.2.2.2.2.2.2.2.2.2.2.2.2.2.2.2.2.1))).trans (hHeld.2.2.2.2.2.2.2.2.2.2.2.2.2.2.2.2.2.2.2.2.2.1); have HS22_ := (hb.cell (World.block_lt_of_cell? _ _ (hHeld.2.2.2.2.2.2.2.2.2.2.2.2.2.2.2.2.2.2.2.2.2.2.1))).trans (hHeld.2.2.2.2.2.2.2.2.2.2.2.2.2.2.2.2.2.2.2.2.2.2.1); have HS23_ := (hb.cell (World.block_lt_of_cell? _ _ (hHeld.2.2.2.2.2.2.2.2.2.2.2.2.2.2.2.2.2.2.2.2.2.2.2))).trans (hHeld.2.2.2.2.2.2.2.2.2.2.2.2.2.2.2.2.2.2.2.2.2.2.2); refine ⟨_, rfl, ?_⟩; replace HO_479007 := bV_ HO_479007 hb; replace HL500_7 := bV_ HL500_7 hb; replace HL502_7 := bV_ HL502_7 hb; replace BK465 := bb_ BK465 hb; replace BK478 := bb_ BK478 hb; replace HR500_7 := A_ (Kd.C_below (by repeat (first | (with_reducible exact HR500_7.out) | (with_reducible refine Kd.C_alloc ?_ _) | (with_reducible refine Kd.C_drewN ?_ _) | (with_reducible refine Kd.C_drew ?_) | exact HR500_7.out)) hb); replace HR502_7 := A_ (Kd.C_below (by repeat (first | (with_reducible exact HR502_7.out) | (with_reducible refine Kd.C_alloc ?_ _) | (with_reducible refine Kd.C_drewN ?_ _) | (with_reducible refine Kd.C_drew ?_) | exact HR502_7.out)) hb); replace HB := bs_ hb
                   (try clear hb); refine hK.out _ _ (kq8_ BK478 (⟨HS8_, HS9_, HS10_, HS11_, HS12_, HS13_, HS14_, HS15_, HS16_, HS17_, HS18_, HS19_, HS20_, HS21_, HS22_, HS23_⟩)) (fun hHeld => ?_); clear hK K; refine nA ?_; refine oA 12 (some 95) 14 8191 fun K hK => ?_; refine gS Try.func33 #[.agg #[.int .i64 ((rd_T26 t475 x5_3).f0), .int .i64 ((rd_T26 t475 x5_3).f1.f0), .string ((rd_T26 t475 x5_3).f1.f1), .string ((rd_T26 t475 x5_3).f1.f2), .string ((rd_T26 t475 x5_3).f1.f3), .bool ((rd_T26 t475 x5_3).f2), .bool ((rd_T26 t475 x5_3).f3), .slice A502_7 ((rd_T26 t475 x5_3).f4).length c502_7]] ?_; (with_reducible refine (print_Text.calls kj81 ((rd_T26 t475 x5_3).f0) ((rd_T26 t475 x5_3).f1.f0) ((rd_T26 t475 x5_3).f1.f1) ((rd_T26 t475 x5_3).f1.f2) ((rd_T26 t475 x5_3).f1.f3) ((rd_T26 t475 x5_3).f2) ((rd_T26 t475 x5_3).f3) _ _ ((rd_T26 t475 x5_3).f4) t503 _ ?side1 ?side2 A95.out).mono ?_)
                   (case side1 => repeat (first | exact (by repeat (first | (with_reducible exact HR502_7.out) | (with_reducible refine Kd.C_alloc ?_ _) | (with_reducible refine Kd.C_drewN ?_ _) | (with_reducible refine Kd.C_drew ?_) | exact HR502_7.out)) | (with_reducible refine Kd.C_alloc ?_ _) | (with_reducible refine Kd.C_drewN ?_ _) | (with_reducible refine Kd.C_drew ?_)))
                   (case side2 => exact HC502_7.out)
                   rintro e w99 ⟨rfl, hb⟩; have HS8_ := (hb.cell (World.block_lt_of_cell? _ _ (hHeld.2.2.2.2.2.2.2.2.1))).trans (hHeld.2.2.2.2.2.2.2.2.1); have HS9_ := (hb.cell (World.block_lt_of_cell? _ _ (hHeld.2.2.2.2.2.2.2.2.2.1))).trans (hHeld.2.2.2.2.2.2.2.2.2.1); have HS10_ := (hb.cell (World.block_lt_of_cell? _ _ (hHeld.2.2.2.2.2.2.2.2.2.2.1))).trans (hHeld.2.2.2.2.2.2.2.2.2.2.1); have HS11_ := (hb.cell (World.block_lt_of_cell? _ _ (hHeld.2.2.2.2.2.2.2.2.2.2.2.1))).trans (hHeld.2.2.2.2.2.2.2.2.2.2.2.1); have HS12_ := (hb.cell (World.block_lt_of_cell? _ _ (hHeld.2.2.2.2.2.2.2.2.2.2.2.2.1))).trans (hHeld.2.2.2.2.2.2.2.2.2.2.2.2.1); have HS13_ := (hb.cell (World.block_lt_of_cell? _ _ (hHeld.2.2.2.2.2.2.2.2.2.2.2.2.2.1))).trans (hHeld.2.2.2.2.2.2.2.2.2.2.2.2.2.1); have HS14_ := (hb.cell (World.block_lt_of_cell? _ _ (hHeld.2.2.2.2.2.2.2.2.2.2.2.2.2.2.1))).trans (hHeld.2.2.2.2.2.2.2.2.2.2.2.2.2.2.1); have HS15_ := (hb.cell (World.block_lt_of_cell? _ _ (hHeld.2.2.2.2.2.2.2.2.2.2.2.2.2.2.2.1))).trans (hHeld.2.2.2.2.2.2.2.2.2.2.2.2.2.2.2.1); have HS16_ := (hb.cell (World.block_lt_of_cell? _ _ (hHeld.2.2.2.2.2.2.2.2.2.2.2.2.2.2.2.2.1))).trans (hHeld.2.2.2.2.2.2.2.2.2.2.2.2.2.2.2.2.1); have HS17_ := (hb.cell (World.block_lt_of_cell? _ _ (hHeld.2.2.2.2.2.2.2.2.2.2.2.2.2.2.2.2.2.1))).trans (hHeld.2.2.2.2.2.2.2.2.2.2.2.2.2.2.2.2.2.1); have HS18_ := (hb.cell (World.block_lt_of_cell? _ _ (hHeld.2.2.2.2.2.2.2.2.2.2.2.2.2.2.2.2.2.2.1))).trans (hHeld.2.2.2.2.2.2.2.2.2.2.2.2.2.2.2.2.2.2.1); have HS19_ := (hb.cell (World.block_lt_of_cell? _ _ (hHeld.2.2.2.2.2.2.2.2.2.2.2.2.2.2.2.2.2.2.2.1))).trans (hHeld.2.2.2.2.2.2.2.2.2.2.2.2.2.2.2.2.2.2.2.1); have HS20_ := (hb.cell (World.block_lt_of_cell? _ _ (hHeld.2.2.2.2.2.2.2.2.2.2.2.2.2.2.2.2.2.2.2.2.1))).trans (hHeld.2.2.2.2.2.2.2.2.2.2.2.2.2.2.2.2.2.2.2.2.1); have HS21_ := (hb.cell (World.block_lt_of_cell? _ _ (hHeld.2.2.2.2.2.2.2.2.2.2.2.2.2.2.2.2.2.2.2.2.2.1))).trans (hHeld.2.2.2.2.2.2.2.2.2.2.2.2.2.2.2.2.2.2.2.2.2.1); have HS22_ := (hb.cell (World.block_lt_of_cell? _ _ (hHeld.2.2.2.2.2.2.2.2.2.2.2.2.2.2.2.2.2.2.2.2.2.2.1))).trans (hHeld.2.2.2.2.2.2.2.2.2.2.2.2.2.2.2.2.2.2.2.2.2.2.1); have HS23_ := (hb.cell (World.block_lt_of_cell? _ _ (hHeld.2.2.2.2.2.2.2.2.2.2.2.2.2.2.2.2.2.2.2.2.2.2.2))).trans (hHeld.2.2.2.2.2.2.2.2.2.2.2.2.2.2.2.2.2.2.2.2.2.2.2); refine ⟨_, rfl, ?_⟩; replace HO_479007 := bV_ HO_479007 hb; replace HL500_7 := bV_ HL500_7 hb; replace HL502_7 := bV_ HL502_7 hb; replace BK465 := bb_ BK465 hb; replace BK478 := bb_ BK478 hb; replace HR500_7 := A_ (Kd.C_below (by repeat (first | (with_reducible exact HR500_7.out) | (with_reducible refine Kd.C_alloc ?_ _) | (with_reducible refine Kd.C_drewN ?_ _) | (with_reducible refine Kd.C_drew ?_) | exact HR500_7.out)) hb); replace HR502_7 := A_ (Kd.C_below (by repeat (first | (with_reducible exact HR502_7.out) | (with_reducible refine Kd.C_alloc ?_ _) | (with_reducible refine Kd.C_drewN ?_ _) | (with_reducible refine Kd.C_drew ?_) | exact HR502_7.out)) hb); replace HB := bs_ hb
                   (try clear hb); refine hK.out _ _ (kq8_ BK478 (⟨HS8_, HS9_, HS10_, HS11_, HS12_, HS13_, HS14_, HS15_, HS16_, HS17_, HS18_, HS19_, HS20_, HS21_, HS22_, HS23_⟩)) (fun hHeld => ?_); clear hK K; refine nA ?_; refine pA 13 96 14 16383 ?_; refine done_ (done_of HT_.out (by kernel_rfl)) ?_; (try go_wp2); go_roundg kj81
                   case measure => have := HJ7.out; have := HJ74.out; have := HK3.out; have := HJ81.out; omega
                   case rel => exact ⟨(wrap64 (x5_3 + 1)), rf_, H', ⟨by have := HJ7.out; have := HJ74.out; have := HK3.out; have := HJ81.out; omega⟩, ⟨fxV_ HO_479007.out⟩, ⟨bl_ BK465.out⟩, ⟨bl_ BK478.out⟩, ⟨hs_⟩⟩
                  ·rw [if_neg c96] at H
                   (have c96b0 : (Op.bytesLess t501.toList t503.toList) = false := by simpa using c96); clear c96; exact absurd ((Option.some.inj H).trans hrT_) (by decide)
                 ·rw [if_neg c94] at H
                  exact absurd H (by simp)
                ·rw [if_neg c93] at H
                 exact absurd H (by simp)
               ·rw [if_neg c91] at H
                exact absurd H (by simp)
              ·rw [if_neg c90] at H
               exact absurd H (by simp)
             ·replace c88 := Bool.eq_false_iff.mpr c88
              subst c88; replace H := iN_ H; obtain rfl := Option.some.inj H; clear hrT_; go_wp2; go_ret; exact ⟨re_, hs_⟩
  ·replace c7 := Bool.eq_false_iff.mpr c7
   subst c7; replace H := iN_ H
   by_cases c103 : t466 = true
   ·subst c103
    replace H := iP_ H; obtain ⟨t480, A104, H⟩ := bi_ H
    by_cases c105 : t480 = true
    ·subst c105
     replace H := iP_ H; exact absurd ((Option.some.inj H).trans hrT_) (by decide)
    ·replace c105 := Bool.eq_false_iff.mpr c105
     subst c105; replace H := iN_ H; obtain ⟨t481, A120, H⟩ := bi_ H; obtain rfl := Option.some.inj H; clear hrT_; go_enter Try.func12, Try.ntmps12; go_wp2_with (first | ((with_reducible refine gD 1 ?_); (try (refine gate_guard (by rfl) ?_; dsimp only)); refine bxe_ 1 (n8_ a0_0 a0_1 a0_2 a0_3 a0_4 a0_5 a0_6 (.slice A0_7 l0_7.length c0_7)) 26 ?_; intro gb465 hg w121 hbox hb; have BK465 := A_ (hbox); have GW465 := gs_ w hg; have GE465 := gs_ w hg; replace HB := bs_ hb; clear hb hbox hg) | ((with_reducible refine gC 39 ?_); refine gL 6 Try.func39 #[] ?_; (with_reducible refine (lustrumlaw12_awake.calls k  true _ A2.out).mono ?_); rintro e w122 ⟨rfl, hb⟩; refine ⟨_, rfl, ?_⟩; replace BK465 := bb_ BK465 hb; replace HB := bs_ hb; (try clear hb); have Z123 := bz8_ BK465) | ((with_reducible refine gC 17 ?_); refine gL 8 Try.func17 #[.agg (n8_ a0_0 a0_1 a0_2 a0_3 a0_4 a0_5 a0_6 (.slice A0_7 l0_7.length c0_7))] ?_; (with_reducible refine (lustrumref10_Few.calls k a0_0 a0_1 a0_2 a0_3 a0_4 a0_5 a0_6 _ _ l0_7 true _ ?side1 ?side2 A3.out).mono ?_); (case side1 => exact cb_ HR0_7); (case side2 => exact HC0_7.out); rintro e w124 ⟨rfl, hb⟩; refine ⟨_, rfl, ?_⟩; replace BK465 := bb_ BK465 hb; replace HB := bs_ hb; (try clear hb); have Z125 := bz8_ BK465) | ((with_reducible refine gC 40 ?_); refine gL 12 Try.func40 #[.agg (n8_ a0_0 a0_1 a0_2 a0_3 a0_4 a0_5 a0_6 (.slice A0_7 l0_7.length c0_7))] ?_; (with_reducible refine (canon_Canon.calls k a0_0 a0_1 a0_2 a0_3 a0_4 a0_5 a0_6 (fun k_ => k_ < w.heap.size) _ _ l0_7 t468 t469 t470 t471 t472 t473 t474 t475 _ ?side1 A5.out).mono ?_); (case side1 => exact Kd.V_mk HC0_7.out (Kd.F_below (Kd.C_F k26_heap HR0_7.out) hs_)); rintro e w126 ⟨v476, rfl, ho0, hb⟩; refine ⟨_, rfl, ?_⟩; have HO477 := A_ (Kd.V_lower (Kd.V_mono (ok' := fun k_ => k_ ≠ gb465) ho0 (fun k_ hk_ => Or.elim hk_ (fun hs_ => fun e_ => Nat.not_le.2 hs_ (by rw [e_]; exact GW465.out)) (fb_ BK465 k_))) (below_size hs_)); replace BK465 := bb_ BK465 hb; replace HB := bs_ hb; (try clear hb); (try clear ho0)) | ((with_reducible refine gD 4 ?_); (try (refine gate_guard (by rfl) ?_; dsimp only)); refine bxe_ 4 z8_ 26 ?_; intro gb478 hg w127 hbox hb; replace HO477 := eV_ HO477 hg hb; have BK478 := A_ (hbox); have GW478 := gs_ w hg; have GE478 := gs_ w hg; replace HB := bs_ hb; have NB465_478 := nl_ BK465 hg; have NB478_465 := ng_ BK465 hg; replace BK465 := bb_ BK465 hb; clear hb hbox hg; have hnb128 := NB478_465.out; have hnc128 := NB465_478.out; have Z129 := bz8_ BK478; obtain ⟨Ao130, co130, eo130⟩ := Kd.V_slice HO477.out; subst eo130; have Z131 := bz8_ BK465) | ((with_reducible refine gC 18 ?_); refine gL 14 Try.func18 #[.agg (n8_ a0_0 a0_1 a0_2 a0_3 a0_4 a0_5 a0_6 (.slice A0_7 l0_7.length c0_7))] ?_; (with_reducible refine (tree_Sane.calls k a0_0 a0_1 a0_2 a0_3 a0_4 a0_5 a0_6 _ _ l0_7 false _ ?side1 ?side2 A6.out).mono ?_); (case side1 => exact Kd.C_below HR0_7.out hs_); (case side2 => exact HC0_7.out); rintro e w132 ⟨rfl, hb⟩; refine ⟨_, rfl, ?_⟩; replace HO477 := bV_ HO477 hb; replace BK465 := A_ (blk_below (g := gb465) (o := .cells (n8_ a0_0 a0_1 a0_2 a0_3 a0_4 a0_5 a0_6 (.slice A0_7 l0_7.length c0_7)) 26 (0, 0)) (pf_ NB465_478 BK465) hb); replace BK478 := bp_ BK478 (.cells (n8_ t468 t469 t470 t471 t472 t473 t474 (.slice Ao130 t475.length co130)) 26 (0, 0)) hb; replace HB := bs_ hb; (try clear hb); have Z133 := bz8_ BK465) | (go_at_call 42; (with_reducible refine (canon_Is.calls k a0_0 a0_1 a0_2 a0_3 a0_4 a0_5 a0_6 _ _ l0_7 false _ ?side1 ?side2 A104.out).mono ?_); (case side1 => exact cb_ HR0_7); (case side2 => exact HC0_7.out); rintro e w134 ⟨rfl, hb⟩; replace HO477 := bV_ HO477 hb; replace BK465 := bb_ BK465 hb; replace BK478 := bb_ BK478 hb; replace HB := bs_ hb; (try clear hb); have Z135 := bz8_ BK478) | (go_at_call 26; (refine (tree_Same.calls k t468 t469 t470 t471 t472 t473 t474 _ _ t475 0 0 (⟨#[]⟩ : ByteArray) (⟨#[]⟩ : ByteArray) (⟨#[]⟩ : ByteArray) false false _ _ ([] : List (S26)) t481 _ ?side1 ?side2 ?side3 ?side4 A120.out).mono ?_); (case side1 => exact cr_ (Kd.V_reads' HO477.out).2.2); (case side2 => exact (Kd.V_reads' HO477.out).2.1); (case side3 => exact Kd.C_nil _ _); (case side4 => exact Nat.le_refl _); rintro e w136 ⟨rfl, hb⟩; replace HO477 := bV_ HO477 hb; replace BK465 := bb_ BK465 hb; replace BK478 := bb_ BK478 hb; replace HB := bs_ hb; (try clear hb)))
     go_ret; exact ⟨re_, hs_⟩
   ·replace c103 := Bool.eq_false_iff.mpr c103
    subst c103; replace H := iN_ H; exact absurd ((Option.some.inj H).trans hrT_) (by decide)
 ·replace c4 := Bool.eq_false_iff.mpr c4
  subst c4; replace H := iN_ H; obtain rfl := Option.some.inj H; clear hrT_; go_enter Try.func12, Try.ntmps12; go_wp2_with (first | ((with_reducible refine gD 1 ?_); (try (refine gate_guard (by rfl) ?_; dsimp only)); refine bxe_ 1 (n8_ a0_0 a0_1 a0_2 a0_3 a0_4 a0_5 a0_6 (.slice A0_7 l0_7.length c0_7)) 26 ?_; intro gb465 hg w149 hbox hb; have BK465 := A_ (hbox); have GW465 := gs_ w hg; have GE465 := gs_ w hg; replace HB := bs_ hb; clear hb hbox hg) | ((with_reducible refine gC 39 ?_); refine gL 6 Try.func39 #[] ?_; (with_reducible refine (lustrumlaw12_awake.calls k  t466 _ A2.out).mono ?_); rintro e w150 ⟨rfl, hb⟩; refine ⟨_, rfl, ?_⟩; replace BK465 := bb_ BK465 hb; replace HB := bs_ hb; (try clear hb); have Z151 := bz8_ BK465) | ((with_reducible refine gC 17 ?_); refine gL 8 Try.func17 #[.agg (n8_ a0_0 a0_1 a0_2 a0_3 a0_4 a0_5 a0_6 (.slice A0_7 l0_7.length c0_7))] ?_; (with_reducible refine (lustrumref10_Few.calls k a0_0 a0_1 a0_2 a0_3 a0_4 a0_5 a0_6 _ _ l0_7 false _ ?side1 ?side2 A3.out).mono ?_); (case side1 => exact cb_ HR0_7); (case side2 => exact HC0_7.out); rintro e w152 ⟨rfl, hb⟩; refine ⟨_, rfl, ?_⟩; replace BK465 := bb_ BK465 hb; replace HB := bs_ hb; (try clear hb)))
  go_ret; exact ⟨re_, hs_⟩
theorem ndL_put (n : S26) : ∀ l : List S26, ndL (putV n l) ≤ nd n + ndL l
  | [] => by rw [putV]; simp only [ndL]; omega
  | x :: l => by
    have := ndL_put n l
    rw [putV]
    split
    · rw [ndL, ndL]; omega
    · split
      · rw [ndL, ndL]; omega
      · rw [ndL]; omega
theorem ndL_fold : ∀ l acc : List S26, ndL (l.foldl (fun acc n => putV n acc) acc) ≤ ndL l + ndL acc
  | [], acc => by rw [List.foldl_nil]; omega
  | x :: l, acc => by
    have h1 := ndL_fold l (putV x acc)
    have h2 := ndL_put x acc
    rw [List.foldl_cons, ndL]; omega
theorem ndL_cl (l : List S26) : ndL (clV l) ≤ ndL l := by have := ndL_fold l []; rw [ndL] at this; exact this
theorem ndL_fl : ∀ (m : Nat) (n : S26), nd n ≤ m → ndL (flV n) ≤ nd n ∧ (n.f0 = 2 → ndL (flV n) + 1 ≤ nd n)
  | 0, n, h => by have := nd_pos n; omega
  | m + 1, n, h => by
    have hn := nd_eq n
    rw [flV_eq]
    by_cases c : n.f0 = 2
    · rw [if_pos c]
      have : ∀ l : List S26, ndL l ≤ m → ndL (flVL l) ≤ ndL l := fun l => by
        induction l with
        | nil => intro _; rw [flVL, ndL]; omega
        | cons y l ih =>
          intro hl
          rw [ndL] at hl
          have h1 := (ndL_fl m y (by omega)).1
          have h2 := ih (by omega)
          rw [flVL, ndL_app, ndL]; omega
      have := this n.f4 (by omega)
      exact ⟨by omega, fun _ => by omega⟩
    · rw [if_neg c, ndL, ndL]
      exact ⟨by omega, fun h => absurd h c⟩
theorem endV_leaf {x : S26} (h : endV x = true) : x.f4 = [] ∧ x.f0 ≠ 2 := by
  unfold endV at h
  simp only [Bool.and_eq_true, decide_eq_true_eq] at h
  refine ⟨h.1, fun c => ?_⟩
  have h2 := h.2
  rw [if_neg (by omega), if_neg (by omega)] at h2
  exact absurd h2 (by simp)
theorem dp_end {x : S26} (h : endV x = true) : dp x = 0 := by
  obtain ⟨h1, h2⟩ := endV_leaf h
  rw [dp_eq, if_neg h2, h1, dpL]
theorem dp_leaf {x : S26} (h : rt x = true) (c : x.f0 ≠ 2) : dp x = 0 := by
  by_cases c1 : x.f0 = 1
  · obtain ⟨a, b, e, ha, hb⟩ := rte_one (.inl h) c1
    rw [dp_eq, if_neg c, e, dpL, dpL, dpL, dp_end ha, dp_end hb]; rfl
  · rw [rt_eq, if_neg c1, if_neg c] at h
    by_cases c0 : x.f0 = 0
    · rw [if_pos c0] at h; exact dp_end h
    · rw [if_neg c0] at h; exact absurd h (by simp)
theorem dpL_zero : ∀ {l : List S26}, (∀ x, x ∈ l → dp x = 0) → dpL l = 0
  | [], _ => by rw [dpL]
  | x :: l, h => by rw [dpL, h x (by simp), dpL_zero (fun y hy => h y (List.mem_cons_of_mem _ hy))]; rfl
theorem rtL_of : ∀ {l : List S26}, (∀ x, x ∈ l → rt x = true) → rtL l = true
  | [], _ => by rw [rtL]
  | x :: l, h => by rw [rtL, h x (by simp), rtL_of (fun y hy => h y (List.mem_cons_of_mem _ hy))]; rfl
theorem flVL_leaf : ∀ {l : List S26}, (∀ x, x ∈ l → x.f0 ≠ 2) → flVL l = l
  | [], _ => by rw [flVL]
  | x :: l, h => by
    rw [flVL, flVL_leaf (fun y hy => h y (List.mem_cons_of_mem _ hy)), flV_eq, if_neg (h x (by simp))]; rfl
theorem fl_ne : ∀ (m : Nat) (n : S26), nd n ≤ m → rt n = true → flV n ≠ []
  | 0, n, h, _ => by have := nd_pos n; omega
  | m + 1, n, h, hr => by
    have hn := nd_eq n
    rw [flV_eq]
    by_cases c : n.f0 = 2
    · rw [if_pos c]
      rw [rt_eq, if_neg (by omega), if_neg (by omega), if_pos c] at hr
      simp only [Bool.and_eq_true, decide_eq_true_eq] at hr
      cases e : n.f4 with
      | nil => exact absurd e hr.2.1
      | cons x l =>
        have h2 := hr.2.2
        rw [e, rtL, Bool.and_eq_true] at h2
        have h3 : ndL n.f4 = nd x + ndL l := by rw [e, ndL]
        have h4 := fl_ne m x (by omega) h2.1
        rw [flVL]
        intro h5
        exact h4 (List.append_eq_nil_iff.1 h5).1
    · rw [if_neg c]; simp
theorem clV_ne {l : List S26} (hl : ∀ x, x ∈ l → saneV x = true) (h : l ≠ []) : clV l ≠ [] := by
  obtain ⟨x, t, rfl⟩ := List.exists_cons_of_ne_nil h
  intro e
  have := ((clV_is hl).2.2 x).2 (by simp)
  rw [e] at this; simp at this
theorem clV_id {l : List S26} (hl : ∀ x, x ∈ l → saneV x = true) (h : rise l) : clV l = l :=
  rise_only _ _ (clV_is hl).1 h (clV_is hl).2.2
theorem lN_sane {l : List S26} (hs : ∀ x, x ∈ l → saneV x = true) (hc : ∀ x, x ∈ l → x.f0 ≠ 2) (hn : ndL l + 1 ≤ 64) (h0 : l ≠ []) : saneV (lN l) = true := by
  have h1 : nd (lN l) = ndL l + 1 := nd_eq _
  have h2 : dp (lN l) = 1 := by
    rw [dp_eq, if_pos (show (lN _).f0 = 2 from rfl), show (lN l).f4 = l from rfl, dpL_zero (fun x hx => dp_leaf (sane_rt (hs x hx)).2.2 (hc x hx))]
  have h3 : rt (lN l) = true := by
    rw [rt_eq, if_neg (by show ¬ (2 : Int) = 0; decide), if_neg (by show ¬ (2 : Int) = 1; decide), if_pos (show (lN l).f0 = 2 from rfl), show (lN l).f4 = l from rfl, rtL_of (fun x hx => (sane_rt (hs x hx)).2.2), show bareV (lN l) = true from bare_e _ _, decide_eq_true h0]; rfl
  unfold saneV
  rw [h1, h2, h3, decide_eq_true hn]; rfl
theorem cn_leaf {n : S26} (hs : saneV n = true) (c : n.f0 ≠ 2) : cnV n = n := by unfold cnV; rw [if_pos hs, if_neg c]
theorem cn_list {n : S26} (hs : saneV n = true) (c : n.f0 = 2) : cnV n = oneV (clV (flV n)) := by unfold cnV; rw [if_pos hs, if_pos c]
theorem fl_lN (l : List S26) (h : ∀ x, x ∈ l → x.f0 ≠ 2) : flV (lN l) = l := by
  rw [flV_eq, if_pos (show (lN _).f0 = 2 from rfl)]; exact flVL_leaf h
structure CnF (n : S26) (L : List S26) : Prop where
  sane : ∀ x, x ∈ L → saneV x = true
  leaf : ∀ x, x ∈ L → x.f0 ≠ 2
  ris : rise L
  ne : L ≠ []
  small : ndL L ≤ nd n
  one : oneV L = cnV n
theorem oneV_one {l : List S26} {x : S26} : oneV [x] = x := by unfold oneV; rw [if_pos (show [x].length = 1 from rfl)]; rfl
theorem cn_F {n : S26} (hs : saneV n = true) : CnF n (clV (flV n)) := by
  obtain ⟨s1, s2, s3⟩ := sane_rt hs
  have hf := flV_saneV hs
  obtain ⟨c1, c2, c3⟩ := clV_is hf
  have hm : ∀ x, x ∈ clV (flV n) → saneV x = true ∧ x.f0 ≠ 2 := fun x hx => flV_sane _ n (Nat.le_refl _) hs x ((c3 x).1 hx)
  refine ⟨fun x hx => (hm x hx).1, fun x hx => (hm x hx).2, c1, clV_ne hf (fl_ne _ n (Nat.le_refl _) s3), ?_, ?_⟩
  · have h1 := ndL_cl (flV n)
    have h2 := (ndL_fl _ n (Nat.le_refl _)).1
    omega
  · by_cases c : n.f0 = 2
    · exact (cn_list hs c).symm
    · rw [cn_leaf hs c, flV_eq, if_neg c]
      show oneV (putV n []) = n
      rw [putV]; exact oneV_one (l := [])
theorem cn_cases {n : S26} (hs : saneV n = true) : (cnV n ∈ clV (flV n) ∧ clV (flV n) = [cnV n]) ∨ (2 ≤ (clV (flV n)).length ∧ cnV n = lN (clV (flV n))) := by
  have h := cn_F hs
  by_cases h1 : (clV (flV n)).length = 1
  · obtain ⟨x, e⟩ := List.length_eq_one_iff.1 h1
    have : cnV n = x := by rw [← h.one, e]; exact oneV_one (l := [])
    left; rw [e, this]; exact ⟨by simp, rfl⟩
  · right
    have h2 : (clV (flV n)).length ≠ 0 := fun e => h.ne (List.length_eq_zero_iff.1 e)
    refine ⟨by omega, ?_⟩
    rw [← h.one]; unfold oneV; rw [if_neg h1]; rfl
theorem cn_nd {n : S26} (hs : saneV n = true) : nd (cnV n) ≤ nd n := by
  have h := cn_F hs
  rcases cn_cases hs with ⟨h1, _⟩ | ⟨h1, h2⟩
  · have := ndL_mem h1
    have := h.small; omega
  · rw [h2, nd_eq]
    show ndL (clV (flV n)) + 1 ≤ nd n
    by_cases c : n.f0 = 2
    · have a := ndL_cl (flV n)
      have b := (ndL_fl _ n (Nat.le_refl _)).2 c
      omega
    · exfalso
      rw [cn_leaf hs c] at h2
      exact c (by rw [h2]; rfl)
theorem cn_sane {n : S26} (hs : saneV n = true) : saneV (cnV n) = true := by
  have h := cn_F hs
  have hn := cn_nd hs
  obtain ⟨s1, s2, s3⟩ := sane_rt hs
  rcases cn_cases hs with ⟨h1, _⟩ | ⟨h1, h2⟩
  · exact h.sane _ h1
  · rw [h2] at hn ⊢
    have : nd (lN (clV (flV n))) = ndL (clV (flV n)) + 1 := nd_eq _
    exact lN_sane h.sane h.leaf (by omega) h.ne
theorem fl_cn {n : S26} (hs : saneV n = true) : flV (cnV n) = clV (flV n) := by
  have h := cn_F hs
  rcases cn_cases hs with ⟨h1, h2⟩ | ⟨h1, h2⟩
  · rw [h2, flV_eq, if_neg (h.leaf _ h1)]
  · rw [h2, fl_lN _ h.leaf]
theorem cn_cn {n : S26} (hs : saneV n = true) : cnV (cnV n) = cnV n := by
  have h := cn_F hs
  have h2 := cn_F (cn_sane hs)
  rw [← h2.one, fl_cn hs, clV_id h.sane h.ris, h.one]
theorem cn_dp {n : S26} (hs : saneV n = true) : dp (cnV n) ≤ 1 := by
  have h := cn_F hs
  rcases cn_cases hs with ⟨h1, _⟩ | ⟨h1, h2⟩
  · rw [dp_leaf (sane_rt (h.sane _ h1)).2.2 (h.leaf _ h1)]; omega
  · rw [h2, dp_eq, if_pos (show (lN (clV (flV n))).f0 = 2 from rfl), show (lN (clV (flV n))).f4 = clV (flV n) from rfl, dpL_zero (fun x hx => dp_leaf (sane_rt (h.sane x hx)).2.2 (h.leaf x hx))]; omega
theorem cn_two {n : S26} (hs : saneV n = true) (c : (cnV n).f0 = 2) : 2 ≤ (cnV n).f4.length ∧ (cnV n).f4 = clV (flV n) := by
  have h := cn_F hs
  rcases cn_cases hs with ⟨h1, _⟩ | ⟨h1, h2⟩
  · exact absurd c (h.leaf _ h1)
  · rw [h2]; exact ⟨h1, rfl⟩
theorem cIs_t (n : S26) (hn : wfN n) (hb : nd n ≤ 1048576) : Ev (fun k => canon_Is.f k n.f0 n.f1.f0 n.f1.f1 n.f1.f2 n.f1.f3 n.f2 n.f3 n.f4) (if saneV n = true then sm (cnV n) n else false) := by
  refine Ev.bind (tSane_f n hn (by omega)) (Ev.pick ?_ (Ev.now _))
  exact Ev.bind (Canon_t n hn hb) (Ev.bind (tSame_f _ (cnV n) n (Nat.le_refl _) (cn_wf hn hb)) (Ev.now _))
theorem tCount_e (n : S26) (hb : nd n ≤ 1048576) : Ev (fun k => tree_Count.f k n.f0 n.f1.f0 n.f1.f1 n.f1.f2 n.f1.f3 n.f2 n.f3 n.f4) (nd n : Int) := tCount_f n (by omega)
theorem tDeep_e (n : S26) (hb : nd n ≤ 1048576) : Ev (fun k => tree_Deep.f k n.f0 n.f1.f0 n.f1.f1 n.f1.f2 n.f1.f3 n.f2 n.f3 n.f4) (dp n : Int) := tDeep_f n (by omega)
theorem wr_m {i : Nat} (h : 1 ≤ i) (h2 : i ≤ 1466015503711) : wrap64 ((i : Int) - 1) = ((i - 1 : Nat) : Int) := by rw [wrapIn _ ⟨by omega, by omega⟩]; omega
theorem wr_p {i : Nat} (h2 : i ≤ 1466015503711) : wrap64 ((i : Int) + 1) = ((i + 1 : Nat) : Int) := by rw [wrapIn _ ⟨by omega, by omega⟩]; omega
theorem rd_at {l : List S26} {i : Nat} (h : i < l.length) : rd_T26 l (i : Int) = l[i] := by simp [rd_T26, List.getD, List.getElem?_eq_getElem h]
theorem once_l0 (c : S26) (hc : c.f0 = 2) (hw : wfN c) (hb : nd c ≤ 1048576) (hr : rise c.f4) : ∀ (m i : Nat), i + m = c.f4.length → 1 ≤ i →
    Ev (fun k => lustrumlaw12_CanonOnce.l0 k true (i : Int) c.f0 c.f1.f0 c.f1.f1 c.f1.f2 c.f1.f3 c.f2 c.f3 c.f4) true
  | 0, i, e, _ => by
    refine Ev.step (f := fun k => lustrumlaw12_CanonOnce.j3 k true (i : Int) false c.f0 c.f1.f0 c.f1.f1 c.f1.f2 c.f1.f3 c.f2 c.f3 c.f4) (fun k => by rw [lustrumlaw12_CanonOnce.l0, if_pos hc, decide_eq_false (by omega)]) ?_
    exact Ev.step (f := fun _ => some true) (fun k => by rw [lustrumlaw12_CanonOnce.j3, if_neg (by simp)]) (Ev.now _)
  | m + 1, i, e, hi => by
    have hlt : i < c.f4.length := by omega
    have hl := hw.len
    have hx : c.f4[i - 1] ∈ c.f4 := List.getElem_mem _
    have hy : c.f4[i] ∈ c.f4 := List.getElem_mem _
    have n1 := ndL_mem hx
    have n2 := ndL_mem hy
    have hn := nd_eq c
    have hlo : i - 1 < c.f4.length := by omega
    have hle : i ≤ 1466015503711 := by omega
    have hlt2 : lsT c.f4[i - 1] c.f4[i] = true := List.pairwise_iff_getElem.1 hr (i - 1) i (by omega) hlt (by omega)
    refine Ev.step (f := fun k => lustrumlaw12_CanonOnce.j3 k true (i : Int) true c.f0 c.f1.f0 c.f1.f1 c.f1.f2 c.f1.f3 c.f2 c.f3 c.f4) (fun k => by rw [lustrumlaw12_CanonOnce.l0, if_pos hc, decide_eq_true (by omega)]) ?_
    refine Ev.step (fun k => by rw [lustrumlaw12_CanonOnce.j3, if_pos rfl, wr_m hi hle, wr_p hle, rd_at hlo, rd_at hlt, if_pos (Int.natCast_nonneg _), if_pos (Int.ofNat_lt.2 hlo)]) ?_
    refine Ev.bind (pTx_f c.f4[i - 1] (hw.all _ hx) (by omega)) (Ev.ift (by omega) (Ev.ift (by omega) (Ev.bind (pTx_f c.f4[i] (hw.all _ hy) (by omega)) (Ev.ift ?_ (once_l0 c hc hw hb hr m (i + 1) (by omega) (by omega))))))
    rw [bA_toList, bA_toList]; exact hlt2
theorem once_j0 (c : S26) (hw : wfN c) (hb : nd c ≤ 1048576) (h2 : c.f0 = 2 → 2 ≤ c.f4.length ∧ rise c.f4) :
    Ev (fun k => lustrumlaw12_CanonOnce.j0 k true false c.f0 c.f1.f0 c.f1.f1 c.f1.f2 c.f1.f3 c.f2 c.f3 c.f4) true := by
  by_cases hc : c.f0 = 2
  · obtain ⟨g1, g2⟩ := h2 hc
    refine Ev.step (f := fun k => lustrumlaw12_CanonOnce.j1 k true false c.f0 c.f1.f0 c.f1.f1 c.f1.f2 c.f1.f3 c.f2 c.f3 c.f4) (fun k => by rw [lustrumlaw12_CanonOnce.j0, if_neg (by simp), if_pos hc, decide_eq_false (by omega)]) ?_
    refine Ev.step (f := fun k => lustrumlaw12_CanonOnce.l0 k true ((1 : Nat) : Int) c.f0 c.f1.f0 c.f1.f1 c.f1.f2 c.f1.f3 c.f2 c.f3 c.f4) (fun k => by rw [lustrumlaw12_CanonOnce.j1, if_neg (by simp)]; rfl) ?_
    exact once_l0 c hc hw hb g2 (c.f4.length - 1) 1 (by omega) (by omega)
  · refine Ev.step (f := fun k => lustrumlaw12_CanonOnce.j1 k true false c.f0 c.f1.f0 c.f1.f1 c.f1.f2 c.f1.f3 c.f2 c.f3 c.f4) (fun k => by rw [lustrumlaw12_CanonOnce.j0, if_neg (by simp), if_neg hc]) ?_
    refine Ev.step (f := fun k => lustrumlaw12_CanonOnce.l0 k true 1 c.f0 c.f1.f0 c.f1.f1 c.f1.f2 c.f1.f3 c.f2 c.f3 c.f4) (fun k => by rw [lustrumlaw12_CanonOnce.j1, if_neg (by simp)]) ?_
    refine Ev.step (f := fun k => lustrumlaw12_CanonOnce.j3 k true 1 false c.f0 c.f1.f0 c.f1.f1 c.f1.f2 c.f1.f3 c.f2 c.f3 c.f4) (fun k => by rw [lustrumlaw12_CanonOnce.l0, if_neg hc]) ?_
    exact Ev.step (f := fun _ => some true) (fun k => by rw [lustrumlaw12_CanonOnce.j3, if_neg (by simp)]) (Ev.now _)
theorem CanonOnce_t (n : S26) (hn : wfN n) (hb : nd n ≤ 1048576) : Ev (fun k => lustrumlaw12_CanonOnce.f k n.f0 n.f1.f0 n.f1.f1 n.f1.f2 n.f1.f3 n.f2 n.f3 n.f4) true := by
  obtain ⟨b1, f1, _⟩ := rFew_f n hn
  refine Ev.bind awake12 (Ev.bind f1 ?_)
  have hc := cn_wf hn hb
  cases b1 with
  | false => exact Ev.iff_ (by simp) (Ev.now _)
  | true =>
    refine Ev.ift rfl (Ev.bind (Canon_t n hn hb) (Ev.bind (tSane_f n hn (by omega)) ?_))
    cases hs : saneV n with
    | false =>
      refine Ev.iff_ (by simp) (Ev.ift rfl (Ev.bind (cIs_t n hn hb) ?_))
      rw [hs]
      refine Ev.iff_ (by simp) ?_
      have e : cnV n = zN := by unfold cnV; rw [if_neg (by simp [hs])]; rfl
      rw [e]
      exact Ev.bind (tSame_f _ zN zN (Nat.le_refl _) (wf_leaf _ _ _ _ (by decide) (by decide) (by decide))) (Ev.eq (Ev.now _) (sm_refl _ _ (Nat.le_refl _)))
    | true =>
      have hnc := cn_nd hs
      have hbc : nd (cnV n) ≤ 1048576 := by omega
      have hsc := cn_sane hs
      have hdp := cn_dp hs
      refine Ev.ift rfl (Ev.bind (tSane_f (cnV n) hc (by omega)) (Ev.ift hsc (Ev.bind (cIs_t (cnV n) hc hbc) ?_)))
      rw [if_pos hsc, cn_cn hs]
      refine Ev.ift (sm_refl _ _ (Nat.le_refl _)) (Ev.bind (Canon_t (cnV n) hc hbc) ?_)
      rw [cn_cn hs]
      refine Ev.bind (tSame_f _ (cnV n) (cnV n) (Nat.le_refl _) hc) (Ev.ift (sm_refl _ _ (Nat.le_refl _)) (Ev.bind (tCount_e (cnV n) hbc) (Ev.bind (tCount_e n hb) (Ev.iff_ (by omega) (Ev.bind (tDeep_e (cnV n) hbc) (Ev.iff_ (by omega) (Ev.bind (cIs_t n hn hb) (Ev.bind (tSame_f _ (cnV n) n (Nat.le_refl _) hc) ?_))))))))
      rw [if_pos hs, bne_self_eq_false]
      refine once_j0 (cnV n) hc hbc (fun c => ?_)
      obtain ⟨g1, g2⟩ := cn_two hs c
      exact ⟨g1, g2 ▸ (cn_F hs).ris⟩
end Go.Proofs.Ytfehdlkklfcnpaa.A