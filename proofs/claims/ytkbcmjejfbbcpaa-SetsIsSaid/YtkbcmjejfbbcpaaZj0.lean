/- Walks of functions, and plain facts about what they compute. No conditions. -/
import Derived.Test.YtkbcmjejfbbcpaaZja
import Derived.Test.YtkbcmjejfbbcpaaProg
import Derived.Deep.Slices
import Derived.SizedLaws
import Derived.ChangeArms
import Derived.Test.YtkbcmjejfbbcpaaRows
import Derived.ChangeSame
import Derived.Sort.AssemblyPlain
import Derived.Lib.BitFns
import Derived.Sort.LotD5
import Derived.Sort.LotD1
import Derived.Laws.Bits64b
import Derived.Sort.Walk13a
set_option linter.unusedVariables false
set_option linter.unusedSimpArgs false
namespace Go.Proofs.Ytkbcmjejfbbcpaa.A
open Go.RowKit Go.Proofs.YtkbcmjejfbbcpaaW.PrintWords Go.Proofs.YtkbcmjejfbbcpaaW.PrintLast Go.Proofs.YtkbcmjejfbbcpaaW.PrintMore
attribute [local go_sem] max2_int min2_int max_two min_two max_three min_three max_four min_four
def errW : Option Int → Value
  | none => .nilIface
  | some c => .iface 0 (.int .i64 c)
theorem errW_none : errW none = .nilIface := rfl
theorem errW_some (c : Int) : errW (some c) = .iface 0 (.int .i64 c) := rfl
theorem info25 : (Try.prog.info? 25).map (fun i => (i.zero, i.size, i.bytes)) = some (some (.agg #[(.int .i64 0), (.int .i64 0)]), 2, 16) := by kernel_rfl
structure S25 where
  f0 : Int
  f1 : Int
def z25 : S25 := ⟨(0 : Int), (0 : Int)⟩
def k25 : Kd S25 := Kd.iso (Kd.pair (Kd.int .i64) (Kd.int .i64)) (fun x : S25 => (x.f0, x.f1))
theorem k25_heap : Kd.Heap k25 := Kd.heap_iso _ (Kd.heap_pair (Kd.heap_int .i64) (Kd.heap_int .i64))
theorem k25_open {w : World} {x : S25} {cs : List Value} (h : k25.K w x cs) : cs = [.int .i64 x.f0, .int .i64 x.f1] := by
  obtain ⟨_, _, rfl, rfl, rfl⟩ := h
  exact rfl
theorem k25_openM {w : World} {base : Nat} {ok : Nat → Prop} {x : S25} {cs : List Value} (h : k25.M w base ok x cs) : cs = [.int .i64 x.f0, .int .i64 x.f1] := by
  obtain ⟨_, _, rfl, rfl, rfl⟩ := h
  exact rfl
theorem k25_mkM (w : World) (base : Nat) (ok : Nat → Prop) (x : S25)  : k25.M w base ok x [.int .i64 x.f0, .int .i64 x.f1] := ⟨[.int .i64 x.f0], [.int .i64 x.f1], rfl, rfl, rfl⟩
def rd_T25 (xs : List S25) (i : Int) : S25 := xs.getD i.toNat z25
theorem at_T25 {w : World} {A : Option Addr} {n : Nat} {xs : List S25} (h : Kd.C k25 w A n xs) (i : Int) (h0 : 0 ≤ i) (h1 : i < n) : ∃ ad , A = some ad ∧ w.cell? (ad.add (i.toNat * 2)) = some (.int .i64 (rd_T25 xs i).f0) ∧ w.cell? ⟨(ad.add (i.toNat * 2)).block, (ad.add (i.toNat * 2)).off + 1, none⟩ = some (.int .i64 (rd_T25 xs i).f1) := by
  obtain ⟨ad, c, e, _, hK, hc0⟩ := Kd.C_get h z25 i h0 h1
  have hc : ∀ j u, c[j]? = some u → w.cell? (ad.add (i.toNat * 2 + j)) = some u := hc0
  obtain rfl := k25_open hK
  exact ⟨ad, e, hc 0 _ rfl, by rw [← add_field _ _ 1 (by omega)]; exact hc 1 _ rfl⟩
def rd_L2 (xs : List (List S25)) (i : Int) : (List S25) := xs.getD i.toNat ([] : List S25)
theorem at_L2 {w : World} {A : Option Addr} {n : Nat} {xs : List (List S25)} (h : Kd.C (Kd.slice 25 k25) w A n xs) (i : Int) (h0 : 0 ≤ i) (h1 : i < n) : ∃ ad A0 c0, A = some ad ∧ w.cell? (ad.add i.toNat) = some (.slice A0 (rd_L2 xs i).length c0) ∧ (rd_L2 xs i).length ≤ c0 ∧ k25.C w A0 (rd_L2 xs i).length (rd_L2 xs i) := by
  obtain ⟨ad, c, e, _, hK, hc0⟩ := Kd.C_get h ([] : List S25) i h0 h1
  have hc : ∀ j u, c[j]? = some u → w.cell? (ad.add (i.toNat * 1 + j)) = some u := hc0
  obtain ⟨A0, c0, rfl, l0, g0⟩ := hK
  exact ⟨ad, A0, c0, e, by have hq := hc 0 _ rfl; rwa [Nat.mul_one, Nat.add_zero] at hq, l0, g0⟩
end Go.Proofs.Ytkbcmjejfbbcpaa.A
namespace Go.Proofs.Ytkbcmjejfbbcpaa.Rd
open Go.RowKit Go.Deep Go.Proofs.YtkbcmjejfbbcpaaW.PrintWords
def RdF {α : Type} (P : Program) (t : TypeId) (d : Kd α) (wf : α → Prop) (f : Nat) : Prop :=
  ∀ {H : Type} (enc : TypeId × Value → H) (W : World) (cs : List Value) (x : DataW H × List MemPlace),
    DataW.trod enc P W 0 (fun _ => true) true f t cs = some x → (x.1.weights P t).all (· ≤ reachBytes) = true → ∃ a, d.K W a cs ∧ wf a
def Rd {α : Type} (P : Program) (t : TypeId) (d : Kd α) (wf : α → Prop) : Prop := ∀ f, RdF P t d wf f
section
variable {P : Program} {t e : TypeId} {α : Type} {d : Kd α} {wf : α → Prop}
theorem Rd.int {k : IntKind} (ht : P.underlying t = some (.int k)) : Rd P t (Kd.int k) (fun a => (Lit.int k a).wf = true) := by
  intro f H enc W cs x h _
  obtain ⟨n, rfl, _, hw⟩ := DataW.trod_int ht h
  exact ⟨n, rfl, hw⟩
theorem Rd.bool (ht : P.underlying t = some .bool) : Rd P t Kd.bool (fun _ => True) := by
  intro f H enc W cs x h _
  obtain ⟨b, rfl, _⟩ := DataW.trod_bool ht h
  exact ⟨b, rfl, trivial⟩
theorem all_weights {H : Type} {l : List (DataW H)} (h : (DataW.weightsAll P e l).all (· ≤ reachBytes) = true) : ∀ x, x ∈ l → (x.weights P e).all (· ≤ reachBytes) = true := by
  induction l with
  | nil => intro x hx; simp at hx
  | cons y l ih =>
    simp only [DataW.weightsAll, List.all_append, Bool.and_eq_true] at h
    intro x hx
    rcases List.mem_cons.1 hx with rfl | hx
    · exact h.1
    · exact ih h.2 x hx
theorem list_of {β : Type} (Q : Nat → β → Prop) : ∀ (n : Nat), (∀ i, i < n → ∃ b, Q i b) → ∃ l : List β, l.length = n ∧ ∀ i b, l[i]? = some b → Q i b
  | 0, _ => ⟨[], rfl, fun i b h => by simp at h⟩
  | n + 1, h => by
    obtain ⟨l, hl, hq⟩ := list_of Q n (fun i hi => h i (by omega))
    obtain ⟨b, hb⟩ := h n (by omega)
    refine ⟨l ++ [b], by simp [hl], fun i c hc => ?_⟩
    rcases Nat.lt_or_ge i l.length with hi | hi
    · rw [List.getElem?_append_left hi] at hc
      exact hq i c hc
    · have hlt := (List.getElem?_eq_some_iff.1 hc).1
      rw [List.length_append, List.length_singleton] at hlt
      have : i = n := by omega
      subst this
      rw [List.getElem?_append_right hi, hl, Nat.sub_self] at hc
      simp at hc
      subst hc
      exact hb
theorem RdF.slice (ht : P.underlying t = some (.slice e)) (hc : P.cellsOf e = d.sz) {f : Nat} (hd : ∀ g, g < f → RdF P e d wf g) : RdF P t (Kd.slice e d) (fun l => l.length * P.bytesOf e ≤ 140737488351232 ∧ ∀ x, x ∈ l → wf x) f := by
  intro H enc W cs x h hw
  rcases DataW.trod_slice ht h with ⟨rfl, rfl⟩ | ⟨a, len, cap, elems, rest, n, rfl, rfl, rfl, _, hlc, hm, hlen, hel, _, _⟩
  · exact ⟨[], ⟨none, 0, rfl, Nat.le_refl _, rfl, by simp, fun h => absurd h (by simp)⟩, by simp, fun x h => by simp at h⟩
  simp only [DataW.weights, ht, List.all_cons, List.all_append, Bool.and_eq_true, decide_eq_true_eq] at hw
  obtain ⟨hb, hw1, _⟩ := hw
  rw [List.length_map, List.length_map] at hb
  obtain ⟨l, hl, hq⟩ := list_of (fun i b => ∃ c, c.length = d.sz ∧ d.K W b c ∧ wf b ∧ ∀ j u, c[j]? = some u → W.cell? (a.add (i * d.sz + j)) = some u) len fun i hi => by
    have hi' : i < elems.length := by omega
    have h1 := hel i hi
    rw [List.getElem?_eq_getElem hi'] at h1
    obtain ⟨c, hc1, hc2⟩ := Option.bind_eq_some_iff.1 h1
    obtain ⟨_, hcl, hcell⟩ := World.cells?_some hc1
    obtain ⟨b, hk, hwf⟩ := hd n (Nat.lt_succ_self n) enc W c _ hc2 (all_weights hw1 _ (List.mem_map.2 ⟨_, List.getElem_mem hi', rfl⟩))
    refine ⟨b, c, by rw [hcl, hc], hk, hwf, fun j u hj => ?_⟩
    have hjl := (List.getElem?_eq_some_iff.1 hj).1
    have h2 := hcell j (by omega)
    rw [hj, hc] at h2
    rw [← h2]
    congr 1
    exact (Deep.add_add _ _ _).symm
  refine ⟨l, ⟨some a, cap, by rw [hl], by rw [hl]; exact hlc, hl ▸ rfl, by unfold maxLen at hm; omega, fun _ => ⟨a, rfl, fun j p hj => ?_⟩⟩, ?_, fun x hx => ?_⟩
  · obtain ⟨c, h1, h2, _, h4⟩ := hq j p hj
    exact ⟨c, h1, h2, h4⟩
  · have : l.length * P.bytesOf e ≤ (elems.length + rest.length) * P.bytesOf e := Nat.mul_le_mul_right _ (by omega)
    unfold reachBytes at hb
    omega
  · obtain ⟨i, hi⟩ := List.getElem?_of_mem hx
    obtain ⟨c, _, _, h3, _⟩ := hq i x hi
    exact h3
theorem Rd.slice (ht : P.underlying t = some (.slice e)) (hc : P.cellsOf e = d.sz) (hd : Rd P e d wf) : Rd P t (Kd.slice e d) (fun l => l.length * P.bytesOf e ≤ 140737488351232 ∧ ∀ x, x ∈ l → wf x) :=
  fun f => RdF.slice ht hc (fun g _ => hd g)
theorem Rd.arg {H : Type} {enc : TypeId × Value → H} {W : World} {ts : List TypeId} {ds : List (DataW H)} {j : Nat} {v : Value} {x : DataW H} {ps : List MemPlace} (hr : Rd P t d wf) (hsz : (DataW.weightsEach P ts ds).all (· ≤ reachBytes) = true) (ht : ts[j]? = some t) (hd : ds[j]? = some x)
    (h : DataW.Trod enc P W 0 (fun _ => true) true t v x ps) : ∃ a, d.K W a v.cells.toList ∧ wf a := by
  obtain ⟨f, hf⟩ := h
  refine hr f enc W _ _ hf ?_
  rw [List.all_eq_true] at hsz ⊢
  exact fun n hn => hsz n (DataW.weights_mem_each ht hd n hn)
end
end Go.Proofs.Ytkbcmjejfbbcpaa.Rd
namespace Go.Proofs.Ytkbcmjejfbbcpaa.Rd
open Go.RowKit Go.Deep Go.Proofs.YtkbcmjejfbbcpaaW.PrintWords Go.Proofs.Ytkbcmjejfbbcpaa.A
def wfI (n : Int) : Prop := -9223372036854775808 ≤ n ∧ n ≤ 9223372036854775807
theorem wfI_of {n : Int} (h : (Lit.int .i64 n).wf = true) : wfI n := by
  have h1 := of_decide_eq_true (p := _ ∧ _) (by simpa [Lit.wf, IntKind.signed, IntKind.bits, Bool.and_eq_true, decide_eq_true_eq] using h)
  exact h1
theorem Rd.i64 : Rd Try.prog 3 (Kd.int .i64) wfI := by
  intro f H enc W cs x h hw
  obtain ⟨a, h1, h2⟩ := Rd.int Try.underlying3 f enc W cs x h hw
  exact ⟨a, h1, wfI_of h2⟩
theorem Rd.run : Rd Try.prog 25 k25 (fun r => wfI r.f0 ∧ wfI r.f1) := by
  intro f H enc W cs x h hw
  obtain ⟨y0, y1, n, rfl, hl, h0, h1⟩ := Go.ChangeShapes.trod_struct2 Try.underlying25 h
  obtain ⟨a, ha, _, wa⟩ := DataW.trod_int Try.underlying3 h0
  obtain ⟨b, hb, _, wb⟩ := DataW.trod_int Try.underlying3 h1
  refine ⟨⟨a, b⟩, ⟨[.int .i64 a], [.int .i64 b], ?_, rfl, rfl⟩, wfI_of wa, wfI_of wb⟩
  have e1 : Try.prog.cellsOf 25 = 2 := by kernel_rfl
  have e2 : Try.prog.cellsOf 3 = 1 := by kernel_rfl
  rw [e1] at hl
  rw [e2] at ha hb
  match cs, hl with
  | [u, v], _ =>
    simp at ha hb
    rw [ha, hb]; rfl
theorem Rd.runs : Rd Try.prog 23 (Kd.slice 25 k25) (fun l => l.length ≤ 8796093022208 ∧ ∀ r, r ∈ l → wfI r.f0 ∧ wfI r.f1) := by
  intro f H enc W cs x h hw
  obtain ⟨a, h1, h2, h3⟩ := Rd.slice Try.underlying23 (by kernel_rfl) Rd.run f enc W cs x h hw
  have e : Try.prog.bytesOf 25 = 16 := by kernel_rfl
  rw [e] at h2
  exact ⟨a, h1, by omega, h3⟩
theorem arg_slice {α : Type} {e : Nat} {d : Kd α} {W : World} {l : List α} {a : Option Addr} {n c : Nat} (h : (Kd.slice e d).K W l (Value.slice a n c).cells.toList) : n = l.length ∧ l.length ≤ c ∧ Kd.C d W a l.length l := by
  obtain ⟨A, c', e, h1, h2⟩ := h
  simp [Value.cells] at e
  obtain ⟨rfl, rfl, rfl⟩ := e
  exact ⟨rfl, h1, h2⟩
end Go.Proofs.Ytkbcmjejfbbcpaa.Rd
namespace Go.Proofs.YtkbcmjejfbbcpaaW.PrintWords
open Go.RowKit Go.Proofs.YtkbcmjejfbbcpaaW.PrintLast Go.Proofs.YtkbcmjejfbbcpaaW.PrintMore
section
variable {P : Program} {ops : Array Oper} {Q : Exit → Act → World → Prop}
theorem goesV_ {oi : Oper} {N : Option Tmp} {a : Act} {w : World} {K : Act → World → Prop} {f : FuncId} {fn : Func} {as_ : Array Operand} {ts : Array TypeId} {t : Tmp} (pre : Array Value) (hf : P.funcs[f]? = some fn) (hname : (fn.name == "runtime.NumGoroutine") = false) (hb : fn.body.isSome = true) (args : Array Value)
    (hw : Region.wanted oi (yielded ops a.tmps) = true) (hN : oi.dst = N) (hop : oi.op = .call { callee := .value (.tmp t), args := as_, argTypes := ts }) (hv : a.eval (.tmp t) = .func (.func f) pre #[]) (hargs : pre ++ as_.map a.eval = args)
    (h : Calls P f args w fun e w' => ∃ v, e = .returned v ∧ K (a.put N v) w') : if Region.wanted oi (yielded ops a.tmps) = true then Oper.wp P oi a w K Q else K (a.put N undef) w := by
  refine call_ f args hw hN ?_ h
  have he := enters_ hf hname hb args w
  unfold execOp
  simp [hop, resolve, Deferred.ofValue, invoke, hv, hargs, he]
end
theorem isSome_setCell (w : World) (a : Addr) (v : Value) (b : Addr) : ((w.setCell a v).cell? b).isSome = (w.cell? b).isSome := by
  simp only [World.setCell, World.cell?, Array.getElem?_modify]
  by_cases hb : a.block = b.block
  · simp only [hb, if_true]
    cases hh : w.heap[b.block]? with
    | none => simp
    | some x => cases x <;> simp <;> (by_cases hs : b.spot.isSome <;> simp_all <;> grind)
  · simp [hb]
def ab (n m : Nat) : Array Bool := ⟨(List.range n).map fun i => m.testBit i⟩
section
variable {P : Program} {md : Region.Mode} {ops : Array Oper} {Q : Exit → Act → World → Prop} {S : World → Prop} {ds : List Nat}
theorem takeA {oi : Oper} {v : Value} {fuel : Nat} {l : Array Bool} {a : Act} {w : World} (i : Nat) (N : Option Tmp) (l' : Array Bool) (hi : ops[i]? = some oi) (hN : oi.dst = N) (hc : takeB md ops ds l l' i = true)
    (hy : YieldsIf P ops S oi v a) (hS : S w) {a' : Act} (h : wpAnyLast P md ops Q S ds fuel l' a' w)
    (hQ : ∀ c a w, Q (.panic c) (a.put oi.dst v) w → Q (.panic c) a w := by exact fun _ _ _ h => h)
    (ha : a.put N v = a' := by (simp only [Act.put, List.setIfInBounds_toArray, List.set_cons_zero, List.set_cons_succ, i64_w, i32_w]; rfl)) : wpAnyLast P md ops Q S ds (fuel + 1) l a w :=
  take_ l' hi hN hc hQ hy hS ha h
theorem pA {oi : Oper} {v : Value} {fuel : Nat} {l : Array Bool} {a : Act} {w : World} (i N n m : Nat) {a' : Act} (h : wpAnyLast P md ops Q S ds fuel (ab n m) a' w)
    (hc : anyB md ops l (ab n m) i = true := by exact any_of HT_.out (by kernel_rfl))
    (hi : ops[i]? = some oi := by rfl) (hN : oi.dst = some N := by rfl)
    (hQ : ∀ c a w, Q (.panic c) (a.put oi.dst v) w → Q (.panic c) a w := by exact fun _ _ _ h => h)
    (hy : Yields P ops oi v a := by exact Or.inl ⟨by rfl, by intro w'; go_simp; with_reducible rfl⟩)
    (ha : a.put (some N) v = a' := by (simp only [Act.put, List.setIfInBounds_toArray, List.set_cons_zero, List.set_cons_succ, i64_w, i32_w]; rfl)) : wpAnyLast P md ops Q S ds (fuel + 1) l a w :=
  pure_ (ab n m) hi hN hc hQ hy ha h
theorem tA {oi : Oper} {v : Value} {fuel : Nat} {l : Array Bool} {a : Act} {w : World} (i N n m : Nat) {a' : Act} (h : wpAnyLast P md ops Q S ds fuel (ab n m) a' w)
    (hi : ops[i]? = some oi := by rfl) (hN : oi.dst = some N := by rfl) (hy : YieldsIf P ops S oi v a := by exact Or.inl ⟨by rfl, by rintro w' ⟨s0, s1, s2, s3⟩; go_simp; with_reducible rfl⟩) (hc : takeB md ops ds l (ab n m) i = true := by exact take_ofW HT_.out HW_.out (by kernel_rfl)) (hS : S w := by exact hHeld)
    (hQ : ∀ c a w, Q (.panic c) (a.put oi.dst v) w → Q (.panic c) a w := by exact fun _ _ _ h => h)
    (ha : a.put (some N) v = a' := by (simp only [Act.put, List.setIfInBounds_toArray, List.set_cons_zero, List.set_cons_succ, i64_w, i32_w]; rfl)) : wpAnyLast P md ops Q S ds (fuel + 1) l a w :=
  take_ (ab n m) hi hN hc hQ hy hS ha h
theorem uA {oi : Oper} {fuel : Nat} {l : Array Bool} {a : Act} {w : World} (i N n m : Nat) {a' : Act} (h : wpAnyLast P md ops Q S ds fuel (ab n m) a' w)
    (hc : anyB md ops l (ab n m) i = true := by exact any_of HT_.out (by kernel_rfl))
    (hi : ops[i]? = some oi := by rfl) (hN : oi.dst = some N := by rfl)
    (hQ : ∀ c a w, Q (.panic c) (a.put oi.dst undef) w → Q (.panic c) a w := by exact fun _ _ _ h => h)
    (hy : Yields P ops oi undef a := by exact Or.inr ⟨by rfl, rfl⟩)
    (ha : a.put (some N) undef = a' := by (simp only [Act.put, List.setIfInBounds_toArray, List.set_cons_zero, List.set_cons_succ, i64_w, i32_w]; rfl)) : wpAnyLast P md ops Q S ds (fuel + 1) l a w :=
  pure_ (ab n m) hi hN hc hQ hy ha h
theorem nA {fuel : Nat} {l : Array Bool} {a a' : Act} {w : World} (h : wpAnyLast P md ops Q S ds fuel l a' w) (ha : a = a' := by (show Act.put _ _ _ = _; simp only [Act.put, List.setIfInBounds_toArray, List.set_cons_zero, List.set_cons_succ, i64_w, i32_w]; rfl)) : wpAnyLast P md ops Q S ds fuel l a w := norm_ ha h
theorem sA {oi : Oper} {a : Act} {w w1 : World} {K : Act → World → Prop} (h : K a w1) (hrun : (execOp a.eval oi).run P w = .ok .skip w1 := by (go_simp; rfl)) (hw : Region.wanted oi (yielded ops a.tmps) = true := by rfl) (hN : oi.dst = none := by rfl) :
    if Region.wanted oi (yielded ops a.tmps) = true then Oper.wp P oi a w K Q else K (a.put none undef) w := skip_ hw hN hrun h
end
theorem od_ {p : Prop} [Decidable p] (h : decide p = true := by first | (with_reducible assumption) | assumption) : p := of_decide_eq_true h
theorem rf_ {p : Prop} (h : p := by first | rfl | (simp; done) | (simp [*]; done)) : p := h
theorem re_ {p : Prop} (h : p := by first | rfl | (simp [errW_none, errW_some] <;> rfl) | (simp [*, errW_none, errW_some] <;> rfl)) : p := h
theorem ml_ {p : Prop} (h : p := by (try simp only [List.map_toArray, List.map_cons, List.map_nil]); first | done | rfl | (simp only [List.length_drop, List.length_take]; rfl)) : p := h
theorem hb_ {p : Prop} (h : p := by repeat (first | (with_reducible first | exact HB.out | apply below_alloc | apply pw_below_drewN | apply below_drew1) | exact HB.out)) : p := h
theorem hk_ {p : Prop} (h : p := by repeat (first | (with_reducible first | exact HK.out | apply Kept.alloc | apply Kept.drewN | apply Kept.drew) | exact HK.out)) : p := h
theorem h0_ {p : Prop} (h : p := by (with_reducible repeat (first | apply Kd.R_alloc | apply Kd.R_drewN | apply Kd.R_drew)); exact HO_0.out) : p := h
end Go.Proofs.YtkbcmjejfbbcpaaW.PrintWords
namespace Go.Proofs.Ytkbcmjejfbbcpaa.A
open Go.RowKit Go.Proofs.YtkbcmjejfbbcpaaW.PrintWords Go.Proofs.YtkbcmjejfbbcpaaW.PrintLast Go.Proofs.YtkbcmjejfbbcpaaW.PrintMore
theorem S25.ext2 {a b : S25} (h0 : a.f0 = b.f0) (h1 : a.f1 = b.f1) : a = b := by
  cases a; cases b
  simp only at h0 h1
  subst h0; subst h1; rfl
def lim : Int := 1099511627776
def mem (l : List S25) (n : Int) : Prop := ∃ r, r ∈ l ∧ r.f0 ≤ n ∧ n ≤ r.f1
def saneF : Int → List S25 → Prop
  | _, [] => True
  | a, r :: t => a + 2 ≤ r.f0 ∧ r.f0 ≤ r.f1 ∧ r.f1 ≤ lim ∧ saneF r.f1 t
def sane (l : List S25) : Prop := saneF (-lim - 2) l
theorem mem_nil (n : Int) : ¬ mem [] n := fun ⟨_, h, _⟩ => by simp at h
theorem mem_cons (r : S25) (t : List S25) (n : Int) : mem (r :: t) n ↔ (r.f0 ≤ n ∧ n ≤ r.f1) ∨ mem t n := by
  constructor
  · rintro ⟨q, hq, h⟩
    rcases List.mem_cons.1 hq with rfl | hq
    · exact .inl h
    · exact .inr ⟨q, hq, h⟩
  · rintro (h | ⟨q, hq, h⟩)
    · exact ⟨r, List.mem_cons_self, h⟩
    · exact ⟨q, List.mem_cons_of_mem _ hq, h⟩
theorem mem_append (s t : List S25) (n : Int) : mem (s ++ t) n ↔ mem s n ∨ mem t n := by
  induction s with
  | nil => simp [mem_nil]
  | cons r s ih => rw [List.cons_append, mem_cons, mem_cons, ih, or_assoc]
theorem saneF_mem : ∀ {a : Int} {l : List S25}, saneF a l → ∀ {n : Int}, mem l n → a + 2 ≤ n ∧ n ≤ lim
  | _, [], _, _, h => absurd h (mem_nil _)
  | a, r :: t, ⟨h1, h2, h3, h4⟩, n, h => by
    rcases (mem_cons _ _ _).1 h with h | h
    · omega
    · have := saneF_mem h4 h
      omega
theorem saneF_le {a b : Int} {l : List S25} (h : saneF a l) (hb : b ≤ a) : saneF b l := by
  cases l with
  | nil => trivial
  | cons r t =>
    obtain ⟨h1, h2, h3, h4⟩ := h
    exact ⟨by omega, h2, h3, h4⟩
theorem unique : ∀ {s t : List S25} {a b : Int}, saneF a s → saneF b t → (∀ n, mem s n ↔ mem t n) → s = t
  | [], [], _, _, _, _, _ => rfl
  | [], q :: t, _, _, _, ⟨_, h2, _⟩, h => absurd ((h q.f0).2 ((mem_cons _ _ _).2 (.inl ⟨Int.le_refl _, h2⟩))) (mem_nil _)
  | r :: s, [], _, _, ⟨_, h2, _⟩, _, h => absurd ((h r.f0).1 ((mem_cons _ _ _).2 (.inl ⟨Int.le_refl _, h2⟩))) (mem_nil _)
  | r :: s, q :: t, a, b, ⟨r1, r2, r3, r4⟩, ⟨q1, q2, q3, q4⟩, h => by
    have hr : ∀ n, mem (r :: s) n → r.f0 ≤ n := fun n hn => by
      rcases (mem_cons _ _ _).1 hn with hn | hn
      · exact hn.1
      · have := saneF_mem r4 hn; omega
    have hq : ∀ n, mem (q :: t) n → q.f0 ≤ n := fun n hn => by
      rcases (mem_cons _ _ _).1 hn with hn | hn
      · exact hn.1
      · have := saneF_mem q4 hn; omega
    have e0 : r.f0 = q.f0 := by
      have h1 := hq _ ((h r.f0).1 ((mem_cons _ _ _).2 (.inl ⟨Int.le_refl _, r2⟩)))
      have h2 := hr _ ((h q.f0).2 ((mem_cons _ _ _).2 (.inl ⟨Int.le_refl _, q2⟩)))
      omega
    have e1 : r.f1 = q.f1 := by
      rcases Int.lt_trichotomy r.f1 q.f1 with hlt | heq | hlt
      · have := (h (r.f1 + 1)).2 ((mem_cons _ _ _).2 (.inl ⟨by omega, by omega⟩))
        rcases (mem_cons _ _ _).1 this with hn | hn
        · omega
        · have := saneF_mem r4 hn; omega
      · exact heq
      · have := (h (q.f1 + 1)).1 ((mem_cons _ _ _).2 (.inl ⟨by omega, by omega⟩))
        rcases (mem_cons _ _ _).1 this with hn | hn
        · omega
        · have := saneF_mem q4 hn; omega
    have e2 : s = t := unique r4 q4 fun n => by
      constructor
      · intro hn
        have h1 := saneF_mem r4 hn
        rcases (mem_cons _ _ _).1 ((h n).1 ((mem_cons _ _ _).2 (.inr hn))) with h2 | h2
        · omega
        · exact h2
      · intro hn
        have h1 := saneF_mem q4 hn
        rcases (mem_cons _ _ _).1 ((h n).2 ((mem_cons _ _ _).2 (.inr hn))) with h2 | h2
        · omega
        · exact h2
    rw [S25.ext2 e0 e1, e2]
def ins (x : S25) : List S25 → List S25
  | [] => [x]
  | q :: t => if q.f1 < x.f0 - 1 then q :: ins x t else if x.f1 + 1 < q.f0 then x :: q :: t else ins ⟨min x.f0 q.f0, max x.f1 q.f1⟩ t
theorem ins_sane : ∀ (s : List S25) (x : S25) (a : Int), saneF a s → a + 2 ≤ x.f0 → x.f0 ≤ x.f1 → x.f1 ≤ lim → saneF a (ins x s)
  | [], x, a, _, h1, h2, h3 => ⟨h1, h2, h3, trivial⟩
  | q :: t, x, a, ⟨q1, q2, q3, q4⟩, h1, h2, h3 => by
    unfold ins
    by_cases c1 : q.f1 < x.f0 - 1
    · rw [if_pos c1]
      exact ⟨q1, q2, q3, ins_sane t x _ q4 (by omega) h2 h3⟩
    · rw [if_neg c1]
      by_cases c2 : x.f1 + 1 < q.f0
      · rw [if_pos c2]
        exact ⟨h1, h2, h3, by omega, q2, q3, q4⟩
      · rw [if_neg c2]
        exact ins_sane t _ a (saneF_le q4 (by omega)) (by simp only; omega) (by simp only; omega) (by simp only; omega)
theorem ins_mem : ∀ (s : List S25) (x : S25) (a : Int), saneF a s → x.f0 ≤ x.f1 → ∀ n, mem (ins x s) n ↔ (x.f0 ≤ n ∧ n ≤ x.f1) ∨ mem s n
  | [], x, a, _, h2, n => by unfold ins; rw [mem_cons]
  | q :: t, x, a, ⟨q1, q2, q3, q4⟩, h2, n => by
    unfold ins
    by_cases c1 : q.f1 < x.f0 - 1
    · rw [if_pos c1, mem_cons, mem_cons, ins_mem t x _ q4 h2 n, ← or_assoc, ← or_assoc]
      rw [or_comm (a := q.f0 ≤ n ∧ n ≤ q.f1)]
    · rw [if_neg c1]
      by_cases c2 : x.f1 + 1 < q.f0
      · rw [if_pos c2, mem_cons]
      · rw [if_neg c2, ins_mem t _ _ q4 (by simp only; omega) n, mem_cons, ← or_assoc]
        simp only
        constructor
        · rintro (h | h)
          · left; omega
          · exact .inr h
        · rintro (h | h)
          · left; omega
          · exact .inr h
def clamp (r : S25) : S25 := ⟨max r.f0 (-lim), min r.f1 lim⟩
def step (s : List S25) (r : S25) : List S25 := if (clamp r).f0 ≤ (clamp r).f1 then ins (clamp r) s else s
def norm (l : List S25) : List S25 := l.foldl step []
theorem step_sane {s : List S25} (h : sane s) (r : S25) : sane (step s r) := by
  unfold step
  by_cases c : (clamp r).f0 ≤ (clamp r).f1
  · rw [if_pos c]
    exact ins_sane _ _ _ h (by unfold clamp; simp only; omega) c (by unfold clamp; simp only; omega)
  · rw [if_neg c]; exact h
theorem step_mem {s : List S25} (h : sane s) (r : S25) (n : Int) : mem (step s r) n ↔ (-lim ≤ n ∧ n ≤ lim ∧ r.f0 ≤ n ∧ n ≤ r.f1) ∨ mem s n := by
  unfold step
  by_cases c : (clamp r).f0 ≤ (clamp r).f1
  · rw [if_pos c, ins_mem _ _ _ h c]
    unfold clamp; simp only
    constructor
    · rintro (h | h)
      · left; omega
      · exact .inr h
    · rintro (h | h)
      · left; omega
      · exact .inr h
  · rw [if_neg c]
    unfold clamp at c; simp only at c
    constructor
    · exact .inr
    · rintro (h | h)
      · exfalso; omega
      · exact h
theorem fold_sane : ∀ (l : List S25) (s : List S25), sane s → sane (l.foldl step s)
  | [], _, h => h
  | r :: l, _, h => fold_sane l _ (step_sane h r)
theorem fold_mem : ∀ (l : List S25) (s : List S25), sane s → ∀ n, mem (l.foldl step s) n ↔ (-lim ≤ n ∧ n ≤ lim ∧ mem l n) ∨ mem s n
  | [], s, h, n => by simp [mem_nil]
  | r :: l, s, h, n => by
    rw [List.foldl_cons, fold_mem l _ (step_sane h r), step_mem h, mem_cons]
    constructor
    · rintro (⟨h1, h2, h3⟩ | ⟨h1, h2, h3⟩ | h)
      · exact .inl ⟨h1, h2, .inr h3⟩
      · exact .inl ⟨h1, h2, .inl h3⟩
      · exact .inr h
    · rintro (⟨h1, h2, h3 | h3⟩ | h)
      · exact .inr (.inl ⟨h1, h2, h3⟩)
      · exact .inl ⟨h1, h2, h3⟩
      · exact .inr (.inr h)
theorem norm_sane (l : List S25) : sane (norm l) := fold_sane l [] trivial
theorem norm_mem (l : List S25) (n : Int) : mem (norm l) n ↔ -lim ≤ n ∧ n ≤ lim ∧ mem l n := by
  unfold norm
  rw [fold_mem l [] trivial]
  simp [mem_nil]
theorem sane_mem {s : List S25} (h : sane s) {n : Int} (hn : mem s n) : -lim ≤ n ∧ n ≤ lim := by
  have := saneF_mem h hn
  omega
theorem same {s t : List S25} (hs : sane s) (ht : sane t) (h : ∀ n, mem s n ↔ mem t n) : s = t := unique hs ht h
theorem norm_of_sane {s : List S25} (h : sane s) : norm s = s := same (norm_sane s) h fun n => by
  rw [norm_mem]
  exact ⟨fun h => h.2.2, fun hn => ⟨(sane_mem h hn).1, (sane_mem h hn).2, hn⟩⟩
theorem norm_eq {l : List S25} {s : List S25} (h : sane s) (hm : ∀ n, mem s n ↔ -lim ≤ n ∧ n ≤ lim ∧ mem l n) : s = norm l :=
  same h (norm_sane l) fun n => by rw [hm, norm_mem]
def runs_Make.f (l0 : List S25) : Option (List S25) := if l0.length < 4398046511104 then some (norm l0) else none
def sets_Union.f (l0 l1 : List S25) : Option (List S25) := if l0.length + l1.length < 4398046511104 then some (norm (l0 ++ l1)) else none
end Go.Proofs.Ytkbcmjejfbbcpaa.A
namespace Go.Proofs.Ytkbcmjejfbbcpaa.A
open Go.RowKit Go.Proofs.YtkbcmjejfbbcpaaW.PrintWords Go.Proofs.YtkbcmjejfbbcpaaW.PrintLast Go.Proofs.YtkbcmjejfbbcpaaW.PrintMore
attribute [local go_sem] max2_int min2_int max_two min_two max_three min_three max_four min_four
def runs_Sane.l0 : Nat → Int → List (S25) → Int → Int → Option (Bool)
  | 0, _, _, _, _ => none
  | k + 1, x3, x6, x7, x8 => if x8 < x7 then (if 0 ≤ x8 then (if x8 < (x6.length : Int) then (if ((rd_T25 x6 x8).f0) > ((rd_T25 x6 x8).f1) then (some false) else (if ((rd_T25 x6 x8).f0) < (wrap64 (x3 + 2)) then (some false) else (if ((rd_T25 x6 x8).f1) > 1099511627776 then (some false) else (runs_Sane.l0 k ((rd_T25 x6 x8).f1) x6 x7 (wrap64 (x8 + 1)))))) else (none)) else (none)) else (some true)
def runs_Sane.f (k : Nat) (l0 : List (S25)) : Option (Bool) := runs_Sane.l0 k (-1099511627778) l0 (l0.length : Int) 0
theorem runs_Sane.mono_l : ∀ k, (∀ y0 y1 y2 y3, LeO (runs_Sane.l0 k y0 y1 y2 y3) (runs_Sane.l0 (k + 1) y0 y1 y2 y3))
  | 0 => fun _ _ _ _ r h => by simp [runs_Sane.l0] at h
  | k + 1 => by
    have ih0 := runs_Sane.mono_l k
    · intro y0 y1 y2 y3
      unfold runs_Sane.l0
      repeat' first
      | (with_reducible exact ih0 _ _ _ _)
      | (with_reducible exact LeO.refl _)
      | (with_reducible exact LeO.none _)
      | (with_reducible refine LeO.ite ?_ ?_)
      | (with_reducible refine LeO.bind ?_ (fun _ => ?_))
      | exact ih0 _ _ _ _
      | exact LeO.none _
      | refine LeO.ite ?_ ?_
      | refine LeO.bind ?_ (fun _ => ?_)
theorem runs_Sane.mono : ∀ a0 k, LeO (runs_Sane.f k a0) (runs_Sane.f (k + 1) a0) := by
  intro a0 k
  have ih0 := runs_Sane.mono_l k
  unfold runs_Sane.f
  repeat' first
      | (with_reducible exact ih0 _ _ _ _)
      | (with_reducible exact LeO.refl _)
      | (with_reducible exact LeO.none _)
      | (with_reducible refine LeO.ite ?_ ?_)
      | (with_reducible refine LeO.bind ?_ (fun _ => ?_))
      | exact ih0 _ _ _ _
      | exact LeO.none _
      | refine LeO.ite ?_ ?_
      | refine LeO.bind ?_ (fun _ => ?_)
def lustrumref04_Same.l0 : Nat → List (S25) → List (S25) → Int → Option (Bool)
  | 0, _, _, _ => none
  | k + 1, x0, x1, x5 => if x5 < (x0.length : Int) then (if 0 ≤ x5 then (if x5 < (x1.length : Int) then (if (!(((rd_T25 x0 x5).f0) == ((rd_T25 x1 x5).f0)) || (!(((rd_T25 x0 x5).f1) == ((rd_T25 x1 x5).f1)))) = true then (some false) else (lustrumref04_Same.l0 k x0 x1 (wrap64 (x5 + 1)))) else (none)) else (none)) else (some true)
def lustrumref04_Same.f (k : Nat) (l0 : List (S25)) (l1 : List (S25)) : Option (Bool) := if (l0.length : Int) = (l1.length : Int) then (lustrumref04_Same.l0 k l0 l1 0) else (some false)
def sets_known.f (k : Nat) (l0 : List (S25)) : Option ((List (S25))) := (runs_Sane.f k l0).bind fun t322 => (if t322 = true then (some l0) else ((runs_Make.f l0).bind fun t323 => (some t323)))
theorem sets_known.mono : ∀ a0 k, LeO (sets_known.f k a0) (sets_known.f (k + 1) a0) := by
  intro a0 k
  unfold sets_known.f
  repeat' first
      | (with_reducible exact runs_Sane.mono _ _)
      | (with_reducible exact LeO.refl _)
      | (with_reducible exact LeO.none _)
      | (with_reducible refine LeO.ite ?_ ?_)
      | (with_reducible refine LeO.bind ?_ (fun _ => ?_))
      | exact runs_Sane.mono _ _
      | exact LeO.none _
      | refine LeO.ite ?_ ?_
      | refine LeO.bind ?_ (fun _ => ?_)
def sets_Wide.f (k : Nat) (l0 : List (S25)) : Option (Bool) := (sets_known.f k l0).bind fun t326 => (some (decide ((t326.length : Int) > 400)))
theorem sets_Wide.mono : ∀ a0 k, LeO (sets_Wide.f k a0) (sets_Wide.f (k + 1) a0) := by
  intro a0 k
  unfold sets_Wide.f
  repeat' first
      | (with_reducible exact sets_known.mono _ _)
      | (with_reducible exact LeO.refl _)
      | (with_reducible exact LeO.none _)
      | (with_reducible refine LeO.ite ?_ ?_)
      | (with_reducible refine LeO.bind ?_ (fun _ => ?_))
      | exact sets_known.mono _ _
      | exact LeO.none _
      | refine LeO.ite ?_ ?_
      | refine LeO.bind ?_ (fun _ => ?_)
mutual
def sets_Meet.l0 : Nat → List (S25) → List (S25) → List (S25) → Int → Int → Option ((List (S25)))
  | 0, _, _, _, _, _ => none
  | k + 1, x0, x1, x5, x6, x7 => if x6 < (x0.length : Int) then (sets_Meet.j1 k x0 x1 x5 x6 x7 (decide (x7 < (x1.length : Int)))) else (sets_Meet.j1 k x0 x1 x5 x6 x7 false)
def sets_Meet.j1 : Nat → List (S25) → List (S25) → List (S25) → Int → Int → Bool → Option ((List (S25)))
  | 0, _, _, _, _, _, _ => none
  | k + 1, x0, x1, x5, x6, x7, x22 => if x22 = true then (if 0 ≤ x6 then (if x6 < (x0.length : Int) then (if 0 ≤ x7 then (if x7 < (x1.length : Int) then (if (mx ((rd_T25 x0 x6).f0) ((rd_T25 x1 x7).f0)) ≤ (mn ((rd_T25 x0 x6).f1) ((rd_T25 x1 x7).f1)) then (if x5.length < 8796093022208 then ((some (x5 ++ [(⟨mx ((rd_T25 x0 x6).f0) ((rd_T25 x1 x7).f0), mn ((rd_T25 x0 x6).f1) ((rd_T25 x1 x7).f1)⟩ : S25)] : List (S25))).bind fun y340 => (if ((rd_T25 x0 x6).f1) < ((rd_T25 x1 x7).f1) then (sets_Meet.l0 k x0 x1 y340 (wrap64 (x6 + 1)) x7) else (sets_Meet.l0 k x0 x1 y340 x6 (wrap64 (x7 + 1))))) else (none)) else (if ((rd_T25 x0 x6).f1) < ((rd_T25 x1 x7).f1) then (sets_Meet.l0 k x0 x1 x5 (wrap64 (x6 + 1)) x7) else (sets_Meet.l0 k x0 x1 x5 x6 (wrap64 (x7 + 1))))) else (none)) else (none)) else (none)) else (none)) else (some x5)
end
def sets_Meet.f (k : Nat) (l0 : List (S25)) (l1 : List (S25)) : Option ((List (S25))) := (sets_known.f k l0).bind fun t329 => ((sets_known.f k l1).bind fun t332 => (sets_Meet.l0 k t329 t332 ([] : List (S25)) 0 0))
theorem sets_Meet.mono_l : ∀ k, (∀ y0 y1 y2 y3 y4, LeO (sets_Meet.l0 k y0 y1 y2 y3 y4) (sets_Meet.l0 (k + 1) y0 y1 y2 y3 y4)) ∧ (∀ y0 y1 y2 y3 y4 y5, LeO (sets_Meet.j1 k y0 y1 y2 y3 y4 y5) (sets_Meet.j1 (k + 1) y0 y1 y2 y3 y4 y5))
  | 0 => ⟨fun _ _ _ _ _ r h => by simp [sets_Meet.l0] at h, fun _ _ _ _ _ _ r h => by simp [sets_Meet.j1] at h⟩
  | k + 1 => by
    obtain ⟨ih0, ih1⟩ := sets_Meet.mono_l k
    refine ⟨?_, ?_⟩
    · intro y0 y1 y2 y3 y4
      unfold sets_Meet.l0
      repeat' first
      | (with_reducible exact ih0 _ _ _ _ _)
      | (with_reducible exact ih1 _ _ _ _ _ _)
      | (with_reducible exact sets_known.mono _ _)
      | (with_reducible exact LeO.refl _)
      | (with_reducible exact LeO.none _)
      | (with_reducible refine LeO.ite ?_ ?_)
      | (with_reducible refine LeO.bind ?_ (fun _ => ?_))
      | exact ih0 _ _ _ _ _
      | exact ih1 _ _ _ _ _ _
      | exact sets_known.mono _ _
      | exact LeO.none _
      | refine LeO.ite ?_ ?_
      | refine LeO.bind ?_ (fun _ => ?_)
    · intro y0 y1 y2 y3 y4 y5
      unfold sets_Meet.j1
      repeat' first
      | (with_reducible exact ih0 _ _ _ _ _)
      | (with_reducible exact ih1 _ _ _ _ _ _)
      | (with_reducible exact sets_known.mono _ _)
      | (with_reducible exact LeO.refl _)
      | (with_reducible exact LeO.none _)
      | (with_reducible refine LeO.ite ?_ ?_)
      | (with_reducible refine LeO.bind ?_ (fun _ => ?_))
      | exact ih0 _ _ _ _ _
      | exact ih1 _ _ _ _ _ _
      | exact sets_known.mono _ _
      | exact LeO.none _
      | refine LeO.ite ?_ ?_
      | refine LeO.bind ?_ (fun _ => ?_)
theorem sets_Meet.mono : ∀ a0 a1 k, LeO (sets_Meet.f k a0 a1) (sets_Meet.f (k + 1) a0 a1) := by
  intro a0 a1 k
  obtain ⟨ih0, ih1⟩ := sets_Meet.mono_l k
  unfold sets_Meet.f
  repeat' first
      | (with_reducible exact ih0 _ _ _ _ _)
      | (with_reducible exact ih1 _ _ _ _ _ _)
      | (with_reducible exact sets_known.mono _ _)
      | (with_reducible exact LeO.refl _)
      | (with_reducible exact LeO.none _)
      | (with_reducible refine LeO.ite ?_ ?_)
      | (with_reducible refine LeO.bind ?_ (fun _ => ?_))
      | exact ih0 _ _ _ _ _
      | exact ih1 _ _ _ _ _ _
      | exact sets_known.mono _ _
      | exact LeO.none _
      | refine LeO.ite ?_ ?_
      | refine LeO.bind ?_ (fun _ => ?_)
def sets_Minus.l0 : Nat → List (S25) → List (S25) → Int → List (S25) → Int → Int → Option ((List (S25)))
  | 0, _, _, _, _, _, _ => none
  | k + 1, x0, x5, x6, x10, x11, x12 => if x12 < x11 then (if 0 ≤ x12 then (if x12 < (x10.length : Int) then (if x6 < ((rd_T25 x10 x12).f0) then (if x5.length < 8796093022208 then (sets_Minus.l0 k x0 (x5 ++ [(⟨x6, wrap64 (((rd_T25 x10 x12).f0) - 1)⟩ : S25)]) (wrap64 (((rd_T25 x10 x12).f1) + 1)) x10 x11 (wrap64 (x12 + 1))) else (none)) else (sets_Minus.l0 k x0 x5 (wrap64 (((rd_T25 x10 x12).f1) + 1)) x10 x11 (wrap64 (x12 + 1)))) else (none)) else (none)) else (if x6 ≤ 1099511627776 then (if x5.length < 8796093022208 then ((sets_Meet.f k x0 (x5 ++ [(⟨x6, 1099511627776⟩ : S25)])).bind fun t358 => (some t358)) else (none)) else ((sets_Meet.f k x0 x5).bind fun t361 => (some t361)))
def sets_Minus.f (k : Nat) (l0 : List (S25)) (l1 : List (S25)) : Option ((List (S25))) := (sets_known.f k l1).bind fun t347 => (sets_Minus.l0 k l0 ([] : List (S25)) (-1099511627776) t347 (t347.length : Int) 0)
theorem sets_Minus.mono_l : ∀ k, (∀ y0 y1 y2 y3 y4 y5, LeO (sets_Minus.l0 k y0 y1 y2 y3 y4 y5) (sets_Minus.l0 (k + 1) y0 y1 y2 y3 y4 y5))
  | 0 => fun _ _ _ _ _ _ r h => by simp [sets_Minus.l0] at h
  | k + 1 => by
    have ih0 := sets_Minus.mono_l k
    · intro y0 y1 y2 y3 y4 y5
      unfold sets_Minus.l0
      repeat' first
      | (with_reducible exact ih0 _ _ _ _ _ _)
      | (with_reducible exact sets_Meet.mono _ _ _)
      | (with_reducible exact sets_known.mono _ _)
      | (with_reducible exact LeO.refl _)
      | (with_reducible exact LeO.none _)
      | (with_reducible refine LeO.ite ?_ ?_)
      | (with_reducible refine LeO.bind ?_ (fun _ => ?_))
      | exact ih0 _ _ _ _ _ _
      | exact sets_Meet.mono _ _ _
      | exact sets_known.mono _ _
      | exact LeO.none _
      | refine LeO.ite ?_ ?_
      | refine LeO.bind ?_ (fun _ => ?_)
theorem sets_Minus.mono : ∀ a0 a1 k, LeO (sets_Minus.f k a0 a1) (sets_Minus.f (k + 1) a0 a1) := by
  intro a0 a1 k
  have ih0 := sets_Minus.mono_l k
  unfold sets_Minus.f
  repeat' first
      | (with_reducible exact ih0 _ _ _ _ _ _)
      | (with_reducible exact sets_Meet.mono _ _ _)
      | (with_reducible exact sets_known.mono _ _)
      | (with_reducible exact LeO.refl _)
      | (with_reducible exact LeO.none _)
      | (with_reducible refine LeO.ite ?_ ?_)
      | (with_reducible refine LeO.bind ?_ (fun _ => ?_))
      | exact ih0 _ _ _ _ _ _
      | exact sets_Meet.mono _ _ _
      | exact sets_known.mono _ _
      | exact LeO.none _
      | refine LeO.ite ?_ ?_
      | refine LeO.bind ?_ (fun _ => ?_)
def sets_moved.l0 : Nat → Int → Int → List (S25) → List (S25) → Int → Int → Option ((List (S25)))
  | 0, _, _, _, _, _, _ => none
  | k + 1, x1, x2, x7, x11, x12, x13 => if x13 < x12 then (if 0 ≤ x13 then (if x13 < (x11.length : Int) then (if x7.length < 8796093022208 then (sets_moved.l0 k x1 x2 (x7 ++ [(⟨wrap64 (((rd_T25 x11 x13).f0) + x1), wrap64 (((rd_T25 x11 x13).f1) + x2)⟩ : S25)]) x11 x12 (wrap64 (x13 + 1))) else (none)) else (none)) else (none)) else ((runs_Make.f x7).bind fun t372 => (some t372))
def sets_moved.f (k : Nat) (l0 : List (S25)) (a1 : Int) (a2 : Int) : Option ((List (S25))) := (sets_known.f k l0).bind fun t364 => (sets_moved.l0 k a1 a2 ([] : List (S25)) t364 (t364.length : Int) 0)
theorem sets_moved.mono_l : ∀ k, (∀ y0 y1 y2 y3 y4 y5, LeO (sets_moved.l0 k y0 y1 y2 y3 y4 y5) (sets_moved.l0 (k + 1) y0 y1 y2 y3 y4 y5))
  | 0 => fun _ _ _ _ _ _ r h => by simp [sets_moved.l0] at h
  | k + 1 => by
    have ih0 := sets_moved.mono_l k
    · intro y0 y1 y2 y3 y4 y5
      unfold sets_moved.l0
      repeat' first
      | (with_reducible exact ih0 _ _ _ _ _ _)
      | (with_reducible exact sets_known.mono _ _)
      | (with_reducible exact LeO.refl _)
      | (with_reducible exact LeO.none _)
      | (with_reducible refine LeO.ite ?_ ?_)
      | (with_reducible refine LeO.bind ?_ (fun _ => ?_))
      | exact ih0 _ _ _ _ _ _
      | exact sets_known.mono _ _
      | exact LeO.none _
      | refine LeO.ite ?_ ?_
      | refine LeO.bind ?_ (fun _ => ?_)
theorem sets_moved.mono : ∀ a0 a1 a2 k, LeO (sets_moved.f k a0 a1 a2) (sets_moved.f (k + 1) a0 a1 a2) := by
  intro a0 a1 a2 k
  have ih0 := sets_moved.mono_l k
  unfold sets_moved.f
  repeat' first
      | (with_reducible exact ih0 _ _ _ _ _ _)
      | (with_reducible exact sets_known.mono _ _)
      | (with_reducible exact LeO.refl _)
      | (with_reducible exact LeO.none _)
      | (with_reducible refine LeO.ite ?_ ?_)
      | (with_reducible refine LeO.bind ?_ (fun _ => ?_))
      | exact ih0 _ _ _ _ _ _
      | exact sets_known.mono _ _
      | exact LeO.none _
      | refine LeO.ite ?_ ?_
      | refine LeO.bind ?_ (fun _ => ?_)
def sets_Grow.f (k : Nat) (l0 : List (S25)) (a1 : Int) : Option ((List (S25))) := (sets_moved.f k l0 (-(mx 0 (mn a1 2199023255552))) (mx 0 (mn a1 2199023255552))).bind fun t375 => (some t375)
theorem sets_Grow.mono : ∀ a0 a1 k, LeO (sets_Grow.f k a0 a1) (sets_Grow.f (k + 1) a0 a1) := by
  intro a0 a1 k
  unfold sets_Grow.f
  repeat' first
      | (with_reducible exact sets_moved.mono _ _ _ _)
      | (with_reducible exact LeO.refl _)
      | (with_reducible exact LeO.none _)
      | (with_reducible refine LeO.ite ?_ ?_)
      | (with_reducible refine LeO.bind ?_ (fun _ => ?_))
      | exact sets_moved.mono _ _ _ _
      | exact LeO.none _
      | refine LeO.ite ?_ ?_
      | refine LeO.bind ?_ (fun _ => ?_)
def lustrumlaw05_awake.f (k : Nat)  : Option (Bool) := (sets_Grow.f k (([(⟨3, 4⟩ : S25)] : List (S25))) 2).bind fun t381 => ((sets_Minus.f k (([(⟨1, 9⟩ : S25)] : List (S25))) (([(⟨4, 5⟩ : S25)] : List (S25)))).bind fun t390 => (if (t381.length : Int) = 1 then (if 0 < (t381.length : Int) then (if ((rd_T25 t381 0).f0) = 1 then (if ((rd_T25 t381 0).f1) = 6 then (if (t390.length : Int) = 2 then (if 0 < (t390.length : Int) then (if ((rd_T25 t390 0).f1) = 3 then (if 1 < (t390.length : Int) then (if ((rd_T25 t390 1).f0) = 6 then ((sets_Wide.f k t390).bind fun t397 => (some (!t397))) else (some false)) else (none)) else (some false)) else (none)) else (some false)) else (some false)) else (some false)) else (none)) else (some false)))
theorem lustrumlaw05_awake.mono : ∀ k, LeO (lustrumlaw05_awake.f k ) (lustrumlaw05_awake.f (k + 1) ) := by
  intro  k
  unfold lustrumlaw05_awake.f
  repeat' first
      | (with_reducible exact sets_Grow.mono _ _ _)
      | (with_reducible exact sets_Minus.mono _ _ _)
      | (with_reducible exact sets_Wide.mono _ _)
      | (with_reducible exact LeO.refl _)
      | (with_reducible exact LeO.none _)
      | (with_reducible refine LeO.ite ?_ ?_)
      | (with_reducible refine LeO.bind ?_ (fun _ => ?_))
      | exact sets_Grow.mono _ _ _
      | exact sets_Minus.mono _ _ _
      | exact sets_Wide.mono _ _
      | exact LeO.none _
      | refine LeO.ite ?_ ?_
      | refine LeO.bind ?_ (fun _ => ?_)
def lustrumref04_Sane.l0 : Nat → List (S25) → Int → Option (Bool)
  | 0, _, _ => none
  | k + 1, x0, x3 => if x3 < (x0.length : Int) then (if 0 ≤ x3 then (if ((rd_T25 x0 x3).f0) > ((rd_T25 x0 x3).f1) then (some false) else (if ((rd_T25 x0 x3).f0) < (-1099511627776) then (some false) else (if ((rd_T25 x0 x3).f1) > 1099511627776 then (some false) else (if x3 > 0 then (if 0 ≤ (wrap64 (x3 - 1)) then (if (wrap64 (x3 - 1)) < (x0.length : Int) then (if (wrap64 (((rd_T25 x0 x3).f0) - 1)) ≤ ((rd_T25 x0 (wrap64 (x3 - 1))).f1) then (some false) else (lustrumref04_Sane.l0 k x0 (wrap64 (x3 + 1)))) else (none)) else (none)) else (lustrumref04_Sane.l0 k x0 (wrap64 (x3 + 1))))))) else (none)) else (some true)
def lustrumref04_Sane.f (k : Nat) (l0 : List (S25)) : Option (Bool) := lustrumref04_Sane.l0 k l0 0
def lustrumref04_put.l0 : Nat → List (S25) → List (S25) → List (S25) → Int → Int → Int → Option ((List (S25)))
  | 0, _, _, _, _, _, _ => none
  | k + 1, x0, x6, x7, x8, x215000, x215001 => if x8 < (x0.length : Int) then (if 0 ≤ x8 then (if ((rd_T25 x0 x8).f1) < (wrap64 (x215000 - 1)) then (if x6.length < 8796093022208 then (lustrumref04_put.l0 k x0 (x6 ++ [(⟨(rd_T25 x0 x8).f0, (rd_T25 x0 x8).f1⟩ : S25)]) x7 (wrap64 (x8 + 1)) x215000 x215001) else (none)) else (if ((rd_T25 x0 x8).f0) > (wrap64 (x215001 + 1)) then (if x7.length < 8796093022208 then (lustrumref04_put.l0 k x0 x6 (x7 ++ [(⟨(rd_T25 x0 x8).f0, (rd_T25 x0 x8).f1⟩ : S25)]) (wrap64 (x8 + 1)) x215000 x215001) else (none)) else (lustrumref04_put.l0 k x0 x6 x7 (wrap64 (x8 + 1)) (mn x215000 ((rd_T25 x0 x8).f0)) (mx x215001 ((rd_T25 x0 x8).f1))))) else (none)) else (if x6.length < 8796093022208 then ((some (x6 ++ [(⟨x215000, x215001⟩ : S25)] : List (S25))).bind fun y215 => (if y215.length + x7.length < 8796093022208 then (some (y215 ++ x7)) else (none))) else (none))
def lustrumref04_put.f (k : Nat) (l0 : List (S25)) (a1_0 : Int) (a1_1 : Int) : Option ((List (S25))) := if (mx a1_0 (-1099511627776)) > (mn a1_1 1099511627776) then (some l0) else (lustrumref04_put.l0 k l0 ([] : List (S25)) ([] : List (S25)) 0 (mx a1_0 (-1099511627776)) (mn a1_1 1099511627776))
def lustrumref04_Make.l0 : Nat → List (S25) → List (S25) → Int → Option ((List (S25)))
  | 0, _, _, _ => none
  | k + 1, x0, x3, x4 => if x4 < (x0.length : Int) then (if 0 ≤ x4 then ((lustrumref04_put.f k x3 ((rd_T25 x0 x4).f0) ((rd_T25 x0 x4).f1)).bind fun t234 => (lustrumref04_Make.l0 k x0 t234 (wrap64 (x4 + 1)))) else (none)) else (some x3)
def lustrumref04_Make.f (k : Nat) (l0 : List (S25)) : Option ((List (S25))) := lustrumref04_Make.l0 k l0 ([] : List (S25)) 0
def lustrumref04_As.f (k : Nat) (l0 : List (S25)) : Option ((List (S25))) := (lustrumref04_Sane.f k l0).bind fun t237 => (if t237 = true then (some l0) else ((lustrumref04_Make.f k l0).bind fun t238 => (some t238)))
def lustrumref05_Union.f (k : Nat) (l0 : List (S25)) (l1 : List (S25)) : Option ((List (S25))) := (some (([] : List (S25)) : List (S25))).bind fun y440 => (if y440.length + l0.length < 8796093022208 then ((some (y440 ++ l0 : List (S25))).bind fun y443 => (if y443.length + l1.length < 8796093022208 then ((lustrumref04_Make.f k (y443 ++ l1)).bind fun t449 => (some t449)) else (none))) else (none))
mutual
def lustrumref05_Meet.l0 : Nat → List (S25) → List (S25) → List (S25) → Int → Option ((List (S25)))
  | 0, _, _, _, _ => none
  | k + 1, x5, x6, x7, x8 => if x8 < (x5.length : Int) then (lustrumref05_Meet.l1 k x5 x6 x7 x8 0) else (some x7)
def lustrumref05_Meet.l1 : Nat → List (S25) → List (S25) → List (S25) → Int → Int → Option ((List (S25)))
  | 0, _, _, _, _, _ => none
  | k + 1, x5, x6, x7, x8, x9 => if x9 < (x6.length : Int) then (if 0 ≤ x8 then (if x8 < (x5.length : Int) then (if 0 ≤ x9 then (if (mx ((rd_T25 x5 x8).f0) ((rd_T25 x6 x9).f0)) ≤ (mn ((rd_T25 x5 x8).f1) ((rd_T25 x6 x9).f1)) then (if x7.length < 8796093022208 then (lustrumref05_Meet.l1 k x5 x6 (x7 ++ [(⟨mx ((rd_T25 x5 x8).f0) ((rd_T25 x6 x9).f0), mn ((rd_T25 x5 x8).f1) ((rd_T25 x6 x9).f1)⟩ : S25)]) x8 (wrap64 (x9 + 1))) else (none)) else (lustrumref05_Meet.l1 k x5 x6 x7 x8 (wrap64 (x9 + 1)))) else (none)) else (none)) else (none)) else (lustrumref05_Meet.l0 k x5 x6 x7 (wrap64 (x8 + 1)))
end
def lustrumref05_Meet.f (k : Nat) (l0 : List (S25)) (l1 : List (S25)) : Option ((List (S25))) := (lustrumref04_As.f k l0).bind fun t452 => ((lustrumref04_As.f k l1).bind fun t455 => (lustrumref05_Meet.l0 k t452 t455 ([] : List (S25)) 0))
def lustrumref05_rest.l0 : Nat → List (S25) → List (S25) → Int → Int → Option ((List (S25)))
  | 0, _, _, _, _ => none
  | k + 1, x3, x4, x5, x6 => if x6 < (x3.length : Int) then (if 0 ≤ x6 then (if ((rd_T25 x3 x6).f0) > x5 then (if x4.length < 8796093022208 then (lustrumref05_rest.l0 k x3 (x4 ++ [(⟨x5, wrap64 (((rd_T25 x3 x6).f0) - 1)⟩ : S25)]) (wrap64 (((rd_T25 x3 x6).f1) + 1)) (wrap64 (x6 + 1))) else (none)) else (lustrumref05_rest.l0 k x3 x4 (wrap64 (((rd_T25 x3 x6).f1) + 1)) (wrap64 (x6 + 1)))) else (none)) else (if x5 ≤ 1099511627776 then (if x4.length < 8796093022208 then (some (x4 ++ [(⟨x5, 1099511627776⟩ : S25)])) else (none)) else (some x4))
def lustrumref05_rest.f (k : Nat) (l0 : List (S25)) : Option ((List (S25))) := (lustrumref04_As.f k l0).bind fun t469 => (lustrumref05_rest.l0 k t469 ([] : List (S25)) (-1099511627776) 0)
def lustrumref05_Minus.f (k : Nat) (l0 : List (S25)) (l1 : List (S25)) : Option ((List (S25))) := (lustrumref05_rest.f k l1).bind fun t482 => ((lustrumref05_Meet.f k l0 t482).bind fun t485 => (some t485))
def sets_Shift.f (k : Nat) (l0 : List (S25)) (a1 : Int) : Option ((List (S25))) := if a1 > 2199023255552 then (some ([] : List (S25))) else (if a1 < (-2199023255552) then (some ([] : List (S25))) else ((sets_moved.f k l0 a1 a1).bind fun t488 => (some t488)))
mutual
def lustrumref05_Shift.j0 : Nat → List (S25) → Int → Bool → Option ((List (S25)))
  | 0, _, _, _ => none
  | k + 1, x0, x1, x13 => if x13 = true then (some ([] : List (S25))) else ((lustrumref04_As.f k x0).bind fun t491 => (lustrumref05_Shift.l0 k x1 t491 ([] : List (S25)) 0))
def lustrumref05_Shift.l0 : Nat → Int → List (S25) → List (S25) → Int → Option ((List (S25)))
  | 0, _, _, _, _ => none
  | k + 1, x1, x5, x6, x7 => if x7 < (x5.length : Int) then (if 0 ≤ x7 then (if x6.length < 8796093022208 then (lustrumref05_Shift.l0 k x1 x5 (x6 ++ [(⟨wrap64 (((rd_T25 x5 x7).f0) + x1), wrap64 (((rd_T25 x5 x7).f1) + x1)⟩ : S25)]) (wrap64 (x7 + 1))) else (none)) else (none)) else ((lustrumref04_Make.f k x6).bind fun t499 => (some t499))
end
def lustrumref05_Shift.f (k : Nat) (l0 : List (S25)) (a1 : Int) : Option ((List (S25))) := if a1 > 2199023255552 then (lustrumref05_Shift.j0 k l0 a1 true) else (lustrumref05_Shift.j0 k l0 a1 (decide (a1 < (-2199023255552))))
def lustrumref05_Grow.l0 : Nat → List (S25) → Int → List (S25) → Int → Option ((List (S25)))
  | 0, _, _, _, _ => none
  | k + 1, x5, x6, x7, x8 => if x8 < (x5.length : Int) then (if 0 ≤ x8 then (if x7.length < 8796093022208 then (lustrumref05_Grow.l0 k x5 x6 (x7 ++ [(⟨wrap64 (((rd_T25 x5 x8).f0) - x6), wrap64 (((rd_T25 x5 x8).f1) + x6)⟩ : S25)]) (wrap64 (x8 + 1))) else (none)) else (none)) else ((lustrumref04_Make.f k x7).bind fun t510 => (some t510))
def lustrumref05_Grow.f (k : Nat) (l0 : List (S25)) (a1 : Int) : Option ((List (S25))) := (lustrumref04_As.f k l0).bind fun t502 => (lustrumref05_Grow.l0 k t502 (mn (mx a1 0) 2199023255552) ([] : List (S25)) 0)
def sets_Clip.f (k : Nat) (l0 : List (S25)) (a1 : Int) (a2 : Int) : Option ((List (S25))) := (sets_Meet.f k l0 (([(⟨a1, a2⟩ : S25)] : List (S25)))).bind fun t516 => (some t516)
def lustrumref05_Clip.f (k : Nat) (l0 : List (S25)) (a1 : Int) (a2 : Int) : Option ((List (S25))) := (lustrumref05_Meet.f k l0 (([(⟨a1, a2⟩ : S25)] : List (S25)))).bind fun t522 => (some t522)
def lustrumref05_Wide.f (k : Nat) (l0 : List (S25)) : Option (Bool) := (lustrumref04_As.f k l0).bind fun t525 => (some (decide ((t525.length : Int) > 400)))
mutual
def lustrumlaw05_SetsIs.j0 : Nat → List (S25) → List (S25) → Int → Int → Bool → Bool → Option (Bool)
  | 0, _, _, _, _, _, _ => none
  | k + 1, x0, x1, x2, x3, x9, x18 => if x18 = true then (some x9) else ((sets_Union.f x0 x1).bind fun t529 => ((lustrumref05_Union.f k x0 x1).bind fun t532 => ((lustrumref04_Same.f k t529 t532).bind fun t535 => (if t535 = true then ((sets_Meet.f k x0 x1).bind fun t536 => ((lustrumref05_Meet.f k x0 x1).bind fun t539 => ((lustrumref04_Same.f k t536 t539).bind fun t542 => (if t542 = true then ((sets_Minus.f k x0 x1).bind fun t543 => ((lustrumref05_Minus.f k x0 x1).bind fun t546 => ((lustrumref04_Same.f k t543 t546).bind fun t549 => (lustrumlaw05_SetsIs.j1 k x0 x2 x3 x9 (!t549))))) else (lustrumlaw05_SetsIs.j1 k x0 x2 x3 x9 true))))) else (lustrumlaw05_SetsIs.j1 k x0 x2 x3 x9 true)))))
def lustrumlaw05_SetsIs.j1 : Nat → List (S25) → Int → Int → Bool → Bool → Option (Bool)
  | 0, _, _, _, _, _ => none
  | k + 1, x0, x2, x3, x9, x47 => if x47 = true then (some false) else (if x9 = true then ((sets_Shift.f k x0 x2).bind fun t550 => ((lustrumref05_Shift.f k x0 x2).bind fun t553 => ((lustrumref04_Same.f k t550 t553).bind fun t556 => (if t556 = true then ((sets_Grow.f k x0 x2).bind fun t557 => ((lustrumref05_Grow.f k x0 x2).bind fun t560 => ((lustrumref04_Same.f k t557 t560).bind fun t563 => (if t563 = true then ((sets_Clip.f k x0 x2 x3).bind fun t564 => ((lustrumref05_Clip.f k x0 x2 x3).bind fun t567 => ((lustrumref04_Same.f k t564 t567).bind fun t570 => (if t570 = true then ((sets_Wide.f k x0).bind fun t571 => ((lustrumref05_Wide.f k x0).bind fun t572 => (some (t571 == t572)))) else (some false))))) else (some false))))) else (some false))))) else (some false))
end
def lustrumlaw05_SetsIs.f (k : Nat) (l0 : List (S25)) (l1 : List (S25)) (a2 : Int) (a3 : Int) : Option (Bool) := (lustrumlaw05_awake.f k).bind fun t528 => (if (l0.length : Int) > 40 then (lustrumlaw05_SetsIs.j0 k l0 l1 a2 a3 t528 true) else (lustrumlaw05_SetsIs.j0 k l0 l1 a2 a3 t528 (decide ((l1.length : Int) > 40))))
theorem eqA25 (d : Nat) (w : World) (x0 y0 : Int) (x1 y1 : Int) :
  (Op.equalIn (d + 2) 25 (.agg #[.int .i64 x0, .int .i64 x1]) (.agg #[.int .i64 y0, .int .i64 y1])).run Try.prog w = .ok (x0 == y0 && (x1 == y1)) w := by
 refine eqA_of Try.underlying25 (by kernel_rfl) ?_; refine eqf_cons (by rfl) (by go_simp; rfl) (by go_simp; rfl) (by go_simp) ?_; exact eqf_last (by rfl) (by go_simp; rfl) (by go_simp; rfl) (by go_simp)
end Go.Proofs.Ytkbcmjejfbbcpaa.A
namespace Go.Proofs.Ytkbcmjejfbbcpaa.A.At
open Go.RowKit Go.Proofs.YtkbcmjejfbbcpaaW.PrintWords Go.Proofs.YtkbcmjejfbbcpaaW.PrintLast Go.Proofs.YtkbcmjejfbbcpaaW.PrintMore
attribute [local go_sem] max2_int min2_int max_two min_two max_three min_three max_four min_four
def cmp_isNaN_int.f (a0 : Int) : Option (Bool) := some (a0 != a0)
def cmp_Compare_int.f (a0 : Int) (a1 : Int) : Option (Int) := (cmp_isNaN_int.f a0).bind fun t101 => ((cmp_isNaN_int.f a1).bind fun t102 => (if t101 = true then (if t102 = true then (some 0) else (some (-1))) else (if t102 = true then (some 1) else (if a0 < a1 then (some (-1)) else (if a0 > a1 then (some 1) else (some 0))))))
end Go.Proofs.Ytkbcmjejfbbcpaa.A.At
namespace Go.Proofs.Ytkbcmjejfbbcpaa.A.At
open Go.RowKit Go.Proofs.YtkbcmjejfbbcpaaW.PrintWords Go.Proofs.YtkbcmjejfbbcpaaW.PrintLast Go.Proofs.YtkbcmjejfbbcpaaW.PrintMore
attribute [local go_sem] max2_int min2_int max_two min_two max_three min_three max_four min_four
attribute [local go_sem] isSome_setCell
set_option maxHeartbeats 8000000 in
set_option maxRecDepth 100000 in
theorem cmp_isNaN_int.calls (a0 : Int) (r : Bool) (w : World) (h : cmp_isNaN_int.f a0 = some r) :
  Calls Try.prog 63 #[.int .i64 a0] w fun e w' => e = .returned (.bool r) ∧ Drawn0 w w' := by
 have H : (some (a0 != a0)) = some r := h; clear h; obtain rfl := Option.some.inj H; go_enter Try.func63, Try.ntmps63; go_wp2; go_ret; exact ⟨by first | rfl | (simp; done) | (simp [*]; done), by repeat (first | exact Drawn0.refl _ | apply Drawn0.step)⟩
set_option maxHeartbeats 8000000 in
set_option maxRecDepth 100000 in
theorem cmp_Compare_int.calls (a0 : Int) (a1 : Int) (r : Int) (w : World) (h : cmp_Compare_int.f a0 a1 = some r) :
  Calls Try.prog 57 #[.int .i64 a0, .int .i64 a1] w fun e w' => e = .returned (.int .i64 r) ∧ Drawn0 w w' := by
 have H : ((cmp_isNaN_int.f a0).bind fun t101 => ((cmp_isNaN_int.f a1).bind fun t102 => (if t101 = true then (if t102 = true then (some 0) else (some (-1))) else (if t102 = true then (some 1) else (if a0 < a1 then (some (-1)) else (if a0 > a1 then (some 1) else (some 0))))))) = some r := h; clear h; replace H := Option.bind_eq_some_iff.mp H; obtain ⟨t101, A30, H⟩ := H; replace H : ((cmp_isNaN_int.f a1).bind fun t102 => (if t101 = true then (if t102 = true then (some 0) else (some (-1))) else (if t102 = true then (some 1) else (if a0 < a1 then (some (-1)) else (if a0 > a1 then (some 1) else (some 0)))))) = some r := H; have A3 := Aside0.mk A30; clear A30; replace H := Option.bind_eq_some_iff.mp H; obtain ⟨t102, A40, H⟩ := H; replace H : (if t101 = true then (if t102 = true then (some 0) else (some (-1))) else (if t102 = true then (some 1) else (if a0 < a1 then (some (-1)) else (if a0 > a1 then (some 1) else (some 0))))) = some r := H; have A4 := Aside0.mk A40; clear A40
 by_cases c5 : t101 = true
 ·subst c5
  (have H1 : (if t102 = true then (some 0) else (some (-1))) = some r := by rw [if_pos rfl] at H; exact H); clear H; have H := H1; clear H1
  by_cases c6 : t102 = true
  ·subst c6
   (have H1 : (some 0) = some r := by rw [if_pos rfl] at H; exact H); clear H; have H := H1; clear H1; obtain rfl := Option.some.inj H; go_enter Try.func57, Try.ntmps57; go_wp2_with (first | ((with_reducible refine gate_callee (f := 63) rfl ?_); refine goesL_ (some 8) rfl rfl Try.func63 (by kernel_rfl) rfl #[.int .i64 a0] rfl ml_ ?_; (with_reducible refine (cmp_isNaN_int.calls a0 true _ A3.out).mono ?_); rintro e w' ⟨rfl, ⟨nd, rfl⟩⟩; refine ⟨_, rfl, ?_⟩) | ((with_reducible refine gate_callee (f := 63) rfl ?_); refine goesL_ (some 10) rfl rfl Try.func63 (by kernel_rfl) rfl #[.int .i64 a1] rfl ml_ ?_; (with_reducible refine (cmp_isNaN_int.calls a1 true _ A4.out).mono ?_); rintro e w' ⟨rfl, ⟨nd, rfl⟩⟩; refine ⟨_, rfl, ?_⟩)); go_ret; exact ⟨by first | rfl | (simp; done) | (simp [*]; done), by repeat (first | exact Drawn0.refl _ | apply Drawn0.step)⟩
  ·replace c6 := Bool.eq_false_iff.mpr c6
   subst c6; (have H1 : (some (-1)) = some r := by rw [if_neg (show ¬ (false = true) by decide)] at H; exact H); clear H; have H := H1; clear H1; obtain rfl := Option.some.inj H; go_enter Try.func57, Try.ntmps57; go_wp2_with (first | ((with_reducible refine gate_callee (f := 63) rfl ?_); refine goesL_ (some 8) rfl rfl Try.func63 (by kernel_rfl) rfl #[.int .i64 a0] rfl ml_ ?_; (with_reducible refine (cmp_isNaN_int.calls a0 true _ A3.out).mono ?_); rintro e w' ⟨rfl, ⟨nd, rfl⟩⟩; refine ⟨_, rfl, ?_⟩) | ((with_reducible refine gate_callee (f := 63) rfl ?_); refine goesL_ (some 10) rfl rfl Try.func63 (by kernel_rfl) rfl #[.int .i64 a1] rfl ml_ ?_; (with_reducible refine (cmp_isNaN_int.calls a1 false _ A4.out).mono ?_); rintro e w' ⟨rfl, ⟨nd, rfl⟩⟩; refine ⟨_, rfl, ?_⟩)); go_ret; exact ⟨by first | rfl | (simp; done) | (simp [*]; done), by repeat (first | exact Drawn0.refl _ | apply Drawn0.step)⟩
 ·replace c5 := Bool.eq_false_iff.mpr c5
  subst c5; (have H1 : (if t102 = true then (some 1) else (if a0 < a1 then (some (-1)) else (if a0 > a1 then (some 1) else (some 0)))) = some r := by rw [if_neg (show ¬ (false = true) by decide)] at H; exact H); clear H; have H := H1; clear H1
  by_cases c7 : t102 = true
  ·subst c7
   (have H1 : (some 1) = some r := by rw [if_pos rfl] at H; exact H); clear H; have H := H1; clear H1; obtain rfl := Option.some.inj H; go_enter Try.func57, Try.ntmps57; go_wp2_with (first | ((with_reducible refine gate_callee (f := 63) rfl ?_); refine goesL_ (some 8) rfl rfl Try.func63 (by kernel_rfl) rfl #[.int .i64 a0] rfl ml_ ?_; (with_reducible refine (cmp_isNaN_int.calls a0 false _ A3.out).mono ?_); rintro e w' ⟨rfl, ⟨nd, rfl⟩⟩; refine ⟨_, rfl, ?_⟩) | ((with_reducible refine gate_callee (f := 63) rfl ?_); refine goesL_ (some 10) rfl rfl Try.func63 (by kernel_rfl) rfl #[.int .i64 a1] rfl ml_ ?_; (with_reducible refine (cmp_isNaN_int.calls a1 true _ A4.out).mono ?_); rintro e w' ⟨rfl, ⟨nd, rfl⟩⟩; refine ⟨_, rfl, ?_⟩)); go_ret; exact ⟨by first | rfl | (simp; done) | (simp [*]; done), by repeat (first | exact Drawn0.refl _ | apply Drawn0.step)⟩
  ·replace c7 := Bool.eq_false_iff.mpr c7
   subst c7; (have H1 : (if a0 < a1 then (some (-1)) else (if a0 > a1 then (some 1) else (some 0))) = some r := by rw [if_neg (show ¬ (false = true) by decide)] at H; exact H); clear H; have H := H1; clear H1
   by_cases c8 : a0 < a1
   ·rw [if_pos c8] at H
    have c8b0 : decide (a0 < a1) = true := decide_eq_true c8; clear c8; obtain rfl := Option.some.inj H; go_enter Try.func57, Try.ntmps57; go_wp2_with (first | ((with_reducible refine gate_callee (f := 63) rfl ?_); refine goesL_ (some 8) rfl rfl Try.func63 (by kernel_rfl) rfl #[.int .i64 a0] rfl ml_ ?_; (with_reducible refine (cmp_isNaN_int.calls a0 false _ A3.out).mono ?_); rintro e w' ⟨rfl, ⟨nd, rfl⟩⟩; refine ⟨_, rfl, ?_⟩) | ((with_reducible refine gate_callee (f := 63) rfl ?_); refine goesL_ (some 10) rfl rfl Try.func63 (by kernel_rfl) rfl #[.int .i64 a1] rfl ml_ ?_; (with_reducible refine (cmp_isNaN_int.calls a1 false _ A4.out).mono ?_); rintro e w' ⟨rfl, ⟨nd, rfl⟩⟩; refine ⟨_, rfl, ?_⟩)); go_ret; exact ⟨by first | rfl | (simp; done) | (simp [*]; done), by repeat (first | exact Drawn0.refl _ | apply Drawn0.step)⟩
   ·rw [if_neg c8] at H
    have c8b0 : decide (a0 < a1) = false := decide_eq_false c8; clear c8
    by_cases c9 : a0 > a1
    ·rw [if_pos c9] at H
     have c9b0 : decide (a1 < a0) = true := decide_eq_true c9; clear c9; obtain rfl := Option.some.inj H; go_enter Try.func57, Try.ntmps57; go_wp2_with (first | ((with_reducible refine gate_callee (f := 63) rfl ?_); refine goesL_ (some 8) rfl rfl Try.func63 (by kernel_rfl) rfl #[.int .i64 a0] rfl ml_ ?_; (with_reducible refine (cmp_isNaN_int.calls a0 false _ A3.out).mono ?_); rintro e w' ⟨rfl, ⟨nd, rfl⟩⟩; refine ⟨_, rfl, ?_⟩) | ((with_reducible refine gate_callee (f := 63) rfl ?_); refine goesL_ (some 10) rfl rfl Try.func63 (by kernel_rfl) rfl #[.int .i64 a1] rfl ml_ ?_; (with_reducible refine (cmp_isNaN_int.calls a1 false _ A4.out).mono ?_); rintro e w' ⟨rfl, ⟨nd, rfl⟩⟩; refine ⟨_, rfl, ?_⟩)); go_ret; exact ⟨by first | rfl | (simp; done) | (simp [*]; done), by repeat (first | exact Drawn0.refl _ | apply Drawn0.step)⟩
    ·rw [if_neg c9] at H
     have c9b0 : decide (a1 < a0) = false := decide_eq_false c9; clear c9; obtain rfl := Option.some.inj H; go_enter Try.func57, Try.ntmps57; go_wp2_with (first | ((with_reducible refine gate_callee (f := 63) rfl ?_); refine goesL_ (some 8) rfl rfl Try.func63 (by kernel_rfl) rfl #[.int .i64 a0] rfl ml_ ?_; (with_reducible refine (cmp_isNaN_int.calls a0 false _ A3.out).mono ?_); rintro e w' ⟨rfl, ⟨nd, rfl⟩⟩; refine ⟨_, rfl, ?_⟩) | ((with_reducible refine gate_callee (f := 63) rfl ?_); refine goesL_ (some 10) rfl rfl Try.func63 (by kernel_rfl) rfl #[.int .i64 a1] rfl ml_ ?_; (with_reducible refine (cmp_isNaN_int.calls a1 false _ A4.out).mono ?_); rintro e w' ⟨rfl, ⟨nd, rfl⟩⟩; refine ⟨_, rfl, ?_⟩)); go_ret; exact ⟨by first | rfl | (simp; done) | (simp [*]; done), by repeat (first | exact Drawn0.refl _ | apply Drawn0.step)⟩
end Go.Proofs.Ytkbcmjejfbbcpaa.A.At
namespace Go.Proofs.Ytkbcmjejfbbcpaa.A.So
open Go.RowKit Go.Proofs.YtkbcmjejfbbcpaaW.PrintWords Go.Proofs.YtkbcmjejfbbcpaaW.PrintLast Go.Proofs.YtkbcmjejfbbcpaaW.PrintMore
attribute [local go_sem] max2_int min2_int max_two min_two max_three min_three max_four min_four
def cmp_isNaN_int.f (a0 : Int) : Option (Bool) := some (a0 != a0)
def cmp_Compare_int.f (a0 : Int) (a1 : Int) : Option (Int) := (cmp_isNaN_int.f a0).bind fun t101 => ((cmp_isNaN_int.f a1).bind fun t102 => (if t101 = true then (if t102 = true then (some 0) else (some (-1))) else (if t102 = true then (some 1) else (if a0 < a1 then (some (-1)) else (if a0 > a1 then (some 1) else (some 0))))))
def runs_order_compare.f (a0_0 : Bool) (a1_0 : Int) (a1_1 : Int) (a2_0 : Int) (a2_1 : Int) : Option (Int) := if a0_0 = true then ((cmp_Compare_int.f a2_0 a1_0).bind fun t106 => (some t106)) else ((cmp_Compare_int.f a1_0 a2_0).bind fun t107 => (some t107))
mutual
def api_Run_64.l0 : Nat → List (S25) → Int → Int → Int → Option ((List (S25)))
  | 0, _, _, _, _ => none
  | k + 1, x0, x1, x2, x8 => if x8 < x2 then (api_Run_64.l1 k x0 x1 x2 x8 x8) else (some x0)
def api_Run_64.l1 : Nat → List (S25) → Int → Int → Int → Int → Option ((List (S25)))
  | 0, _, _, _, _, _ => none
  | k + 1, x0, x1, x2, x8, x9 => if x9 > x1 then (if 0 ≤ x9 then (if x9 < (x0.length : Int) then (if 0 ≤ (wrap64 (x9 - 1)) then (if (wrap64 (x9 - 1)) < (x0.length : Int) then ((runs_order_compare.f false ((rd_T25 x0 x9).f0) ((rd_T25 x0 x9).f1) ((rd_T25 x0 (wrap64 (x9 - 1))).f0) ((rd_T25 x0 (wrap64 (x9 - 1))).f1)).bind fun t110 => (if t110 < 0 then (api_Run_64.l1 k ((x0.set (x9 : Int).toNat (⟨(rd_T25 x0 (wrap64 (x9 - 1))).f0, (rd_T25 x0 (wrap64 (x9 - 1))).f1⟩ : S25)).set ((wrap64 (x9 - 1)) : Int).toNat (⟨(rd_T25 x0 x9).f0, (rd_T25 x0 x9).f1⟩ : S25)) x1 x2 x8 (wrap64 (x9 - 1))) else (api_Run_64.l0 k x0 x1 x2 (wrap64 (x8 + 1))))) else (none)) else (none)) else (none)) else (none)) else (api_Run_64.l0 k x0 x1 x2 (wrap64 (x8 + 1)))
end
def api_Run_64.f (k : Nat) (l0 : List (S25)) (a1 : Int) (a2 : Int)  : Option ((List (S25))) := api_Run_64.l0 k l0 a1 a2 (wrap64 (a1 + 1))
mutual
def api_Run_74.l0 : Nat → List (S25) → Int → Int → Int → Option ((List (S25)))
  | 0, _, _, _, _ => none
  | k + 1, x0, x2, x3, x10 => if (wrap64 ((wrap64 (2 * x10)) + 1)) ≥ x2 then (some x0) else (if (wrap64 ((wrap64 ((wrap64 (2 * x10)) + 1)) + 1)) < x2 then (if 0 ≤ (wrap64 (x3 + (wrap64 ((wrap64 (2 * x10)) + 1)))) then (if (wrap64 (x3 + (wrap64 ((wrap64 (2 * x10)) + 1)))) < (x0.length : Int) then (if 0 ≤ (wrap64 ((wrap64 (x3 + (wrap64 ((wrap64 (2 * x10)) + 1)))) + 1)) then (if (wrap64 ((wrap64 (x3 + (wrap64 ((wrap64 (2 * x10)) + 1)))) + 1)) < (x0.length : Int) then ((runs_order_compare.f false ((rd_T25 x0 (wrap64 (x3 + (wrap64 ((wrap64 (2 * x10)) + 1))))).f0) ((rd_T25 x0 (wrap64 (x3 + (wrap64 ((wrap64 (2 * x10)) + 1))))).f1) ((rd_T25 x0 (wrap64 ((wrap64 (x3 + (wrap64 ((wrap64 (2 * x10)) + 1)))) + 1))).f0) ((rd_T25 x0 (wrap64 ((wrap64 (x3 + (wrap64 ((wrap64 (2 * x10)) + 1)))) + 1))).f1)).bind fun t117 => (api_Run_74.j1 k x0 x2 x3 x10 (wrap64 ((wrap64 (2 * x10)) + 1)) (decide (t117 < 0)))) else (none)) else (none)) else (none)) else (none)) else (api_Run_74.j1 k x0 x2 x3 x10 (wrap64 ((wrap64 (2 * x10)) + 1)) false))
def api_Run_74.j1 : Nat → List (S25) → Int → Int → Int → Int → Bool → Option ((List (S25)))
  | 0, _, _, _, _, _, _ => none
  | k + 1, x0, x2, x3, x10, x11, x40 => if x40 = true then (if 0 ≤ (wrap64 (x3 + x10)) then (if (wrap64 (x3 + x10)) < (x0.length : Int) then (if 0 ≤ (wrap64 (x3 + (wrap64 (x11 + 1)))) then (if (wrap64 (x3 + (wrap64 (x11 + 1)))) < (x0.length : Int) then ((runs_order_compare.f false ((rd_T25 x0 (wrap64 (x3 + x10))).f0) ((rd_T25 x0 (wrap64 (x3 + x10))).f1) ((rd_T25 x0 (wrap64 (x3 + (wrap64 (x11 + 1))))).f0) ((rd_T25 x0 (wrap64 (x3 + (wrap64 (x11 + 1))))).f1)).bind fun t120 => (if t120 < 0 then (api_Run_74.l0 k ((x0.set ((wrap64 (x3 + x10)) : Int).toNat (⟨(rd_T25 x0 (wrap64 (x3 + (wrap64 (x11 + 1))))).f0, (rd_T25 x0 (wrap64 (x3 + (wrap64 (x11 + 1))))).f1⟩ : S25)).set ((wrap64 (x3 + (wrap64 (x11 + 1)))) : Int).toNat (⟨(rd_T25 x0 (wrap64 (x3 + x10))).f0, (rd_T25 x0 (wrap64 (x3 + x10))).f1⟩ : S25)) x2 x3 (wrap64 (x11 + 1))) else (some x0))) else (none)) else (none)) else (none)) else (none)) else (if 0 ≤ (wrap64 (x3 + x10)) then (if (wrap64 (x3 + x10)) < (x0.length : Int) then (if 0 ≤ (wrap64 (x3 + x11)) then (if (wrap64 (x3 + x11)) < (x0.length : Int) then ((runs_order_compare.f false ((rd_T25 x0 (wrap64 (x3 + x10))).f0) ((rd_T25 x0 (wrap64 (x3 + x10))).f1) ((rd_T25 x0 (wrap64 (x3 + x11))).f0) ((rd_T25 x0 (wrap64 (x3 + x11))).f1)).bind fun t127 => (if t127 < 0 then (api_Run_74.l0 k ((x0.set ((wrap64 (x3 + x10)) : Int).toNat (⟨(rd_T25 x0 (wrap64 (x3 + x11))).f0, (rd_T25 x0 (wrap64 (x3 + x11))).f1⟩ : S25)).set ((wrap64 (x3 + x11)) : Int).toNat (⟨(rd_T25 x0 (wrap64 (x3 + x10))).f0, (rd_T25 x0 (wrap64 (x3 + x10))).f1⟩ : S25)) x2 x3 x11) else (some x0))) else (none)) else (none)) else (none)) else (none))
end
def api_Run_74.f (k : Nat) (l0 : List (S25)) (a1 : Int) (a2 : Int) (a3 : Int)  : Option ((List (S25))) := api_Run_74.l0 k l0 a2 a3 a1
mutual
def api_Run_65.l0 : Nat → List (S25) → Int → Int → Int → Int → Option ((List (S25)))
  | 0, _, _, _, _, _ => none
  | k + 1, x0, x8, x9, x10, x11 => if x11 ≥ 0 then ((api_Run_74.f k x0 x11 x10 x8).bind fun t132 => (api_Run_65.l0 k t132 x8 x9 x10 (wrap64 (x11 - 1)))) else (api_Run_65.l1 k x0 x8 x9 (wrap64 (x10 - 1)))
def api_Run_65.l1 : Nat → List (S25) → Int → Int → Int → Option ((List (S25)))
  | 0, _, _, _, _ => none
  | k + 1, x0, x8, x9, x12 => if x12 ≥ 0 then (if 0 ≤ (wrap64 (x8 + x12)) then (if (wrap64 (x8 + x12)) < (x0.length : Int) then (if 0 ≤ x8 then (if x8 < (x0.length : Int) then ((api_Run_74.f k ((x0.set (x8 : Int).toNat (⟨(rd_T25 x0 (wrap64 (x8 + x12))).f0, (rd_T25 x0 (wrap64 (x8 + x12))).f1⟩ : S25)).set ((wrap64 (x8 + x12)) : Int).toNat (⟨(rd_T25 x0 x8).f0, (rd_T25 x0 x8).f1⟩ : S25)) x9 x12 x8).bind fun t137 => (api_Run_65.l1 k t137 x8 x9 (wrap64 (x12 - 1)))) else (none)) else (none)) else (none)) else (none)) else (some x0)
end
def api_Run_65.f (k : Nat) (l0 : List (S25)) (a1 : Int) (a2 : Int)  : Option ((List (S25))) := api_Run_65.l0 k l0 a1 0 (wrap64 (a2 - a1)) (wrap64 (Int.tdiv (wrap64 ((wrap64 (a2 - a1)) - 1)) 2))
def api_Run_68.l0 : Nat → List (S25) → Int → Int → Option ((List (S25)))
  | 0, _, _, _ => none
  | k + 1, x0, x8, x9 => if x8 < x9 then (if 0 ≤ x9 then (if x9 < (x0.length : Int) then (if 0 ≤ x8 then (if x8 < (x0.length : Int) then (api_Run_68.l0 k ((x0.set (x8 : Int).toNat (⟨(rd_T25 x0 x9).f0, (rd_T25 x0 x9).f1⟩ : S25)).set (x9 : Int).toNat (⟨(rd_T25 x0 x8).f0, (rd_T25 x0 x8).f1⟩ : S25)) (wrap64 (x8 + 1)) (wrap64 (x9 - 1))) else (none)) else (none)) else (none)) else (none)) else (some x0)
def api_Run_68.f (k : Nat) (l0 : List (S25)) (a1 : Int) (a2 : Int)  : Option ((List (S25))) := api_Run_68.l0 k l0 a1 (wrap64 (a2 - 1))
end Go.Proofs.Ytkbcmjejfbbcpaa.A.So
namespace Go.Proofs.Ytkbcmjejfbbcpaa.A.So
open Go.RowKit Go.Proofs.YtkbcmjejfbbcpaaW.PrintWords Go.Proofs.YtkbcmjejfbbcpaaW.PrintLast Go.Proofs.YtkbcmjejfbbcpaaW.PrintMore Go.Sort
theorem Ev.ift {α : Type} {c : Prop} [Decidable c] {g f : Nat → Option α} {r : α} (hc : c) (h : Ev g r) : Ev (fun k => if c then g k else f k) r := Ev.congr (fun k => if_pos hc) h
theorem Ev.iff_ {α : Type} {c : Prop} [Decidable c] {g f : Nat → Option α} {r : α} (hc : ¬ c) (h : Ev f r) : Ev (fun k => if c then g k else f k) r := Ev.congr (fun k => if_neg hc) h
theorem Ev.bnow {α β : Type} {a : Option α} {f : Nat → α → Option β} {x : α} {r : β} (h : a = some x) (k : Ev (fun n => f n x) r) : Ev (fun n => a.bind (f n)) r := Ev.congr (fun n => by rw [h]; rfl) k
theorem Ev.eq {α : Type} {g : Nat → Option α} {r q : α} (h : Ev g r) (e : r = q) : Ev g q := e ▸ h
instance instRun : Inhabited S25 := ⟨z25⟩
def ltR (x y : S25) : Bool := decide (x.f0 < y.f0)
theorem w64 {x : Int} (h1 : -9223372036854775808 ≤ x) (h2 : x ≤ 9223372036854775807) : wrap64 x = x := by unfold wrap64; omega
theorem rdA (d : Array S25) (i : Nat) : rd_T25 d.toList (i : Int) = d[i]! := by
  simp only [rd_T25, Int.toNat_natCast, getElem!_def]
  by_cases h : i < d.size
  · simp [List.getD, h]
  · simp [List.getD, h, default, instRun]
theorem cmpR (a b c d : Int) : runs_order_compare.f false a b c d = some (if a < c then -1 else if a > c then 1 else 0) := by
  simp only [runs_order_compare.f, cmp_Compare_int.f, cmp_isNaN_int.f]
  simp
  split
  · rfl
  · split <;> rfl
theorem cmpNeg (a c : Int) : ((if a < c then (-1 : Int) else if a > c then 1 else 0) < 0) = (a < c) := by
  by_cases h : a < c
  · simp [h]
  · by_cases h' : a > c <;> simp [h, h']
theorem stA (d : Array S25) (i j : Nat) : ((d.toList.set i (⟨(rd_T25 d.toList (j : Int)).f0, (rd_T25 d.toList (j : Int)).f1⟩ : S25)).set j (⟨(rd_T25 d.toList (i : Int)).f0, (rd_T25 d.toList (i : Int)).f1⟩ : S25)) = (swp d i j).toList := by
  simp [swp, rdA]
theorem lenA (d : Array S25) (i : Nat) (h : i < d.size) : (i : Int) < (d.toList.length : Int) := by simp; exact h
theorem ins_l1 (a b : Nat) (i : Int) (r : List S25) : ∀ (j : Nat) (d : Array S25), j < d.size → d.size < 4611686018427387904 →
    Ev (fun k => api_Run_64.l0 k (insInner ltR a j d).toList (a : Int) (b : Int) (wrap64 (i + 1))) r → Ev (fun k => api_Run_64.l1 k d.toList (a : Int) (b : Int) i (j : Int)) r
  | 0, d, hj, hs, h => Ev.step (fun k => by simp only [api_Run_64.l1]; rw [if_neg (by omega)]; rfl) h
  | j + 1, d, hj, hs, h => by
    refine Ev.step (fun k => by simp only [api_Run_64.l1]; rfl) ?_
    have e1 : wrap64 (((j + 1 : Nat) : Int) - 1) = (j : Int) := by rw [w64 (by omega) (by omega)]; omega
    rw [e1]
    by_cases c : a < j + 1
    · refine Ev.ift (by omega) (Ev.ift (by omega) (Ev.ift (lenA d _ hj) (Ev.ift (by omega) (Ev.ift (lenA d _ (by omega)) (Ev.bnow (cmpR _ _ _ _) ?_)))))
      rw [rdA, rdA] at *
      by_cases c2 : (d[j + 1]!).f0 < (d[j]!).f0
      · refine Ev.ift (by rw [cmpNeg]; exact c2) ?_
        have e2 := stA d (j + 1) j
        rw [rdA, rdA] at e2
        simp only [Int.toNat_natCast]
        rw [e2]
        have e3 : insInner ltR a (j + 1) d = insInner ltR a j (swp d (j + 1) j) := by rw [insInner]; simp [ltR, c2, c]
        rw [e3] at h
        exact ins_l1 a b i r j _ (by simp [swp]; omega) (by simp [swp]; omega) h
      · refine Ev.iff_ (by rw [cmpNeg]; exact c2) ?_
        have e3 : insInner ltR a (j + 1) d = d := by rw [insInner]; simp [ltR, c2]
        rw [e3] at h
        exact h
    · refine Ev.iff_ (by omega) ?_
      have e3 : insInner ltR a (j + 1) d = d := by rw [insInner]; simp [c]
      rw [e3] at h
      exact h
theorem swp_size {α : Type} [Inhabited α] (d : Array α) (i j : Nat) : (swp d i j).size = d.size := by simp [swp]
theorem insInner_size {α : Type} [Inhabited α] (lt : α → α → Bool) (a : Nat) : ∀ (j : Nat) (d : Array α), (insInner lt a j d).size = d.size
  | 0, d => rfl
  | j + 1, d => by
    rw [insInner]
    split
    · rw [insInner_size lt a j, swp_size]
    · rfl
theorem ins_l0 (a b : Nat) : ∀ (n i : Nat) (d : Array S25), b - i = n → b ≤ d.size → d.size < 4611686018427387904 →
    Ev (fun k => api_Run_64.l0 k d.toList (a : Int) (b : Int) (i : Int)) (insOuter ltR a b i d).toList
  | 0, i, d, hn, hb, hs => by
    rw [insOuter, if_neg (by omega)]
    exact Ev.step (fun k => by simp only [api_Run_64.l0]; rw [if_neg (by omega)]) (Ev.now _)
  | n + 1, i, d, hn, hb, hs => by
    rw [insOuter, if_pos (by omega)]
    refine Ev.step (fun k => by simp only [api_Run_64.l0]; rw [if_pos (by omega)]) ?_
    refine ins_l1 a b i _ i d (by omega) hs ?_
    have e : wrap64 ((i : Int) + 1) = ((i + 1 : Nat) : Int) := by rw [w64 (by omega) (by omega)]; omega
    rw [e]
    exact ins_l0 a b n (i + 1) _ (by omega) (by rw [insInner_size]; exact hb) (by rw [insInner_size]; exact hs)
theorem ins_f (a b : Nat) (d : Array S25) (hab : a < 4611686018427387904) (hb : b ≤ d.size) (hs : d.size < 4611686018427387904) :
    Ev (fun k => api_Run_64.f k d.toList (a : Int) (b : Int)) (insertionSort ltR d a b).toList := by
  have e : wrap64 ((a : Int) + 1) = ((a + 1 : Nat) : Int) := by rw [w64 (by omega) (by omega)]; omega
  refine Ev.congr (fun k => by simp only [api_Run_64.f]; rw [e]) ?_
  exact ins_l0 a b _ (a + 1) d rfl hb hs
theorem rev_l0 : ∀ (n i j : Nat) (d : Array S25), j - i = n → j < d.size → d.size < 4611686018427387904 →
    Ev (fun k => api_Run_68.l0 k d.toList (i : Int) (j : Int)) (reverseLoop i j d).toList := by
  intro n
  induction n using Nat.strongRecOn with
  | _ n ih =>
    intro i j d hn hj hs
    rw [reverseLoop]
    by_cases c : i < j
    · rw [if_pos c]
      refine Ev.step (fun k => by simp only [api_Run_68.l0]; rfl) ?_
      refine Ev.ift (by omega) (Ev.ift (by omega) (Ev.ift (lenA d _ hj) (Ev.ift (by omega) (Ev.ift (lenA d _ (by omega)) ?_))))
      have e2 := stA d i j
      simp only [Int.toNat_natCast]
      rw [e2]
      have e : wrap64 ((i : Int) + 1) = ((i + 1 : Nat) : Int) := by rw [w64 (by omega) (by omega)]; omega
      have e' : wrap64 ((j : Int) - 1) = ((j - 1 : Nat) : Int) := by rw [w64 (by omega) (by omega)]; omega
      rw [e, e']
      exact ih (j - 1 - (i + 1)) (by omega) (i + 1) (j - 1) _ rfl (by rw [swp_size]; omega) (by rw [swp_size]; exact hs)
    · rw [if_neg c]
      exact Ev.step (fun k => by simp only [api_Run_68.l0]; rw [if_neg (by omega)]) (Ev.now _)
theorem rev_f (a b : Nat) (d : Array S25) (hb0 : 0 < b) (hb : b ≤ d.size) (hs : d.size < 4611686018427387904) :
    Ev (fun k => api_Run_68.f k d.toList (a : Int) (b : Int)) (reverseRange d a b).toList := by
  have e : wrap64 ((b : Int) - 1) = ((b - 1 : Nat) : Int) := by rw [w64 (by omega) (by omega)]; omega
  refine Ev.congr (fun k => by simp only [api_Run_68.f]; rw [e]) ?_
  exact rev_l0 _ a (b - 1) d rfl (by omega) hs
theorem sift_f (hi first : Nat) : ∀ (n root : Nat) (d : Array S25), hi - root = n → first + hi ≤ d.size → d.size < 2305843009213693952 → root ≤ hi →
    Ev (fun k => api_Run_74.l0 k d.toList (hi : Int) (first : Int) (root : Int)) (siftDown ltR hi first root d).toList := by
  intro n
  induction n using Nat.strongRecOn with
  | _ n ih =>
    intro root d hn hd hs hr
    have e1 : Aside0 (wrap64 (wrap64 (2 * (root : Int)) + 1) = ((2 * root + 1 : Nat) : Int)) := ⟨by rw [w64 (x := 2 * (root : Int)) (by omega) (by omega), w64 (by omega) (by omega)]; omega⟩
    have e2 : Aside0 (wrap64 (((2 * root + 1 : Nat) : Int) + 1) = ((2 * root + 2 : Nat) : Int)) := ⟨by rw [w64 (by omega) (by omega)]; omega⟩
    rw [siftDown]
    refine Ev.step (fun k => by simp only [api_Run_74.l0]; rfl) ?_
    simp only [e1.out, e2.out]
    by_cases c : 2 * root + 1 ≥ hi
    · rw [dif_pos c]
      exact Ev.ift (by omega) (Ev.now _)
    · rw [dif_neg c]
      have e3 : Aside0 (wrap64 ((first : Int) + ((2 * root + 1 : Nat) : Int)) = ((first + (2 * root + 1) : Nat) : Int)) := ⟨by rw [w64 (by omega) (by omega)]; omega⟩
      have e4 : Aside0 (wrap64 (((first + (2 * root + 1) : Nat) : Int) + 1) = ((first + (2 * root + 1) + 1 : Nat) : Int)) := ⟨by rw [w64 (by omega) (by omega)]; omega⟩
      have e5 : Aside0 (wrap64 ((first : Int) + (root : Int)) = ((first + root : Nat) : Int)) := ⟨by rw [w64 (by omega) (by omega)]; omega⟩
      have e6 : Aside0 (wrap64 ((first : Int) + ((2 * root + 2 : Nat) : Int)) = ((first + (2 * root + 2) : Nat) : Int)) := ⟨by rw [w64 (by omega) (by omega)]; omega⟩
      have J0 : ∀ r, r = (if !ltR d[first + root]! d[first + (2 * root + 1)]! then d else siftDown ltR hi first (2 * root + 1) (swp d (first + root) (first + (2 * root + 1)))).toList → Ev (fun k => api_Run_74.j1 k d.toList (hi : Int) (first : Int) (root : Int) ((2 * root + 1 : Nat) : Int) false) r := by
        intro r hr'
        refine Ev.step (fun k => by simp only [api_Run_74.j1]; rfl) ?_
        simp only [e2.out, e3.out, e5.out, e6.out]
        refine Ev.iff_ (by simp) (Ev.ift (by omega) (Ev.ift (lenA d _ (by omega)) (Ev.ift (by omega) (Ev.ift (lenA d _ (by omega)) (Ev.bnow (cmpR _ _ _ _) ?_)))))
        rw [rdA, rdA] at *
        by_cases c2 : (d[first + root]!).f0 < (d[first + (2 * root + 1)]!).f0
        · refine Ev.ift (by rw [cmpNeg]; exact c2) ?_
          rw [if_neg (by simp [ltR, c2])] at hr'
          subst hr'
          have e7 := stA d (first + root) (first + (2 * root + 1))
          rw [rdA, rdA] at e7
          simp only [Int.toNat_natCast]
          rw [e7]
          exact ih (hi - (2 * root + 1)) (by omega) (2 * root + 1) _ rfl (by rw [swp_size]; exact hd) (by rw [swp_size]; exact hs) (by omega)
        · refine Ev.iff_ (by rw [cmpNeg]; exact c2) ?_
          rw [if_pos (by simp [ltR, c2])] at hr'
          subst hr'
          exact Ev.now _
      by_cases c1 : 2 * root + 2 < hi
      · refine Ev.iff_ (by omega) (Ev.ift (by omega) ?_)
        simp only [e3.out, e4.out]
        refine Ev.ift (by omega) (Ev.ift (lenA d _ (by omega)) (Ev.ift (by omega) (Ev.ift (lenA d _ (by omega)) (Ev.bnow (cmpR _ _ _ _) ?_))))
        rw [rdA, rdA]
        simp only [cmpNeg]
        by_cases c3 : (d[first + (2 * root + 1)]!).f0 < (d[first + (2 * root + 1) + 1]!).f0
        · rw [if_pos (by simp [ltR, c3]; omega)]
          rw [decide_eq_true c3]
          refine Ev.step (fun k => by simp only [api_Run_74.j1]; rfl) ?_
          simp only [e2.out, e3.out, e5.out, e6.out]
          refine Ev.ift (by simp) (Ev.ift (by omega) (Ev.ift (lenA d _ (by omega)) (Ev.ift (by omega) (Ev.ift (lenA d _ (by omega)) (Ev.bnow (cmpR _ _ _ _) ?_)))))
          rw [rdA, rdA]
          by_cases c2 : (d[first + root]!).f0 < (d[first + (2 * root + 2)]!).f0
          · refine Ev.ift (by rw [cmpNeg]; exact c2) ?_
            rw [if_neg (by simp [ltR, c2]), dif_pos c1]
            have e7 := stA d (first + root) (first + (2 * root + 2))
            rw [rdA, rdA] at e7
            simp only [Int.toNat_natCast]
            rw [e7]
            exact ih (hi - (2 * root + 2)) (by omega) (2 * root + 2) _ rfl (by rw [swp_size]; exact hd) (by rw [swp_size]; exact hs) (by omega)
          · refine Ev.iff_ (by rw [cmpNeg]; exact c2) ?_
            rw [if_pos (by simp [ltR, c2])]
            exact Ev.now _
        · rw [if_neg (by simp [ltR, c3])]
          rw [decide_eq_false c3]
          exact J0 _ rfl
      · refine Ev.iff_ (by omega) (Ev.iff_ (by omega) ?_)
        rw [if_neg (by simp; omega)]
        exact J0 _ rfl
theorem siftDown_size {α : Type} [Inhabited α] (lt : α → α → Bool) (hi first : Nat) : ∀ (n root : Nat) (d : Array α), hi - root = n → (siftDown lt hi first root d).size = d.size := by
  intro n
  induction n using Nat.strongRecOn with
  | _ n ih =>
    intro root d hn
    rw [siftDown]
    split
    · rfl
    · split
      · split
        · rfl
        · split
          · rw [ih _ (by omega) _ _ rfl, swp_size]
          · rfl
      · split
        · rfl
        · rw [ih _ (by omega) _ _ rfl, swp_size]
theorem heap_l1 (a : Nat) (r9 : Int) (h9 : r9 = 0) : ∀ (m : Nat) (d : Array S25), a + m ≤ d.size → d.size < 2305843009213693952 →
    Ev (fun k => api_Run_65.l1 k d.toList (a : Int) r9 ((m : Int) - 1)) (heapPop ltR a m d).toList
  | 0, d, hm, hs => Ev.step (fun k => by simp only [api_Run_65.l1]; rw [if_neg (by omega)]; rfl) (Ev.now _)
  | m + 1, d, hm, hs => by
    have e1 : Aside0 (((m + 1 : Nat) : Int) - 1 = (m : Int)) := ⟨by omega⟩
    have e2 : Aside0 (wrap64 ((a : Int) + (m : Int)) = ((a + m : Nat) : Int)) := ⟨by rw [w64 (by omega) (by omega)]; omega⟩
    have e3 : Aside0 (wrap64 ((m : Int) - 1) = (m : Int) - 1) := ⟨by rw [w64 (by omega) (by omega)]⟩
    refine Ev.step (fun k => by simp only [api_Run_65.l1]; rfl) ?_
    simp only [e1.out, e2.out, e3.out]
    refine Ev.ift (by omega) (Ev.ift (by omega) (Ev.ift (lenA d _ (by omega)) (Ev.ift (by omega) (Ev.ift (lenA d _ (by omega)) ?_))))
    have e7 := stA d a (a + m)
    simp only [Int.toNat_natCast]
    rw [e7, h9]
    have hsz : (swp d a (a + m)).size = d.size := swp_size _ _ _
    refine Ev.bind (a := (siftDown ltR m a 0 (swp d a (a + m))).toList) (sift_f m a _ 0 _ rfl (by omega) (by omega) (by omega)) ?_
    have := heap_l1 a 0 rfl m (siftDown ltR m a 0 (swp d a (a + m))) (by rw [siftDown_size ltR m a _ _ _ rfl]; omega) (by rw [siftDown_size ltR m a _ _ _ rfl]; omega)
    exact this
theorem heap_l0 (a hi : Nat) (d : Array S25) : ∀ (m : Nat) (d : Array S25), a + hi ≤ d.size → m ≤ hi + 1 → d.size < 2305843009213693952 →
    Ev (fun k => api_Run_65.l0 k d.toList (a : Int) 0 (hi : Int) ((m : Int) - 1)) (heapPop ltR a hi (heapBuild ltR hi a m d)).toList
  | 0, d, hm, hr, hs => by
    refine Ev.step (fun k => by simp only [api_Run_65.l0]; rw [if_neg (by omega)]) ?_
    have e3 : wrap64 ((hi : Int) - 1) = (hi : Int) - 1 := by rw [w64 (by omega) (by omega)]
    rw [e3]
    exact heap_l1 a 0 rfl hi d hm hs
  | m + 1, d, hm, hr, hs => by
    have e1 : Aside0 (((m + 1 : Nat) : Int) - 1 = (m : Int)) := ⟨by omega⟩
    have e3 : Aside0 (wrap64 ((m : Int) - 1) = (m : Int) - 1) := ⟨by rw [w64 (by omega) (by omega)]⟩
    refine Ev.step (fun k => by simp only [api_Run_65.l0]; rfl) ?_
    simp only [e1.out, e3.out]
    refine Ev.ift (by omega) ?_
    refine Ev.bind (a := (siftDown ltR hi a m d).toList) (sift_f hi a _ m _ rfl (by omega) (by omega) (by omega)) ?_
    have := heap_l0 a hi d m (siftDown ltR hi a m d) (by rw [siftDown_size ltR hi a _ _ _ rfl]; omega) (by omega) (by rw [siftDown_size ltR hi a _ _ _ rfl]; omega)
    exact this
theorem heap_f (a b : Nat) (d : Array S25) (hab : a ≤ b) (hb : b ≤ d.size) (hs : d.size < 2305843009213693952) :
    Ev (fun k => api_Run_65.f k d.toList (a : Int) (b : Int)) (heapSort ltR d a b).toList := by
  have e1 : Aside0 (wrap64 ((b : Int) - (a : Int)) = ((b - a : Nat) : Int)) := ⟨by rw [w64 (by omega) (by omega)]; omega⟩
  have e2 : Aside0 (wrap64 (((b - a : Nat) : Int) - 1) = ((b - a : Nat) : Int) - 1) := ⟨by rw [w64 (by omega) (by omega)]⟩
  have e3 : Aside0 (wrap64 (Int.tdiv (((b - a : Nat) : Int) - 1) 2) = (((b - a - 1) / 2 + 1 : Nat) : Int) - 1) := ⟨by
    rcases Nat.eq_zero_or_pos (b - a) with h | h
    · have h0 : Int.tdiv (((0 : Nat) : Int) - 1) 2 = 0 := by decide
      rw [h, h0, w64 (by omega) (by omega)]; rfl
    · have : ((b - a : Nat) : Int) - 1 = ((b - a - 1 : Nat) : Int) := by omega
      have ht : Int.tdiv ((b - a - 1 : Nat) : Int) 2 = (((b - a - 1) / 2 : Nat) : Int) := rfl
      rw [this, ht, w64 (by omega) (by omega)]
      omega⟩
  refine Ev.congr (fun k => by simp only [api_Run_65.f, e1.out, e2.out, e3.out]; rfl) ?_
  exact heap_l0 a (b - a) d ((b - a - 1) / 2 + 1) d (by omega) (by omega) hs
end Go.Proofs.Ytkbcmjejfbbcpaa.A.So
namespace Go.Proofs.Ytkbcmjejfbbcpaa.A.So
open Go.RowKit Go.Proofs.YtkbcmjejfbbcpaaW.PrintWords Go.Proofs.YtkbcmjejfbbcpaaW.PrintLast Go.Proofs.YtkbcmjejfbbcpaaW.PrintMore
attribute [local go_sem] max2_int min2_int max_two min_two max_three min_three max_four min_four
mutual
def api_Run_69.l0 : Nat → List (S25) → Int → Int → Int → Int → Option (Bool × (List (S25)))
  | 0, _, _, _, _, _ => none
  | k + 1, x0, x1, x2, x9, x10 => if x10 < 5 then (api_Run_69.l1 k x0 x1 x2 x9 x10) else (some (false, x0))
def api_Run_69.j2 : Nat → List (S25) → Int → Int → Int → Int → Option (Bool × (List (S25)))
  | 0, _, _, _, _, _ => none
  | k + 1, x0, x1, x2, x9, x10 => if x9 = x2 then (some (true, x0)) else (if (wrap64 (x2 - x1)) < 50 then (some (false, x0)) else (if 0 ≤ (wrap64 (x9 - 1)) then (if (wrap64 (x9 - 1)) < (x0.length : Int) then (if 0 ≤ x9 then (if x9 < (x0.length : Int) then ((some ((x0.set (x9 : Int).toNat (⟨(rd_T25 x0 (wrap64 (x9 - 1))).f0, (rd_T25 x0 (wrap64 (x9 - 1))).f1⟩ : S25)).set ((wrap64 (x9 - 1)) : Int).toNat (⟨(rd_T25 x0 x9).f0, (rd_T25 x0 x9).f1⟩ : S25) : List (S25))).bind fun y148 => (if (wrap64 (x9 - x1)) ≥ 2 then (api_Run_69.l2 k y148 x1 x2 x9 x10 (wrap64 (x9 - 1))) else (api_Run_69.j4 k y148 x1 x2 x9 x10))) else (none)) else (none)) else (none)) else (none)))
def api_Run_69.j4 : Nat → List (S25) → Int → Int → Int → Int → Option (Bool × (List (S25)))
  | 0, _, _, _, _, _ => none
  | k + 1, x0, x1, x2, x9, x10 => if (wrap64 (x2 - x9)) ≥ 2 then (api_Run_69.l3 k x0 x1 x2 x9 x10 (wrap64 (x9 + 1))) else (api_Run_69.l0 k x0 x1 x2 x9 (wrap64 (x10 + 1)))
def api_Run_69.l3 : Nat → List (S25) → Int → Int → Int → Int → Int → Option (Bool × (List (S25)))
  | 0, _, _, _, _, _, _ => none
  | k + 1, x0, x1, x2, x9, x10, x12 => if x12 < x2 then (if 0 ≤ x12 then (if x12 < (x0.length : Int) then (if 0 ≤ (wrap64 (x12 - 1)) then (if (wrap64 (x12 - 1)) < (x0.length : Int) then ((runs_order_compare.f false ((rd_T25 x0 x12).f0) ((rd_T25 x0 x12).f1) ((rd_T25 x0 (wrap64 (x12 - 1))).f0) ((rd_T25 x0 (wrap64 (x12 - 1))).f1)).bind fun t158 => (if t158 < 0 then (api_Run_69.l3 k ((x0.set (x12 : Int).toNat (⟨(rd_T25 x0 (wrap64 (x12 - 1))).f0, (rd_T25 x0 (wrap64 (x12 - 1))).f1⟩ : S25)).set ((wrap64 (x12 - 1)) : Int).toNat (⟨(rd_T25 x0 x12).f0, (rd_T25 x0 x12).f1⟩ : S25)) x1 x2 x9 x10 (wrap64 (x12 + 1))) else (api_Run_69.l0 k x0 x1 x2 x9 (wrap64 (x10 + 1))))) else (none)) else (none)) else (none)) else (none)) else (api_Run_69.l0 k x0 x1 x2 x9 (wrap64 (x10 + 1)))
def api_Run_69.l2 : Nat → List (S25) → Int → Int → Int → Int → Int → Option (Bool × (List (S25)))
  | 0, _, _, _, _, _, _ => none
  | k + 1, x0, x1, x2, x9, x10, x11 => if x11 ≥ 1 then (if 0 ≤ x11 then (if x11 < (x0.length : Int) then (if 0 ≤ (wrap64 (x11 - 1)) then (if (wrap64 (x11 - 1)) < (x0.length : Int) then ((runs_order_compare.f false ((rd_T25 x0 x11).f0) ((rd_T25 x0 x11).f1) ((rd_T25 x0 (wrap64 (x11 - 1))).f0) ((rd_T25 x0 (wrap64 (x11 - 1))).f1)).bind fun t151 => (if t151 < 0 then (api_Run_69.l2 k ((x0.set (x11 : Int).toNat (⟨(rd_T25 x0 (wrap64 (x11 - 1))).f0, (rd_T25 x0 (wrap64 (x11 - 1))).f1⟩ : S25)).set ((wrap64 (x11 - 1)) : Int).toNat (⟨(rd_T25 x0 x11).f0, (rd_T25 x0 x11).f1⟩ : S25)) x1 x2 x9 x10 (wrap64 (x11 - 1))) else (api_Run_69.j4 k x0 x1 x2 x9 x10))) else (none)) else (none)) else (none)) else (none)) else (api_Run_69.j4 k x0 x1 x2 x9 x10)
def api_Run_69.l1 : Nat → List (S25) → Int → Int → Int → Int → Option (Bool × (List (S25)))
  | 0, _, _, _, _, _ => none
  | k + 1, x0, x1, x2, x9, x10 => if x9 < x2 then (if 0 ≤ x9 then (if x9 < (x0.length : Int) then (if 0 ≤ (wrap64 (x9 - 1)) then (if (wrap64 (x9 - 1)) < (x0.length : Int) then ((runs_order_compare.f false ((rd_T25 x0 x9).f0) ((rd_T25 x0 x9).f1) ((rd_T25 x0 (wrap64 (x9 - 1))).f0) ((rd_T25 x0 (wrap64 (x9 - 1))).f1)).bind fun t144 => (if t144 < 0 then (api_Run_69.j2 k x0 x1 x2 x9 x10) else (api_Run_69.l1 k x0 x1 x2 (wrap64 (x9 + 1)) x10))) else (none)) else (none)) else (none)) else (none)) else (api_Run_69.j2 k x0 x1 x2 x9 x10)
end
def api_Run_69.f (k : Nat) (l0 : List (S25)) (a1 : Int) (a2 : Int)  : Option (Bool × (List (S25))) := api_Run_69.l0 k l0 a1 a2 (wrap64 (a1 + 1)) 0
end Go.Proofs.Ytkbcmjejfbbcpaa.A.So
namespace Go.Proofs.Ytkbcmjejfbbcpaa.A.So
open Go.RowKit Go.Proofs.YtkbcmjejfbbcpaaW.PrintWords Go.Proofs.YtkbcmjejfbbcpaaW.PrintLast Go.Proofs.YtkbcmjejfbbcpaaW.PrintMore Go.Sort
theorem wN {x : Int} {n : Nat} (h : x = (n : Int)) (hn : n < 4611686018427387904) : wrap64 x = (n : Int) := by subst h; exact w64 (by omega) (by omega)
theorem shiftDown_size {α : Type} [Inhabited α] (lt : α → α → Bool) : ∀ (j : Nat) (d : Array α), (shiftDown lt j d).size = d.size
  | 0, d => rfl
  | j + 1, d => by
    rw [shiftDown]
    split
    · rfl
    · rw [shiftDown_size lt j, swp_size]
theorem shiftUp_size {α : Type} [Inhabited α] (lt : α → α → Bool) (b : Nat) : ∀ (n j : Nat) (d : Array α), b - j = n → (shiftUp lt b j d).size = d.size
  | 0, j, d, h => by rw [shiftUp, if_neg (by omega)]
  | n + 1, j, d, h => by
    rw [shiftUp, if_pos (by omega)]
    split
    · rfl
    · rw [shiftUp_size lt b n _ _ (by omega), swp_size]
theorem scanSorted_ge {α : Type} [Inhabited α] (lt : α → α → Bool) (d : Array α) (b : Nat) : ∀ (n i : Nat), b - i = n → i ≤ b → i ≤ scanSorted lt d b i ∧ scanSorted lt d b i ≤ b
  | 0, i, h, hi => by rw [scanSorted, if_neg (by simp; omega)]; exact ⟨Nat.le_refl _, hi⟩
  | n + 1, i, h, hi => by
    rw [scanSorted]
    split
    · have := scanSorted_ge lt d b n (i + 1) (by omega) (by omega)
      omega
    · exact ⟨Nat.le_refl _, hi⟩
theorem pi_l3 (a b i : Nat) (s : Int) (r : Bool × List S25) : ∀ (n j : Nat) (d : Array S25), b - j = n → 1 ≤ j → b ≤ d.size → d.size < 2305843009213693952 →
    Ev (fun k => api_Run_69.l0 k (shiftUp ltR b j d).toList (a : Int) (b : Int) (i : Int) (wrap64 (s + 1))) r → Ev (fun k => api_Run_69.l3 k d.toList (a : Int) (b : Int) (i : Int) s (j : Int)) r
  | 0, j, d, hn, hj, hb, hs, h => by
    rw [shiftUp, if_neg (by omega)] at h
    exact Ev.step (fun k => by simp only [api_Run_69.l3]; rw [if_neg (by omega)]) h
  | n + 1, j, d, hn, hj, hb, hs, h => by
    have e1 : Aside0 (wrap64 ((j : Int) - 1) = ((j - 1 : Nat) : Int)) := ⟨wN (by omega) (by omega)⟩
    have e2 : Aside0 (wrap64 ((j : Int) + 1) = ((j + 1 : Nat) : Int)) := ⟨wN (by omega) (by omega)⟩
    rw [shiftUp, if_pos (by omega)] at h
    refine Ev.step (fun k => by simp only [api_Run_69.l3]; rfl) ?_
    simp only [e1.out, e2.out]
    refine Ev.ift (by omega) (Ev.ift (by omega) (Ev.ift (lenA d _ (by omega)) (Ev.ift (by omega) (Ev.ift (lenA d _ (by omega)) (Ev.bnow (cmpR _ _ _ _) ?_)))))
    have e7 := stA d j (j - 1)
    rw [rdA, rdA] at e7 ⊢
    by_cases c2 : (d[j]!).f0 < (d[j - 1]!).f0
    · refine Ev.ift (by rw [cmpNeg]; exact c2) ?_
      rw [if_neg (by simp [ltR, c2])] at h
      simp only [Int.toNat_natCast]
      rw [e7]
      exact pi_l3 a b i s r n (j + 1) _ (by omega) (by omega) (by rw [swp_size]; exact hb) (by rw [swp_size]; exact hs) h
    · refine Ev.iff_ (by rw [cmpNeg]; exact c2) ?_
      rw [if_pos (by simp [ltR, c2])] at h
      exact h
theorem pi_l2 (a b i : Nat) (s : Int) (r : Bool × List S25) : ∀ (j : Nat) (d : Array S25), j < d.size → d.size < 2305843009213693952 →
    Ev (fun k => api_Run_69.j4 k (shiftDown ltR j d).toList (a : Int) (b : Int) (i : Int) s) r → Ev (fun k => api_Run_69.l2 k d.toList (a : Int) (b : Int) (i : Int) s (j : Int)) r
  | 0, d, hj, hs, h => Ev.step (fun k => by simp only [api_Run_69.l2]; rw [if_neg (by omega)]; rfl) h
  | j + 1, d, hj, hs, h => by
    have e1 : Aside0 (wrap64 (((j + 1 : Nat) : Int) - 1) = (j : Int)) := ⟨wN (by omega) (by omega)⟩
    rw [shiftDown] at h
    refine Ev.step (fun k => by simp only [api_Run_69.l2]; rfl) ?_
    simp only [e1.out]
    refine Ev.ift (by omega) (Ev.ift (by omega) (Ev.ift (lenA d _ (by omega)) (Ev.ift (by omega) (Ev.ift (lenA d _ (by omega)) (Ev.bnow (cmpR _ _ _ _) ?_)))))
    have e7 := stA d (j + 1) j
    rw [rdA, rdA] at e7 ⊢
    by_cases c2 : (d[j + 1]!).f0 < (d[j]!).f0
    · refine Ev.ift (by rw [cmpNeg]; exact c2) ?_
      rw [if_neg (by simp [ltR, c2])] at h
      simp only [Int.toNat_natCast]
      rw [e7]
      exact pi_l2 a b i s r j _ (by rw [swp_size]; omega) (by rw [swp_size]; exact hs) h
    · refine Ev.iff_ (by rw [cmpNeg]; exact c2) ?_
      rw [if_pos (by simp [ltR, c2])] at h
      exact h
theorem pi_l1 (a b : Nat) (s : Int) (r : Bool × List S25) (d : Array S25) (hb : b ≤ d.size) (hs : d.size < 2305843009213693952) : ∀ (n i : Nat), b - i = n → 1 ≤ i →
    Ev (fun k => api_Run_69.j2 k d.toList (a : Int) (b : Int) ((scanSorted ltR d b i : Nat) : Int) s) r → Ev (fun k => api_Run_69.l1 k d.toList (a : Int) (b : Int) (i : Int) s) r
  | 0, i, hn, hi, h => by
    rw [scanSorted, if_neg (by simp; omega)] at h
    exact Ev.step (fun k => by simp only [api_Run_69.l1]; rw [if_neg (by omega)]) h
  | n + 1, i, hn, hi, h => by
    have e1 : Aside0 (wrap64 ((i : Int) - 1) = ((i - 1 : Nat) : Int)) := ⟨wN (by omega) (by omega)⟩
    have e2 : Aside0 (wrap64 ((i : Int) + 1) = ((i + 1 : Nat) : Int)) := ⟨wN (by omega) (by omega)⟩
    rw [scanSorted] at h
    refine Ev.step (fun k => by simp only [api_Run_69.l1]; rfl) ?_
    simp only [e1.out, e2.out]
    refine Ev.ift (by omega) (Ev.ift (by omega) (Ev.ift (lenA d _ (by omega)) (Ev.ift (by omega) (Ev.ift (lenA d _ (by omega)) (Ev.bnow (cmpR _ _ _ _) ?_)))))
    rw [rdA, rdA]
    by_cases c2 : (d[i]!).f0 < (d[i - 1]!).f0
    · refine Ev.ift (by rw [cmpNeg]; exact c2) ?_
      rw [if_neg (by simp [ltR, c2])] at h
      exact h
    · refine Ev.iff_ (by rw [cmpNeg]; exact c2) ?_
      rw [if_pos (by simp [ltR, c2]; omega)] at h
      exact pi_l1 a b s r d hb hs n (i + 1) (by omega) (by omega) h
theorem pi_j4 (a b i : Nat) (s : Int) (r : Bool × List S25) (d : Array S25) (hi : i ≤ b) (hb : b ≤ d.size) (hs : d.size < 2305843009213693952)
    (h : Ev (fun k => api_Run_69.l0 k (if b - i ≥ 2 then shiftUp ltR b (i + 1) d else d).toList (a : Int) (b : Int) (i : Int) (wrap64 (s + 1))) r) :
    Ev (fun k => api_Run_69.j4 k d.toList (a : Int) (b : Int) (i : Int) s) r := by
  have e1 : Aside0 (wrap64 ((b : Int) - (i : Int)) = ((b - i : Nat) : Int)) := ⟨wN (by omega) (by omega)⟩
  have e2 : Aside0 (wrap64 ((i : Int) + 1) = ((i + 1 : Nat) : Int)) := ⟨wN (by omega) (by omega)⟩
  refine Ev.step (fun k => by simp only [api_Run_69.j4]; rfl) ?_
  simp only [e1.out, e2.out]
  by_cases c : b - i ≥ 2
  · rw [if_pos c] at h
    exact Ev.ift (by omega) (pi_l3 a b i s r _ (i + 1) d rfl (by omega) hb hs h)
  · rw [if_neg c] at h
    exact Ev.iff_ (by omega) h
theorem pi_l0 (a b : Nat) : ∀ (s i : Nat) (d : Array S25), s ≤ 5 → a < i → i ≤ b → b ≤ d.size → d.size < 2305843009213693952 →
    Ev (fun k => api_Run_69.l0 k d.toList (a : Int) (b : Int) (i : Int) (5 - (s : Int))) ((partialIns ltR a b s i d).2, (partialIns ltR a b s i d).1.toList)
  | 0, i, d, h5, ha, hi, hb, hs => Ev.step (fun k => by simp only [api_Run_69.l0]; rw [if_neg (by omega)]; rfl) (Ev.now _)
  | s + 1, i, d, h5, ha, hi, hb, hs => by
    have hx : Aside0 (wrap64 (5 - ((s + 1 : Nat) : Int) + 1) = 5 - (s : Int)) := ⟨by rw [w64 (by omega) (by omega)]; omega⟩
    refine Ev.step (fun k => by simp only [api_Run_69.l0]; rw [if_pos (by omega)]) ?_
    have hsc := scanSorted_ge ltR d b _ i rfl hi
    refine pi_l1 a b _ _ d hb hs _ i rfl (by omega) ?_
    rw [partialIns]
    generalize scanSorted ltR d b i = i2 at hsc ⊢
    simp only
    refine Ev.step (fun k => by simp only [api_Run_69.j2]; rfl) ?_
    by_cases c : i2 = b
    · subst c
      simp only [if_true]
      exact Ev.now _
    · rw [if_neg c]
      refine Ev.iff_ (by omega) ?_
      have e1 : Aside0 (wrap64 ((b : Int) - (a : Int)) = ((b - a : Nat) : Int)) := ⟨wN (by omega) (by omega)⟩
      have e2 : Aside0 (wrap64 ((i2 : Int) - 1) = ((i2 - 1 : Nat) : Int)) := ⟨wN (by omega) (by omega)⟩
      have e3 : Aside0 (wrap64 ((i2 : Int) - (a : Int)) = ((i2 - a : Nat) : Int)) := ⟨wN (by omega) (by omega)⟩
      simp only [e1.out, e2.out, e3.out]
      by_cases c5 : b - a < 50
      · rw [if_pos c5]
        exact Ev.ift (by omega) (Ev.now _)
      · rw [if_neg c5]
        refine Ev.iff_ (by omega) (Ev.ift (by omega) (Ev.ift (lenA d _ (by omega)) (Ev.ift (by omega) (Ev.ift (lenA d _ (by omega)) ?_))))
        have e7 := stA d i2 (i2 - 1)
        simp only [Int.toNat_natCast]
        rw [e7]
        refine Ev.bnow rfl ?_
        have hsz : (swp d i2 (i2 - 1)).size = d.size := swp_size _ _ _
        generalize swp d i2 (i2 - 1) = d2 at hsz ⊢
        have J : ∀ d3 : Array S25, d3.size = d.size → Ev (fun k => api_Run_69.j4 k d3.toList (a : Int) (b : Int) (i2 : Int) (5 - ((s + 1 : Nat) : Int))) ((partialIns ltR a b s i2 (if b - i2 ≥ 2 then shiftUp ltR b (i2 + 1) d3 else d3)).2, (partialIns ltR a b s i2 (if b - i2 ≥ 2 then shiftUp ltR b (i2 + 1) d3 else d3)).1.toList) := by
          intro d3 h3
          refine pi_j4 a b i2 _ _ d3 hsc.2 (by omega) (by omega) ?_
          simp only [hx.out]
          have h4 : (if b - i2 ≥ 2 then shiftUp ltR b (i2 + 1) d3 else d3).size = d.size := by
            split
            · rw [shiftUp_size ltR b _ _ _ rfl]; exact h3
            · exact h3
          exact pi_l0 a b s i2 _ (by omega) (by omega) hsc.2 (by omega) (by omega)
        by_cases c6 : i2 - a ≥ 2
        · rw [if_pos c6]
          refine Ev.ift (by omega) ?_
          exact pi_l2 a b i2 _ _ (i2 - 1) d2 (by omega) (by omega) (J _ (by rw [shiftDown_size]; exact hsz))
        · rw [if_neg c6]
          exact Ev.iff_ (by omega) (J _ hsz)
theorem pi_f (a b : Nat) (d : Array S25) (hab : a < b) (hb : b ≤ d.size) (hs : d.size < 2305843009213693952) :
    Ev (fun k => api_Run_69.f k d.toList (a : Int) (b : Int)) ((partialInsertionSort ltR d a b).2, (partialInsertionSort ltR d a b).1.toList) := by
  have e : wrap64 ((a : Int) + 1) = ((a + 1 : Nat) : Int) := wN (by omega) (by omega)
  refine Ev.congr (fun k => by simp only [api_Run_69.f, e]; rfl) ?_
  exact pi_l0 a b 5 (a + 1) d (by omega) (by omega) (by omega) hb hs
end Go.Proofs.Ytkbcmjejfbbcpaa.A.So
namespace Go.Proofs.Ytkbcmjejfbbcpaa.A.So
open Go.RowKit Go.Proofs.YtkbcmjejfbbcpaaW.PrintWords Go.Proofs.YtkbcmjejfbbcpaaW.PrintLast Go.Proofs.YtkbcmjejfbbcpaaW.PrintMore
attribute [local go_sem] max2_int min2_int max_two min_two max_three min_three max_four min_four
mutual
def api_Run_70.l0 : Nat → List (S25) → Int → Int → Int → Option (Int × (List (S25)))
  | 0, _, _, _, _ => none
  | k + 1, x0, x1, x11, x12 => api_Run_70.l1 k x0 x1 x11 x12
def api_Run_70.j2 : Nat → List (S25) → Int → Int → Int → Option (Int × (List (S25)))
  | 0, _, _, _, _ => none
  | k + 1, x0, x1, x11, x12 => api_Run_70.l2 k x0 x1 x11 x12
def api_Run_70.l2 : Nat → List (S25) → Int → Int → Int → Option (Int × (List (S25)))
  | 0, _, _, _, _ => none
  | k + 1, x0, x1, x11, x12 => if x11 ≤ x12 then (if 0 ≤ x1 then (if x1 < (x0.length : Int) then (if 0 ≤ x12 then (if x12 < (x0.length : Int) then ((runs_order_compare.f false ((rd_T25 x0 x1).f0) ((rd_T25 x0 x1).f1) ((rd_T25 x0 x12).f0) ((rd_T25 x0 x12).f1)).bind fun t172 => (if t172 < 0 then (api_Run_70.l2 k x0 x1 x11 (wrap64 (x12 - 1))) else (if x11 > x12 then (some (x11, x0)) else (if 0 ≤ x11 then (if x11 < (x0.length : Int) then (api_Run_70.l0 k ((x0.set (x11 : Int).toNat (⟨(rd_T25 x0 x12).f0, (rd_T25 x0 x12).f1⟩ : S25)).set (x12 : Int).toNat (⟨(rd_T25 x0 x11).f0, (rd_T25 x0 x11).f1⟩ : S25)) x1 (wrap64 (x11 + 1)) (wrap64 (x12 - 1))) else (none)) else (none))))) else (none)) else (none)) else (none)) else (none)) else (if x11 > x12 then (some (x11, x0)) else (if 0 ≤ x12 then (if x12 < (x0.length : Int) then (if 0 ≤ x11 then (if x11 < (x0.length : Int) then (api_Run_70.l0 k ((x0.set (x11 : Int).toNat (⟨(rd_T25 x0 x12).f0, (rd_T25 x0 x12).f1⟩ : S25)).set (x12 : Int).toNat (⟨(rd_T25 x0 x11).f0, (rd_T25 x0 x11).f1⟩ : S25)) x1 (wrap64 (x11 + 1)) (wrap64 (x12 - 1))) else (none)) else (none)) else (none)) else (none)))
def api_Run_70.l1 : Nat → List (S25) → Int → Int → Int → Option (Int × (List (S25)))
  | 0, _, _, _, _ => none
  | k + 1, x0, x1, x11, x12 => if x11 ≤ x12 then (if 0 ≤ x1 then (if x1 < (x0.length : Int) then (if 0 ≤ x11 then (if x11 < (x0.length : Int) then ((runs_order_compare.f false ((rd_T25 x0 x1).f0) ((rd_T25 x0 x1).f1) ((rd_T25 x0 x11).f0) ((rd_T25 x0 x11).f1)).bind fun t169 => (if t169 < 0 then (api_Run_70.j2 k x0 x1 x11 x12) else (api_Run_70.l1 k x0 x1 (wrap64 (x11 + 1)) x12))) else (none)) else (none)) else (none)) else (none)) else (api_Run_70.j2 k x0 x1 x11 x12)
end
def api_Run_70.f (k : Nat) (l0 : List (S25)) (a1 : Int) (a2 : Int) (a3 : Int)  : Option (Int × (List (S25))) := if 0 ≤ a3 then (if a3 < (l0.length : Int) then (if 0 ≤ a1 then (if a1 < (l0.length : Int) then (api_Run_70.l0 k ((l0.set (a1 : Int).toNat (⟨(rd_T25 l0 a3).f0, (rd_T25 l0 a3).f1⟩ : S25)).set (a3 : Int).toNat (⟨(rd_T25 l0 a1).f0, (rd_T25 l0 a1).f1⟩ : S25)) a1 (wrap64 (a1 + 1)) (wrap64 (a2 - 1))) else (none)) else (none)) else (none)) else (none)
mutual
def api_Run_71.j1 : Nat → List (S25) → Int → Int → Int → Option (Int × Bool × (List (S25)))
  | 0, _, _, _, _ => none
  | k + 1, x0, x1, x12, x13 => api_Run_71.l1 k x0 x1 x12 x13
def api_Run_71.j3 : Nat → List (S25) → Int → Int → Int → Option (Int × Bool × (List (S25)))
  | 0, _, _, _, _ => none
  | k + 1, x0, x1, x12, x13 => if x12 > x13 then (if 0 ≤ x1 then (if x1 < (x0.length : Int) then (if 0 ≤ x13 then (if x13 < (x0.length : Int) then (some (x13, true, ((x0.set (x13 : Int).toNat (⟨(rd_T25 x0 x1).f0, (rd_T25 x0 x1).f1⟩ : S25)).set (x1 : Int).toNat (⟨(rd_T25 x0 x13).f0, (rd_T25 x0 x13).f1⟩ : S25)))) else (none)) else (none)) else (none)) else (none)) else (if 0 ≤ x13 then (if x13 < (x0.length : Int) then (if 0 ≤ x12 then (if x12 < (x0.length : Int) then (api_Run_71.l2 k ((x0.set (x12 : Int).toNat (⟨(rd_T25 x0 x13).f0, (rd_T25 x0 x13).f1⟩ : S25)).set (x13 : Int).toNat (⟨(rd_T25 x0 x12).f0, (rd_T25 x0 x12).f1⟩ : S25)) x1 (wrap64 (x12 + 1)) (wrap64 (x13 - 1))) else (none)) else (none)) else (none)) else (none))
def api_Run_71.l2 : Nat → List (S25) → Int → Int → Int → Option (Int × Bool × (List (S25)))
  | 0, _, _, _, _ => none
  | k + 1, x0, x1, x12, x13 => api_Run_71.l3 k x0 x1 x12 x13
def api_Run_71.j6 : Nat → List (S25) → Int → Int → Int → Option (Int × Bool × (List (S25)))
  | 0, _, _, _, _ => none
  | k + 1, x0, x1, x12, x13 => api_Run_71.l4 k x0 x1 x12 x13
def api_Run_71.l4 : Nat → List (S25) → Int → Int → Int → Option (Int × Bool × (List (S25)))
  | 0, _, _, _, _ => none
  | k + 1, x0, x1, x12, x13 => if x12 ≤ x13 then (if 0 ≤ x13 then (if x13 < (x0.length : Int) then (if 0 ≤ x1 then (if x1 < (x0.length : Int) then ((runs_order_compare.f false ((rd_T25 x0 x13).f0) ((rd_T25 x0 x13).f1) ((rd_T25 x0 x1).f0) ((rd_T25 x0 x1).f1)).bind fun t204 => (if t204 < 0 then (if x12 > x13 then (some (x13, false, ((x0.set (x13 : Int).toNat (⟨(rd_T25 x0 x1).f0, (rd_T25 x0 x1).f1⟩ : S25)).set (x1 : Int).toNat (⟨(rd_T25 x0 x13).f0, (rd_T25 x0 x13).f1⟩ : S25)))) else (if 0 ≤ x12 then (if x12 < (x0.length : Int) then (api_Run_71.l2 k ((x0.set (x12 : Int).toNat (⟨(rd_T25 x0 x13).f0, (rd_T25 x0 x13).f1⟩ : S25)).set (x13 : Int).toNat (⟨(rd_T25 x0 x12).f0, (rd_T25 x0 x12).f1⟩ : S25)) x1 (wrap64 (x12 + 1)) (wrap64 (x13 - 1))) else (none)) else (none))) else (api_Run_71.l4 k x0 x1 x12 (wrap64 (x13 - 1))))) else (none)) else (none)) else (none)) else (none)) else (if x12 > x13 then (if 0 ≤ x1 then (if x1 < (x0.length : Int) then (if 0 ≤ x13 then (if x13 < (x0.length : Int) then (some (x13, false, ((x0.set (x13 : Int).toNat (⟨(rd_T25 x0 x1).f0, (rd_T25 x0 x1).f1⟩ : S25)).set (x1 : Int).toNat (⟨(rd_T25 x0 x13).f0, (rd_T25 x0 x13).f1⟩ : S25)))) else (none)) else (none)) else (none)) else (none)) else (if 0 ≤ x13 then (if x13 < (x0.length : Int) then (if 0 ≤ x12 then (if x12 < (x0.length : Int) then (api_Run_71.l2 k ((x0.set (x12 : Int).toNat (⟨(rd_T25 x0 x13).f0, (rd_T25 x0 x13).f1⟩ : S25)).set (x13 : Int).toNat (⟨(rd_T25 x0 x12).f0, (rd_T25 x0 x12).f1⟩ : S25)) x1 (wrap64 (x12 + 1)) (wrap64 (x13 - 1))) else (none)) else (none)) else (none)) else (none)))
def api_Run_71.l3 : Nat → List (S25) → Int → Int → Int → Option (Int × Bool × (List (S25)))
  | 0, _, _, _, _ => none
  | k + 1, x0, x1, x12, x13 => if x12 ≤ x13 then (if 0 ≤ x12 then (if x12 < (x0.length : Int) then (if 0 ≤ x1 then (if x1 < (x0.length : Int) then ((runs_order_compare.f false ((rd_T25 x0 x12).f0) ((rd_T25 x0 x12).f1) ((rd_T25 x0 x1).f0) ((rd_T25 x0 x1).f1)).bind fun t201 => (if t201 < 0 then (api_Run_71.l3 k x0 x1 (wrap64 (x12 + 1)) x13) else (api_Run_71.j6 k x0 x1 x12 x13))) else (none)) else (none)) else (none)) else (none)) else (api_Run_71.j6 k x0 x1 x12 x13)
def api_Run_71.l1 : Nat → List (S25) → Int → Int → Int → Option (Int × Bool × (List (S25)))
  | 0, _, _, _, _ => none
  | k + 1, x0, x1, x12, x13 => if x12 ≤ x13 then (if 0 ≤ x13 then (if x13 < (x0.length : Int) then (if 0 ≤ x1 then (if x1 < (x0.length : Int) then ((runs_order_compare.f false ((rd_T25 x0 x13).f0) ((rd_T25 x0 x13).f1) ((rd_T25 x0 x1).f0) ((rd_T25 x0 x1).f1)).bind fun t190 => (if t190 < 0 then (api_Run_71.j3 k x0 x1 x12 x13) else (api_Run_71.l1 k x0 x1 x12 (wrap64 (x13 - 1))))) else (none)) else (none)) else (none)) else (none)) else (api_Run_71.j3 k x0 x1 x12 x13)
def api_Run_71.l0 : Nat → List (S25) → Int → Int → Int → Option (Int × Bool × (List (S25)))
  | 0, _, _, _, _ => none
  | k + 1, x0, x1, x12, x13 => if x12 ≤ x13 then (if 0 ≤ x12 then (if x12 < (x0.length : Int) then (if 0 ≤ x1 then (if x1 < (x0.length : Int) then ((runs_order_compare.f false ((rd_T25 x0 x12).f0) ((rd_T25 x0 x12).f1) ((rd_T25 x0 x1).f0) ((rd_T25 x0 x1).f1)).bind fun t187 => (if t187 < 0 then (api_Run_71.l0 k x0 x1 (wrap64 (x12 + 1)) x13) else (api_Run_71.j1 k x0 x1 x12 x13))) else (none)) else (none)) else (none)) else (none)) else (api_Run_71.j1 k x0 x1 x12 x13)
end
def api_Run_71.f (k : Nat) (l0 : List (S25)) (a1 : Int) (a2 : Int) (a3 : Int)  : Option (Int × Bool × (List (S25))) := if 0 ≤ a3 then (if a3 < (l0.length : Int) then (if 0 ≤ a1 then (if a1 < (l0.length : Int) then (api_Run_71.l0 k ((l0.set (a1 : Int).toNat (⟨(rd_T25 l0 a3).f0, (rd_T25 l0 a3).f1⟩ : S25)).set (a3 : Int).toNat (⟨(rd_T25 l0 a1).f0, (rd_T25 l0 a1).f1⟩ : S25)) a1 (wrap64 (a1 + 1)) (wrap64 (a2 - 1))) else (none)) else (none)) else (none)) else (none)
end Go.Proofs.Ytkbcmjejfbbcpaa.A.So
namespace Go.Proofs.Ytkbcmjejfbbcpaa.A.So
open Go.RowKit Go.Proofs.YtkbcmjejfbbcpaaW.PrintWords Go.Proofs.YtkbcmjejfbbcpaaW.PrintLast Go.Proofs.YtkbcmjejfbbcpaaW.PrintMore Go.Sort
theorem scanUp_bds {α : Type} [Inhabited α] (p : α → Bool) (d : Array α) (j : Nat) : ∀ (n i : Nat), j + 1 - i = n → i ≤ scanUp p d j i ∧ (scanUp p d j i ≤ i ∨ scanUp p d j i ≤ j + 1)
  | 0, i, h => by rw [scanUp, if_neg (by simp; omega)]; omega
  | n + 1, i, h => by
    rw [scanUp]
    split
    · have := scanUp_bds p d j n (i + 1) (by omega)
      omega
    · omega
theorem scanDown_le {α : Type} [Inhabited α] (p : α → Bool) (d : Array α) (i : Nat) : ∀ (j : Nat), scanDown p d i j ≤ j
  | 0 => Nat.le_refl _
  | j + 1 => by
    rw [scanDown]
    split
    · have := scanDown_le p d i j
      omega
    · exact Nat.le_refl _
theorem pe_l2 (a i : Nat) (d : Array S25) (r : Int × List S25) (ha : a < d.size) (hi : 1 ≤ i) (hs : d.size < 2305843009213693952) : ∀ (j : Nat), j < d.size →
    (i ≤ scanDown (fun x => ltR d[a]! x) d i j → Ev (fun k => api_Run_70.l0 k (swp d i (scanDown (fun x => ltR d[a]! x) d i j)).toList (a : Int) ((i + 1 : Nat) : Int) ((scanDown (fun x => ltR d[a]! x) d i j - 1 : Nat) : Int)) r) →
    (¬ i ≤ scanDown (fun x => ltR d[a]! x) d i j → r = ((i : Int), d.toList)) →
    Ev (fun k => api_Run_70.l2 k d.toList (a : Int) (i : Int) (j : Int)) r
  | 0, hj, h1, h2 => by
    rw [scanDown] at h2
    have := h2 (by omega)
    subst this
    exact Ev.step (fun k => by simp only [api_Run_70.l2]; rw [if_neg (by omega), if_pos (by omega)]) (Ev.now _)
  | j + 1, hj, h1, h2 => by
    have e1 : Aside0 (wrap64 (((j + 1 : Nat) : Int) - 1) = (j : Int)) := ⟨wN (by omega) (by omega)⟩
    have e2 : Aside0 (wrap64 ((i : Int) + 1) = ((i + 1 : Nat) : Int) ∨ ¬ i ≤ j + 1) := ⟨by
      by_cases c : i ≤ j + 1
      · exact .inl (wN (by omega) (by omega))
      · exact .inr c⟩
    refine Ev.step (fun k => by simp only [api_Run_70.l2]; rfl) ?_
    simp only [e1.out]
    rw [scanDown] at h1 h2
    by_cases c : i ≤ j + 1
    · have e3 := e2.out.resolve_right (fun h => h c)
      have e3 := Aside0.mk e3
      simp only [e3.out]
      refine Ev.ift (by omega) (Ev.ift (by omega) (Ev.ift (lenA d _ (by omega)) (Ev.ift (by omega) (Ev.ift (lenA d _ (by omega)) (Ev.bnow (cmpR _ _ _ _) ?_)))))
      have e7 := stA d i (j + 1)
      rw [rdA, rdA] at e7
      simp only [rdA] at e7 ⊢
      by_cases c2 : (d[a]!).f0 < (d[j + 1]!).f0
      · refine Ev.ift (by rw [cmpNeg]; exact c2) ?_
        rw [if_pos (by simp [ltR, c2, c])] at h1 h2
        exact pe_l2 a i d r ha hi hs j (by omega) h1 h2
      · refine Ev.iff_ (by rw [cmpNeg]; exact c2) (Ev.iff_ (by omega) (Ev.ift (by omega) (Ev.ift (lenA d _ (by omega)) ?_)))
        rw [if_neg (by simp [ltR, c2])] at h1
        simp only [Int.toNat_natCast]
        rw [e7]
        exact h1 c
    · rw [if_neg (by simp [c])] at h2
      have := h2 c
      subst this
      exact Ev.iff_ (by omega) (Ev.ift (by omega) (Ev.now _))
theorem pe_l1 (a j : Nat) (d : Array S25) (r : Int × List S25) (ha : a < d.size) (hj : j < d.size) (hs : d.size < 2305843009213693952) : ∀ (n i : Nat), j + 1 - i = n →
    Ev (fun k => api_Run_70.j2 k d.toList (a : Int) ((scanUp (fun x => !ltR d[a]! x) d j i : Nat) : Int) (j : Int)) r →
    Ev (fun k => api_Run_70.l1 k d.toList (a : Int) (i : Int) (j : Int)) r
  | 0, i, hn, h => by
    rw [scanUp, if_neg (by simp; omega)] at h
    exact Ev.step (fun k => by simp only [api_Run_70.l1]; rw [if_neg (by omega)]) h
  | n + 1, i, hn, h => by
    have e1 : Aside0 (wrap64 ((i : Int) + 1) = ((i + 1 : Nat) : Int)) := ⟨wN (by omega) (by omega)⟩
    refine Ev.step (fun k => by simp only [api_Run_70.l1]; rfl) ?_
    simp only [e1.out]
    rw [scanUp] at h
    refine Ev.ift (by omega) (Ev.ift (by omega) (Ev.ift (lenA d _ (by omega)) (Ev.ift (by omega) (Ev.ift (lenA d _ (by omega)) (Ev.bnow (cmpR _ _ _ _) ?_)))))
    simp only [rdA]
    by_cases c2 : (d[a]!).f0 < (d[i]!).f0
    · refine Ev.ift (by rw [cmpNeg]; exact c2) ?_
      rw [if_neg (by simp [ltR, c2])] at h
      exact h
    · refine Ev.iff_ (by rw [cmpNeg]; exact c2) ?_
      rw [if_pos (by simp [ltR, c2]; omega)] at h
      exact pe_l1 a j d r ha hj hs n (i + 1) (by omega) h
theorem pe_l0 (a : Nat) : ∀ (n i j : Nat) (d : Array S25), j + 1 - i = n → 1 ≤ i → a < d.size → j < d.size → d.size < 2305843009213693952 →
    Ev (fun k => api_Run_70.l0 k d.toList (a : Int) (i : Int) (j : Int)) (((partEqLoop ltR a i j d).1 : Int), (partEqLoop ltR a i j d).2.toList) := by
  intro n
  induction n using Nat.strongRecOn with
  | _ n ih =>
    intro i j d hn hi ha hj hs
    refine Ev.step (fun k => by simp only [api_Run_70.l0]; rfl) ?_
    refine pe_l1 a j d _ ha hj hs _ i rfl ?_
    refine Ev.step (fun k => by simp only [api_Run_70.j2]; rfl) ?_
    have hu := scanUp_bds (fun x => !ltR d[a]! x) d j _ i rfl
    rw [partEqLoop]
    generalize scanUp (fun x => !ltR d[a]! x) d j i = i2 at hu ⊢
    have hd := scanDown_le (fun x => ltR d[a]! x) d i2 j
    refine pe_l2 a i2 d _ ha (by omega) hs j hj ?_ ?_
    · generalize scanDown (fun x => ltR d[a]! x) d i2 j = j2 at hd ⊢
      intro hle
      rw [if_neg (by omega), dif_pos (by omega)]
      exact ih (j2 - 1 + 1 - (i2 + 1)) (by omega) (i2 + 1) (j2 - 1) _ rfl (by omega) (by rw [swp_size]; exact ha) (by rw [swp_size]; omega) (by rw [swp_size]; exact hs)
    · generalize scanDown (fun x => ltR d[a]! x) d i2 j = j2 at hd ⊢
      intro hle
      rw [if_pos (by omega)]
theorem pe_f (a b p : Nat) (d : Array S25) (hab : a < b) (hb : b ≤ d.size) (hp : p < d.size) (hs : d.size < 2305843009213693952) :
    Ev (fun k => api_Run_70.f k d.toList (a : Int) (b : Int) (p : Int)) (((partitionEqual ltR d a b p).1 : Int), (partitionEqual ltR d a b p).2.toList) := by
  have e1 : Aside0 (wrap64 ((a : Int) + 1) = ((a + 1 : Nat) : Int)) := ⟨wN (by omega) (by omega)⟩
  have e2 : Aside0 (wrap64 ((b : Int) - 1) = ((b - 1 : Nat) : Int)) := ⟨wN (by omega) (by omega)⟩
  refine Ev.congr (fun k => by simp only [api_Run_70.f, e1.out, e2.out]; rfl) ?_
  refine Ev.ift (by omega) (Ev.ift (lenA d _ hp) (Ev.ift (by omega) (Ev.ift (lenA d _ (by omega)) ?_)))
  have e7 := stA d a p
  simp only [Int.toNat_natCast]
  rw [e7]
  exact pe_l0 a _ (a + 1) (b - 1) _ rfl (by omega) (by rw [swp_size]; omega) (by rw [swp_size]; omega) (by rw [swp_size]; exact hs)
theorem pt_l0 (a j : Nat) (d : Array S25) (r : Int × Bool × List S25) (ha : a < d.size) (hj : j < d.size) (hs : d.size < 2305843009213693952) : ∀ (n i : Nat), j + 1 - i = n →
    Ev (fun k => api_Run_71.j1 k d.toList (a : Int) ((scanUp (fun x => ltR x d[a]!) d j i : Nat) : Int) (j : Int)) r →
    Ev (fun k => api_Run_71.l0 k d.toList (a : Int) (i : Int) (j : Int)) r
  | 0, i, hn, h => by
    rw [scanUp, if_neg (by simp; omega)] at h
    exact Ev.step (fun k => by simp only [api_Run_71.l0]; rw [if_neg (by omega)]) h
  | n + 1, i, hn, h => by
    have e1 : Aside0 (wrap64 ((i : Int) + 1) = ((i + 1 : Nat) : Int)) := ⟨wN (by omega) (by omega)⟩
    refine Ev.step (fun k => by simp only [api_Run_71.l0]; rfl) ?_
    simp only [e1.out]
    rw [scanUp] at h
    refine Ev.ift (by omega) (Ev.ift (by omega) (Ev.ift (lenA d _ (by omega)) (Ev.ift (by omega) (Ev.ift (lenA d _ (by omega)) (Ev.bnow (cmpR _ _ _ _) ?_)))))
    simp only [rdA]
    by_cases c2 : (d[i]!).f0 < (d[a]!).f0
    · refine Ev.ift (by rw [cmpNeg]; exact c2) ?_
      rw [if_pos (by simp [ltR, c2]; omega)] at h
      exact pt_l0 a j d r ha hj hs n (i + 1) (by omega) h
    · refine Ev.iff_ (by rw [cmpNeg]; exact c2) ?_
      rw [if_neg (by simp [ltR, c2])] at h
      exact h
theorem pt_l3 (a j : Nat) (d : Array S25) (r : Int × Bool × List S25) (ha : a < d.size) (hj : j < d.size) (hs : d.size < 2305843009213693952) : ∀ (n i : Nat), j + 1 - i = n →
    Ev (fun k => api_Run_71.j6 k d.toList (a : Int) ((scanUp (fun x => ltR x d[a]!) d j i : Nat) : Int) (j : Int)) r →
    Ev (fun k => api_Run_71.l3 k d.toList (a : Int) (i : Int) (j : Int)) r
  | 0, i, hn, h => by
    rw [scanUp, if_neg (by simp; omega)] at h
    exact Ev.step (fun k => by simp only [api_Run_71.l3]; rw [if_neg (by omega)]) h
  | n + 1, i, hn, h => by
    have e1 : Aside0 (wrap64 ((i : Int) + 1) = ((i + 1 : Nat) : Int)) := ⟨wN (by omega) (by omega)⟩
    refine Ev.step (fun k => by simp only [api_Run_71.l3]; rfl) ?_
    simp only [e1.out]
    rw [scanUp] at h
    refine Ev.ift (by omega) (Ev.ift (by omega) (Ev.ift (lenA d _ (by omega)) (Ev.ift (by omega) (Ev.ift (lenA d _ (by omega)) (Ev.bnow (cmpR _ _ _ _) ?_)))))
    simp only [rdA]
    by_cases c2 : (d[i]!).f0 < (d[a]!).f0
    · refine Ev.ift (by rw [cmpNeg]; exact c2) ?_
      rw [if_pos (by simp [ltR, c2]; omega)] at h
      exact pt_l3 a j d r ha hj hs n (i + 1) (by omega) h
    · refine Ev.iff_ (by rw [cmpNeg]; exact c2) ?_
      rw [if_neg (by simp [ltR, c2])] at h
      exact h
theorem pt_l1 (a i : Nat) (d : Array S25) (r : Int × Bool × List S25) (ha : a < d.size) (hi : 1 ≤ i) (hs : d.size < 2305843009213693952) : ∀ (j : Nat), j < d.size →
    Ev (fun k => api_Run_71.j3 k d.toList (a : Int) (i : Int) ((scanDown (fun x => !ltR x d[a]!) d i j : Nat) : Int)) r →
    Ev (fun k => api_Run_71.l1 k d.toList (a : Int) (i : Int) (j : Int)) r
  | 0, hj, h => by
    rw [scanDown] at h
    exact Ev.step (fun k => by simp only [api_Run_71.l1]; rw [if_neg (by omega)]) h
  | j + 1, hj, h => by
    have e1 : Aside0 (wrap64 (((j + 1 : Nat) : Int) - 1) = (j : Int)) := ⟨wN (by omega) (by omega)⟩
    refine Ev.step (fun k => by simp only [api_Run_71.l1]; rfl) ?_
    simp only [e1.out]
    rw [scanDown] at h
    by_cases c : i ≤ j + 1
    · refine Ev.ift (by omega) (Ev.ift (by omega) (Ev.ift (lenA d _ (by omega)) (Ev.ift (by omega) (Ev.ift (lenA d _ (by omega)) (Ev.bnow (cmpR _ _ _ _) ?_)))))
      simp only [rdA]
      by_cases c2 : (d[j + 1]!).f0 < (d[a]!).f0
      · refine Ev.ift (by rw [cmpNeg]; exact c2) ?_
        rw [if_neg (by simp [ltR, c2])] at h
        exact h
      · refine Ev.iff_ (by rw [cmpNeg]; exact c2) ?_
        rw [if_pos (by simp [ltR, c2, c])] at h
        exact pt_l1 a i d r ha hi hs j (by omega) h
    · rw [if_neg (by simp [c])] at h
      exact Ev.iff_ (by omega) h
theorem pt_l4 (a i : Nat) (d : Array S25) (r : Int × Bool × List S25) (ha : a < d.size) (hi : 1 ≤ i) (hs : d.size < 2305843009213693952) : ∀ (j : Nat), j < d.size →
    (i ≤ scanDown (fun x => !ltR x d[a]!) d i j → Ev (fun k => api_Run_71.l2 k (swp d i (scanDown (fun x => !ltR x d[a]!) d i j)).toList (a : Int) ((i + 1 : Nat) : Int) ((scanDown (fun x => !ltR x d[a]!) d i j - 1 : Nat) : Int)) r) →
    (¬ i ≤ scanDown (fun x => !ltR x d[a]!) d i j → r = (((scanDown (fun x => !ltR x d[a]!) d i j : Nat) : Int), false, (swp d (scanDown (fun x => !ltR x d[a]!) d i j) a).toList)) →
    Ev (fun k => api_Run_71.l4 k d.toList (a : Int) (i : Int) (j : Int)) r
  | 0, hj, h1, h2 => by
    rw [scanDown] at h2
    have := h2 (by omega)
    subst this
    have e7 := stA d 0 a
    refine Ev.step (fun k => by simp only [api_Run_71.l4]; rfl) ?_
    refine Ev.iff_ (by omega) (Ev.ift (by omega) (Ev.ift (by omega) (Ev.ift (lenA d _ (by omega)) (Ev.ift (by omega) (Ev.ift (lenA d 0 (by omega)) ?_)))))
    simp only [Int.toNat_natCast]
    rw [e7]
    exact Ev.now _
  | j + 1, hj, h1, h2 => by
    have e1 : Aside0 (wrap64 (((j + 1 : Nat) : Int) - 1) = (j : Int)) := ⟨wN (by omega) (by omega)⟩
    have e2 : Aside0 (wrap64 ((i : Int) + 1) = ((i + 1 : Nat) : Int) ∨ ¬ i ≤ j + 1) := ⟨by
      by_cases c : i ≤ j + 1
      · exact .inl (wN (by omega) (by omega))
      · exact .inr c⟩
    refine Ev.step (fun k => by simp only [api_Run_71.l4]; rfl) ?_
    simp only [e1.out]
    rw [scanDown] at h1 h2
    by_cases c : i ≤ j + 1
    · have e3 := e2.out.resolve_right (fun h => h c)
      have e3 := Aside0.mk e3
      simp only [e3.out]
      refine Ev.ift (by omega) (Ev.ift (by omega) (Ev.ift (lenA d _ (by omega)) (Ev.ift (by omega) (Ev.ift (lenA d _ (by omega)) (Ev.bnow (cmpR _ _ _ _) ?_)))))
      have e7 := stA d i (j + 1)
      simp only [rdA] at e7 ⊢
      by_cases c2 : (d[j + 1]!).f0 < (d[a]!).f0
      · refine Ev.ift (by rw [cmpNeg]; exact c2) (Ev.iff_ (by omega) (Ev.ift (by omega) (Ev.ift (lenA d _ (by omega)) ?_)))
        rw [if_neg (by simp [ltR, c2])] at h1
        simp only [Int.toNat_natCast]
        rw [e7]
        exact h1 c
      · refine Ev.iff_ (by rw [cmpNeg]; exact c2) ?_
        rw [if_pos (by simp [ltR, c2, c])] at h1 h2
        exact pt_l4 a i d r ha hi hs j (by omega) h1 h2
    · rw [if_neg (by simp [c])] at h2
      have := h2 c
      subst this
      have e7 := stA d (j + 1) a
      refine Ev.iff_ (by omega) (Ev.ift (by omega) (Ev.ift (by omega) (Ev.ift (lenA d _ (by omega)) (Ev.ift (by omega) (Ev.ift (lenA d _ (by omega)) ?_)))))
      simp only [Int.toNat_natCast]
      rw [e7]
      exact Ev.now _
theorem pt_l2 (a : Nat) : ∀ (n i j : Nat) (d : Array S25), j + 1 - i = n → 1 ≤ i → a < d.size → j < d.size → d.size < 2305843009213693952 →
    Ev (fun k => api_Run_71.l2 k d.toList (a : Int) (i : Int) (j : Int)) (((partLoop ltR a i j d).1 : Int), false, (swp (partLoop ltR a i j d).2 (partLoop ltR a i j d).1 a).toList) := by
  intro n
  induction n using Nat.strongRecOn with
  | _ n ih =>
    intro i j d hn hi ha hj hs
    refine Ev.step (fun k => by simp only [api_Run_71.l2]; rfl) ?_
    refine pt_l3 a j d _ ha hj hs _ i rfl ?_
    refine Ev.step (fun k => by simp only [api_Run_71.j6]; rfl) ?_
    have hu := scanUp_bds (fun x => ltR x d[a]!) d j _ i rfl
    rw [partLoop]
    generalize scanUp (fun x => ltR x d[a]!) d j i = i2 at hu ⊢
    have hd := scanDown_le (fun x => !ltR x d[a]!) d i2 j
    refine pt_l4 a i2 d _ ha (by omega) hs j hj ?_ ?_
    · generalize scanDown (fun x => !ltR x d[a]!) d i2 j = j2 at hd ⊢
      intro hle
      rw [if_neg (by omega), dif_pos (by omega)]
      exact ih (j2 - 1 + 1 - (i2 + 1)) (by omega) (i2 + 1) (j2 - 1) _ rfl (by omega) (by rw [swp_size]; exact ha) (by rw [swp_size]; omega) (by rw [swp_size]; exact hs)
    · generalize scanDown (fun x => !ltR x d[a]!) d i2 j = j2 at hd ⊢
      intro hle
      rw [if_pos (by omega)]
theorem pt_f (a b p : Nat) (d : Array S25) (hab : a < b) (hb : b ≤ d.size) (hp : p < d.size) (hs : d.size < 2305843009213693952) :
    Ev (fun k => api_Run_71.f k d.toList (a : Int) (b : Int) (p : Int)) (((Go.Sort.partition ltR d a b p).1 : Int), (Go.Sort.partition ltR d a b p).2.1, (Go.Sort.partition ltR d a b p).2.2.toList) := by
  have e1 : Aside0 (wrap64 ((a : Int) + 1) = ((a + 1 : Nat) : Int)) := ⟨wN (by omega) (by omega)⟩
  have e2 : Aside0 (wrap64 ((b : Int) - 1) = ((b - 1 : Nat) : Int)) := ⟨wN (by omega) (by omega)⟩
  refine Ev.congr (fun k => by simp only [api_Run_71.f, e1.out, e2.out]; rfl) ?_
  refine Ev.ift (by omega) (Ev.ift (lenA d _ hp) (Ev.ift (by omega) (Ev.ift (lenA d _ (by omega)) ?_)))
  have e7 := stA d a p
  simp only [Int.toNat_natCast]
  rw [e7]
  simp only [Go.Sort.partition]
  have hsz : (swp d a p).size = d.size := swp_size _ _ _
  generalize swp d a p = d1 at hsz ⊢
  refine pt_l0 a (b - 1) d1 _ (by omega) (by omega) (by omega) _ (a + 1) rfl ?_
  refine Ev.step (fun k => by simp only [api_Run_71.j1]; rfl) ?_
  have hu := scanUp_bds (fun x => ltR x d1[a]!) d1 (b - 1) _ (a + 1) rfl
  generalize scanUp (fun x => ltR x d1[a]!) d1 (b - 1) (a + 1) = i at hu ⊢
  refine pt_l1 a i d1 _ (by omega) (by omega) (by omega) (b - 1) (by omega) ?_
  have hd := scanDown_le (fun x => !ltR x d1[a]!) d1 i (b - 1)
  generalize scanDown (fun x => !ltR x d1[a]!) d1 i (b - 1) = j at hd ⊢
  refine Ev.step (fun k => by simp only [api_Run_71.j3]; rfl) ?_
  by_cases c : i > j
  · rw [if_pos c]
    have e8 := stA d1 j a
    refine Ev.ift (by omega) (Ev.ift (by omega) (Ev.ift (lenA d1 _ (by omega)) (Ev.ift (by omega) (Ev.ift (lenA d1 _ (by omega)) ?_))))
    simp only [Int.toNat_natCast]
    rw [e8]
    exact Ev.now _
  · rw [if_neg c]
    have e8 := stA d1 i j
    have e4 : Aside0 (wrap64 ((i : Int) + 1) = ((i + 1 : Nat) : Int)) := ⟨wN (by omega) (by omega)⟩
    have e5 : Aside0 (wrap64 ((j : Int) - 1) = ((j - 1 : Nat) : Int)) := ⟨wN (by omega) (by omega)⟩
    simp only [e4.out, e5.out]
    refine Ev.iff_ (by omega) (Ev.ift (by omega) (Ev.ift (lenA d1 _ (by omega)) (Ev.ift (by omega) (Ev.ift (lenA d1 _ (by omega)) ?_))))
    simp only [Int.toNat_natCast]
    rw [e8]
    exact pt_l2 a _ (i + 1) (j - 1) _ rfl (by omega) (by rw [swp_size]; omega) (by rw [swp_size]; omega) (by rw [swp_size]; omega)
end Go.Proofs.Ytkbcmjejfbbcpaa.A.So
namespace Go.Proofs.Ytkbcmjejfbbcpaa.A.So
open Go.RowKit Go.Proofs.YtkbcmjejfbbcpaaW.PrintWords Go.Proofs.YtkbcmjejfbbcpaaW.PrintLast Go.Proofs.YtkbcmjejfbbcpaaW.PrintMore
def order2.f (l0 : List (S25)) (a1 : Int) (a2 : Int) (n0 : Int) : Option (Int × Int × Int) := if 0 ≤ a2 then (if a2 < (l0.length : Int) then (if 0 ≤ a1 then (if a1 < (l0.length : Int) then ((runs_order_compare.f false ((rd_T25 l0 a2).f0) ((rd_T25 l0 a2).f1) ((rd_T25 l0 a1).f0) ((rd_T25 l0 a1).f1)).bind fun t110 => (if t110 < 0 then (some (a2, a1, wrap64 (n0 + 1))) else (some (a1, a2, n0)))) else (none)) else (none)) else (none)) else (none)
def median.f (l0 : List S25) (a1 a2 a3 n0 : Int) : Option (Int × Int) := (order2.f l0 a1 a2 n0).bind fun x => (order2.f l0 x.2.1 a3 x.2.2).bind fun y => (order2.f l0 x.1 y.1 y.2.2).bind fun z => some (z.2.1, z.2.2)
def medadj.f (l0 : List S25) (a1 n0 : Int) : Option (Int × Int) := median.f l0 (wrap64 (a1 - 1)) a1 (wrap64 (a1 + 1)) n0
def bits_Len.f (a : Int) : Option Int := if 0 ≤ a then (if a ≤ 18446744073709551615 then some (Lib.bitLen a.toNat : Int) else none) else none
def api_Run_67.hint (n : Int) : Int := if n = 0 then 1 else if n = 12 then 2 else 0
def api_Run_67.at (a y : Int) : Int := wrap64 (a + wrap64 y)
def api_Run_67.f (l0 : List S25) (a1 a2 : Int) : Option (Int × Int) :=
  if 8 ≤ wrap64 (a2 - a1) then
    (if 50 ≤ wrap64 (a2 - a1) then
      (medadj.f l0 (api_Run_67.at a1 (wrap64 ((wrap64 (a2 - a1)).tdiv 4))) 0).bind fun x => (medadj.f l0 (api_Run_67.at a1 (wrap64 ((wrap64 (a2 - a1)).tdiv 4) * 2)) x.2).bind fun y => (medadj.f l0 (api_Run_67.at a1 (wrap64 ((wrap64 (a2 - a1)).tdiv 4) * 3)) y.2).bind fun z => median.f l0 x.1 y.1 z.1 z.2
    else median.f l0 (api_Run_67.at a1 (wrap64 ((wrap64 (a2 - a1)).tdiv 4))) (api_Run_67.at a1 (wrap64 ((wrap64 (a2 - a1)).tdiv 4) * 2)) (api_Run_67.at a1 (wrap64 ((wrap64 (a2 - a1)).tdiv 4) * 3)) 0).bind fun m => some (m.1, api_Run_67.hint m.2)
  else some (api_Run_67.at a1 (wrap64 ((wrap64 (a2 - a1)).tdiv 4) * 2), 1)
def slices_xorshift_Next.f (x : Int) : Option Int := if 0 ≤ x ∧ x < 18446744073709551616 then some (Go.Sort.xorNextN x.toNat : Nat) else none
def slices_nextPowerOfTwo.f (x : Int) : Option Int := if 0 ≤ x ∧ x < 4611686018427387904 then some ((1 <<< Go.Sort.bitsLen x.toNat : Nat) : Int) else none
def brk.l0 : Nat → List (S25) → Int → Int → Int → Int → Int → Option ((List (S25)))
  | 0, _, _, _, _, _, _ => none
  | k + 1, x0, x1, x8, x9, x10, x11 => if x11 ≤ (wrap64 ((wrap64 (x1 + (wrap64 ((wrap64 (Int.tdiv x8 4)) * 2)))) + 1)) then ((slices_xorshift_Next.f x9).bind fun t109 => (if (wrap64 (Go.bits .and .u64 t109 (IntKind.u64.wrap (x10 - 1)))) ≥ x8 then (if 0 ≤ (wrap64 (x1 + (wrap64 ((wrap64 (Go.bits .and .u64 t109 (IntKind.u64.wrap (x10 - 1)))) - x8)))) then (if (wrap64 (x1 + (wrap64 ((wrap64 (Go.bits .and .u64 t109 (IntKind.u64.wrap (x10 - 1)))) - x8)))) < (x0.length : Int) then (if 0 ≤ x11 then (if x11 < (x0.length : Int) then (brk.l0 k ((x0.set (x11 : Int).toNat (⟨(rd_T25 x0 (wrap64 (x1 + (wrap64 ((wrap64 (Go.bits .and .u64 t109 (IntKind.u64.wrap (x10 - 1)))) - x8))))).f0, (rd_T25 x0 (wrap64 (x1 + (wrap64 ((wrap64 (Go.bits .and .u64 t109 (IntKind.u64.wrap (x10 - 1)))) - x8))))).f1⟩ : S25)).set ((wrap64 (x1 + (wrap64 ((wrap64 (Go.bits .and .u64 t109 (IntKind.u64.wrap (x10 - 1)))) - x8)))) : Int).toNat (⟨(rd_T25 x0 x11).f0, (rd_T25 x0 x11).f1⟩ : S25)) x1 x8 t109 x10 (wrap64 (x11 + 1))) else (none)) else (none)) else (none)) else (none)) else (if 0 ≤ (wrap64 (x1 + (wrap64 (Go.bits .and .u64 t109 (IntKind.u64.wrap (x10 - 1)))))) then (if (wrap64 (x1 + (wrap64 (Go.bits .and .u64 t109 (IntKind.u64.wrap (x10 - 1)))))) < (x0.length : Int) then (if 0 ≤ x11 then (if x11 < (x0.length : Int) then (brk.l0 k ((x0.set (x11 : Int).toNat (⟨(rd_T25 x0 (wrap64 (x1 + (wrap64 (Go.bits .and .u64 t109 (IntKind.u64.wrap (x10 - 1))))))).f0, (rd_T25 x0 (wrap64 (x1 + (wrap64 (Go.bits .and .u64 t109 (IntKind.u64.wrap (x10 - 1))))))).f1⟩ : S25)).set ((wrap64 (x1 + (wrap64 (Go.bits .and .u64 t109 (IntKind.u64.wrap (x10 - 1)))))) : Int).toNat (⟨(rd_T25 x0 x11).f0, (rd_T25 x0 x11).f1⟩ : S25)) x1 x8 t109 x10 (wrap64 (x11 + 1))) else (none)) else (none)) else (none)) else (none)))) else (some x0)
def brk.f (k : Nat) (l0 : List (S25)) (a1 : Int) (a2 : Int)  : Option ((List (S25))) := if (wrap64 (a2 - a1)) ≥ 8 then ((slices_nextPowerOfTwo.f (wrap64 (a2 - a1))).bind fun t108 => (brk.l0 k l0 a1 (wrap64 (a2 - a1)) (IntKind.u64.wrap (wrap64 (a2 - a1))) t108 (wrap64 ((wrap64 (a1 + (wrap64 ((wrap64 (Int.tdiv (wrap64 (a2 - a1)) 4)) * 2)))) - 1)))) else (some l0)
def api_Run_66.f (l : List S25) (a b : Int) : Option (List S25) := brk.f 5 l a b
theorem sw_le {α : Type} [Inhabited α] (lt : α → α → Bool) (d : Array α) (a b n : Nat) : (Go.Sort.order2 lt d a b n).2.2 ≤ n + 1 := by
  unfold Go.Sort.order2
  split <;> simp
theorem md_le {α : Type} [Inhabited α] (lt : α → α → Bool) (d : Array α) (a b c n : Nat) : (Go.Sort.median lt d a b c n).2 ≤ n + 3 := by
  unfold Go.Sort.median
  simp only []
  have h1 := sw_le lt d a b n
  have h2 := sw_le lt d (Go.Sort.order2 lt d a b n).2.1 c (Go.Sort.order2 lt d a b n).2.2
  have h3 := sw_le lt d (Go.Sort.order2 lt d a b n).1 (Go.Sort.order2 lt d (Go.Sort.order2 lt d a b n).2.1 c (Go.Sort.order2 lt d a b n).2.2).1 (Go.Sort.order2 lt d (Go.Sort.order2 lt d a b n).2.1 c (Go.Sort.order2 lt d a b n).2.2).2.2
  omega
theorem o2_eq (d : Array S25) (a b n : Nat) (ha : a < d.size) (hb : b < d.size) (hn : n < 4611686018427387904 - 1) :
    order2.f d.toList (a : Int) (b : Int) (n : Int) = some (((Go.Sort.order2 ltR d a b n).1 : Int), ((Go.Sort.order2 ltR d a b n).2.1 : Int), ((Go.Sort.order2 ltR d a b n).2.2 : Int)) := by
  have e1 : Aside0 (wrap64 ((n : Int) + 1) = ((n + 1 : Nat) : Int)) := ⟨wN (by omega) (by omega)⟩
  unfold order2.f
  simp only [e1.out]
  rw [if_pos (by omega), if_pos (lenA d _ hb), if_pos (by omega), if_pos (lenA d _ ha), cmpR]
  simp only [Option.bind_some, cmpNeg, rdA]
  by_cases c : (d[b]!).f0 < (d[a]!).f0
  · rw [if_pos c]
    simp [Go.Sort.order2, ltR, c]
  · rw [if_neg c]
    simp [Go.Sort.order2, ltR, c]
theorem med_eq (d : Array S25) (a b c n : Nat) (ha : a < d.size) (hb : b < d.size) (hc : c < d.size) (hn : n < 1000) :
    median.f d.toList (a : Int) (b : Int) (c : Int) (n : Int) = some (((Go.Sort.median ltR d a b c n).1 : Int), ((Go.Sort.median ltR d a b c n).2 : Int)) := by
  unfold median.f Go.Sort.median
  simp only []
  have h1 := Go.Sort.order2_mem ltR d a b n
  have s1 := sw_le ltR d a b n
  rw [o2_eq d a b n ha hb (by omega)]
  generalize Go.Sort.order2 ltR d a b n = r1 at h1 s1 ⊢
  simp only [Option.bind_some]
  have h2 := Go.Sort.order2_mem ltR d r1.2.1 c r1.2.2
  have s2 := sw_le ltR d r1.2.1 c r1.2.2
  rw [o2_eq d r1.2.1 c r1.2.2 (by omega) hc (by omega)]
  generalize Go.Sort.order2 ltR d r1.2.1 c r1.2.2 = r2 at h2 s2 ⊢
  simp only [Option.bind_some]
  rw [o2_eq d r1.1 r2.1 r2.2.2 (by omega) (by omega) (by omega)]
  rfl
theorem adj_eq (d : Array S25) (a n : Nat) (h1 : 1 ≤ a) (ha : a + 1 < d.size) (hs : d.size < 2305843009213693952) (hn : n < 1000) :
    medadj.f d.toList (a : Int) (n : Int) = some (((Go.Sort.medianAdjacent ltR d a n).1 : Int), ((Go.Sort.medianAdjacent ltR d a n).2 : Int)) := by
  have e1 : Aside0 (wrap64 ((a : Int) + 1) = ((a + 1 : Nat) : Int)) := ⟨wN (by omega) (by omega)⟩
  have e2 : Aside0 (wrap64 ((a : Int) - 1) = ((a - 1 : Nat) : Int)) := ⟨wN (by omega) (by omega)⟩
  unfold medadj.f Go.Sort.medianAdjacent
  simp only [e1.out, e2.out]
  exact med_eq d (a - 1) a (a + 1) n (by omega) (by omega) (by omega) hn
def hintN : Go.Sort.Hint → Int
  | .unknown => 0
  | .increasing => 1
  | .decreasing => 2
theorem hint_eq (n : Nat) : api_Run_67.hint (n : Int) = hintN (if n = 0 then .increasing else if n = 12 then .decreasing else .unknown) := by
  unfold api_Run_67.hint
  by_cases h0 : n = 0
  · subst h0; rfl
  · by_cases h1 : n = 12
    · subst h1; rfl
    · rw [if_neg (by omega), if_neg (by omega), if_neg h0, if_neg h1]; rfl
theorem pivot_eq (d : Array S25) (a b : Nat) (h8 : 8 ≤ b - a) (hb : b ≤ d.size) (hs : d.size < 2305843009213693952) :
    api_Run_67.f d.toList (a : Int) (b : Int) = some (((Go.Sort.choosePivot ltR d a b).1 : Int), hintN (Go.Sort.choosePivot ltR d a b).2) := by
  have e1 : Aside0 (wrap64 ((b : Int) - (a : Int)) = ((b - a : Nat) : Int)) := ⟨wN (by omega) (by omega)⟩
  have ht : Int.tdiv ((b - a : Nat) : Int) 4 = (((b - a) / 4 : Nat) : Int) := rfl
  have e2 : Aside0 (wrap64 (((b - a) / 4 : Nat) : Int) = (((b - a) / 4 : Nat) : Int)) := ⟨wN rfl (by omega)⟩
  have a1 : Aside0 (api_Run_67.at (a : Int) (((b - a) / 4 : Nat) : Int) = ((a + (b - a) / 4 * 1 : Nat) : Int)) := ⟨by
    have w : wrap64 (((b - a) / 4 : Nat) : Int) = (((b - a) / 4 : Nat) : Int) := wN rfl (by omega)
    unfold api_Run_67.at; rw [w]; clear w; exact wN (by omega) (by omega)⟩
  have a2 : Aside0 (api_Run_67.at (a : Int) ((((b - a) / 4 : Nat) : Int) * 2) = ((a + (b - a) / 4 * 2 : Nat) : Int)) := ⟨by
    have w : wrap64 ((((b - a) / 4 : Nat) : Int) * 2) = (((b - a) / 4 * 2 : Nat) : Int) := wN (by omega) (by omega)
    unfold api_Run_67.at; rw [w]; clear w; exact wN (by omega) (by omega)⟩
  have a3 : Aside0 (api_Run_67.at (a : Int) ((((b - a) / 4 : Nat) : Int) * 3) = ((a + (b - a) / 4 * 3 : Nat) : Int)) := ⟨by
    have w : wrap64 ((((b - a) / 4 : Nat) : Int) * 3) = (((b - a) / 4 * 3 : Nat) : Int) := wN (by omega) (by omega)
    unfold api_Run_67.at; rw [w]; clear w; exact wN (by omega) (by omega)⟩
  unfold api_Run_67.f Go.Sort.choosePivot
  simp only [e1.out, ht, e2.out, a1.out, a2.out, a3.out]
  rw [if_pos (by omega), if_pos (show b - a ≥ 8 from h8)]
  by_cases c : b - a ≥ 50
  · rw [if_pos (by omega), if_pos c]
    have m1 := Go.Sort.medianAdjacent_mem ltR d (a + (b - a) / 4 * 1) 0
    have n1 := md_le ltR d (a + (b - a) / 4 * 1 - 1) (a + (b - a) / 4 * 1) (a + (b - a) / 4 * 1 + 1) 0
    have q1 := adj_eq d (a + (b - a) / 4 * 1) 0 (by omega) (by omega) hs (by omega)
    rw [show ((0 : Nat) : Int) = 0 from rfl] at q1
    rw [q1]
    simp only [Option.bind_some]
    change (Go.Sort.medianAdjacent ltR d (a + (b - a) / 4 * 1) 0).2 ≤ 0 + 3 at n1
    generalize Go.Sort.medianAdjacent ltR d (a + (b - a) / 4 * 1) 0 = x at m1 n1 ⊢
    have m2 := Go.Sort.medianAdjacent_mem ltR d (a + (b - a) / 4 * 2) x.2
    have n2 := md_le ltR d (a + (b - a) / 4 * 2 - 1) (a + (b - a) / 4 * 2) (a + (b - a) / 4 * 2 + 1) x.2
    rw [adj_eq d (a + (b - a) / 4 * 2) x.2 (by omega) (by omega) hs (by omega)]
    simp only [Option.bind_some]
    change (Go.Sort.medianAdjacent ltR d (a + (b - a) / 4 * 2) x.2).2 ≤ x.2 + 3 at n2
    generalize Go.Sort.medianAdjacent ltR d (a + (b - a) / 4 * 2) x.2 = y at m2 n2 ⊢
    have m3 := Go.Sort.medianAdjacent_mem ltR d (a + (b - a) / 4 * 3) y.2
    have n3 := md_le ltR d (a + (b - a) / 4 * 3 - 1) (a + (b - a) / 4 * 3) (a + (b - a) / 4 * 3 + 1) y.2
    rw [adj_eq d (a + (b - a) / 4 * 3) y.2 (by omega) (by omega) hs (by omega)]
    simp only [Option.bind_some]
    change (Go.Sort.medianAdjacent ltR d (a + (b - a) / 4 * 3) y.2).2 ≤ y.2 + 3 at n3
    generalize Go.Sort.medianAdjacent ltR d (a + (b - a) / 4 * 3) y.2 = z at m3 n3 ⊢
    rw [med_eq d x.1 y.1 z.1 z.2 (by omega) (by omega) (by omega) (by omega)]
    simp only [Option.bind_some, hint_eq]
  · rw [if_neg (by omega), if_neg c]
    have q := med_eq d (a + (b - a) / 4 * 1) (a + (b - a) / 4 * 2) (a + (b - a) / 4 * 3) 0 (by omega) (by omega) (by omega) (by omega)
    rw [show ((0 : Nat) : Int) = 0 from rfl] at q
    rw [q]
    simp only [Option.bind_some, hint_eq]
theorem u64w {x : Int} {n : Nat} (e : x = (n : Int)) (h : n < 18446744073709551616) : IntKind.u64.wrap x = (n : Int) := by
  subst e
  simp only [IntKind.wrap, IntKind.signed, IntKind.bits]
  simp
  omega
theorem nextR (r : UInt64) : slices_xorshift_Next.f (r.toNat : Int) = some ((Go.Sort.xorNext r).toNat : Int) := by
  have h := r.toNat_lt
  unfold slices_xorshift_Next.f
  rw [if_pos (by omega), Go.Sort.xorNext_toNat, Int.toNat_natCast]
theorem brk_round (k : Nat) (d : Array S25) (a L M idx : Nat) (r : UInt64) (h8 : 8 ≤ L) (hb : a + L ≤ d.size) (hs : d.size < 2305843009213693952) (hM : 1 ≤ M) (hM2 : M ≤ 2 * L) (h1 : a ≤ idx) (h2 : idx < a + L) (h3 : idx ≤ a + L / 4 * 2 + 1) :
    brk.l0 (k + 1) d.toList (a : Int) (L : Int) (r.toNat : Int) (M : Int) (idx : Int) =
      brk.l0 k (Go.Sort.breakStep a L M (r, d) idx).2.toList (a : Int) (L : Int) ((Go.Sort.breakStep a L M (r, d) idx).1.toNat : Int) (M : Int) ((idx + 1 : Nat) : Int) := by
  unfold Go.Sort.breakStep
  rw [brk.l0]
  rw [nextR, Option.bind_some]
  have hr := (Go.Sort.xorNext r).toNat_lt
  generalize Go.Sort.xorNext r = R at hr ⊢
  have ht : Int.tdiv (L : Int) 4 = ((L / 4 : Nat) : Int) := rfl
  have eM : Aside0 (IntKind.u64.wrap ((M : Int) - 1) = ((M - 1 : Nat) : Int)) := ⟨u64w (by omega) (by omega)⟩
  have hand : R.toNat &&& (M - 1) ≤ M - 1 := Nat.and_le_right
  have eB : Aside0 (Go.bits .and .u64 (R.toNat : Int) ((M - 1 : Nat) : Int) = ((R.toNat &&& (M - 1) : Nat) : Int)) := ⟨Go.bits_and_u64_nat _ _ hr (by omega)⟩
  simp only [ht, eM.out, eB.out]
  generalize R.toNat &&& (M - 1) = o at hand ⊢
  have e0 : Aside0 (wrap64 (o : Int) = (o : Int)) := ⟨wN rfl (by omega)⟩
  have e1 : Aside0 (wrap64 ((L / 4 : Nat) : Int) = ((L / 4 : Nat) : Int)) := ⟨wN rfl (by omega)⟩
  have e2 : Aside0 (wrap64 (((L / 4 : Nat) : Int) * 2) = ((L / 4 * 2 : Nat) : Int)) := ⟨wN (by omega) (by omega)⟩
  have e3 : Aside0 (wrap64 ((a : Int) + ((L / 4 * 2 : Nat) : Int)) = ((a + L / 4 * 2 : Nat) : Int)) := ⟨wN (by omega) (by omega)⟩
  have e4 : Aside0 (wrap64 (((a + L / 4 * 2 : Nat) : Int) + 1) = ((a + L / 4 * 2 + 1 : Nat) : Int)) := ⟨wN (by omega) (by omega)⟩
  have e5 : Aside0 (wrap64 ((idx : Int) + 1) = ((idx + 1 : Nat) : Int)) := ⟨wN (by omega) (by omega)⟩
  have e6 : Aside0 (wrap64 ((a : Int) + (o : Int)) = ((a + o : Nat) : Int)) := ⟨wN (by omega) (by omega)⟩
  simp only [e0.out, e1.out, e2.out, e3.out, e4.out, e5.out, e6.out]
  rw [if_pos (by omega)]
  by_cases c : o ≥ L
  · have e7 : Aside0 (wrap64 ((o : Int) - (L : Int)) = ((o - L : Nat) : Int)) := ⟨wN (by omega) (by omega)⟩
    have e8 : Aside0 (wrap64 ((a : Int) + ((o - L : Nat) : Int)) = ((a + (o - L) : Nat) : Int)) := ⟨wN (by omega) (by omega)⟩
    simp only [e7.out, e8.out]
    rw [if_pos (by omega), if_pos (by omega), if_pos (lenA d _ (by omega)), if_pos (by omega), if_pos (lenA d _ (by omega)), if_pos c]
    have e9 := stA d idx (a + (o - L))
    simp only [Int.toNat_natCast]
    rw [e9]
  · rw [if_neg (by omega), if_pos (by omega), if_pos (lenA d _ (by omega)), if_pos (by omega), if_pos (lenA d _ (by omega)), if_neg c]
    have e9 := stA d idx (a + o)
    simp only [Int.toNat_natCast]
    rw [e9]
theorem breakStep_size {α : Type} [Inhabited α] (a L M : Nat) (st : UInt64 × Array α) (idx : Nat) : (Go.Sort.breakStep a L M st idx).2.size = st.2.size := by
  unfold Go.Sort.breakStep
  exact swp_size _ _ _
theorem brk_eq (d : Array S25) (a b : Nat) (hab : a + 8 ≤ b) (hb : b ≤ d.size) (hs : d.size < 2305843009213693952) :
    api_Run_66.f d.toList (a : Int) (b : Int) = some (Go.Sort.breakPatterns d a b).toList := by
  obtain ⟨L, rfl⟩ : ∃ L, b = a + L := ⟨b - a, by omega⟩
  have e1 : Aside0 (wrap64 (((a + L : Nat) : Int) - (a : Int)) = (L : Int)) := ⟨wN (by omega) (by omega)⟩
  have ht : Int.tdiv (L : Int) 4 = ((L / 4 : Nat) : Int) := rfl
  have e2 : Aside0 (wrap64 ((L / 4 : Nat) : Int) = ((L / 4 : Nat) : Int)) := ⟨wN rfl (by omega)⟩
  have e3 : Aside0 (wrap64 (((L / 4 : Nat) : Int) * 2) = ((L / 4 * 2 : Nat) : Int)) := ⟨wN (by omega) (by omega)⟩
  have e4 : Aside0 (wrap64 ((a : Int) + ((L / 4 * 2 : Nat) : Int)) = ((a + L / 4 * 2 : Nat) : Int)) := ⟨wN (by omega) (by omega)⟩
  have e5 : Aside0 (wrap64 (((a + L / 4 * 2 : Nat) : Int) - 1) = ((a + L / 4 * 2 - 1 : Nat) : Int)) := ⟨wN (by omega) (by omega)⟩
  have hU : (UInt64.ofNat L).toNat = L := by rw [UInt64.toNat_ofNat']; exact Nat.mod_eq_of_lt (by omega)
  have e6 : Aside0 (IntKind.u64.wrap (L : Int) = ((UInt64.ofNat L).toNat : Int)) := ⟨by rw [hU]; exact u64w rfl (by omega)⟩
  have hp := Go.Sort.two_pow_bitsLen_le (n := L) (by omega)
  have hpos : 0 < 2 ^ Go.Sort.bitsLen L := Nat.two_pow_pos _
  obtain ⟨M, hM⟩ : ∃ M, 2 ^ Go.Sort.bitsLen L = M := ⟨_, rfl⟩
  rw [hM] at hp hpos
  have HM := Aside0.mk hM
  clear hM
  unfold api_Run_66.f brk.f slices_nextPowerOfTwo.f Go.Sort.breakPatterns
  simp only [e1.out, ht, e2.out, e3.out, e4.out, e5.out, e6.out, Nat.add_sub_cancel_left, Int.toNat_natCast, Nat.one_shiftLeft, HM.out]
  rw [if_pos (by omega), if_pos (by omega), if_pos (by omega)]
  rw [Option.bind_some]
  generalize UInt64.ofNat L = r
  rw [brk_round 4 d a L M _ r (by omega) hb hs hpos hp (by omega) (by omega) (by omega)]
  have z1 := breakStep_size a L M (r, d) (a + L / 4 * 2 - 1)
  generalize Go.Sort.breakStep a L M (r, d) (a + L / 4 * 2 - 1) = s1 at z1 ⊢
  obtain ⟨r1, d1⟩ := s1
  simp only at z1 ⊢
  rw [brk_round 3 d1 a L M _ r1 (by omega) (by omega) (by omega) hpos hp (by omega) (by omega) (by omega)]
  have z2 := breakStep_size a L M (r1, d1) (a + L / 4 * 2 - 1 + 1)
  generalize Go.Sort.breakStep a L M (r1, d1) (a + L / 4 * 2 - 1 + 1) = s2 at z2 ⊢
  obtain ⟨r2, d2⟩ := s2
  simp only at z2 ⊢
  rw [brk_round 2 d2 a L M _ r2 (by omega) (by omega) (by omega) hpos hp (by omega) (by omega) (by omega)]
  have z3 := breakStep_size a L M (r2, d2) (a + L / 4 * 2 - 1 + 1 + 1)
  have hi : a + L / 4 * 2 - 1 + 1 + 1 = a + L / 4 * 2 - 1 + 2 := rfl
  rw [hi] at z3 ⊢
  generalize Go.Sort.breakStep a L M (r2, d2) (a + L / 4 * 2 - 1 + 2) = s3 at z3 ⊢
  obtain ⟨r3, d3⟩ := s3
  rw [brk.l0]
  simp only [ht, e2.out, e3.out, e4.out]
  have e7 : Aside0 (wrap64 (((a + L / 4 * 2 : Nat) : Int) + 1) = ((a + L / 4 * 2 + 1 : Nat) : Int)) := ⟨wN (by omega) (by omega)⟩
  rw [e7.out, if_neg (by omega)]
end Go.Proofs.Ytkbcmjejfbbcpaa.A.So
namespace Go.Proofs.Ytkbcmjejfbbcpaa.A.So
open Go.RowKit Go.Proofs.YtkbcmjejfbbcpaaW.PrintWords Go.Proofs.YtkbcmjejfbbcpaaW.PrintLast Go.Proofs.YtkbcmjejfbbcpaaW.PrintMore
attribute [local go_sem] max2_int min2_int max_two min_two max_three min_three max_four min_four
mutual
def api_Run_58.l0 : Nat → List (S25) → Int → Int → Int → Bool → Bool → Option ((List (S25)))
  | 0, _, _, _, _, _, _ => none
  | k + 1, x0, x1, x2, x3, x10, x11 => if (wrap64 (x2 - x1)) ≤ 12 then ((api_Run_64.f k x0 x1 x2).bind fun t221 => (some t221)) else (if x3 = 0 then ((api_Run_65.f k x0 x1 x2).bind fun t222 => (some t222)) else (if x10 = true then (api_Run_58.j1 k x0 x1 x2 x3 x10 x11 (wrap64 (x2 - x1))) else ((api_Run_66.f x0 x1 x2).bind fun t223 => (api_Run_58.j1 k t223 x1 x2 (wrap64 (x3 - 1)) x10 x11 (wrap64 (x2 - x1))))))
def api_Run_58.j1 : Nat → List (S25) → Int → Int → Int → Bool → Bool → Int → Option ((List (S25)))
  | 0, _, _, _, _, _, _, _ => none
  | k + 1, x0, x1, x2, x3, x10, x11, x12 => (api_Run_67.f x0 x1 x2).bind fun bt224 => (if bt224.2 = 2 then ((api_Run_68.f k x0 x1 x2).bind fun t226 => (api_Run_58.j2 k t226 x1 x2 x3 x10 x11 x12 (wrap64 ((wrap64 (x2 - 1)) - (wrap64 (bt224.1 - x1)))) 1)) else (api_Run_58.j2 k x0 x1 x2 x3 x10 x11 x12 bt224.1 bt224.2))
def api_Run_58.j2 : Nat → List (S25) → Int → Int → Int → Bool → Bool → Int → Int → Int → Option ((List (S25)))
  | 0, _, _, _, _, _, _, _, _, _ => none
  | k + 1, x0, x1, x2, x3, x10, x11, x12, x13, x14 => if x10 = true then (if x11 = true then (api_Run_58.j3 k x0 x1 x2 x3 x10 x11 x12 x13 (x14 == 1)) else (api_Run_58.j3 k x0 x1 x2 x3 x10 x11 x12 x13 false)) else (api_Run_58.j3 k x0 x1 x2 x3 x10 x11 x12 x13 false)
def api_Run_58.j3 : Nat → List (S25) → Int → Int → Int → Bool → Bool → Int → Int → Bool → Option ((List (S25)))
  | 0, _, _, _, _, _, _, _, _, _ => none
  | k + 1, x0, x1, x2, x3, x10, x11, x12, x13, x75 => if x75 = true then ((api_Run_69.f k x0 x1 x2).bind fun bt227 => (if bt227.1 = true then (some bt227.2) else (api_Run_58.j4 k bt227.2 x1 x2 x3 x10 x11 x12 x13))) else (api_Run_58.j4 k x0 x1 x2 x3 x10 x11 x12 x13)
def api_Run_58.j4 : Nat → List (S25) → Int → Int → Int → Bool → Bool → Int → Int → Option ((List (S25)))
  | 0, _, _, _, _, _, _, _, _ => none
  | k + 1, x0, x1, x2, x3, x10, x11, x12, x13 => if x1 > 0 then (if 0 ≤ (wrap64 (x1 - 1)) then (if (wrap64 (x1 - 1)) < (x0.length : Int) then (if 0 ≤ x13 then (if x13 < (x0.length : Int) then ((runs_order_compare.f false ((rd_T25 x0 (wrap64 (x1 - 1))).f0) ((rd_T25 x0 (wrap64 (x1 - 1))).f1) ((rd_T25 x0 x13).f0) ((rd_T25 x0 x13).f1)).bind fun t231 => (api_Run_58.j5 k x0 x1 x2 x3 x10 x11 x12 x13 (!(decide (t231 < 0))))) else (none)) else (none)) else (none)) else (none)) else (api_Run_58.j5 k x0 x1 x2 x3 x10 x11 x12 x13 false)
def api_Run_58.j5 : Nat → List (S25) → Int → Int → Int → Bool → Bool → Int → Int → Bool → Option ((List (S25)))
  | 0, _, _, _, _, _, _, _, _, _ => none
  | k + 1, x0, x1, x2, x3, x10, x11, x12, x13, x97 => if x97 = true then ((api_Run_70.f k x0 x1 x2 x13).bind fun bt232 => (api_Run_58.l0 k bt232.2 bt232.1 x2 x3 x10 x11)) else ((api_Run_71.f k x0 x1 x2 x13).bind fun bt234 => (if (wrap64 (bt234.1 - x1)) < (wrap64 (x2 - bt234.1)) then ((api_Run_58.f k bt234.2.2 x1 bt234.1 x3).bind fun t237 => (api_Run_58.l0 k t237 (wrap64 (bt234.1 + 1)) x2 x3 (decide ((wrap64 (bt234.1 - x1)) ≥ (wrap64 (Int.tdiv x12 8)))) bt234.2.1)) else ((api_Run_58.f k bt234.2.2 (wrap64 (bt234.1 + 1)) x2 x3).bind fun t238 => (api_Run_58.l0 k t238 x1 bt234.1 x3 (decide ((wrap64 (x2 - bt234.1)) ≥ (wrap64 (Int.tdiv x12 8)))) bt234.2.1))))
def api_Run_58.f : Nat → List (S25) → Int → Int → Int → Option ((List (S25)))
  | 0, _, _, _, _ => none
  | k + 1, l0, a1, a2, a3 => api_Run_58.l0 k l0 a1 a2 a3 true true
end
def api_Run_49.f (k : Nat) (l0 : List (S25))  : Option ((List (S25))) := (bits_Len.f (IntKind.u64.wrap ((l0.length : Int)))).bind fun t239 => ((api_Run_58.f k l0 0 (l0.length : Int) t239).bind fun t240 => (some t240))
end Go.Proofs.Ytkbcmjejfbbcpaa.A.So
namespace Go.Proofs.Ytkbcmjejfbbcpaa.A.So
open Go.RowKit Go.Proofs.YtkbcmjejfbbcpaaW.PrintWords Go.Proofs.YtkbcmjejfbbcpaaW.PrintLast Go.Proofs.YtkbcmjejfbbcpaaW.PrintMore Go.Sort
theorem swoR : SWO ltR where
  irrefl x := by simp [ltR]
  trans x y z h1 h2 := by simp [ltR] at *; omega
  ntrans x y z h1 h2 := by simp [ltR] at *; omega
theorem hintN_2 (h : Hint) : (hintN h = 2) ↔ h = .decreasing := by cases h <;> simp [hintN]
theorem hintN_1 (h : Hint) : (hintN h == 1) = decide (h = .increasing) := by cases h <;> simp [hintN]
theorem pdq_l0 : ∀ (n a b lim : Nat) (wb wp : Bool) (d : Array S25), b - a = n → a ≤ b → b ≤ d.size → d.size < 2305843009213693952 → lim < 1000 → Go.Sort.Below ltR a b d →
    Ev (fun k => api_Run_58.l0 k d.toList (a : Int) (b : Int) (lim : Int) wb wp) (pdq ltR d a b lim wb wp).toList := by
  intro n
  induction n using Nat.strongRecOn with
  | _ n ih =>
    intro a b lim wb wp d hn hab hb hs hl hB
    have e1 : Aside0 (wrap64 ((b : Int) - (a : Int)) = ((b - a : Nat) : Int)) := ⟨wN (by omega) (by omega)⟩
    refine Ev.step (fun k => by simp only [api_Run_58.l0]; rfl) ?_
    simp only [e1.out]
    by_cases c12 : b - a ≤ 12
    · rw [pdq_small c12]
      exact Ev.ift (by omega) (Ev.bind (ins_f a b d (by omega) hb (by omega)) (Ev.now _))
    refine Ev.iff_ (by omega) ?_
    by_cases c0 : lim = 0
    · rw [pdq_heap c12 c0]
      exact Ev.ift (by omega) (Ev.bind (heap_f a b d hab hb hs) (Ev.now _))
    refine Ev.iff_ (by omega) ?_
    obtain ⟨s1, B1, hc, s2, B2, hpv, s3, B3⟩ := rd_facts (lt := ltR) (limit := lim) (wb := wb) (wp := wp) swoR partialInsertionSort_holds reverseRange_holds (show a < b by omega) hb hB
    have hlim : (rd ltR d a b lim wb wp).lim ≤ lim := rd_lim_le
    have J5 : ∀ f : Bool, (decide (a > 0) && !ltR (rd ltR d a b lim wb wp).pi.1[a - 1]! (rd ltR d a b lim wb wp).pi.1[(rd ltR d a b lim wb wp).pivot]!) = f → (rd ltR d a b lim wb wp).pi.2 = false →
        Ev (fun k => api_Run_58.j5 k (rd ltR d a b lim wb wp).pi.1.toList (a : Int) (b : Int) ((rd ltR d a b lim wb wp).lim : Int) wb wp ((b - a : Nat) : Int) ((rd ltR d a b lim wb wp).pivot : Int) f) (pdq ltR d a b lim wb wp).toList := by
      intro f hf hpi
      refine Ev.step (fun k => by simp only [api_Run_58.j5]; rfl) ?_
      cases f with
      | true =>
        have hf2 := hf
        simp only [Bool.and_eq_true, decide_eq_true_eq, Bool.not_eq_true'] at hf2
        have hr := round_eq swoR (partitionEqual_holds ltR) hf2.1 hpv.1 hpv.2 (by omega) B3 hf2.2 (mid := (partitionEqual ltR (rd ltR d a b lim wb wp).pi.1 a b (rd ltR d a b lim wb wp).pivot).1) (d4 := (partitionEqual ltR (rd ltR d a b lim wb wp).pi.1 a b (rd ltR d a b lim wb wp).pivot).2) rfl
        obtain ⟨r1, r2, r3, r4, _⟩ := hr
        rw [pdq_eq c12 c0 hpi hf ⟨r1, r2⟩]
        refine Ev.ift rfl (Ev.bind (pe_f a b _ _ (by omega) (by omega) (by omega) (by omega)) ?_)
        generalize partitionEqual ltR (rd ltR d a b lim wb wp).pi.1 a b (rd ltR d a b lim wb wp).pivot = q at r1 r2 r3 r4 ⊢
        obtain ⟨mid, d4⟩ := q
        simp only at r1 r2 r3 r4 ⊢
        exact ih (b - mid) (by omega) mid b _ wb wp d4 rfl r2 (by omega) (by omega) (by omega) r4
      | false =>
        have hr := round_part swoR (partition_holds ltR) hpv.1 hpv.2 (by omega) B3 (mid := (partition ltR (rd ltR d a b lim wb wp).pi.1 a b (rd ltR d a b lim wb wp).pivot).1) (ap := (partition ltR (rd ltR d a b lim wb wp).pi.1 a b (rd ltR d a b lim wb wp).pivot).2.1) (d4 := (partition ltR (rd ltR d a b lim wb wp).pi.1 a b (rd ltR d a b lim wb wp).pivot).2.2) rfl
        obtain ⟨r1, r2, r3, r4, r5, r6, r7⟩ := hr
        refine Ev.iff_ (by simp) (Ev.bind (pt_f a b _ _ (by omega) (by omega) (by omega) (by omega)) ?_)
        by_cases c4 : (partition ltR (rd ltR d a b lim wb wp).pi.1 a b (rd ltR d a b lim wb wp).pivot).1 - a < b - (partition ltR (rd ltR d a b lim wb wp).pi.1 a b (rd ltR d a b lim wb wp).pivot).1
        · rw [pdq_left c12 c0 hpi hf ⟨r1, r2⟩ c4]
          generalize partition ltR (rd ltR d a b lim wb wp).pi.1 a b (rd ltR d a b lim wb wp).pivot = q at r1 r2 r3 r4 r5 r6 r7 c4 ⊢
          obtain ⟨mid, ap, d4⟩ := q
          simp only at r1 r2 r3 r4 r5 r6 r7 c4 ⊢
          have g1 : Aside0 (wrap64 ((mid : Int) - (a : Int)) = ((mid - a : Nat) : Int)) := ⟨wN (by omega) (by omega)⟩
          have g2 : Aside0 (wrap64 ((b : Int) - (mid : Int)) = ((b - mid : Nat) : Int)) := ⟨wN (by omega) (by omega)⟩
          have g3 : Aside0 (wrap64 ((mid : Int) + 1) = ((mid + 1 : Nat) : Int)) := ⟨wN (by omega) (by omega)⟩
          have g4 : Aside0 (wrap64 (Int.tdiv ((b - a : Nat) : Int) 8) = (((b - a) / 8 : Nat) : Int)) := ⟨wN rfl (by omega)⟩
          simp only [g1.out, g2.out, g3.out, g4.out]
          refine Ev.ift (by omega) (Ev.bind (a := (pdq ltR d4 a mid (rd ltR d a b lim wb wp).lim true true).toList) (Ev.step (fun k => by simp only [api_Run_58.f]) (ih (mid - a) (by omega) a mid _ true true d4 rfl r1 (by omega) (by omega) (by omega) r4)) ?_)
          have hp := pdq_sorts ltR swoR d4 a mid (rd ltR d a b lim wb wp).lim true true r1 (by omega) r4
          have hB' := (r6 _ hp.1 hp.2).1
          have hz := hp.1.1
          have e : decide (((mid - a : Nat) : Int) ≥ (((b - a) / 8 : Nat) : Int)) = decide (mid - a ≥ (b - a) / 8) := decide_eq_decide.2 (by omega)
          simp only [e]
          exact ih (b - (mid + 1)) (by omega) (mid + 1) b _ _ _ _ rfl (by omega) (by omega) (by omega) (by omega) hB'
        · rw [pdq_right c12 c0 hpi hf ⟨r1, r2⟩ c4]
          generalize partition ltR (rd ltR d a b lim wb wp).pi.1 a b (rd ltR d a b lim wb wp).pivot = q at r1 r2 r3 r4 r5 r6 r7 c4 ⊢
          obtain ⟨mid, ap, d4⟩ := q
          simp only at r1 r2 r3 r4 r5 r6 r7 c4 ⊢
          have g1 : Aside0 (wrap64 ((mid : Int) - (a : Int)) = ((mid - a : Nat) : Int)) := ⟨wN (by omega) (by omega)⟩
          have g2 : Aside0 (wrap64 ((b : Int) - (mid : Int)) = ((b - mid : Nat) : Int)) := ⟨wN (by omega) (by omega)⟩
          have g3 : Aside0 (wrap64 ((mid : Int) + 1) = ((mid + 1 : Nat) : Int)) := ⟨wN (by omega) (by omega)⟩
          have g4 : Aside0 (wrap64 (Int.tdiv ((b - a : Nat) : Int) 8) = (((b - a) / 8 : Nat) : Int)) := ⟨wN rfl (by omega)⟩
          simp only [g1.out, g2.out, g3.out, g4.out]
          refine Ev.iff_ (by omega) (Ev.bind (a := (pdq ltR d4 (mid + 1) b (rd ltR d a b lim wb wp).lim true true).toList) (Ev.step (fun k => by simp only [api_Run_58.f]) (ih (b - (mid + 1)) (by omega) (mid + 1) b _ true true d4 rfl (by omega) (by omega) (by omega) (by omega) r5)) ?_)
          have hp := pdq_sorts ltR swoR d4 (mid + 1) b (rd ltR d a b lim wb wp).lim true true (by omega) (by omega) r5
          have hB' := (r7 _ hp.1 hp.2).1
          have hz := hp.1.1
          have e : decide (((b - mid : Nat) : Int) ≥ (((b - a) / 8 : Nat) : Int)) = decide (b - mid ≥ (b - a) / 8) := decide_eq_decide.2 (by omega)
          simp only [e]
          exact ih (mid - a) (by omega) a mid _ _ _ _ rfl r1 (by omega) (by omega) (by omega) hB'
    have J4 : (rd ltR d a b lim wb wp).pi.2 = false →
        Ev (fun k => api_Run_58.j4 k (rd ltR d a b lim wb wp).pi.1.toList (a : Int) (b : Int) ((rd ltR d a b lim wb wp).lim : Int) wb wp ((b - a : Nat) : Int) ((rd ltR d a b lim wb wp).pivot : Int)) (pdq ltR d a b lim wb wp).toList := by
      intro hpi
      refine Ev.step (fun k => by simp only [api_Run_58.j4]; rfl) ?_
      by_cases ca : a > 0
      · have g1 : Aside0 (wrap64 ((a : Int) - 1) = ((a - 1 : Nat) : Int)) := ⟨wN (by omega) (by omega)⟩
        simp only [g1.out]
        refine Ev.ift (by omega) (Ev.ift (by omega) (Ev.ift (lenA _ _ (by omega)) (Ev.ift (by omega) (Ev.ift (lenA _ _ (by omega)) (Ev.bnow (cmpR _ _ _ _) ?_)))))
        simp only [cmpNeg, rdA]
        exact J5 _ (by simp [ca, ltR]) hpi
      · exact Ev.iff_ (by omega) (J5 false (by simp [ca]) hpi)
    have J3 : Ev (fun k => api_Run_58.j3 k (rd ltR d a b lim wb wp).d2.toList (a : Int) (b : Int) ((rd ltR d a b lim wb wp).lim : Int) wb wp ((b - a : Nat) : Int) ((rd ltR d a b lim wb wp).pivot : Int) (wb && wp && decide ((rd ltR d a b lim wb wp).hint = .increasing))) (pdq ltR d a b lim wb wp).toList := by
      refine Ev.step (fun k => by simp only [api_Run_58.j3]; rfl) ?_
      cases hf : (wb && wp && decide ((rd ltR d a b lim wb wp).hint = .increasing)) with
      | true =>
        have hpi := rd_pi_yes hf
        refine Ev.ift rfl (Ev.bind (pi_f a b _ (by omega) (by omega) (by omega)) ?_)
        rw [← hpi]
        cases hd : (rd ltR d a b lim wb wp).pi.2 with
        | true =>
          rw [pdq_done c12 c0 hd]
          exact Ev.ift rfl (Ev.now _)
        | false => exact Ev.iff_ (by simp) (J4 hd)
      | false =>
        have hpi := rd_pi_no hf
        have j := J4 (by rw [hpi])
        rw [hpi] at j
        exact Ev.iff_ (by simp) j
    have J2 : Ev (fun k => api_Run_58.j2 k (rd ltR d a b lim wb wp).d2.toList (a : Int) (b : Int) ((rd ltR d a b lim wb wp).lim : Int) wb wp ((b - a : Nat) : Int) ((rd ltR d a b lim wb wp).pivot : Int) (hintN (rd ltR d a b lim wb wp).hint)) (pdq ltR d a b lim wb wp).toList := by
      refine Ev.step (fun k => by simp only [api_Run_58.j2]; rfl) ?_
      simp only [hintN_1]
      cases wb with
      | false => exact Ev.iff_ (by simp) J3
      | true =>
        refine Ev.ift rfl ?_
        cases wp with
        | false => exact Ev.iff_ (by simp) J3
        | true =>
          simp only [Bool.and_self, Bool.true_and] at J3
          exact Ev.ift rfl J3
    have J1 : Ev (fun k => api_Run_58.j1 k (rd ltR d a b lim wb wp).d1.toList (a : Int) (b : Int) ((rd ltR d a b lim wb wp).lim : Int) wb wp ((b - a : Nat) : Int)) (pdq ltR d a b lim wb wp).toList := by
      refine Ev.step (fun k => by simp only [api_Run_58.j1]; rfl) ?_
      refine Ev.bnow (pivot_eq _ a b (by omega) (by omega) (by omega)) ?_
      simp only []
      by_cases hh : (rd ltR d a b lim wb wp).c.2 = .decreasing
      · obtain ⟨q1, q2, q3⟩ := rd_dec hh
        refine Ev.ift ((hintN_2 _).2 hh) (Ev.bind (rev_f a b _ (by omega) (by omega) (by omega)) ?_)
        have g1 : Aside0 (wrap64 ((b : Int) - 1) = ((b - 1 : Nat) : Int)) := ⟨wN (by omega) (by omega)⟩
        have g2 : Aside0 (wrap64 (((rd ltR d a b lim wb wp).c.1 : Int) - (a : Int)) = (((rd ltR d a b lim wb wp).c.1 - a : Nat) : Int)) := ⟨wN (by omega) (by omega)⟩
        have g3 : Aside0 (wrap64 (((b - 1 : Nat) : Int) - (((rd ltR d a b lim wb wp).c.1 - a : Nat) : Int)) = ((rd ltR d a b lim wb wp).pivot : Int)) := ⟨wN (by omega) (by omega)⟩
        have j := J2
        rw [q1, q3] at j
        simp only [← rd_c, g1.out, g2.out, g3.out]
        exact j
      · obtain ⟨q1, q2, q3⟩ := rd_not hh
        have j := J2
        rw [q1, q2, q3] at j
        exact Ev.iff_ (fun h => hh ((hintN_2 _).1 h)) j
    cases wb with
    | true => exact Ev.ift rfl J1
    | false =>
      have g1 : Aside0 (wrap64 ((lim : Int) - 1) = ((lim - 1 : Nat) : Int)) := ⟨wN (by omega) (by omega)⟩
      refine Ev.iff_ (by simp) (Ev.bnow (brk_eq d a b (by omega) hb hs) ?_)
      simp only [g1.out]
      exact J1
theorem bla_le : ∀ (f x : Nat), Lib.bitLenAux f x ≤ f
  | 0, x => by rw [Lib.bitLenAux]; exact Nat.le_refl _
  | f + 1, x => by
    rw [Lib.bitLenAux]
    have := bla_le f (x / 2)
    split <;> omega
theorem sort_f (d : Array S25) (hs : d.size < 2305843009213693952) :
    ∃ d' : Array S25, Ev (fun k => api_Run_49.f k d.toList) d'.toList ∧ PermIn 0 d.size d d' ∧ SortedIn ltR 0 d.size d' := by
  have hB : Go.Sort.Below ltR 0 d.size d := Or.inl rfl
  have hl : Lib.bitLen d.size < 1000 := Nat.lt_of_le_of_lt (bla_le 64 d.size) (by decide)
  have e1 : Aside0 (IntKind.u64.wrap ((d.toList.length : Int)) = ((d.size : Nat) : Int)) := ⟨u64w (by simp) (by omega)⟩
  have hp := pdq_sorts ltR swoR d 0 d.size (Lib.bitLen d.size) true true (Nat.zero_le _) (Nat.le_refl _) hB
  refine ⟨pdq ltR d 0 d.size (Lib.bitLen d.size) true true, ?_, hp.1, hp.2⟩
  refine Ev.congr (fun k => by simp only [api_Run_49.f, e1.out, bits_Len.f]; rfl) ?_
  refine Ev.bnow (x := (Lib.bitLen d.size : Int)) (by rw [if_pos (by omega), if_pos (by omega), Int.toNat_natCast]) ?_
  refine Ev.bind (a := (pdq ltR d 0 d.size (Lib.bitLen d.size) true true).toList) (Ev.step (fun k => by simp only [api_Run_58.f]; rfl) ?_) (Ev.now _)
  have h := pdq_l0 d.size 0 d.size (Lib.bitLen d.size) true true d (by omega) (Nat.zero_le _) (Nat.le_refl _) hs hl hB
  simpa using h
end Go.Proofs.Ytkbcmjejfbbcpaa.A.So
namespace Go.Proofs.Ytkbcmjejfbbcpaa.A.So
open Go.RowKit Go.Proofs.YtkbcmjejfbbcpaaW.PrintWords Go.Proofs.YtkbcmjejfbbcpaaW.PrintLast Go.Proofs.YtkbcmjejfbbcpaaW.PrintMore
attribute [local go_sem] max2_int min2_int max_two min_two max_three min_three max_four min_four
mutual
def runs_Make.l0 : Nat → List (S25) → List (S25) → Int → Int → Option ((List (S25)))
  | 0, _, _, _, _ => none
  | k + 1, x3, x11, x12, x13 => if x13 < x12 then (if 0 ≤ x13 then (if x13 < (x11.length : Int) then (if (mx ((rd_T25 x11 x13).f0) (-1099511627776)) ≤ (mn ((rd_T25 x11 x13).f1) 1099511627776) then (if x3.length < 8796093022208 then (runs_Make.l0 k (x3 ++ [(⟨mx ((rd_T25 x11 x13).f0) (-1099511627776), mn ((rd_T25 x11 x13).f1) 1099511627776⟩ : S25)]) x11 x12 (wrap64 (x13 + 1))) else (none)) else (runs_Make.l0 k x3 x11 x12 (wrap64 (x13 + 1)))) else (none)) else (none)) else ((api_Run_49.f k x3).bind fun t246 => (runs_Make.l1 k ([] : List (S25)) t246 (x3.length : Int) 0))
def runs_Make.l1 : Nat → List (S25) → List (S25) → Int → Int → Option ((List (S25)))
  | 0, _, _, _, _ => none
  | k + 1, x7, x39, x40, x41 => if x41 < x40 then (if 0 ≤ x41 then (if x41 < (x39.length : Int) then (if (wrap64 ((x7.length : Int) - 1)) ≥ 0 then (if 0 ≤ (wrap64 ((x7.length : Int) - 1)) then (if (wrap64 ((x7.length : Int) - 1)) < (x7.length : Int) then (if ((rd_T25 x39 x41).f0) ≤ (wrap64 (((rd_T25 x7 (wrap64 ((x7.length : Int) - 1))).f1) + 1)) then (runs_Make.l1 k (x7.set ((wrap64 ((x7.length : Int) - 1)) : Int).toNat (⟨(rd_T25 x7 (wrap64 ((x7.length : Int) - 1))).f0, mx ((rd_T25 x7 (wrap64 ((x7.length : Int) - 1))).f1) ((rd_T25 x39 x41).f1)⟩ : S25)) x39 x40 (wrap64 (x41 + 1))) else (if x7.length < 8796093022208 then (runs_Make.l1 k (x7 ++ [(⟨(rd_T25 x39 x41).f0, (rd_T25 x39 x41).f1⟩ : S25)]) x39 x40 (wrap64 (x41 + 1))) else (none))) else (none)) else (none)) else (if x7.length < 8796093022208 then (runs_Make.l1 k (x7 ++ [(⟨(rd_T25 x39 x41).f0, (rd_T25 x39 x41).f1⟩ : S25)]) x39 x40 (wrap64 (x41 + 1))) else (none))) else (none)) else (none)) else (some x7)
end
def runs_Make.f (k : Nat) (l0 : List (S25)) : Option ((List (S25))) := runs_Make.l0 k ([] : List (S25)) l0 (l0.length : Int) 0
end Go.Proofs.Ytkbcmjejfbbcpaa.A.So
namespace Go.Proofs.Ytkbcmjejfbbcpaa.A.So
open Go.RowKit Go.Proofs.YtkbcmjejfbbcpaaW.PrintWords Go.Proofs.YtkbcmjejfbbcpaaW.PrintLast Go.Proofs.YtkbcmjejfbbcpaaW.PrintMore Go.Sort
theorem sane_last {x q : S25} (h0 : x.f0 = q.f0) (h1 : q.f1 ≤ x.f1) (h2 : x.f1 ≤ lim) : ∀ (o : List S25) (a : Int), saneF a (o ++ [q]) → saneF a (o ++ [x])
  | [], a, ⟨s1, s2, s3, _⟩ => ⟨by omega, by omega, h2, trivial⟩
  | r :: t, a, ⟨s1, s2, s3, s4⟩ => ⟨s1, s2, s3, sane_last h0 h1 h2 t _ s4⟩
theorem sane_more {r q : S25} (h0 : q.f1 + 2 ≤ r.f0) (h1 : r.f0 ≤ r.f1) (h2 : r.f1 ≤ lim) : ∀ (o : List S25) (a : Int), saneF a (o ++ [q]) → saneF a (o ++ [q] ++ [r])
  | [], a, ⟨s1, s2, s3, _⟩ => ⟨s1, s2, s3, h0, h1, h2, trivial⟩
  | p :: t, a, ⟨s1, s2, s3, s4⟩ => ⟨s1, s2, s3, sane_more h0 h1 h2 t _ s4⟩
theorem sane_lim : ∀ (o : List S25) (a : Int) (q : S25), saneF a (o ++ [q]) → q.f1 ≤ lim ∧ a + 2 ≤ q.f0 ∧ q.f0 ≤ q.f1
  | [], a, q, ⟨s1, s2, s3, _⟩ => ⟨s3, s1, s2⟩
  | p :: t, a, q, ⟨s1, s2, s3, s4⟩ => by
    have := sane_lim t _ q s4
    omega
def okR (r : S25) : Prop := -lim ≤ r.f0 ∧ r.f0 ≤ r.f1 ∧ r.f1 ≤ lim
theorem rd_last (o : List S25) (q : S25) : rd_T25 (o ++ [q]) (o.length : Int) = q := by simp [rd_T25]
theorem mk_l1 : ∀ (t p o : List S25), (p ++ t).length < 4398046511104 → o.length ≤ p.length → sane o → (∀ r ∈ t, okR r) → t.Pairwise (fun x y => x.f0 ≤ y.f0) → (∀ o' q, o = o' ++ [q] → ∀ r ∈ t, q.f0 ≤ r.f0) →
    ∃ res, Ev (fun k => runs_Make.l1 k o (p ++ t) ((p ++ t).length : Int) (p.length : Int)) res ∧ sane res ∧ ∀ n, mem res n ↔ mem o n ∨ mem t n
  | [], p, o, hl, ho, hs, hv, hp, hq => ⟨o, Ev.step (fun k => by simp only [runs_Make.l1]; rw [if_neg (by simp)]) (Ev.now _), hs, fun n => by simp [mem_nil]⟩
  | r :: t, p, o, hl, ho, hs, hv, hp, hq => by
    have hlen : p.length + (t.length + 1) < 4398046511104 := by simpa using hl
    have hr : rd_T25 (p ++ r :: t) (p.length : Int) = r := by simp [rd_T25]
    have hi : wrap64 ((p.length : Int) + 1) = ((p ++ [r]).length : Int) := by rw [wN (n := p.length + 1) (by omega) (by omega)]; simp
    have happ : p ++ r :: t = (p ++ [r]) ++ t := by simp
    have hok := hv r List.mem_cons_self
    have hlim : lim = 1099511627776 := rfl
    unfold okR at hok
    have hgo : ∀ o2 : List S25, o2.length ≤ p.length + 1 → sane o2 → (∀ o' q, o2 = o' ++ [q] → ∀ x ∈ t, q.f0 ≤ x.f0) →
        ∃ res, Ev (fun k => runs_Make.l1 k o2 (p ++ r :: t) ((p ++ r :: t).length : Int) (wrap64 ((p.length : Int) + 1))) res ∧ sane res ∧ ∀ n, mem res n ↔ mem o2 n ∨ mem t n := by
      intro o2 h1 h2 h3
      rw [hi, happ]
      exact mk_l1 t (p ++ [r]) o2 (by rw [← happ]; exact hl) (by simpa using h1) h2 (fun x hx => hv x (List.mem_cons_of_mem _ hx)) (List.pairwise_cons.1 hp).2 h3
    have hlt : (p.length : Int) < ((p ++ r :: t).length : Int) := by simp; omega
    rcases List.eq_nil_or_concat o with ho0 | ⟨o', q, ho'⟩
    · subst ho0
      obtain ⟨res, e, s, m⟩ := hgo [r] (by simp) ⟨by omega, by omega, by omega, trivial⟩ (fun o' q e x hx => by
        have : q = r := by
          have h := congrArg List.getLast? e
          simpa using h.symm
        subst this
        exact (List.pairwise_cons.1 hp).1 x hx)
      refine ⟨res, Ev.step (fun k => by simp only [runs_Make.l1]; rfl) ?_, s, fun n => by rw [m n, mem_cons, mem_cons (r := r) (t := t)]; simp [mem_nil]⟩
      refine Ev.ift hlt (Ev.ift (by omega) (Ev.ift hlt ?_))
      simp only [hr]
      refine Ev.iff_ (by simp [wrap64]) (Ev.ift (by simp) ?_)
      exact e
    · have ho2 : o = o' ++ [q] := by simpa using ho'
      subst ho2
      have hk : wrap64 (((o' ++ [q]).length : Int) - 1) = (o'.length : Int) := by
        simp only [List.length_append, List.length_cons, List.length_nil] at ho ⊢
        exact wN (by omega) (by omega)
      have hsl := sane_lim o' _ q hs
      have hqr := hq o' q rfl r List.mem_cons_self
      have hw : wrap64 (q.f1 + 1) = q.f1 + 1 := w64 (by omega) (by omega)
      have hlo : (o'.length : Int) < ((o' ++ [q]).length : Int) := by simp; omega
      by_cases c : r.f0 ≤ q.f1 + 1
      · have hx : o'.length + 1 ≤ p.length := by simpa using ho
        obtain ⟨res, e, s, m⟩ := hgo (o' ++ [(⟨q.f0, mx q.f1 r.f1⟩ : S25)]) (by simp; omega) (sane_last (x := (⟨q.f0, mx q.f1 r.f1⟩ : S25)) (q := q) rfl (by show q.f1 ≤ mx q.f1 r.f1; unfold mx; split <;> omega) (by show mx q.f1 r.f1 ≤ lim; unfold mx; split <;> omega) o' _ hs) (fun o2 q2 e x hx2 => by
          have h := congrArg List.getLast? e
          have : q2 = ⟨q.f0, mx q.f1 r.f1⟩ := by simpa using h.symm
          subst this
          exact hq o' q rfl x (List.mem_cons_of_mem _ hx2))
        refine ⟨res, Ev.step (fun k => by simp only [runs_Make.l1]; rfl) ?_, s, fun n => ?_⟩
        · refine Ev.ift hlt (Ev.ift (by omega) (Ev.ift hlt ?_))
          simp only [hr, hk, rd_last, hw]
          refine Ev.ift (by omega) (Ev.ift (by omega) (Ev.ift hlo (Ev.ift c ?_)))
          simp only [Int.toNat_natCast, List.set_append_right _ _ (Nat.le_refl _), Nat.sub_self, List.set_cons_zero]
          exact e
        · rw [m n, mem_append, mem_append, mem_cons, mem_cons, mem_cons]
          simp only [mem_nil, or_false, mx]
          constructor
          · rintro ((h | h) | h)
            · exact .inl (.inl h)
            · by_cases hn : n ≤ q.f1
              · exact .inl (.inr (by omega))
              · refine .inr (.inl ?_)
                split at h <;> omega
            · exact .inr (.inr h)
          · rintro ((h | h) | (h | h))
            · exact .inl (.inl h)
            · refine .inl (.inr ?_)
              split <;> omega
            · refine .inl (.inr ?_)
              split <;> omega
            · exact .inr h
      · obtain ⟨res, e, s, m⟩ := hgo ((o' ++ [q]) ++ [r]) (by simp only [List.length_append, List.length_cons, List.length_nil] at ho ⊢; omega) (sane_more (by omega) (by omega) (by omega) o' _ hs) (fun o2 q2 e x hx2 => by
          have h := congrArg List.getLast? e
          have : q2 = r := by simpa using h.symm
          subst this
          exact (List.pairwise_cons.1 hp).1 x hx2)
        refine ⟨res, Ev.step (fun k => by simp only [runs_Make.l1]; rfl) ?_, s, fun n => ?_⟩
        · refine Ev.ift hlt (Ev.ift (by omega) (Ev.ift hlt ?_))
          simp only [hr, hk, rd_last, hw]
          refine Ev.ift (by omega) (Ev.ift (by omega) (Ev.ift hlo (Ev.iff_ c (Ev.ift (by omega) ?_))))
          exact e
        · rw [m n, mem_append (s := o' ++ [q]), mem_cons (r := r) (t := t), mem_cons (r := r) (t := [])]
          simp only [mem_nil, or_false, or_assoc]
def cut (l : List S25) : List S25 := (l.map clamp).filter (fun r => decide (r.f0 ≤ r.f1))
theorem mk_l0 (r : List S25) : ∀ (t p acc : List S25), (p ++ t).length < 4398046511104 → acc.length ≤ p.length →
    Ev (fun k => (api_Run_49.f k (acc ++ cut t)).bind fun t246 => runs_Make.l1 k ([] : List S25) t246 ((acc ++ cut t).length : Int) 0) r →
    Ev (fun k => runs_Make.l0 k acc (p ++ t) ((p ++ t).length : Int) (p.length : Int)) r
  | [], p, acc, hl, ha, h => by
    simp only [cut, List.map_nil, List.filter_nil, List.append_nil] at h
    exact Ev.step (fun k => by simp only [runs_Make.l0]; rw [if_neg (by simp)]) h
  | q :: t, p, acc, hl, ha, h => by
    have hlen : p.length + (t.length + 1) < 4398046511104 := by simpa using hl
    have hr : rd_T25 (p ++ q :: t) (p.length : Int) = q := by simp [rd_T25]
    have hi : wrap64 ((p.length : Int) + 1) = ((p ++ [q]).length : Int) := by rw [wN (n := p.length + 1) (by omega) (by omega)]; simp
    have happ : p ++ q :: t = (p ++ [q]) ++ t := by simp
    have hlt : (p.length : Int) < ((p ++ q :: t).length : Int) := by simp; omega
    have hlim : lim = 1099511627776 := rfl
    have hc : (⟨mx q.f0 (-1099511627776), mn q.f1 1099511627776⟩ : S25) = clamp q := by
      unfold clamp mx mn
      congr 1
      · simp only [hlim]; split <;> omega
      · simp only [hlim]; split <;> omega
    have hc0 : mx q.f0 (-1099511627776) = (clamp q).f0 := congrArg (fun x => x.f0) hc
    have hc1 : mn q.f1 1099511627776 = (clamp q).f1 := congrArg (fun x => x.f1) hc
    refine Ev.step (fun k => by simp only [runs_Make.l0]; rfl) ?_
    refine Ev.ift hlt (Ev.ift (by omega) (Ev.ift hlt ?_))
    simp only [hr, hc0, hc1]
    rw [hi, happ]
    by_cases c : (clamp q).f0 ≤ (clamp q).f1
    · refine Ev.ift c (Ev.ift (by omega) ?_)
      refine mk_l0 r t (p ++ [q]) (acc ++ [clamp q]) (by rw [← happ]; exact hl) (by simp; omega) ?_
      have e : acc ++ cut (q :: t) = (acc ++ [clamp q]) ++ cut t := by simp [cut, c]
      rw [e] at h
      exact h
    · refine Ev.iff_ c ?_
      refine mk_l0 r t (p ++ [q]) acc (by rw [← happ]; exact hl) (by simp; omega) ?_
      have e : acc ++ cut (q :: t) = acc ++ cut t := by simp [cut, c]
      rw [e] at h
      exact h
end Go.Proofs.Ytkbcmjejfbbcpaa.A.So
namespace Go.Proofs.Ytkbcmjejfbbcpaa.A.So
open Go.RowKit Go.Proofs.YtkbcmjejfbbcpaaW.PrintWords Go.Proofs.YtkbcmjejfbbcpaaW.PrintLast Go.Proofs.YtkbcmjejfbbcpaaW.PrintMore
attribute [local go_sem] max2_int min2_int max_two min_two max_three min_three max_four min_four
attribute [local go_sem] isSome_setCell
set_option maxHeartbeats 8000000 in
set_option maxRecDepth 100000 in
theorem cmp_isNaN_int.calls (a0 : Int) (r : Bool) (w : World) (h : cmp_isNaN_int.f a0 = some r) :
  Calls Try.prog 63 #[.int .i64 a0] w fun e w' => e = .returned (.bool r) ∧ Drawn0 w w' := by
 have H : (some (a0 != a0)) = some r := h; clear h; obtain rfl := Option.some.inj H; go_enter Try.func63, Try.ntmps63; go_wp2; go_ret; exact ⟨by first | rfl | (simp; done) | (simp [*]; done), by repeat (first | exact Drawn0.refl _ | apply Drawn0.step)⟩
set_option maxHeartbeats 8000000 in
set_option maxRecDepth 100000 in
theorem cmp_Compare_int.calls (a0 : Int) (a1 : Int) (r : Int) (w : World) (h : cmp_Compare_int.f a0 a1 = some r) :
  Calls Try.prog 57 #[.int .i64 a0, .int .i64 a1] w fun e w' => e = .returned (.int .i64 r) ∧ Drawn0 w w' := by
 have H : ((cmp_isNaN_int.f a0).bind fun t101 => ((cmp_isNaN_int.f a1).bind fun t102 => (if t101 = true then (if t102 = true then (some 0) else (some (-1))) else (if t102 = true then (some 1) else (if a0 < a1 then (some (-1)) else (if a0 > a1 then (some 1) else (some 0))))))) = some r := h; clear h; replace H := Option.bind_eq_some_iff.mp H; obtain ⟨t101, A30, H⟩ := H; replace H : ((cmp_isNaN_int.f a1).bind fun t102 => (if t101 = true then (if t102 = true then (some 0) else (some (-1))) else (if t102 = true then (some 1) else (if a0 < a1 then (some (-1)) else (if a0 > a1 then (some 1) else (some 0)))))) = some r := H; have A3 := Aside0.mk A30; clear A30; replace H := Option.bind_eq_some_iff.mp H; obtain ⟨t102, A40, H⟩ := H; replace H : (if t101 = true then (if t102 = true then (some 0) else (some (-1))) else (if t102 = true then (some 1) else (if a0 < a1 then (some (-1)) else (if a0 > a1 then (some 1) else (some 0))))) = some r := H; have A4 := Aside0.mk A40; clear A40
 by_cases c5 : t101 = true
 ·subst c5
  (have H1 : (if t102 = true then (some 0) else (some (-1))) = some r := by rw [if_pos rfl] at H; exact H); clear H; have H := H1; clear H1
  by_cases c6 : t102 = true
  ·subst c6
   (have H1 : (some 0) = some r := by rw [if_pos rfl] at H; exact H); clear H; have H := H1; clear H1; obtain rfl := Option.some.inj H; go_enter Try.func57, Try.ntmps57; go_wp2_with (first | ((with_reducible refine gate_callee (f := 63) rfl ?_); refine goesL_ (some 8) rfl rfl Try.func63 (by kernel_rfl) rfl #[.int .i64 a0] rfl ml_ ?_; (with_reducible refine (cmp_isNaN_int.calls a0 true _ A3.out).mono ?_); rintro e w' ⟨rfl, ⟨nd, rfl⟩⟩; refine ⟨_, rfl, ?_⟩) | ((with_reducible refine gate_callee (f := 63) rfl ?_); refine goesL_ (some 10) rfl rfl Try.func63 (by kernel_rfl) rfl #[.int .i64 a1] rfl ml_ ?_; (with_reducible refine (cmp_isNaN_int.calls a1 true _ A4.out).mono ?_); rintro e w' ⟨rfl, ⟨nd, rfl⟩⟩; refine ⟨_, rfl, ?_⟩)); go_ret; exact ⟨by first | rfl | (simp; done) | (simp [*]; done), by repeat (first | exact Drawn0.refl _ | apply Drawn0.step)⟩
  ·replace c6 := Bool.eq_false_iff.mpr c6
   subst c6; (have H1 : (some (-1)) = some r := by rw [if_neg (show ¬ (false = true) by decide)] at H; exact H); clear H; have H := H1; clear H1; obtain rfl := Option.some.inj H; go_enter Try.func57, Try.ntmps57; go_wp2_with (first | ((with_reducible refine gate_callee (f := 63) rfl ?_); refine goesL_ (some 8) rfl rfl Try.func63 (by kernel_rfl) rfl #[.int .i64 a0] rfl ml_ ?_; (with_reducible refine (cmp_isNaN_int.calls a0 true _ A3.out).mono ?_); rintro e w' ⟨rfl, ⟨nd, rfl⟩⟩; refine ⟨_, rfl, ?_⟩) | ((with_reducible refine gate_callee (f := 63) rfl ?_); refine goesL_ (some 10) rfl rfl Try.func63 (by kernel_rfl) rfl #[.int .i64 a1] rfl ml_ ?_; (with_reducible refine (cmp_isNaN_int.calls a1 false _ A4.out).mono ?_); rintro e w' ⟨rfl, ⟨nd, rfl⟩⟩; refine ⟨_, rfl, ?_⟩)); go_ret; exact ⟨by first | rfl | (simp; done) | (simp [*]; done), by repeat (first | exact Drawn0.refl _ | apply Drawn0.step)⟩
 ·replace c5 := Bool.eq_false_iff.mpr c5
  subst c5; (have H1 : (if t102 = true then (some 1) else (if a0 < a1 then (some (-1)) else (if a0 > a1 then (some 1) else (some 0)))) = some r := by rw [if_neg (show ¬ (false = true) by decide)] at H; exact H); clear H; have H := H1; clear H1
  by_cases c7 : t102 = true
  ·subst c7
   (have H1 : (some 1) = some r := by rw [if_pos rfl] at H; exact H); clear H; have H := H1; clear H1; obtain rfl := Option.some.inj H; go_enter Try.func57, Try.ntmps57; go_wp2_with (first | ((with_reducible refine gate_callee (f := 63) rfl ?_); refine goesL_ (some 8) rfl rfl Try.func63 (by kernel_rfl) rfl #[.int .i64 a0] rfl ml_ ?_; (with_reducible refine (cmp_isNaN_int.calls a0 false _ A3.out).mono ?_); rintro e w' ⟨rfl, ⟨nd, rfl⟩⟩; refine ⟨_, rfl, ?_⟩) | ((with_reducible refine gate_callee (f := 63) rfl ?_); refine goesL_ (some 10) rfl rfl Try.func63 (by kernel_rfl) rfl #[.int .i64 a1] rfl ml_ ?_; (with_reducible refine (cmp_isNaN_int.calls a1 true _ A4.out).mono ?_); rintro e w' ⟨rfl, ⟨nd, rfl⟩⟩; refine ⟨_, rfl, ?_⟩)); go_ret; exact ⟨by first | rfl | (simp; done) | (simp [*]; done), by repeat (first | exact Drawn0.refl _ | apply Drawn0.step)⟩
  ·replace c7 := Bool.eq_false_iff.mpr c7
   subst c7; (have H1 : (if a0 < a1 then (some (-1)) else (if a0 > a1 then (some 1) else (some 0))) = some r := by rw [if_neg (show ¬ (false = true) by decide)] at H; exact H); clear H; have H := H1; clear H1
   by_cases c8 : a0 < a1
   ·rw [if_pos c8] at H
    have c8b0 : decide (a0 < a1) = true := decide_eq_true c8; clear c8; obtain rfl := Option.some.inj H; go_enter Try.func57, Try.ntmps57; go_wp2_with (first | ((with_reducible refine gate_callee (f := 63) rfl ?_); refine goesL_ (some 8) rfl rfl Try.func63 (by kernel_rfl) rfl #[.int .i64 a0] rfl ml_ ?_; (with_reducible refine (cmp_isNaN_int.calls a0 false _ A3.out).mono ?_); rintro e w' ⟨rfl, ⟨nd, rfl⟩⟩; refine ⟨_, rfl, ?_⟩) | ((with_reducible refine gate_callee (f := 63) rfl ?_); refine goesL_ (some 10) rfl rfl Try.func63 (by kernel_rfl) rfl #[.int .i64 a1] rfl ml_ ?_; (with_reducible refine (cmp_isNaN_int.calls a1 false _ A4.out).mono ?_); rintro e w' ⟨rfl, ⟨nd, rfl⟩⟩; refine ⟨_, rfl, ?_⟩)); go_ret; exact ⟨by first | rfl | (simp; done) | (simp [*]; done), by repeat (first | exact Drawn0.refl _ | apply Drawn0.step)⟩
   ·rw [if_neg c8] at H
    have c8b0 : decide (a0 < a1) = false := decide_eq_false c8; clear c8
    by_cases c9 : a0 > a1
    ·rw [if_pos c9] at H
     have c9b0 : decide (a1 < a0) = true := decide_eq_true c9; clear c9; obtain rfl := Option.some.inj H; go_enter Try.func57, Try.ntmps57; go_wp2_with (first | ((with_reducible refine gate_callee (f := 63) rfl ?_); refine goesL_ (some 8) rfl rfl Try.func63 (by kernel_rfl) rfl #[.int .i64 a0] rfl ml_ ?_; (with_reducible refine (cmp_isNaN_int.calls a0 false _ A3.out).mono ?_); rintro e w' ⟨rfl, ⟨nd, rfl⟩⟩; refine ⟨_, rfl, ?_⟩) | ((with_reducible refine gate_callee (f := 63) rfl ?_); refine goesL_ (some 10) rfl rfl Try.func63 (by kernel_rfl) rfl #[.int .i64 a1] rfl ml_ ?_; (with_reducible refine (cmp_isNaN_int.calls a1 false _ A4.out).mono ?_); rintro e w' ⟨rfl, ⟨nd, rfl⟩⟩; refine ⟨_, rfl, ?_⟩)); go_ret; exact ⟨by first | rfl | (simp; done) | (simp [*]; done), by repeat (first | exact Drawn0.refl _ | apply Drawn0.step)⟩
    ·rw [if_neg c9] at H
     have c9b0 : decide (a1 < a0) = false := decide_eq_false c9; clear c9; obtain rfl := Option.some.inj H; go_enter Try.func57, Try.ntmps57; go_wp2_with (first | ((with_reducible refine gate_callee (f := 63) rfl ?_); refine goesL_ (some 8) rfl rfl Try.func63 (by kernel_rfl) rfl #[.int .i64 a0] rfl ml_ ?_; (with_reducible refine (cmp_isNaN_int.calls a0 false _ A3.out).mono ?_); rintro e w' ⟨rfl, ⟨nd, rfl⟩⟩; refine ⟨_, rfl, ?_⟩) | ((with_reducible refine gate_callee (f := 63) rfl ?_); refine goesL_ (some 10) rfl rfl Try.func63 (by kernel_rfl) rfl #[.int .i64 a1] rfl ml_ ?_; (with_reducible refine (cmp_isNaN_int.calls a1 false _ A4.out).mono ?_); rintro e w' ⟨rfl, ⟨nd, rfl⟩⟩; refine ⟨_, rfl, ?_⟩)); go_ret; exact ⟨by first | rfl | (simp; done) | (simp [*]; done), by repeat (first | exact Drawn0.refl _ | apply Drawn0.step)⟩
set_option maxHeartbeats 8000000 in
set_option maxRecDepth 100000 in
theorem runs_order_compare.calls (a0_0 : Bool) (a1_0 : Int) (a1_1 : Int) (a2_0 : Int) (a2_1 : Int) (r : Int) (w : World) (h : runs_order_compare.f a0_0 a1_0 a1_1 a2_0 a2_1 = some r) :
  Calls Try.prog 48 #[.agg #[.bool a0_0], .agg #[.int .i64 a1_0, .int .i64 a1_1], .agg #[.int .i64 a2_0, .int .i64 a2_1]] w fun e w' => e = .returned (.int .i64 r) ∧ Below w.heap.size w w' := by
 have hu48 := Try.underlying48; have hu25 := Try.underlying25; have HB := Aside0.mk (Below.refl w.heap.size w); have H : (if a0_0 = true then ((cmp_Compare_int.f a2_0 a1_0).bind fun t106 => (some t106)) else ((cmp_Compare_int.f a1_0 a2_0).bind fun t107 => (some t107))) = some r := h; clear h
 by_cases c4 : a0_0 = true
 ·subst c4
  (have H1 : ((cmp_Compare_int.f a2_0 a1_0).bind fun t106 => (some t106)) = some r := by rw [if_pos rfl] at H; exact H); clear H; have H := H1; clear H1; replace H := Option.bind_eq_some_iff.mp H; obtain ⟨t106, A50, H⟩ := H; replace H : (some t106) = some r := H; have A5 := Aside0.mk A50; clear A50; obtain rfl := Option.some.inj H; go_enter Try.func48, Try.ntmps48; go_wp2_with (first | ((with_reducible refine gate_dst (N := 3) rfl ?_); refine box_event ?hg (N := 3) ?hd (cs := #[.bool true]) (t := 48) ?hr ?_; (case hd => rfl); (case hg => rfl); (case hr => first | (go_simp; done) | (go_simp; rfl)); intro gb103 hg w6 hbox hb; have n0_ := Aside0.mk (below_step hb_ hb); have n1_ := Aside0.mk (hbox); have n2_ := Aside0.mk ((by rw [hg]; exact (below_size hb_) : w.heap.size ≤ gb103)); have n3_ := Aside0.mk ((by rw [hg]; exact (below_size hb_) : w.heap.size ≤ gb103)); clear HB; have HB := n0_; have BK103 := n1_; have GW103 := n2_; have GE103 := n3_; clear n0_ n1_ n2_ n3_; clear hb hbox hg) | ((with_reducible refine gate_dst (N := 4) rfl ?_); refine box_event ?hg (N := 4) ?hd (cs := #[.int .i64 a1_0, .int .i64 a1_1]) (t := 25) ?hr ?_; (case hd => rfl); (case hg => rfl); (case hr => first | (go_simp; done) | (go_simp; rfl)); intro gb104 hg w7 hbox hb; have n0_ := Aside0.mk (blk_below (g := gb103) (o := .cells #[.bool true] 48 (0, 0)) (by (with_reducible repeat (first | refine blk_drewN ?_ _ | refine blk_drew ?_ | refine blk_alloc ?_ _)); exact BK103.out) hb); have n1_ := Aside0.mk (below_step (by repeat (first | (with_reducible first | exact HB.out | apply below_alloc | apply pw_below_drewN | apply below_drew1 | refine below_set ?_ GE103.out) | exact HB.out)) hb); have n2_ := Aside0.mk (hbox); have n3_ := Aside0.mk ((by rw [hg]; exact (below_size (by repeat (first | (with_reducible first | exact HB.out | apply below_alloc | apply pw_below_drewN | apply below_drew1 | refine below_set ?_ GE103.out) | exact HB.out))) : w.heap.size ≤ gb104)); have n4_ := Aside0.mk ((by rw [hg]; exact (below_size (by repeat (first | (with_reducible first | exact HB.out | apply below_alloc | apply pw_below_drewN | apply below_drew1 | refine below_set ?_ GE103.out) | exact HB.out))) : w.heap.size ≤ gb104)); have n5_ := Aside0.mk ((by rw [hg]; exact Nat.ne_of_lt (blk_lt (g := gb103) (o := .cells #[.bool true] 48 (0, 0)) (by (with_reducible repeat (first | refine blk_drewN ?_ _ | refine blk_drew ?_ | refine blk_alloc ?_ _)); exact BK103.out)) : gb103 ≠ gb104)); have n6_ := Aside0.mk ((by rw [hg]; exact Nat.ne_of_gt (blk_lt (g := gb103) (o := .cells #[.bool true] 48 (0, 0)) (by (with_reducible repeat (first | refine blk_drewN ?_ _ | refine blk_drew ?_ | refine blk_alloc ?_ _)); exact BK103.out)) : gb104 ≠ gb103)); clear BK103; clear HB; have BK103 := n0_; have HB := n1_; have BK104 := n2_; have GW104 := n3_; have GE104 := n4_; have NB103_104 := n5_; have NB104_103 := n6_; clear n0_ n1_ n2_ n3_ n4_ n5_ n6_; clear hb hbox hg) | ((with_reducible refine gate_dst (N := 5) rfl ?_); refine box_event ?hg (N := 5) ?hd (cs := #[.int .i64 a2_0, .int .i64 a2_1]) (t := 25) ?hr ?_; (case hd => rfl); (case hg => rfl); (case hr => first | (go_simp; done) | (go_simp; rfl)); intro gb105 hg w8 hbox hb; have n0_ := Aside0.mk (blk_below (g := gb103) (o := .cells #[.bool true] 48 (0, 0)) (by (with_reducible repeat (first | refine blk_drewN ?_ _ | refine blk_drew ?_ | refine blk_alloc ?_ _)); exact BK103.out) hb); have n1_ := Aside0.mk (blk_below (g := gb104) (o := .cells #[.int .i64 a1_0, .int .i64 a1_1] 25 (0, 0)) (by (with_reducible repeat (first | refine blk_drewN ?_ _ | refine blk_drew ?_ | refine blk_alloc ?_ _)); exact BK104.out) hb); have n2_ := Aside0.mk (below_step (by repeat (first | (with_reducible first | exact HB.out | apply below_alloc | apply pw_below_drewN | apply below_drew1 | refine below_set ?_ GE103.out | refine below_set ?_ GE104.out) | exact HB.out)) hb); have n3_ := Aside0.mk (hbox); have n4_ := Aside0.mk ((by rw [hg]; exact (below_size (by repeat (first | (with_reducible first | exact HB.out | apply below_alloc | apply pw_below_drewN | apply below_drew1 | refine below_set ?_ GE103.out | refine below_set ?_ GE104.out) | exact HB.out))) : w.heap.size ≤ gb105)); have n5_ := Aside0.mk ((by rw [hg]; exact (below_size (by repeat (first | (with_reducible first | exact HB.out | apply below_alloc | apply pw_below_drewN | apply below_drew1 | refine below_set ?_ GE103.out | refine below_set ?_ GE104.out) | exact HB.out))) : w.heap.size ≤ gb105)); have n6_ := Aside0.mk ((by rw [hg]; exact Nat.ne_of_lt (blk_lt (g := gb103) (o := .cells #[.bool true] 48 (0, 0)) (by (with_reducible repeat (first | refine blk_drewN ?_ _ | refine blk_drew ?_ | refine blk_alloc ?_ _)); exact BK103.out)) : gb103 ≠ gb105)); have n7_ := Aside0.mk ((by rw [hg]; exact Nat.ne_of_gt (blk_lt (g := gb103) (o := .cells #[.bool true] 48 (0, 0)) (by (with_reducible repeat (first | refine blk_drewN ?_ _ | refine blk_drew ?_ | refine blk_alloc ?_ _)); exact BK103.out)) : gb105 ≠ gb103)); have n8_ := Aside0.mk ((by rw [hg]; exact Nat.ne_of_lt (blk_lt (g := gb104) (o := .cells #[.int .i64 a1_0, .int .i64 a1_1] 25 (0, 0)) (by (with_reducible repeat (first | refine blk_drewN ?_ _ | refine blk_drew ?_ | refine blk_alloc ?_ _)); exact BK104.out)) : gb104 ≠ gb105)); have n9_ := Aside0.mk ((by rw [hg]; exact Nat.ne_of_gt (blk_lt (g := gb104) (o := .cells #[.int .i64 a1_0, .int .i64 a1_1] 25 (0, 0)) (by (with_reducible repeat (first | refine blk_drewN ?_ _ | refine blk_drew ?_ | refine blk_alloc ?_ _)); exact BK104.out)) : gb105 ≠ gb104)); clear BK103; clear BK104; clear HB; have BK103 := n0_; have BK104 := n1_; have HB := n2_; have BK105 := n3_; have GW105 := n4_; have GE105 := n5_; have NB103_105 := n6_; have NB105_103 := n7_; have NB104_105 := n8_; have NB105_104 := n9_; clear n0_ n1_ n2_ n3_ n4_ n5_ n6_ n7_ n8_ n9_; clear hb hbox hg; have hnb9 := NB103_104.out; have hnc9 := NB104_103.out; have hnb10 := NB103_105.out; have hnc10 := NB105_103.out; have hcz11_0 : w8.cell? ⟨gb103, 0, none⟩ = some (.bool true) := (blk_cell BK103.out 0).trans rfl; have hfz11_0 := blk_frozen BK103.out 0; have hnb12 := NB105_104.out; have hnc12 := NB104_105.out; have hcz13_0 : w8.cell? ⟨gb105, 0, none⟩ = some (.int .i64 a2_0) := (blk_cell BK105.out 0).trans rfl; have hcz13_1 : w8.cell? ⟨gb105, 1, none⟩ = some (.int .i64 a2_1) := (blk_cell BK105.out 1).trans rfl; have hfz13_0 := blk_frozen BK105.out 0; have hfz13_1 := blk_frozen BK105.out 1; have hcz14_0 : w8.cell? ⟨gb104, 0, none⟩ = some (.int .i64 a1_0) := (blk_cell BK104.out 0).trans rfl; have hcz14_1 : w8.cell? ⟨gb104, 1, none⟩ = some (.int .i64 a1_1) := (blk_cell BK104.out 1).trans rfl; have hfz14_0 := blk_frozen BK104.out 0; have hfz14_1 := blk_frozen BK104.out 1) | ((with_reducible refine gate_callee (f := 57) rfl ?_); refine goesL_ (some 15) rfl rfl Try.func57 (by kernel_rfl) rfl #[.int .i64 a2_0, .int .i64 a1_0] rfl ml_ ?_; (with_reducible refine (cmp_Compare_int.calls a2_0 a1_0 t106 _ A5.out).mono ?_); rintro e w' ⟨rfl, ⟨nd, rfl⟩⟩; refine ⟨_, rfl, ?_⟩))
  go_ret; exact ⟨re_, by repeat (first | (with_reducible first | exact HB.out | apply below_alloc | apply pw_below_drewN | apply below_drew1 | refine below_set ?_ GE103.out | refine below_set ?_ GE104.out | refine below_set ?_ GE105.out) | exact HB.out)⟩
 ·replace c4 := Bool.eq_false_iff.mpr c4
  subst c4; (have H1 : ((cmp_Compare_int.f a1_0 a2_0).bind fun t107 => (some t107)) = some r := by rw [if_neg (show ¬ (false = true) by decide)] at H; exact H); clear H; have H := H1; clear H1; replace H := Option.bind_eq_some_iff.mp H; obtain ⟨t107, A150, H⟩ := H; replace H : (some t107) = some r := H; have A15 := Aside0.mk A150; clear A150; obtain rfl := Option.some.inj H; go_enter Try.func48, Try.ntmps48; go_wp2_with (first | ((with_reducible refine gate_dst (N := 3) rfl ?_); refine box_event ?hg (N := 3) ?hd (cs := #[.bool false]) (t := 48) ?hr ?_; (case hd => rfl); (case hg => rfl); (case hr => first | (go_simp; done) | (go_simp; rfl)); intro gb103 hg w16 hbox hb; have n0_ := Aside0.mk (below_step hb_ hb); have n1_ := Aside0.mk (hbox); have n2_ := Aside0.mk ((by rw [hg]; exact (below_size hb_) : w.heap.size ≤ gb103)); have n3_ := Aside0.mk ((by rw [hg]; exact (below_size hb_) : w.heap.size ≤ gb103)); clear HB; have HB := n0_; have BK103 := n1_; have GW103 := n2_; have GE103 := n3_; clear n0_ n1_ n2_ n3_; clear hb hbox hg) | ((with_reducible refine gate_dst (N := 4) rfl ?_); refine box_event ?hg (N := 4) ?hd (cs := #[.int .i64 a1_0, .int .i64 a1_1]) (t := 25) ?hr ?_; (case hd => rfl); (case hg => rfl); (case hr => first | (go_simp; done) | (go_simp; rfl)); intro gb104 hg w17 hbox hb; have n0_ := Aside0.mk (blk_below (g := gb103) (o := .cells #[.bool false] 48 (0, 0)) (by (with_reducible repeat (first | refine blk_drewN ?_ _ | refine blk_drew ?_ | refine blk_alloc ?_ _)); exact BK103.out) hb); have n1_ := Aside0.mk (below_step (by repeat (first | (with_reducible first | exact HB.out | apply below_alloc | apply pw_below_drewN | apply below_drew1 | refine below_set ?_ GE103.out) | exact HB.out)) hb); have n2_ := Aside0.mk (hbox); have n3_ := Aside0.mk ((by rw [hg]; exact (below_size (by repeat (first | (with_reducible first | exact HB.out | apply below_alloc | apply pw_below_drewN | apply below_drew1 | refine below_set ?_ GE103.out) | exact HB.out))) : w.heap.size ≤ gb104)); have n4_ := Aside0.mk ((by rw [hg]; exact (below_size (by repeat (first | (with_reducible first | exact HB.out | apply below_alloc | apply pw_below_drewN | apply below_drew1 | refine below_set ?_ GE103.out) | exact HB.out))) : w.heap.size ≤ gb104)); have n5_ := Aside0.mk ((by rw [hg]; exact Nat.ne_of_lt (blk_lt (g := gb103) (o := .cells #[.bool false] 48 (0, 0)) (by (with_reducible repeat (first | refine blk_drewN ?_ _ | refine blk_drew ?_ | refine blk_alloc ?_ _)); exact BK103.out)) : gb103 ≠ gb104)); have n6_ := Aside0.mk ((by rw [hg]; exact Nat.ne_of_gt (blk_lt (g := gb103) (o := .cells #[.bool false] 48 (0, 0)) (by (with_reducible repeat (first | refine blk_drewN ?_ _ | refine blk_drew ?_ | refine blk_alloc ?_ _)); exact BK103.out)) : gb104 ≠ gb103)); clear BK103; clear HB; have BK103 := n0_; have HB := n1_; have BK104 := n2_; have GW104 := n3_; have GE104 := n4_; have NB103_104 := n5_; have NB104_103 := n6_; clear n0_ n1_ n2_ n3_ n4_ n5_ n6_; clear hb hbox hg) | ((with_reducible refine gate_dst (N := 5) rfl ?_); refine box_event ?hg (N := 5) ?hd (cs := #[.int .i64 a2_0, .int .i64 a2_1]) (t := 25) ?hr ?_; (case hd => rfl); (case hg => rfl); (case hr => first | (go_simp; done) | (go_simp; rfl)); intro gb105 hg w18 hbox hb; have n0_ := Aside0.mk (blk_below (g := gb103) (o := .cells #[.bool false] 48 (0, 0)) (by (with_reducible repeat (first | refine blk_drewN ?_ _ | refine blk_drew ?_ | refine blk_alloc ?_ _)); exact BK103.out) hb); have n1_ := Aside0.mk (blk_below (g := gb104) (o := .cells #[.int .i64 a1_0, .int .i64 a1_1] 25 (0, 0)) (by (with_reducible repeat (first | refine blk_drewN ?_ _ | refine blk_drew ?_ | refine blk_alloc ?_ _)); exact BK104.out) hb); have n2_ := Aside0.mk (below_step (by repeat (first | (with_reducible first | exact HB.out | apply below_alloc | apply pw_below_drewN | apply below_drew1 | refine below_set ?_ GE103.out | refine below_set ?_ GE104.out) | exact HB.out)) hb); have n3_ := Aside0.mk (hbox); have n4_ := Aside0.mk ((by rw [hg]; exact (below_size (by repeat (first | (with_reducible first | exact HB.out | apply below_alloc | apply pw_below_drewN | apply below_drew1 | refine below_set ?_ GE103.out | refine below_set ?_ GE104.out) | exact HB.out))) : w.heap.size ≤ gb105)); have n5_ := Aside0.mk ((by rw [hg]; exact (below_size (by repeat (first | (with_reducible first | exact HB.out | apply below_alloc | apply pw_below_drewN | apply below_drew1 | refine below_set ?_ GE103.out | refine below_set ?_ GE104.out) | exact HB.out))) : w.heap.size ≤ gb105)); have n6_ := Aside0.mk ((by rw [hg]; exact Nat.ne_of_lt (blk_lt (g := gb103) (o := .cells #[.bool false] 48 (0, 0)) (by (with_reducible repeat (first | refine blk_drewN ?_ _ | refine blk_drew ?_ | refine blk_alloc ?_ _)); exact BK103.out)) : gb103 ≠ gb105)); have n7_ := Aside0.mk ((by rw [hg]; exact Nat.ne_of_gt (blk_lt (g := gb103) (o := .cells #[.bool false] 48 (0, 0)) (by (with_reducible repeat (first | refine blk_drewN ?_ _ | refine blk_drew ?_ | refine blk_alloc ?_ _)); exact BK103.out)) : gb105 ≠ gb103)); have n8_ := Aside0.mk ((by rw [hg]; exact Nat.ne_of_lt (blk_lt (g := gb104) (o := .cells #[.int .i64 a1_0, .int .i64 a1_1] 25 (0, 0)) (by (with_reducible repeat (first | refine blk_drewN ?_ _ | refine blk_drew ?_ | refine blk_alloc ?_ _)); exact BK104.out)) : gb104 ≠ gb105)); have n9_ := Aside0.mk ((by rw [hg]; exact Nat.ne_of_gt (blk_lt (g := gb104) (o := .cells #[.int .i64 a1_0, .int .i64 a1_1] 25 (0, 0)) (by (with_reducible repeat (first | refine blk_drewN ?_ _ | refine blk_drew ?_ | refine blk_alloc ?_ _)); exact BK104.out)) : gb105 ≠ gb104)); clear BK103; clear BK104; clear HB; have BK103 := n0_; have BK104 := n1_; have HB := n2_; have BK105 := n3_; have GW105 := n4_; have GE105 := n5_; have NB103_105 := n6_; have NB105_103 := n7_; have NB104_105 := n8_; have NB105_104 := n9_; clear n0_ n1_ n2_ n3_ n4_ n5_ n6_ n7_ n8_ n9_; clear hb hbox hg; have hnb19 := NB103_104.out; have hnc19 := NB104_103.out; have hnb20 := NB103_105.out; have hnc20 := NB105_103.out; have hcz21_0 : w18.cell? ⟨gb103, 0, none⟩ = some (.bool false) := (blk_cell BK103.out 0).trans rfl; have hfz21_0 := blk_frozen BK103.out 0; have hnb22 := NB104_105.out; have hnc22 := NB105_104.out; have hcz23_0 : w18.cell? ⟨gb104, 0, none⟩ = some (.int .i64 a1_0) := (blk_cell BK104.out 0).trans rfl; have hcz23_1 : w18.cell? ⟨gb104, 1, none⟩ = some (.int .i64 a1_1) := (blk_cell BK104.out 1).trans rfl; have hfz23_0 := blk_frozen BK104.out 0; have hfz23_1 := blk_frozen BK104.out 1; have hcz24_0 : w18.cell? ⟨gb105, 0, none⟩ = some (.int .i64 a2_0) := (blk_cell BK105.out 0).trans rfl; have hcz24_1 : w18.cell? ⟨gb105, 1, none⟩ = some (.int .i64 a2_1) := (blk_cell BK105.out 1).trans rfl; have hfz24_0 := blk_frozen BK105.out 0; have hfz24_1 := blk_frozen BK105.out 1) | ((with_reducible refine gate_callee (f := 57) rfl ?_); refine goesL_ (some 15) rfl rfl Try.func57 (by kernel_rfl) rfl #[.int .i64 a1_0, .int .i64 a2_0] rfl ml_ ?_; (with_reducible refine (cmp_Compare_int.calls a1_0 a2_0 t107 _ A15.out).mono ?_); rintro e w' ⟨rfl, ⟨nd, rfl⟩⟩; refine ⟨_, rfl, ?_⟩))
  go_ret; exact ⟨re_, by repeat (first | (with_reducible first | exact HB.out | apply below_alloc | apply pw_below_drewN | apply below_drew1 | refine below_set ?_ GE103.out | refine below_set ?_ GE104.out | refine below_set ?_ GE105.out) | exact HB.out)⟩
def api_Run_64.T4 : Bool × List (List Nat × List Nat) := (true, [([], []), ([], []), ([0, 1], [0, 1]), ([2], [2]), ([3], [3]), ([3], [3]), ([3], [3]), ([5, 6, 3], [3, 5, 6]), ([7, 3], [3, 7]), ([3], [3]), ([3], [3]), ([10, 3], [3, 10]), ([9, 11, 3], [3, 9, 11]), ([12, 3], [3, 12]), ([4, 8, 13, 3, 3], [3, 4, 8, 13]), ([14, 3], [3, 14]), ([3, 15], [3, 15])])
def api_Run_64.B4 : List Nat := [0, 0, 3, 7, 15, 15, 15, 111, 239, 15, 15, 1039, 3599, 7695, 16383, 32767, 65535]
theorem api_Run_64.tab4 : rtab .any (opsOf Try.f64 4) = api_Run_64.T4 := by kernel_rfl
theorem api_Run_64.bits4 : waitsOk api_Run_64.T4.2 api_Run_64.B4 = true := by kernel_rfl
def api_Run_64.T6 : Bool × List (List Nat × List Nat) := (true, [([], []), ([], []), ([], []), ([], []), ([3], [3]), ([], []), ([], []), ([6], [6]), ([5, 7], [5, 7]), ([8], [8]), ([], []), ([], []), ([10, 11], [10, 11]), ([12], [12]), ([0, 1, 0, 1, 5, 6, 7, 8, 9, 13], [0, 1]), ([14, 9, 0, 1, 5, 6, 7, 8, 9, 13], [9, 14]), ([2, 4, 0, 1, 2, 3, 4, 5, 6, 7, 8, 9, 10, 11, 12, 13, 14, 15], [2, 4]), ([16, 13, 15, 0, 1, 2, 3, 4, 5, 6, 7, 8, 9, 10, 11, 12, 13, 14, 15], [13, 16])])
def api_Run_64.B6 : List Nat := [0, 0, 0, 0, 8, 0, 0, 64, 224, 480, 0, 0, 3072, 7168, 16355, 32739, 65535, 131071]
theorem api_Run_64.tab6 : rtab .any (opsOf Try.f64 6) = api_Run_64.T6 := by kernel_rfl
theorem api_Run_64.bits6 : waitsOk api_Run_64.T6.2 api_Run_64.B6 = true := by kernel_rfl
set_option maxHeartbeats 8000000 in
set_option maxRecDepth 100000 in
theorem api_Run_64.calls (k : Nat) (P0_ : Nat → Prop) (u9000_ : Value) (l0 : List (S25)) (a1 : Int) (a2 : Int)  (r : List (S25)) (w0 w : World) (hB : Below w0.heap.size w0 w) (ho0 : Kd.R k25 25 w w0.heap.size P0_ u9000_ l0) (h : api_Run_64.f k l0 a1 a2 = some r) :
  Calls Try.prog 64 #[u9000_, .int .i64 a1, .int .i64 a2, .func (.func 48) #[.agg #[.bool false]] #[]] w fun e w' => e = .returned (.tuple #[]) ∧ Kd.R k25 25 w' w0.heap.size (fun k_ => (P0_ k_ ∨ w.heap.size ≤ k_)) u9000_ r ∧ Below w0.heap.size w0 w' ∧ Kept w w' (fun k_ => P0_ k_) := by
 have hu25 := Try.underlying25; have HO0 := Aside0.mk (show Kd.R k25 25 w w0.heap.size (fun k_ => (P0_ k_ ∨ w.heap.size ≤ k_)) u9000_ l0 from Kd.R_mono ho0 (fun k_ hk => (.inl hk))); have HK := Aside0.mk (Kept.refl w (fun k_ => P0_ k_)); have HW0 := Aside0.mk hB.size; have HB := Aside0.mk hB; clear hB; have H : (api_Run_64.l0 k l0 a1 a2 (wrap64 (a1 + 1))) = some r := h; clear h; have H' := Aside0.mk H; clear H; go_enter Try.func64, Try.ntmps64; go_wp2; go_loopg [8] k (fun kq v8 w' => ∃ (x0_1 : List (S25)) (x8_1 : Int), v8 = .int .i64 x8_1 ∧ Aside0 (api_Run_64.l0 kq x0_1 a1 a2 x8_1 = some r) ∧ Aside0 (kq ≤ k) ∧ Aside0 (Kd.R k25 25 w' w0.heap.size (fun k_ => (P0_ k_ ∨ w.heap.size ≤ k_)) u9000_ x0_1) ∧ Aside0 (Kept w w' (fun k_ => P0_ k_)) ∧ Aside0 (Below w0.heap.size w0 w'))
 case atStart => exact ⟨(l0), (wrap64 (a1 + 1)), rf_, H', ⟨Nat.le_refl _⟩, ⟨by (with_reducible repeat (first | apply Kd.R_alloc | apply Kd.R_drewN | apply Kd.R_drew)); exact HO0.out⟩, ⟨hk_⟩, ⟨hb_⟩⟩
 case round =>
  clear H'; (try clear p2); obtain ⟨x0_1, x8_1, rfl, HA, HK1, HO_0, HK, HB⟩ := hrel
  cases gk with
  | zero => exact absurd HA.out (by simp [api_Run_64.l0])
  | succ k1 =>
   have H := HA.out; clear HA; simp only [api_Run_64.l0] at H
   by_cases c5 : x8_1 < a2
   ·rw [if_pos c5] at H
    have c5b0 : decide (x8_1 < a2) = true := decide_eq_true c5; clear c5; have H' := Aside0.mk H; clear H; go_wp2; go_loopg [9] k1 (fun kq v9 w' => ∃ (x0_2 : List (S25)) (x9_2 : Int), v9 = .int .i64 x9_2 ∧ Aside0 (api_Run_64.l1 kq x0_2 a1 a2 x8_1 x9_2 = some r) ∧ Aside0 (kq ≤ k1) ∧ Aside0 (Kd.R k25 25 w' w0.heap.size (fun k_ => (P0_ k_ ∨ w.heap.size ≤ k_)) u9000_ x0_2) ∧ Aside0 (Kept w w' (fun k_ => P0_ k_)) ∧ Aside0 (Below w0.heap.size w0 w'))
    case atStart => exact ⟨(x0_1), (x8_1), rf_, H', ⟨Nat.le_refl _⟩, ⟨h0_⟩, ⟨hk_⟩, ⟨hb_⟩⟩
    case round =>
     clear H'; (try clear p2); (try clear c5); (try clear c5b0); (try clear p2); obtain ⟨x0_2, x9_2, rfl, HA, HK2, HO_0, HK, HB⟩ := hrel
     cases gk with
     | zero => exact absurd HA.out (by simp [api_Run_64.l1])
     | succ k2 =>
      have H := HA.out; clear HA; simp only [api_Run_64.l1] at H
      by_cases c6 : x9_2 > a1
      ·rw [if_pos c6] at H
       have c6b0 : decide (a1 < x9_2) = true := decide_eq_true c6; clear c6
       by_cases c7 : 0 ≤ x9_2
       ·rw [if_pos c7] at H
        have c7b0 : decide (0 ≤ x9_2) = true := decide_eq_true c7; clear c7
        by_cases c8 : x9_2 < (x0_2.length : Int)
        ·rw [if_pos c8] at H
         have c8b0 : decide (x9_2 < (x0_2.length : Int)) = true := decide_eq_true c8; clear c8; obtain ⟨ji9, hji9⟩ : ∃ j_ : Int, (wrap64 (x9_2 - 1)) = j_ := ⟨_, rfl⟩; (replace H : (if 0 ≤ (ji9) then (if (ji9) < (x0_2.length : Int) then ((runs_order_compare.f false ((rd_T25 x0_2 x9_2).f0) ((rd_T25 x0_2 x9_2).f1) ((rd_T25 x0_2 (ji9)).f0) ((rd_T25 x0_2 (ji9)).f1)).bind fun t110 => (if t110 < 0 then (api_Run_64.l1 k2 ((x0_2.set (x9_2 : Int).toNat (⟨(rd_T25 x0_2 (ji9)).f0, (rd_T25 x0_2 (ji9)).f1⟩ : S25)).set ((ji9) : Int).toNat (⟨(rd_T25 x0_2 x9_2).f0, (rd_T25 x0_2 x9_2).f1⟩ : S25)) a1 a2 x8_1 ji9) else (api_Run_64.l0 k2 x0_2 a1 a2 (wrap64 (x8_1 + 1))))) else (none)) else (none)) = some r := by first | (rw [hji9] at H; exact H) | (simp only [hji9] at H ⊢; exact H)); have hji9w : (IntKind.i64.wrap (x9_2 - 1)) = ji9 := (i64_w _).trans hji9
         by_cases c10 : 0 ≤ (ji9)
         ·rw [if_pos c10] at H
          have c10b0 : decide (0 ≤ (ji9)) = true := decide_eq_true c10; clear c10
          by_cases c11 : (ji9) < (x0_2.length : Int)
          ·rw [if_pos c11] at H
           have c11b0 : decide ((ji9) < (x0_2.length : Int)) = true := decide_eq_true c11; clear c11; replace H := Option.bind_eq_some_iff.mp H; obtain ⟨t110, A120, H⟩ := H; replace H : (if t110 < 0 then (api_Run_64.l1 k2 ((x0_2.set (x9_2 : Int).toNat (⟨(rd_T25 x0_2 (ji9)).f0, (rd_T25 x0_2 (ji9)).f1⟩ : S25)).set ((ji9) : Int).toNat (⟨(rd_T25 x0_2 x9_2).f0, (rd_T25 x0_2 x9_2).f1⟩ : S25)) a1 a2 x8_1 ji9) else (api_Run_64.l0 k2 x0_2 a1 a2 (wrap64 (x8_1 + 1)))) = some r := H; have A12 := Aside0.mk A120; clear A120
           by_cases c13 : t110 < 0
           ·rw [if_pos c13] at H
            have c13b0 : decide (t110 < 0) = true := decide_eq_true c13; clear c13; obtain ⟨y113, hy113⟩ : ∃ y_ : List (S25), y_ = (x0_2.set (x9_2 : Int).toNat (⟨(rd_T25 x0_2 (ji9)).f0, (rd_T25 x0_2 (ji9)).f1⟩ : S25)) := ⟨_, rfl⟩; (replace H : (api_Run_64.l1 k2 (y113.set ((ji9) : Int).toNat (⟨(rd_T25 x0_2 x9_2).f0, (rd_T25 x0_2 x9_2).f1⟩ : S25)) a1 a2 x8_1 ji9) = some r := by first | (rw [hy113]; with_reducible exact H) | (have H2_ := (Option.bind_some _ _).symm.trans H; rw [hy113]; with_reducible exact H2_) | (have H2_ := (Option.bind_some _ _).symm.trans H; with_reducible exact H2_) | with_reducible exact H | (rw [hy113]; exact H) | exact H); have Ny113 := Aside0.mk hy113; clear hy113; obtain ⟨y114, hy114⟩ : ∃ y_ : List (S25), y_ = (y113.set ((ji9) : Int).toNat (⟨(rd_T25 x0_2 x9_2).f0, (rd_T25 x0_2 x9_2).f1⟩ : S25)) := ⟨_, rfl⟩; (replace H : (api_Run_64.l1 k2 y114 a1 a2 x8_1 ji9) = some r := by first | (rw [hy114]; with_reducible exact H) | (have H2_ := (Option.bind_some _ _).symm.trans H; rw [hy114]; with_reducible exact H2_) | (have H2_ := (Option.bind_some _ _).symm.trans H; with_reducible exact H2_) | with_reducible exact H | (rw [hy114]; exact H) | exact H); have Ny114 := Aside0.mk hy114; clear hy114; have H' := Aside0.mk H; clear H; (try go_wp2); replace HO_0 := Aside0.mk (Kd.R_drew HO_0.out); replace HK := Aside0.mk (Kept.drew HK.out); replace HB := Aside0.mk (below_drew1 HB.out); obtain ⟨Ao17, co17, eo17⟩ := Kd.R_slice HO_0.out; (first | subst eo17 | (injection eo17 with f1_ f2_ f3_; have f4_ := f1_.symm; have f5_ := f3_.symm; clear f1_ f2_ f3_; subst f4_; subst f5_)); have p108 : 0 ≤ (x9_2 : Int) := od_; have q108 : x9_2 < (x0_2.length : Int) := od_; obtain ⟨ad108, e108, hx108_0, hx108_1⟩ := at_T25 (Kd.R_reads' HO_0.out).2.2 x9_2 p108 q108
            cases e108
            replace p108 := eq_true p108; replace q108 := eq_true q108; have p109 : 0 ≤ ((ji9) : Int) := od_; have q109 : (ji9) < (x0_2.length : Int) := od_; obtain ⟨ad109, e109, hx109_0, hx109_1⟩ := at_T25 (Kd.R_reads' HO_0.out).2.2 (ji9) p109 q109; obtain rfl : ad108 = ad109 := (by injection e109); replace p109 := eq_true p109; replace q109 := eq_true q109; refine start_ (n := 17) (S := fun w' => w'.cell? (ad108.add ((x9_2).toNat * 2)) = some (.int .i64 ((rd_T25 x0_2 x9_2).f0)) ∧ w'.cell? ⟨(ad108.add ((x9_2).toNat * 2)).block, (ad108.add ((x9_2).toNat * 2)).off + 1, none⟩ = some (.int .i64 ((rd_T25 x0_2 x9_2).f1)) ∧ w'.cell? (ad108.add (((ji9)).toNat * 2)) = some (.int .i64 ((rd_T25 x0_2 (ji9)).f0)) ∧ w'.cell? ⟨(ad108.add (((ji9)).toNat * 2)).block, (ad108.add (((ji9)).toNat * 2)).off + 1, none⟩ = some (.int .i64 ((rd_T25 x0_2 (ji9)).f1))) (ds := []) (ab 17 0) (by kernel_rfl) rfl rfl ⟨hx108_0, hx108_1, hx109_0, hx109_1⟩ (fun hHeld => ?_); refine with_tabW api_Run_64.tab4 api_Run_64.bits4 (fun HT_ HW_ => ?_); generalize wr.drew = w16 at HO_0 HK HB hx108_0 hx108_1 hx109_0 hx109_1 hHeld ⊢; refine pA 0 18 17 1 ?_; refine pA 1 19 17 3 ?_; refine pA 2 20 17 7 ?_; refine pA 3 21 17 15 ?_; refine pA 4 22 17 31 ?_; refine pA 5 23 17 63 ?_; refine pA 6 24 17 127 ?_; refine pA 7 25 17 255 ?_; refine pA 9 27 17 767 ?_; refine pA 10 28 17 1791 ?_; refine pA 11 29 17 3839 ?_; refine pA 12 30 17 7935 ?_; refine tA 8 26 17 8191 ?_; refine tA 13 31 17 16383 ?_; refine one_ (i := 14) (N := some 32) (ab 17 32767) rfl rfl (one_of HT_.out (by kernel_rfl)) (by decide) (fun K hK => ?_); refine goesV_ #[.agg #[.bool false]] Try.func48 (by kernel_rfl) rfl #[.agg #[.bool false], .agg #[.int .i64 ((rd_T25 x0_2 x9_2).f0), .int .i64 ((rd_T25 x0_2 x9_2).f1)], .agg #[.int .i64 ((rd_T25 x0_2 (ji9)).f0), .int .i64 ((rd_T25 x0_2 (ji9)).f1)]] (by rfl) rfl rfl rfl (by (try simp only [List.map_toArray, List.map_cons, List.map_nil]); first | done | (simp only [hji9]; rfl) | rfl | (simp only [List.length_drop, List.length_take]; rfl)) ?_; refine (runs_order_compare.calls false ((rd_T25 x0_2 x9_2).f0) ((rd_T25 x0_2 x9_2).f1) ((rd_T25 x0_2 (ji9)).f0) ((rd_T25 x0_2 (ji9)).f1) t110 _ A12.out).mono ?_; rintro e w18 ⟨rfl, hb⟩; have HS0_ := (hb.cell (World.block_lt_of_cell? _ _ (hHeld.1))).trans (hHeld.1); have HS1_ := (hb.cell (World.block_lt_of_cell? _ _ (hHeld.2.1))).trans (hHeld.2.1); have HS2_ := (hb.cell (World.block_lt_of_cell? _ _ (hHeld.2.2.1))).trans (hHeld.2.2.1); have HS3_ := (hb.cell (World.block_lt_of_cell? _ _ (hHeld.2.2.2))).trans (hHeld.2.2.2); refine ⟨_, rfl, ?_⟩; replace HO_0 := Aside0.mk (Kd.R_below h0_ hb); replace HK := Aside0.mk (Kept.below (S := (fun k_ => P0_ k_)) hk_ hb); replace HB := Aside0.mk (below_step hb_ hb); (try clear hb); (try clear hb2); (try clear hk); (try clear hi); refine hK.out _ _ ⟨HS0_, HS1_, HS2_, HS3_⟩ (fun hHeld => ?_); clear hK K; refine nA ?_; refine pA 15 33 17 65535 ?_; refine pA 16 34 17 131071 ?_; refine done_ (done_of HT_.out (by kernel_rfl)) ?_; (try go_wp2); replace HO_0 := Aside0.mk (Kd.R_drew HO_0.out); replace HK := Aside0.mk (Kept.drew HK.out); replace HB := Aside0.mk (below_drew1 HB.out); have p111 : 0 ≤ ((ji9) : Int) := od_; have q111 : (ji9) < (x0_2.length : Int) := od_; obtain ⟨ad111, e111, hx111_0, hx111_1⟩ := at_T25 (Kd.R_reads' HO_0.out).2.2 (ji9) p111 q111; obtain rfl : ad108 = ad111 := (by injection e111); replace p111 := eq_true p111; replace q111 := eq_true q111; have p112 : 0 ≤ (x9_2 : Int) := od_; have q112 : x9_2 < (x0_2.length : Int) := od_; obtain ⟨ad112, e112, hx112_0, hx112_1⟩ := at_T25 (Kd.R_reads' HO_0.out).2.2 x9_2 p112 q112; obtain rfl : ad108 = ad112 := (by injection e112); replace p112 := eq_true p112; replace q112 := eq_true q112; have p14 : 0 ≤ (x9_2 : Int) := od_; have q14 : (x9_2 : Int) < ((x0_2.length : Int) : Int) := od_; obtain ⟨go14, co14, eo14, gb14, gl14, cl14, HG14⟩ := Kd.R_form HO_0.out (by omega); (first | cases eo14 | (injection eo14 with ea_ en_ ec_; (first | subst ea_ | (injection ea_ with ea_; subst ea_)); subst ec_; clear en_))
            have GB14 := Aside0.mk gb14; have GG14 := Aside0.mk HG14; clear gb14 gl14 HG14; have HMgo14 := Aside0.mk (show (P0_ go14 ∨ w.heap.size ≤ go14) from (HO_0.out.1 _ rfl)); (first | simp only [add_plain] at hx108_0 | skip); (first | simp only [add_plain] at hx108_1 | skip); (first | simp only [add_plain] at hx109_0 | skip); (first | simp only [add_plain] at hx109_1 | skip); (first | simp only [add_plain] at hx111_0 | skip); (first | simp only [add_plain] at hx111_1 | skip); (first | simp only [add_plain] at hx112_0 | skip); (first | simp only [add_plain] at hx112_1 | skip); obtain ⟨ce14, hcl14, hM14, hcc14, hfr14⟩ := Kd.R_elem HO_0.out z25 (x9_2 : Int) p14 q14; obtain rfl := k25_openM hM14; have hx14_0 : World.cell? _ ⟨go14, (x9_2 : Int).toNat * 2, none⟩ = some (.int .i64 ((rd_T25 x0_2 x9_2).f0)) := hcc14 0 _ rfl; have hx14_1 : World.cell? _ ⟨go14, (x9_2 : Int).toNat * 2 + 1, none⟩ = some (.int .i64 ((rd_T25 x0_2 x9_2).f1)) := hcc14 1 _ rfl; have hf14_0 : World.frozen? _ ⟨go14, (x9_2 : Int).toNat * 2, none⟩ = false := hfr14 0; have hf14_1 : World.frozen? _ ⟨go14, (x9_2 : Int).toNat * 2 + 1, none⟩ = false := hfr14 1; clear hcl14 hcc14 hfr14 hM14; replace p14 := eq_true p14; replace q14 := eq_true q14; obtain ⟨ce20, hcl20, hM20, hcc20, hfr20⟩ := Kd.R_elem HO_0.out z25 (x9_2 : Int) od_ (by have h_ : (x9_2 : Int) < ((x0_2.length : Int) : Int) := od_; first | exact h_ | (have e_ := (Kd.R_reads' HO_0.out).1; omega) | simpa using h_); obtain rfl := k25_openM hM20; have HP20 := (Kd.R_seg HO_0.out (x9_2 : Int) od_ (by have h_ : (x9_2 : Int) < ((x0_2.length : Int) : Int) := od_; first | exact h_ | (have e_ := (Kd.R_reads' HO_0.out).1; omega) | simpa using h_) (seg := [.int .i64 ((rd_T25 x0_2 (ji9)).f0), .int .i64 ((rd_T25 x0_2 (ji9)).f1)]) (j := 0) hcl20 hcc20 (show 2 ≤ 2 from by decide) (x' := (⟨(rd_T25 x0_2 (ji9)).f0, (rd_T25 x0_2 (ji9)).f1⟩ : S25)) (k25_mkM _ _ _ (⟨(rd_T25 x0_2 (ji9)).f0, (rd_T25 x0_2 (ji9)).f1⟩ : S25) ) (fun _ hk => hk)).1; rw [← Ny113.out] at HP20; have HQ20 := Aside0.mk HP20; clear hcl20 hcc20 hfr20 hM20 HP20; have p15 : 0 ≤ ((ji9) : Int) := od_; have q15 : ((ji9) : Int) < ((x0_2.length : Int) : Int) := od_; obtain ⟨ce15, hcl15, hM15, hcc15, hfr15⟩ := Kd.R_elem HQ20.out z25 ((ji9) : Int) p15 q15; obtain rfl := k25_openM hM15; have hx15_0 : World.cell? _ ⟨go14, ((ji9) : Int).toNat * 2, none⟩ = some (.int .i64 ((rd_T25 y113 (ji9)).f0)) := hcc15 0 _ rfl; have hx15_1 : World.cell? _ ⟨go14, ((ji9) : Int).toNat * 2 + 1, none⟩ = some (.int .i64 ((rd_T25 y113 (ji9)).f1)) := hcc15 1 _ rfl; have hf15_0 : World.frozen? _ ⟨go14, ((ji9) : Int).toNat * 2, none⟩ = false := hfr15 0; have hf15_1 : World.frozen? _ ⟨go14, ((ji9) : Int).toNat * 2 + 1, none⟩ = false := hfr15 1; clear hcl15 hcc15 hfr15 hM15; replace p15 := eq_true p15; replace q15 := eq_true q15; obtain ⟨ce21, hcl21, hM21, hcc21, hfr21⟩ := Kd.R_elem HQ20.out z25 ((ji9) : Int) od_ (by have h_ : ((ji9) : Int) < ((x0_2.length : Int) : Int) := od_; first | exact h_ | (have e_ := (Kd.R_reads' HO_0.out).1; omega) | simpa using h_); obtain rfl := k25_openM hM21; have HP21 := (Kd.R_seg HQ20.out ((ji9) : Int) od_ (by have h_ : ((ji9) : Int) < ((x0_2.length : Int) : Int) := od_; first | exact h_ | (have e_ := (Kd.R_reads' HO_0.out).1; omega) | simpa using h_) (seg := [.int .i64 ((rd_T25 x0_2 x9_2).f0), .int .i64 ((rd_T25 x0_2 x9_2).f1)]) (j := 0) hcl21 hcc21 (show 2 ≤ 2 from by decide) (x' := (⟨(rd_T25 x0_2 x9_2).f0, (rd_T25 x0_2 x9_2).f1⟩ : S25)) (k25_mkM _ _ _ (⟨(rd_T25 x0_2 x9_2).f0, (rd_T25 x0_2 x9_2).f1⟩ : S25) ) (fun _ hk => hk)).1; rw [← Ny114.out] at HP21; have HQ21 := Aside0.mk HP21; clear hcl21 hcc21 hfr21 hM21 HP21; refine start_ (n := 18) (S := fun w' => w'.cell? ⟨go14, (((ji9)).toNat * 2), none⟩ = some (.int .i64 ((rd_T25 x0_2 (ji9)).f0)) ∧ w'.cell? ⟨go14, (((ji9)).toNat * 2) + 1, none⟩ = some (.int .i64 ((rd_T25 x0_2 (ji9)).f1)) ∧ w'.cell? ⟨go14, ((x9_2).toNat * 2), none⟩ = some (.int .i64 ((rd_T25 x0_2 x9_2).f0)) ∧ w'.cell? ⟨go14, ((x9_2).toNat * 2) + 1, none⟩ = some (.int .i64 ((rd_T25 x0_2 x9_2).f1))) (ds := [15, 17]) (ab 18 0) (by kernel_rfl) rfl rfl ⟨hx111_0, hx111_1, hx112_0, hx112_1⟩ (fun hHeld => ?_); refine with_tabW api_Run_64.tab6 api_Run_64.bits6 (fun HT_ HW_ => ?_)
            generalize w18.drew = w19 at HO_0 HK HB GG14 HQ20 HQ21 hf14_0 hf14_1 hf15_0 hf15_1 hx108_0 hx108_1 hx109_0 hx109_1 hx111_0 hx111_1 hx112_0 hx112_1 hx14_0 hx14_1 hx15_0 hx15_1 hHeld ⊢; (try (simp only [World.setCells, Nat.add_zero, show (k25).sz = 2 from rfl] at hx15_0; try simp [go_sem] at hx15_0)); (try (simp only [World.setCells, Nat.add_zero, show (k25).sz = 2 from rfl] at hf15_0; try simp [go_sem] at hf15_0)); (try (simp only [World.setCells, Nat.add_zero, show (k25).sz = 2 from rfl] at hx15_1; try simp [go_sem] at hx15_1)); (try (simp only [World.setCells, Nat.add_zero, show (k25).sz = 2 from rfl] at hf15_1; try simp [go_sem] at hf15_1)); refine pA 0 37 18 1 ?_; refine pA 1 38 18 3 ?_; refine pA 2 39 18 7 ?_; refine pA 3 40 18 15 ?_; refine pA 4 41 18 31 ?_; refine pA 5 42 18 63 ?_; refine pA 6 43 18 127 ?_; refine pA 7 44 18 255 ?_; refine pA 8 45 18 511 ?_; refine pA 10 47 18 1535 ?_; refine pA 11 48 18 3583 ?_; refine pA 12 49 18 7679 ?_; refine tA 9 46 18 8191 ?_; refine tA 13 50 18 16383 ?_; refine pA 14 51 18 32767 ?_; refine last_ (i := 15) (N := none) (ab 18 65535) rfl rfl (one_of HT_.out (by kernel_rfl)) (by decide) (fun K hK => ?_); refine sA ?_; refine hK.out _ _ ?_; clear hK K; refine pA 16 52 18 131071 ?_; refine last_ (i := 17) (N := none) (ab 18 262143) rfl rfl (one_of HT_.out (by kernel_rfl)) (by decide) (fun K hK => ?_); refine sA ?_; refine hK.out _ _ ?_; clear hK K; refine done_ (done_of HT_.out (by kernel_rfl)) ?_; (try go_wp2); go_roundg k2
            case measure => have := HK1.out; have := HK2.out; omega
            case rel => exact ⟨(y114), (ji9), (by first | rfl | (simp; done) | (simp only [← hji9] <;> (first | rfl | simp)) | (simp [*]; done)), H', ⟨by have := HK1.out; have := HK2.out; omega⟩, ⟨by (with_reducible repeat (first | apply Kd.R_alloc | apply Kd.R_drewN | apply Kd.R_drew)); exact HQ21.out⟩, ⟨by repeat (first | (with_reducible first | exact HK.out | apply Kept.alloc | apply Kept.drewN | apply Kept.drew | refine Kept.setCell ?_ HMgo14.out _ | refine Kept.setCell ?_ HMgo14.out _ | refine Kept.setCell ?_ HMgo14.out _ | refine Kept.setCell ?_ HMgo14.out _) | exact HK.out)⟩, ⟨by repeat (first | (with_reducible first | exact HB.out | apply below_alloc | apply pw_below_drewN | apply below_drew1 | refine below_set ?_ GB14.out | refine below_set ?_ GB14.out | refine below_set ?_ GB14.out | refine below_set ?_ GB14.out) | exact HB.out)⟩⟩
           ·rw [if_neg c13] at H
            have c13b0 : decide (t110 < 0) = false := decide_eq_false c13; clear c13; have H' := Aside0.mk H; clear H; (try go_wp2); replace HO_0 := Aside0.mk (Kd.R_drew HO_0.out); replace HK := Aside0.mk (Kept.drew HK.out); replace HB := Aside0.mk (below_drew1 HB.out); obtain ⟨Ao23, co23, eo23⟩ := Kd.R_slice HO_0.out; (first | subst eo23 | (injection eo23 with f1_ f2_ f3_; have f4_ := f1_.symm; have f5_ := f3_.symm; clear f1_ f2_ f3_; subst f4_; subst f5_)); have p108 : 0 ≤ (x9_2 : Int) := od_; have q108 : x9_2 < (x0_2.length : Int) := od_; obtain ⟨ad108, e108, hx108_0, hx108_1⟩ := at_T25 (Kd.R_reads' HO_0.out).2.2 x9_2 p108 q108
            cases e108
            replace p108 := eq_true p108; replace q108 := eq_true q108; have p109 : 0 ≤ ((ji9) : Int) := od_; have q109 : (ji9) < (x0_2.length : Int) := od_; obtain ⟨ad109, e109, hx109_0, hx109_1⟩ := at_T25 (Kd.R_reads' HO_0.out).2.2 (ji9) p109 q109; obtain rfl : ad108 = ad109 := (by injection e109); replace p109 := eq_true p109; replace q109 := eq_true q109; refine start_ (n := 17) (S := fun w' => w'.cell? (ad108.add ((x9_2).toNat * 2)) = some (.int .i64 ((rd_T25 x0_2 x9_2).f0)) ∧ w'.cell? ⟨(ad108.add ((x9_2).toNat * 2)).block, (ad108.add ((x9_2).toNat * 2)).off + 1, none⟩ = some (.int .i64 ((rd_T25 x0_2 x9_2).f1)) ∧ w'.cell? (ad108.add (((ji9)).toNat * 2)) = some (.int .i64 ((rd_T25 x0_2 (ji9)).f0)) ∧ w'.cell? ⟨(ad108.add (((ji9)).toNat * 2)).block, (ad108.add (((ji9)).toNat * 2)).off + 1, none⟩ = some (.int .i64 ((rd_T25 x0_2 (ji9)).f1))) (ds := []) (ab 17 0) (by kernel_rfl) rfl rfl ⟨hx108_0, hx108_1, hx109_0, hx109_1⟩ (fun hHeld => ?_); refine with_tabW api_Run_64.tab4 api_Run_64.bits4 (fun HT_ HW_ => ?_); generalize wr.drew = w22 at HO_0 HK HB hx108_0 hx108_1 hx109_0 hx109_1 hHeld ⊢; refine pA 0 18 17 1 ?_; refine pA 1 19 17 3 ?_; refine pA 2 20 17 7 ?_; refine pA 3 21 17 15 ?_; refine pA 4 22 17 31 ?_; refine pA 5 23 17 63 ?_; refine pA 6 24 17 127 ?_; refine pA 7 25 17 255 ?_; refine pA 9 27 17 767 ?_; refine pA 10 28 17 1791 ?_; refine pA 11 29 17 3839 ?_; refine pA 12 30 17 7935 ?_; refine tA 8 26 17 8191 ?_; refine tA 13 31 17 16383 ?_; refine one_ (i := 14) (N := some 32) (ab 17 32767) rfl rfl (one_of HT_.out (by kernel_rfl)) (by decide) (fun K hK => ?_); refine goesV_ #[.agg #[.bool false]] Try.func48 (by kernel_rfl) rfl #[.agg #[.bool false], .agg #[.int .i64 ((rd_T25 x0_2 x9_2).f0), .int .i64 ((rd_T25 x0_2 x9_2).f1)], .agg #[.int .i64 ((rd_T25 x0_2 (ji9)).f0), .int .i64 ((rd_T25 x0_2 (ji9)).f1)]] (by rfl) rfl rfl rfl (by (try simp only [List.map_toArray, List.map_cons, List.map_nil]); first | done | (simp only [hji9]; rfl) | rfl | (simp only [List.length_drop, List.length_take]; rfl)) ?_; refine (runs_order_compare.calls false ((rd_T25 x0_2 x9_2).f0) ((rd_T25 x0_2 x9_2).f1) ((rd_T25 x0_2 (ji9)).f0) ((rd_T25 x0_2 (ji9)).f1) t110 _ A12.out).mono ?_; rintro e w24 ⟨rfl, hb⟩; have HS0_ := (hb.cell (World.block_lt_of_cell? _ _ (hHeld.1))).trans (hHeld.1); have HS1_ := (hb.cell (World.block_lt_of_cell? _ _ (hHeld.2.1))).trans (hHeld.2.1); have HS2_ := (hb.cell (World.block_lt_of_cell? _ _ (hHeld.2.2.1))).trans (hHeld.2.2.1); have HS3_ := (hb.cell (World.block_lt_of_cell? _ _ (hHeld.2.2.2))).trans (hHeld.2.2.2); refine ⟨_, rfl, ?_⟩; replace HO_0 := Aside0.mk (Kd.R_below h0_ hb); replace HK := Aside0.mk (Kept.below (S := (fun k_ => P0_ k_)) hk_ hb); replace HB := Aside0.mk (below_step hb_ hb); (try clear hb); (try clear hb2); (try clear hk); (try clear hi); refine hK.out _ _ ⟨HS0_, HS1_, HS2_, HS3_⟩ (fun hHeld => ?_); clear hK K; refine nA ?_; refine pA 15 33 17 65535 ?_; refine pA 16 34 17 131071 ?_; refine done_ (done_of HT_.out (by kernel_rfl)) ?_; (try go_wp2); go_roundg k2
            case measure => have := HK1.out; have := HK2.out; omega
            case rel => exact ⟨(x0_2), (wrap64 (x8_1 + 1)), rf_, H', ⟨by have := HK1.out; have := HK2.out; omega⟩, ⟨h0_⟩, ⟨hk_⟩, ⟨hb_⟩⟩
          ·rw [if_neg c11] at H
           exact absurd H (by simp)
         ·rw [if_neg c10] at H
          exact absurd H (by simp)
        ·rw [if_neg c8] at H
         exact absurd H (by simp)
       ·rw [if_neg c7] at H
        exact absurd H (by simp)
      ·rw [if_neg c6] at H
       have c6b0 : decide (a1 < x9_2) = false := decide_eq_false c6; clear c6; have H' := Aside0.mk H; clear H; (try go_wp2); replace HO_0 := Aside0.mk (Kd.R_drew HO_0.out); replace HK := Aside0.mk (Kept.drew HK.out); replace HB := Aside0.mk (below_drew1 HB.out); refine start_ (n := 17) (S := fun w' => True) (ds := []) (ab 17 0) (by kernel_rfl) rfl rfl trivial (fun hHeld => ?_); refine with_tabW api_Run_64.tab4 api_Run_64.bits4 (fun HT_ HW_ => ?_); generalize wr.drew = w25 at HO_0 HK HB hHeld ⊢; refine pA 0 18 17 1 ?_; refine pA 1 19 17 3 ?_; refine pA 2 20 17 7 ?_; refine pA 3 21 17 15 ?_; refine uA 4 22 17 31 ?_; refine uA 5 23 17 63 ?_; refine uA 6 24 17 127 ?_; refine uA 7 25 17 255 ?_; refine uA 8 26 17 511 ?_; refine uA 9 27 17 1023 ?_; refine uA 10 28 17 2047 ?_; refine uA 11 29 17 4095 ?_; refine uA 12 30 17 8191 ?_; refine uA 13 31 17 16383 ?_; refine uA 14 32 17 32767 ?_; refine uA 15 33 17 65535 ?_; refine pA 16 34 17 131071 ?_; refine done_ (done_of HT_.out (by kernel_rfl)) ?_; (try go_wp2); go_roundg k2
       case measure => have := HK1.out; have := HK2.out; omega
       case rel => exact ⟨(x0_2), (wrap64 (x8_1 + 1)), rf_, H', ⟨by have := HK1.out; have := HK2.out; omega⟩, ⟨h0_⟩, ⟨hk_⟩, ⟨hb_⟩⟩
   ·rw [if_neg c5] at H
    have c5b0 : decide (x8_1 < a2) = false := decide_eq_false c5; clear c5; obtain rfl := Option.some.inj H; go_wp2
    first | go_end0 | ((try simp only [Exit.inBlock, Exit.then]); refine bodyPost_ret (results_none rfl _ _ _) rfl ?_)
    exact ⟨re_, h0_, hb_, hk_⟩
def api_Run_74.T3 : Bool × List (List Nat × List Nat) := (true, [([], []), ([0], [0]), ([], []), ([1, 2], [1, 2]), ([3], [3]), ([4], [4]), ([4], [4]), ([4], [4]), ([4], [4]), ([7, 8, 4], [4, 7, 8]), ([6, 9, 4], [4, 6, 9]), ([10, 4], [4, 10]), ([4], [4]), ([4], [4]), ([4], [4]), ([13, 14, 4], [4, 13, 14]), ([15, 4], [4, 15]), ([12, 16, 4], [4, 12, 16]), ([17, 4], [4, 17]), ([5, 11, 18, 4, 4], [4, 5, 11, 18]), ([19, 4], [4, 19]), ([4, 20], [4, 20])])
def api_Run_74.B3 : List Nat := [0, 1, 0, 7, 15, 31, 31, 31, 31, 415, 991, 2015, 31, 31, 31, 24607, 57375, 127007, 258079, 524287, 1048575, 2097151]
theorem api_Run_74.tab3 : rtab .any (opsOf Try.f74 3) = api_Run_74.T3 := by kernel_rfl
theorem api_Run_74.bits3 : waitsOk api_Run_74.T3.2 api_Run_74.B3 = true := by kernel_rfl
def api_Run_74.T5 : Bool × List (List Nat × List Nat) := (true, [([], []), ([], []), ([], []), ([], []), ([2, 3], [2, 3]), ([1, 4], [1, 4]), ([5], [5]), ([], []), ([], []), ([], []), ([8, 9], [8, 9]), ([7, 10], [7, 10]), ([11], [11]), ([0, 6, 12], [0, 6, 12]), ([13], [13]), ([14], [14])])
def api_Run_74.B5 : List Nat := [0, 0, 0, 0, 12, 30, 62, 0, 0, 0, 768, 1920, 3968, 8191, 16383, 32767]
theorem api_Run_74.tab5 : rtab .any (opsOf Try.f74 5) = api_Run_74.T5 := by kernel_rfl
theorem api_Run_74.bits5 : waitsOk api_Run_74.T5.2 api_Run_74.B5 = true := by kernel_rfl
def api_Run_74.T6 : Bool × List (List Nat × List Nat) := (true, [([], []), ([], []), ([], []), ([1, 2], [1, 2]), ([], []), ([], []), ([], []), ([5, 6], [5, 6]), ([], []), ([], []), ([], []), ([9, 10], [9, 10]), ([8, 11], [8, 11]), ([12], [12]), ([], []), ([], []), ([], []), ([15, 16], [15, 16]), ([14, 17], [14, 17]), ([18], [18]), ([0, 3, 0, 1, 2, 3, 8, 9, 10, 11, 12, 13, 19], [0, 3]), ([20, 13, 0, 1, 2, 3, 8, 9, 10, 11, 12, 13, 19], [13, 20]), ([4, 7, 0, 1, 2, 3, 4, 5, 6, 7, 8, 9, 10, 11, 12, 13, 14, 15, 16, 17, 18, 19, 20, 21], [4, 7]), ([22, 19, 21, 0, 1, 2, 3, 4, 5, 6, 7, 8, 9, 10, 11, 12, 13, 14, 15, 16, 17, 18, 19, 20, 21], [19, 22])])
def api_Run_74.B6 : List Nat := [0, 0, 0, 6, 0, 0, 0, 96, 0, 0, 0, 1536, 3840, 7936, 0, 0, 0, 98304, 245760, 507904, 1048335, 2096911, 4194303, 8388607]
theorem api_Run_74.tab6 : rtab .any (opsOf Try.f74 6) = api_Run_74.T6 := by kernel_rfl
theorem api_Run_74.bits6 : waitsOk api_Run_74.T6.2 api_Run_74.B6 = true := by kernel_rfl
set_option maxHeartbeats 8000000 in
set_option maxRecDepth 100000 in
theorem api_Run_74.calls (k : Nat) (P0_ : Nat → Prop) (u9000_ : Value) (l0 : List (S25)) (a1 : Int) (a2 : Int) (a3 : Int)  (r : List (S25)) (w0 w : World) (hB : Below w0.heap.size w0 w) (ho0 : Kd.R k25 25 w w0.heap.size P0_ u9000_ l0) (h : api_Run_74.f k l0 a1 a2 a3 = some r) :
  Calls Try.prog 74 #[u9000_, .int .i64 a1, .int .i64 a2, .int .i64 a3, .func (.func 48) #[.agg #[.bool false]] #[]] w fun e w' => e = .returned (.tuple #[]) ∧ Kd.R k25 25 w' w0.heap.size (fun k_ => (P0_ k_ ∨ w.heap.size ≤ k_)) u9000_ r ∧ Below w0.heap.size w0 w' ∧ Kept w w' (fun k_ => P0_ k_) := by
 have hu25 := Try.underlying25; have HO0 := Aside0.mk (show Kd.R k25 25 w w0.heap.size (fun k_ => (P0_ k_ ∨ w.heap.size ≤ k_)) u9000_ l0 from Kd.R_mono ho0 (fun k_ hk => (.inl hk))); have HK := Aside0.mk (Kept.refl w (fun k_ => P0_ k_)); have HW0 := Aside0.mk hB.size; have HB := Aside0.mk hB; clear hB; have H : (api_Run_74.l0 k l0 a2 a3 a1) = some r := h; clear h; have H' := Aside0.mk H; clear H; go_enter Try.func74, Try.ntmps74; go_wp2; go_loopg [10] k (fun kq v10 w' => ∃ (x0_1 : List (S25)) (x10_1 : Int), v10 = .int .i64 x10_1 ∧ Aside0 (api_Run_74.l0 kq x0_1 a2 a3 x10_1 = some r) ∧ Aside0 (kq ≤ k) ∧ Aside0 (Kd.R k25 25 w' w0.heap.size (fun k_ => (P0_ k_ ∨ w.heap.size ≤ k_)) u9000_ x0_1) ∧ Aside0 (Kept w w' (fun k_ => P0_ k_)) ∧ Aside0 (Below w0.heap.size w0 w'))
 case atStart => exact ⟨(l0), (a1), rf_, H', ⟨Nat.le_refl _⟩, ⟨by (with_reducible repeat (first | apply Kd.R_alloc | apply Kd.R_drewN | apply Kd.R_drew)); exact HO0.out⟩, ⟨hk_⟩, ⟨hb_⟩⟩
 case round =>
  clear H'; (try clear p2); obtain ⟨x0_1, x10_1, rfl, HA, HK1, HO_0, HK, HB⟩ := hrel
  cases gk with
  | zero => exact absurd HA.out (by simp [api_Run_74.l0])
  | succ k1 =>
   have H := HA.out; clear HA; simp only [api_Run_74.l0] at H
   by_cases c6 : (wrap64 ((wrap64 (2 * x10_1)) + 1)) ≥ a2
   ·rw [if_pos c6] at H
    have c6b0 : decide (a2 ≤ (wrap64 ((wrap64 (2 * x10_1)) + 1))) = true := decide_eq_true c6; clear c6; obtain rfl := Option.some.inj H; go_wp2
    first | go_end0 | ((try simp only [Exit.inBlock, Exit.then]); refine bodyPost_ret (results_none rfl _ _ _) rfl ?_)
    exact ⟨re_, h0_, hb_, hk_⟩
   ·rw [if_neg c6] at H
    have c6b0 : decide (a2 ≤ (wrap64 ((wrap64 (2 * x10_1)) + 1))) = false := decide_eq_false c6; clear c6; have HC7 := Aside0.mk H; clear H; go_upto_region 3 with (fail); go_cut [40] (fun v40 wc => ∃ (kq : Nat) (x40_6 : Bool), v40 = .bool x40_6 ∧ Aside0 (api_Run_74.j1 kq x0_1 a2 a3 x10_1 (wrap64 ((wrap64 (2 * x10_1)) + 1)) x40_6 = some r) ∧ Aside0 (kq ≤ k1) ∧ Aside0 (Kd.R k25 25 wc w0.heap.size (fun k_ => (P0_ k_ ∨ w.heap.size ≤ k_)) u9000_ x0_1) ∧ Aside0 (Kept w wc (fun k_ => P0_ k_)) ∧ Aside0 (Below w0.heap.size w0 wc))
    case first =>
     have H := HC7.out; clear HC7
     by_cases c8 : (wrap64 ((wrap64 ((wrap64 (2 * x10_1)) + 1)) + 1)) < a2
     ·rw [if_pos c8] at H
      have c8b0 : decide ((wrap64 ((wrap64 ((wrap64 (2 * x10_1)) + 1)) + 1)) < a2) = true := decide_eq_true c8; clear c8; (first | rw [c8b0] | (simp only [i64_w, i32_w]; rw [c8b0]) | skip); obtain ⟨ji9, hji9⟩ : ∃ j_ : Int, (wrap64 (a3 + (wrap64 ((wrap64 (2 * x10_1)) + 1)))) = j_ := ⟨_, rfl⟩; (replace H : (if 0 ≤ (ji9) then (if (ji9) < (x0_1.length : Int) then (if 0 ≤ (wrap64 ((ji9) + 1)) then (if (wrap64 ((ji9) + 1)) < (x0_1.length : Int) then ((runs_order_compare.f false ((rd_T25 x0_1 (ji9)).f0) ((rd_T25 x0_1 (ji9)).f1) ((rd_T25 x0_1 (wrap64 ((ji9) + 1))).f0) ((rd_T25 x0_1 (wrap64 ((ji9) + 1))).f1)).bind fun t117 => (api_Run_74.j1 k1 x0_1 a2 a3 x10_1 (wrap64 ((wrap64 (2 * x10_1)) + 1)) (decide (t117 < 0)))) else (none)) else (none)) else (none)) else (none)) = some r := by first | (rw [hji9] at H; exact H) | (simp only [hji9] at H ⊢; exact H)); have hji9w : (IntKind.i64.wrap (a3 + (wrap64 ((wrap64 (2 * x10_1)) + 1)))) = ji9 := (i64_w _).trans hji9
      by_cases c10 : 0 ≤ (ji9)
      ·rw [if_pos c10] at H
       have c10b0 : decide (0 ≤ (ji9)) = true := decide_eq_true c10; clear c10
       by_cases c11 : (ji9) < (x0_1.length : Int)
       ·rw [if_pos c11] at H
        have c11b0 : decide ((ji9) < (x0_1.length : Int)) = true := decide_eq_true c11; clear c11; obtain ⟨ji12, hji12⟩ : ∃ j_ : Int, (wrap64 ((ji9) + 1)) = j_ := ⟨_, rfl⟩; (replace H : (if 0 ≤ (ji12) then (if (ji12) < (x0_1.length : Int) then ((runs_order_compare.f false ((rd_T25 x0_1 (ji9)).f0) ((rd_T25 x0_1 (ji9)).f1) ((rd_T25 x0_1 (ji12)).f0) ((rd_T25 x0_1 (ji12)).f1)).bind fun t117 => (api_Run_74.j1 k1 x0_1 a2 a3 x10_1 (wrap64 ((wrap64 (2 * x10_1)) + 1)) (decide (t117 < 0)))) else (none)) else (none)) = some r := by first | (rw [hji12] at H; exact H) | (simp only [hji12] at H ⊢; exact H)); have hji12w : (IntKind.i64.wrap ((ji9) + 1)) = ji12 := (i64_w _).trans hji12
        by_cases c13 : 0 ≤ (ji12)
        ·rw [if_pos c13] at H
         have c13b0 : decide (0 ≤ (ji12)) = true := decide_eq_true c13; clear c13
         by_cases c14 : (ji12) < (x0_1.length : Int)
         ·rw [if_pos c14] at H
          have c14b0 : decide ((ji12) < (x0_1.length : Int)) = true := decide_eq_true c14; clear c14; replace H := Option.bind_eq_some_iff.mp H; obtain ⟨t117, A150, H⟩ := H; replace H : (api_Run_74.j1 k1 x0_1 a2 a3 x10_1 (wrap64 ((wrap64 (2 * x10_1)) + 1)) (decide (t117 < 0))) = some r := H; have A15 := Aside0.mk A150; clear A150; have H' := Aside0.mk H; clear H; (try go_wp2); replace HO_0 := Aside0.mk (Kd.R_drew HO_0.out); replace HK := Aside0.mk (Kept.drew HK.out); replace HB := Aside0.mk (below_drew1 HB.out); obtain ⟨Ao17, co17, eo17⟩ := Kd.R_slice HO_0.out; (first | subst eo17 | (injection eo17 with f1_ f2_ f3_; have f4_ := f1_.symm; have f5_ := f3_.symm; clear f1_ f2_ f3_; subst f4_; subst f5_)); have p115 : 0 ≤ ((ji9) : Int) := od_; have q115 : (ji9) < (x0_1.length : Int) := od_; obtain ⟨ad115, e115, hx115_0, hx115_1⟩ := at_T25 (Kd.R_reads' HO_0.out).2.2 (ji9) p115 q115
          cases e115
          replace p115 := eq_true p115; replace q115 := eq_true q115; have p116 : 0 ≤ ((ji12) : Int) := od_; have q116 : (ji12) < (x0_1.length : Int) := od_; obtain ⟨ad116, e116, hx116_0, hx116_1⟩ := at_T25 (Kd.R_reads' HO_0.out).2.2 (ji12) p116 q116; obtain rfl : ad115 = ad116 := (by injection e116); replace p116 := eq_true p116; replace q116 := eq_true q116; refine start_ (n := 22) (S := fun w' => w'.cell? (ad115.add (((ji9)).toNat * 2)) = some (.int .i64 ((rd_T25 x0_1 (ji9)).f0)) ∧ w'.cell? ⟨(ad115.add (((ji9)).toNat * 2)).block, (ad115.add (((ji9)).toNat * 2)).off + 1, none⟩ = some (.int .i64 ((rd_T25 x0_1 (ji9)).f1)) ∧ w'.cell? (ad115.add (((ji12)).toNat * 2)) = some (.int .i64 ((rd_T25 x0_1 (ji12)).f0)) ∧ w'.cell? ⟨(ad115.add (((ji12)).toNat * 2)).block, (ad115.add (((ji12)).toNat * 2)).off + 1, none⟩ = some (.int .i64 ((rd_T25 x0_1 (ji12)).f1))) (ds := []) (ab 22 0) (by kernel_rfl) rfl rfl ⟨hx115_0, hx115_1, hx116_0, hx116_1⟩ (fun hHeld => ?_); refine with_tabW api_Run_74.tab3 api_Run_74.bits3 (fun HT_ HW_ => ?_); generalize wr.drew = w16 at HO_0 HK HB hx115_0 hx115_1 hx116_0 hx116_1 hHeld ⊢; refine pA 0 19 22 1 ?_; refine pA 1 20 22 3 ?_; refine pA 2 21 22 7 ?_; refine pA 3 22 22 15 ?_; refine pA 4 23 22 31 ?_; refine pA 5 24 22 63 ?_; refine pA 6 25 22 127 ?_; refine pA 7 26 22 255 ?_; refine pA 8 27 22 511 ?_; refine pA 9 28 22 1023 ?_; refine pA 10 29 22 2047 ?_; refine pA 12 31 22 6143 ?_; refine pA 13 32 22 14335 ?_; refine pA 14 33 22 30719 ?_; refine pA 15 34 22 63487 ?_; refine pA 16 35 22 129023 ?_; refine pA 17 36 22 260095 ?_; refine tA 11 30 22 262143 ?_; refine tA 18 37 22 524287 ?_; refine one_ (i := 19) (N := some 38) (ab 22 1048575) rfl rfl (one_of HT_.out (by kernel_rfl)) (by decide) (fun K hK => ?_); refine goesV_ #[.agg #[.bool false]] Try.func48 (by kernel_rfl) rfl #[.agg #[.bool false], .agg #[.int .i64 ((rd_T25 x0_1 (ji9)).f0), .int .i64 ((rd_T25 x0_1 (ji9)).f1)], .agg #[.int .i64 ((rd_T25 x0_1 (ji12)).f0), .int .i64 ((rd_T25 x0_1 (ji12)).f1)]] (by rfl) rfl rfl rfl (by (try simp only [List.map_toArray, List.map_cons, List.map_nil]); first | done | (simp only [hji12, hji9]; rfl) | rfl | (simp only [List.length_drop, List.length_take]; rfl)) ?_; refine (runs_order_compare.calls false ((rd_T25 x0_1 (ji9)).f0) ((rd_T25 x0_1 (ji9)).f1) ((rd_T25 x0_1 (ji12)).f0) ((rd_T25 x0_1 (ji12)).f1) t117 _ A15.out).mono ?_; rintro e w18 ⟨rfl, hb⟩; have HS0_ := (hb.cell (World.block_lt_of_cell? _ _ (hHeld.1))).trans (hHeld.1); have HS1_ := (hb.cell (World.block_lt_of_cell? _ _ (hHeld.2.1))).trans (hHeld.2.1); have HS2_ := (hb.cell (World.block_lt_of_cell? _ _ (hHeld.2.2.1))).trans (hHeld.2.2.1); have HS3_ := (hb.cell (World.block_lt_of_cell? _ _ (hHeld.2.2.2))).trans (hHeld.2.2.2); refine ⟨_, rfl, ?_⟩; replace HO_0 := Aside0.mk (Kd.R_below h0_ hb); replace HK := Aside0.mk (Kept.below (S := (fun k_ => P0_ k_)) hk_ hb); replace HB := Aside0.mk (below_step hb_ hb); (try clear hb); (try clear hb2); (try clear hk); (try clear hi); refine hK.out _ _ ⟨HS0_, HS1_, HS2_, HS3_⟩ (fun hHeld => ?_); clear hK K; refine nA ?_; refine pA 20 39 22 2097151 ?_; refine pA 21 40 22 4194303 ?_; refine done_ (done_of HT_.out (by kernel_rfl)) ?_; (try go_wp2); go_meet
          case rel => exact ⟨_, (decide (t117 < 0)), rf_, H', ⟨by have := HK1.out; first | omega | exact Nat.le_refl _⟩, ⟨h0_⟩, ⟨hk_⟩, ⟨hb_⟩⟩
         ·rw [if_neg c14] at H
          exact absurd H (by simp)
        ·rw [if_neg c13] at H
         exact absurd H (by simp)
       ·rw [if_neg c11] at H
        exact absurd H (by simp)
      ·rw [if_neg c10] at H
       exact absurd H (by simp)
     ·rw [if_neg c8] at H
      have c8b0 : decide ((wrap64 ((wrap64 ((wrap64 (2 * x10_1)) + 1)) + 1)) < a2) = false := decide_eq_false c8; clear c8; (first | rw [c8b0] | (simp only [i64_w, i32_w]; rw [c8b0]) | skip); have H' := Aside0.mk H; clear H; (try go_wp2); replace HO_0 := Aside0.mk (Kd.R_drew HO_0.out); replace HK := Aside0.mk (Kept.drew HK.out); replace HB := Aside0.mk (below_drew1 HB.out); refine start_ (n := 22) (S := fun w' => True) (ds := []) (ab 22 0) (by kernel_rfl) rfl rfl trivial (fun hHeld => ?_); refine with_tabW api_Run_74.tab3 api_Run_74.bits3 (fun HT_ HW_ => ?_); generalize wr.drew = w19 at HO_0 HK HB hHeld ⊢; refine pA 0 19 22 1 ?_; refine pA 1 20 22 3 ?_; refine pA 2 21 22 7 ?_; refine pA 3 22 22 15 ?_; refine pA 4 23 22 31 ?_; refine uA 5 24 22 63 ?_; refine uA 6 25 22 127 ?_; refine uA 7 26 22 255 ?_; refine uA 8 27 22 511 ?_; refine uA 9 28 22 1023 ?_; refine uA 10 29 22 2047 ?_; refine uA 11 30 22 4095 ?_; refine uA 12 31 22 8191 ?_; refine uA 13 32 22 16383 ?_; refine uA 14 33 22 32767 ?_; refine uA 15 34 22 65535 ?_; refine uA 16 35 22 131071 ?_; refine uA 17 36 22 262143 ?_; refine uA 18 37 22 524287 ?_; refine uA 19 38 22 1048575 ?_; refine uA 20 39 22 2097151 ?_; refine pA 21 40 22 4194303 ?_; refine done_ (done_of HT_.out (by kernel_rfl)) ?_; (try go_wp2); go_meet
      case rel => exact ⟨_, (false), rf_, H', ⟨by have := HK1.out; first | omega | exact Nat.le_refl _⟩, ⟨h0_⟩, ⟨hk_⟩, ⟨hb_⟩⟩
    case rest =>
     clear HC7; (try clear c1); (try clear p1); (try clear q1); (try clear hx1); (try clear p2); (try clear c4); (try clear c6); (try clear c6b0); (try clear p6); (try clear c7); (try clear c8); (try clear c8b0); (try clear c10); (try clear c10b0); (try clear c11); (try clear c11b0); (try clear p11); (try clear q11); (try clear hx11); (try clear c13); (try clear c13b0); (try clear c14); (try clear c14b0); (try clear hx115_0); (try clear hx115_1); (try clear hx116_0); (try clear hx116_1); (try clear p115); (try clear p116); (try clear p2); (try clear q115); (try clear q116); obtain ⟨kq, x40_6, rfl, HA, HJ6, HO_0, HK, HB⟩ := hcut
     cases kq with
     | zero => exact absurd HA.out (by simp [api_Run_74.j1])
     | succ kj6 =>
      have H := HA.out; clear HA; simp only [api_Run_74.j1] at H
      by_cases c20 : x40_6 = true
      ·subst c20
       (have H1 : (if 0 ≤ (wrap64 (a3 + x10_1)) then (if (wrap64 (a3 + x10_1)) < (x0_1.length : Int) then (if 0 ≤ (wrap64 (a3 + (wrap64 ((wrap64 ((wrap64 (2 * x10_1)) + 1)) + 1)))) then (if (wrap64 (a3 + (wrap64 ((wrap64 ((wrap64 (2 * x10_1)) + 1)) + 1)))) < (x0_1.length : Int) then ((runs_order_compare.f false ((rd_T25 x0_1 (wrap64 (a3 + x10_1))).f0) ((rd_T25 x0_1 (wrap64 (a3 + x10_1))).f1) ((rd_T25 x0_1 (wrap64 (a3 + (wrap64 ((wrap64 ((wrap64 (2 * x10_1)) + 1)) + 1))))).f0) ((rd_T25 x0_1 (wrap64 (a3 + (wrap64 ((wrap64 ((wrap64 (2 * x10_1)) + 1)) + 1))))).f1)).bind fun t120 => (if t120 < 0 then (api_Run_74.l0 kj6 ((x0_1.set ((wrap64 (a3 + x10_1)) : Int).toNat (⟨(rd_T25 x0_1 (wrap64 (a3 + (wrap64 ((wrap64 ((wrap64 (2 * x10_1)) + 1)) + 1))))).f0, (rd_T25 x0_1 (wrap64 (a3 + (wrap64 ((wrap64 ((wrap64 (2 * x10_1)) + 1)) + 1))))).f1⟩ : S25)).set ((wrap64 (a3 + (wrap64 ((wrap64 ((wrap64 (2 * x10_1)) + 1)) + 1)))) : Int).toNat (⟨(rd_T25 x0_1 (wrap64 (a3 + x10_1))).f0, (rd_T25 x0_1 (wrap64 (a3 + x10_1))).f1⟩ : S25)) a2 a3 (wrap64 ((wrap64 ((wrap64 (2 * x10_1)) + 1)) + 1))) else (some x0_1))) else (none)) else (none)) else (none)) else (none)) = some r := by rw [if_pos rfl] at H; exact H); clear H; have H := H1; clear H1; obtain ⟨ji21, hji21⟩ : ∃ j_ : Int, (wrap64 (a3 + x10_1)) = j_ := ⟨_, rfl⟩; (replace H : (if 0 ≤ (ji21) then (if (ji21) < (x0_1.length : Int) then (if 0 ≤ (wrap64 (a3 + (wrap64 ((wrap64 ((wrap64 (2 * x10_1)) + 1)) + 1)))) then (if (wrap64 (a3 + (wrap64 ((wrap64 ((wrap64 (2 * x10_1)) + 1)) + 1)))) < (x0_1.length : Int) then ((runs_order_compare.f false ((rd_T25 x0_1 (ji21)).f0) ((rd_T25 x0_1 (ji21)).f1) ((rd_T25 x0_1 (wrap64 (a3 + (wrap64 ((wrap64 ((wrap64 (2 * x10_1)) + 1)) + 1))))).f0) ((rd_T25 x0_1 (wrap64 (a3 + (wrap64 ((wrap64 ((wrap64 (2 * x10_1)) + 1)) + 1))))).f1)).bind fun t120 => (if t120 < 0 then (api_Run_74.l0 kj6 ((x0_1.set ((ji21) : Int).toNat (⟨(rd_T25 x0_1 (wrap64 (a3 + (wrap64 ((wrap64 ((wrap64 (2 * x10_1)) + 1)) + 1))))).f0, (rd_T25 x0_1 (wrap64 (a3 + (wrap64 ((wrap64 ((wrap64 (2 * x10_1)) + 1)) + 1))))).f1⟩ : S25)).set ((wrap64 (a3 + (wrap64 ((wrap64 ((wrap64 (2 * x10_1)) + 1)) + 1)))) : Int).toNat (⟨(rd_T25 x0_1 (ji21)).f0, (rd_T25 x0_1 (ji21)).f1⟩ : S25)) a2 a3 (wrap64 ((wrap64 ((wrap64 (2 * x10_1)) + 1)) + 1))) else (some x0_1))) else (none)) else (none)) else (none)) else (none)) = some r := by first | (rw [hji21] at H; exact H) | (simp only [hji21] at H ⊢; exact H)); have hji21w : (IntKind.i64.wrap (a3 + x10_1)) = ji21 := (i64_w _).trans hji21
       by_cases c22 : 0 ≤ (ji21)
       ·rw [if_pos c22] at H
        have c22b0 : decide (0 ≤ (ji21)) = true := decide_eq_true c22; clear c22
        by_cases c23 : (ji21) < (x0_1.length : Int)
        ·rw [if_pos c23] at H
         have c23b0 : decide ((ji21) < (x0_1.length : Int)) = true := decide_eq_true c23; clear c23; obtain ⟨ji24, hji24⟩ : ∃ j_ : Int, (wrap64 (a3 + (wrap64 ((wrap64 ((wrap64 (2 * x10_1)) + 1)) + 1)))) = j_ := ⟨_, rfl⟩; (replace H : (if 0 ≤ (ji24) then (if (ji24) < (x0_1.length : Int) then ((runs_order_compare.f false ((rd_T25 x0_1 (ji21)).f0) ((rd_T25 x0_1 (ji21)).f1) ((rd_T25 x0_1 (ji24)).f0) ((rd_T25 x0_1 (ji24)).f1)).bind fun t120 => (if t120 < 0 then (api_Run_74.l0 kj6 ((x0_1.set ((ji21) : Int).toNat (⟨(rd_T25 x0_1 (ji24)).f0, (rd_T25 x0_1 (ji24)).f1⟩ : S25)).set ((ji24) : Int).toNat (⟨(rd_T25 x0_1 (ji21)).f0, (rd_T25 x0_1 (ji21)).f1⟩ : S25)) a2 a3 (wrap64 ((wrap64 ((wrap64 (2 * x10_1)) + 1)) + 1))) else (some x0_1))) else (none)) else (none)) = some r := by first | (rw [hji24] at H; exact H) | (simp only [hji24] at H ⊢; exact H)); have hji24w : (IntKind.i64.wrap (a3 + (wrap64 ((wrap64 ((wrap64 (2 * x10_1)) + 1)) + 1)))) = ji24 := (i64_w _).trans hji24
         by_cases c25 : 0 ≤ (ji24)
         ·rw [if_pos c25] at H
          have c25b0 : decide (0 ≤ (ji24)) = true := decide_eq_true c25; clear c25
          by_cases c26 : (ji24) < (x0_1.length : Int)
          ·rw [if_pos c26] at H
           have c26b0 : decide ((ji24) < (x0_1.length : Int)) = true := decide_eq_true c26; clear c26; replace H := Option.bind_eq_some_iff.mp H; obtain ⟨t120, A270, H⟩ := H; replace H : (if t120 < 0 then (api_Run_74.l0 kj6 ((x0_1.set ((ji21) : Int).toNat (⟨(rd_T25 x0_1 (ji24)).f0, (rd_T25 x0_1 (ji24)).f1⟩ : S25)).set ((ji24) : Int).toNat (⟨(rd_T25 x0_1 (ji21)).f0, (rd_T25 x0_1 (ji21)).f1⟩ : S25)) a2 a3 (wrap64 ((wrap64 ((wrap64 (2 * x10_1)) + 1)) + 1))) else (some x0_1)) = some r := H; have A27 := Aside0.mk A270; clear A270
           by_cases c28 : t120 < 0
           ·rw [if_pos c28] at H
            have c28b0 : decide (t120 < 0) = true := decide_eq_true c28; clear c28; obtain ⟨y123, hy123⟩ : ∃ y_ : List (S25), y_ = (x0_1.set ((ji21) : Int).toNat (⟨(rd_T25 x0_1 (ji24)).f0, (rd_T25 x0_1 (ji24)).f1⟩ : S25)) := ⟨_, rfl⟩; (replace H : (api_Run_74.l0 kj6 (y123.set ((ji24) : Int).toNat (⟨(rd_T25 x0_1 (ji21)).f0, (rd_T25 x0_1 (ji21)).f1⟩ : S25)) a2 a3 (wrap64 ((wrap64 ((wrap64 (2 * x10_1)) + 1)) + 1))) = some r := by first | (rw [hy123]; with_reducible exact H) | (have H2_ := (Option.bind_some _ _).symm.trans H; rw [hy123]; with_reducible exact H2_) | (have H2_ := (Option.bind_some _ _).symm.trans H; with_reducible exact H2_) | with_reducible exact H | (rw [hy123]; exact H) | exact H); have Ny123 := Aside0.mk hy123; clear hy123; obtain ⟨y124, hy124⟩ : ∃ y_ : List (S25), y_ = (y123.set ((ji24) : Int).toNat (⟨(rd_T25 x0_1 (ji21)).f0, (rd_T25 x0_1 (ji21)).f1⟩ : S25)) := ⟨_, rfl⟩; (replace H : (api_Run_74.l0 kj6 y124 a2 a3 (wrap64 ((wrap64 ((wrap64 (2 * x10_1)) + 1)) + 1))) = some r := by first | (rw [hy124]; with_reducible exact H) | (have H2_ := (Option.bind_some _ _).symm.trans H; rw [hy124]; with_reducible exact H2_) | (have H2_ := (Option.bind_some _ _).symm.trans H; with_reducible exact H2_) | with_reducible exact H | (rw [hy124]; exact H) | exact H); have Ny124 := Aside0.mk hy124; clear hy124; have H' := Aside0.mk H; clear H; (try go_wp2); replace HO_0 := Aside0.mk (Kd.R_drew HO_0.out); replace HK := Aside0.mk (Kept.drew HK.out); replace HB := Aside0.mk (below_drew1 HB.out); obtain ⟨Ao32, co32, eo32⟩ := Kd.R_slice HO_0.out; (first | subst eo32 | (injection eo32 with f1_ f2_ f3_; have f4_ := f1_.symm; have f5_ := f3_.symm; clear f1_ f2_ f3_; subst f4_; subst f5_)); have p118 : 0 ≤ ((ji21) : Int) := od_; have q118 : (ji21) < (x0_1.length : Int) := od_; obtain ⟨ad118, e118, hx118_0, hx118_1⟩ := at_T25 (Kd.R_reads' HO_0.out).2.2 (ji21) p118 q118
            cases e118
            replace p118 := eq_true p118; replace q118 := eq_true q118; have p119 : 0 ≤ ((ji24) : Int) := od_; have q119 : (ji24) < (x0_1.length : Int) := od_; obtain ⟨ad119, e119, hx119_0, hx119_1⟩ := at_T25 (Kd.R_reads' HO_0.out).2.2 (ji24) p119 q119; obtain rfl : ad118 = ad119 := (by injection e119); replace p119 := eq_true p119; replace q119 := eq_true q119; refine start_ (n := 16) (S := fun w' => w'.cell? (ad118.add (((ji21)).toNat * 2)) = some (.int .i64 ((rd_T25 x0_1 (ji21)).f0)) ∧ w'.cell? ⟨(ad118.add (((ji21)).toNat * 2)).block, (ad118.add (((ji21)).toNat * 2)).off + 1, none⟩ = some (.int .i64 ((rd_T25 x0_1 (ji21)).f1)) ∧ w'.cell? (ad118.add (((ji24)).toNat * 2)) = some (.int .i64 ((rd_T25 x0_1 (ji24)).f0)) ∧ w'.cell? ⟨(ad118.add (((ji24)).toNat * 2)).block, (ad118.add (((ji24)).toNat * 2)).off + 1, none⟩ = some (.int .i64 ((rd_T25 x0_1 (ji24)).f1))) (ds := []) (ab 16 0) (by kernel_rfl) rfl rfl ⟨hx118_0, hx118_1, hx119_0, hx119_1⟩ (fun hHeld => ?_); refine with_tabW api_Run_74.tab5 api_Run_74.bits5 (fun HT_ HW_ => ?_); generalize wc.drew = w31 at HO_0 HK HB hx118_0 hx118_1 hx119_0 hx119_1 hHeld ⊢; refine pA 0 43 16 1 ?_; refine pA 1 44 16 3 ?_; refine pA 2 45 16 7 ?_; refine pA 3 46 16 15 ?_; refine pA 4 47 16 31 ?_; refine pA 5 48 16 63 ?_; refine pA 7 50 16 191 ?_; refine pA 8 51 16 447 ?_; refine pA 9 52 16 959 ?_; refine pA 10 53 16 1983 ?_; refine pA 11 54 16 4031 ?_; refine tA 6 49 16 4095 ?_; refine tA 12 55 16 8191 ?_; refine one_ (i := 13) (N := some 56) (ab 16 16383) rfl rfl (one_of HT_.out (by kernel_rfl)) (by decide) (fun K hK => ?_); refine goesV_ #[.agg #[.bool false]] Try.func48 (by kernel_rfl) rfl #[.agg #[.bool false], .agg #[.int .i64 ((rd_T25 x0_1 (ji21)).f0), .int .i64 ((rd_T25 x0_1 (ji21)).f1)], .agg #[.int .i64 ((rd_T25 x0_1 (ji24)).f0), .int .i64 ((rd_T25 x0_1 (ji24)).f1)]] (by rfl) rfl rfl rfl (by (try simp only [List.map_toArray, List.map_cons, List.map_nil]); first | done | (simp only [hji21, hji24]; rfl) | rfl | (simp only [List.length_drop, List.length_take]; rfl)) ?_; refine (runs_order_compare.calls false ((rd_T25 x0_1 (ji21)).f0) ((rd_T25 x0_1 (ji21)).f1) ((rd_T25 x0_1 (ji24)).f0) ((rd_T25 x0_1 (ji24)).f1) t120 _ A27.out).mono ?_; rintro e w33 ⟨rfl, hb⟩; have HS0_ := (hb.cell (World.block_lt_of_cell? _ _ (hHeld.1))).trans (hHeld.1); have HS1_ := (hb.cell (World.block_lt_of_cell? _ _ (hHeld.2.1))).trans (hHeld.2.1); have HS2_ := (hb.cell (World.block_lt_of_cell? _ _ (hHeld.2.2.1))).trans (hHeld.2.2.1); have HS3_ := (hb.cell (World.block_lt_of_cell? _ _ (hHeld.2.2.2))).trans (hHeld.2.2.2); refine ⟨_, rfl, ?_⟩; replace HO_0 := Aside0.mk (Kd.R_below h0_ hb); replace HK := Aside0.mk (Kept.below (S := (fun k_ => P0_ k_)) hk_ hb); replace HB := Aside0.mk (below_step hb_ hb); (try clear hb); (try clear hb2); (try clear hk); (try clear hi); refine hK.out _ _ ⟨HS0_, HS1_, HS2_, HS3_⟩ (fun hHeld => ?_); clear hK K; refine nA ?_; refine pA 14 57 16 32767 ?_; refine pA 15 58 16 65535 ?_; refine done_ (done_of HT_.out (by kernel_rfl)) ?_; (try go_wp2); replace HO_0 := Aside0.mk (Kd.R_drew HO_0.out); replace HK := Aside0.mk (Kept.drew HK.out); replace HB := Aside0.mk (below_drew1 HB.out); have p121 : 0 ≤ ((ji24) : Int) := od_; have q121 : (ji24) < (x0_1.length : Int) := od_; obtain ⟨ad121, e121, hx121_0, hx121_1⟩ := at_T25 (Kd.R_reads' HO_0.out).2.2 (ji24) p121 q121; obtain rfl : ad118 = ad121 := (by injection e121); replace p121 := eq_true p121; replace q121 := eq_true q121; have p122 : 0 ≤ ((ji21) : Int) := od_; have q122 : (ji21) < (x0_1.length : Int) := od_; obtain ⟨ad122, e122, hx122_0, hx122_1⟩ := at_T25 (Kd.R_reads' HO_0.out).2.2 (ji21) p122 q122; obtain rfl : ad118 = ad122 := (by injection e122); replace p122 := eq_true p122; replace q122 := eq_true q122; have p29 : 0 ≤ ((ji21) : Int) := od_; have q29 : ((ji21) : Int) < ((x0_1.length : Int) : Int) := od_; obtain ⟨go29, co29, eo29, gb29, gl29, cl29, HG29⟩ := Kd.R_form HO_0.out (by omega); (first | cases eo29 | (injection eo29 with ea_ en_ ec_; (first | subst ea_ | (injection ea_ with ea_; subst ea_)); subst ec_; clear en_))
            have GB29 := Aside0.mk gb29; have GG29 := Aside0.mk HG29; clear gb29 gl29 HG29; have HMgo29 := Aside0.mk (show (P0_ go29 ∨ w.heap.size ≤ go29) from (HO_0.out.1 _ rfl)); (first | simp only [add_plain] at hx118_0 | skip); (first | simp only [add_plain] at hx118_1 | skip); (first | simp only [add_plain] at hx119_0 | skip); (first | simp only [add_plain] at hx119_1 | skip); (first | simp only [add_plain] at hx121_0 | skip); (first | simp only [add_plain] at hx121_1 | skip); (first | simp only [add_plain] at hx122_0 | skip); (first | simp only [add_plain] at hx122_1 | skip); obtain ⟨ce29, hcl29, hM29, hcc29, hfr29⟩ := Kd.R_elem HO_0.out z25 ((ji21) : Int) p29 q29; obtain rfl := k25_openM hM29; have hx29_0 : World.cell? _ ⟨go29, ((ji21) : Int).toNat * 2, none⟩ = some (.int .i64 ((rd_T25 x0_1 (ji21)).f0)) := hcc29 0 _ rfl; have hx29_1 : World.cell? _ ⟨go29, ((ji21) : Int).toNat * 2 + 1, none⟩ = some (.int .i64 ((rd_T25 x0_1 (ji21)).f1)) := hcc29 1 _ rfl; have hf29_0 : World.frozen? _ ⟨go29, ((ji21) : Int).toNat * 2, none⟩ = false := hfr29 0; have hf29_1 : World.frozen? _ ⟨go29, ((ji21) : Int).toNat * 2 + 1, none⟩ = false := hfr29 1; clear hcl29 hcc29 hfr29 hM29; replace p29 := eq_true p29; replace q29 := eq_true q29; obtain ⟨ce35, hcl35, hM35, hcc35, hfr35⟩ := Kd.R_elem HO_0.out z25 ((ji21) : Int) od_ (by have h_ : ((ji21) : Int) < ((x0_1.length : Int) : Int) := od_; first | exact h_ | (have e_ := (Kd.R_reads' HO_0.out).1; omega) | simpa using h_); obtain rfl := k25_openM hM35; have HP35 := (Kd.R_seg HO_0.out ((ji21) : Int) od_ (by have h_ : ((ji21) : Int) < ((x0_1.length : Int) : Int) := od_; first | exact h_ | (have e_ := (Kd.R_reads' HO_0.out).1; omega) | simpa using h_) (seg := [.int .i64 ((rd_T25 x0_1 (ji24)).f0), .int .i64 ((rd_T25 x0_1 (ji24)).f1)]) (j := 0) hcl35 hcc35 (show 2 ≤ 2 from by decide) (x' := (⟨(rd_T25 x0_1 (ji24)).f0, (rd_T25 x0_1 (ji24)).f1⟩ : S25)) (k25_mkM _ _ _ (⟨(rd_T25 x0_1 (ji24)).f0, (rd_T25 x0_1 (ji24)).f1⟩ : S25) ) (fun _ hk => hk)).1; rw [← Ny123.out] at HP35; have HQ35 := Aside0.mk HP35; clear hcl35 hcc35 hfr35 hM35 HP35; have p30 : 0 ≤ ((ji24) : Int) := od_; have q30 : ((ji24) : Int) < ((x0_1.length : Int) : Int) := od_; obtain ⟨ce30, hcl30, hM30, hcc30, hfr30⟩ := Kd.R_elem HQ35.out z25 ((ji24) : Int) p30 q30; obtain rfl := k25_openM hM30; have hx30_0 : World.cell? _ ⟨go29, ((ji24) : Int).toNat * 2, none⟩ = some (.int .i64 ((rd_T25 y123 (ji24)).f0)) := hcc30 0 _ rfl; have hx30_1 : World.cell? _ ⟨go29, ((ji24) : Int).toNat * 2 + 1, none⟩ = some (.int .i64 ((rd_T25 y123 (ji24)).f1)) := hcc30 1 _ rfl; have hf30_0 : World.frozen? _ ⟨go29, ((ji24) : Int).toNat * 2, none⟩ = false := hfr30 0; have hf30_1 : World.frozen? _ ⟨go29, ((ji24) : Int).toNat * 2 + 1, none⟩ = false := hfr30 1; clear hcl30 hcc30 hfr30 hM30; replace p30 := eq_true p30; replace q30 := eq_true q30; obtain ⟨ce36, hcl36, hM36, hcc36, hfr36⟩ := Kd.R_elem HQ35.out z25 ((ji24) : Int) od_ (by have h_ : ((ji24) : Int) < ((x0_1.length : Int) : Int) := od_; first | exact h_ | (have e_ := (Kd.R_reads' HO_0.out).1; omega) | simpa using h_); obtain rfl := k25_openM hM36; have HP36 := (Kd.R_seg HQ35.out ((ji24) : Int) od_ (by have h_ : ((ji24) : Int) < ((x0_1.length : Int) : Int) := od_; first | exact h_ | (have e_ := (Kd.R_reads' HO_0.out).1; omega) | simpa using h_) (seg := [.int .i64 ((rd_T25 x0_1 (ji21)).f0), .int .i64 ((rd_T25 x0_1 (ji21)).f1)]) (j := 0) hcl36 hcc36 (show 2 ≤ 2 from by decide) (x' := (⟨(rd_T25 x0_1 (ji21)).f0, (rd_T25 x0_1 (ji21)).f1⟩ : S25)) (k25_mkM _ _ _ (⟨(rd_T25 x0_1 (ji21)).f0, (rd_T25 x0_1 (ji21)).f1⟩ : S25) ) (fun _ hk => hk)).1; rw [← Ny124.out] at HP36; have HQ36 := Aside0.mk HP36; clear hcl36 hcc36 hfr36 hM36 HP36; refine start_ (n := 24) (S := fun w' => w'.cell? ⟨go29, (((ji24)).toNat * 2), none⟩ = some (.int .i64 ((rd_T25 x0_1 (ji24)).f0)) ∧ w'.cell? ⟨go29, (((ji24)).toNat * 2) + 1, none⟩ = some (.int .i64 ((rd_T25 x0_1 (ji24)).f1)) ∧ w'.cell? ⟨go29, (((ji21)).toNat * 2), none⟩ = some (.int .i64 ((rd_T25 x0_1 (ji21)).f0)) ∧ w'.cell? ⟨go29, (((ji21)).toNat * 2) + 1, none⟩ = some (.int .i64 ((rd_T25 x0_1 (ji21)).f1))) (ds := [21, 23]) (ab 24 0) (by kernel_rfl) rfl rfl ⟨hx121_0, hx121_1, hx122_0, hx122_1⟩ (fun hHeld => ?_); refine with_tabW api_Run_74.tab6 api_Run_74.bits6 (fun HT_ HW_ => ?_)
            generalize w33.drew = w34 at HO_0 HK HB GG29 HQ35 HQ36 hf29_0 hf29_1 hf30_0 hf30_1 hx118_0 hx118_1 hx119_0 hx119_1 hx121_0 hx121_1 hx122_0 hx122_1 hx29_0 hx29_1 hx30_0 hx30_1 hHeld ⊢; (try (simp only [World.setCells, Nat.add_zero, show (k25).sz = 2 from rfl] at hx30_0; try simp [go_sem] at hx30_0)); (try (simp only [World.setCells, Nat.add_zero, show (k25).sz = 2 from rfl] at hf30_0; try simp [go_sem] at hf30_0)); (try (simp only [World.setCells, Nat.add_zero, show (k25).sz = 2 from rfl] at hx30_1; try simp [go_sem] at hx30_1)); (try (simp only [World.setCells, Nat.add_zero, show (k25).sz = 2 from rfl] at hf30_1; try simp [go_sem] at hf30_1)); refine pA 0 59 24 1 ?_; refine pA 1 60 24 3 ?_; refine pA 2 61 24 7 ?_; refine pA 3 62 24 15 ?_; refine pA 4 63 24 31 ?_; refine pA 5 64 24 63 ?_; refine pA 6 65 24 127 ?_; refine pA 7 66 24 255 ?_; refine pA 8 67 24 511 ?_; refine pA 9 68 24 1023 ?_; refine pA 10 69 24 2047 ?_; refine pA 11 70 24 4095 ?_; refine pA 12 71 24 8191 ?_; refine pA 14 73 24 24575 ?_; refine pA 15 74 24 57343 ?_; refine pA 16 75 24 122879 ?_; refine pA 17 76 24 253951 ?_; refine pA 18 77 24 516095 ?_; refine tA 13 72 24 524287 ?_; refine tA 19 78 24 1048575 ?_; refine pA 20 79 24 2097151 ?_; refine last_ (i := 21) (N := none) (ab 24 4194303) rfl rfl (one_of HT_.out (by kernel_rfl)) (by decide) (fun K hK => ?_); refine sA ?_; refine hK.out _ _ ?_; clear hK K; refine pA 22 80 24 8388607 ?_; refine last_ (i := 23) (N := none) (ab 24 16777215) rfl rfl (one_of HT_.out (by kernel_rfl)) (by decide) (fun K hK => ?_); refine sA ?_; refine hK.out _ _ ?_; clear hK K; refine done_ (done_of HT_.out (by kernel_rfl)) ?_; (try go_wp2); go_roundg kj6
            case measure => have := HK1.out; have := HJ6.out; omega
            case rel => exact ⟨(y124), (wrap64 ((wrap64 ((wrap64 (2 * x10_1)) + 1)) + 1)), rf_, H', ⟨by have := HK1.out; have := HJ6.out; omega⟩, ⟨by (with_reducible repeat (first | apply Kd.R_alloc | apply Kd.R_drewN | apply Kd.R_drew)); exact HQ36.out⟩, ⟨by repeat (first | (with_reducible first | exact HK.out | apply Kept.alloc | apply Kept.drewN | apply Kept.drew | refine Kept.setCell ?_ HMgo29.out _ | refine Kept.setCell ?_ HMgo29.out _ | refine Kept.setCell ?_ HMgo29.out _ | refine Kept.setCell ?_ HMgo29.out _) | exact HK.out)⟩, ⟨by repeat (first | (with_reducible first | exact HB.out | apply below_alloc | apply pw_below_drewN | apply below_drew1 | refine below_set ?_ GB29.out | refine below_set ?_ GB29.out | refine below_set ?_ GB29.out | refine below_set ?_ GB29.out) | exact HB.out)⟩⟩
           ·rw [if_neg c28] at H
            have c28b0 : decide (t120 < 0) = false := decide_eq_false c28; clear c28; obtain rfl := Option.some.inj H; (try go_wp2); replace HO_0 := Aside0.mk (Kd.R_drew HO_0.out); replace HK := Aside0.mk (Kept.drew HK.out); replace HB := Aside0.mk (below_drew1 HB.out); obtain ⟨Ao38, co38, eo38⟩ := Kd.R_slice HO_0.out; (first | subst eo38 | (injection eo38 with f1_ f2_ f3_; have f4_ := f1_.symm; have f5_ := f3_.symm; clear f1_ f2_ f3_; subst f4_; subst f5_)); have p118 : 0 ≤ ((ji21) : Int) := od_; have q118 : (ji21) < (x0_1.length : Int) := od_; obtain ⟨ad118, e118, hx118_0, hx118_1⟩ := at_T25 (Kd.R_reads' HO_0.out).2.2 (ji21) p118 q118
            cases e118
            replace p118 := eq_true p118; replace q118 := eq_true q118; have p119 : 0 ≤ ((ji24) : Int) := od_; have q119 : (ji24) < (x0_1.length : Int) := od_; obtain ⟨ad119, e119, hx119_0, hx119_1⟩ := at_T25 (Kd.R_reads' HO_0.out).2.2 (ji24) p119 q119; obtain rfl : ad118 = ad119 := (by injection e119); replace p119 := eq_true p119; replace q119 := eq_true q119; refine start_ (n := 16) (S := fun w' => w'.cell? (ad118.add (((ji21)).toNat * 2)) = some (.int .i64 ((rd_T25 x0_1 (ji21)).f0)) ∧ w'.cell? ⟨(ad118.add (((ji21)).toNat * 2)).block, (ad118.add (((ji21)).toNat * 2)).off + 1, none⟩ = some (.int .i64 ((rd_T25 x0_1 (ji21)).f1)) ∧ w'.cell? (ad118.add (((ji24)).toNat * 2)) = some (.int .i64 ((rd_T25 x0_1 (ji24)).f0)) ∧ w'.cell? ⟨(ad118.add (((ji24)).toNat * 2)).block, (ad118.add (((ji24)).toNat * 2)).off + 1, none⟩ = some (.int .i64 ((rd_T25 x0_1 (ji24)).f1))) (ds := []) (ab 16 0) (by kernel_rfl) rfl rfl ⟨hx118_0, hx118_1, hx119_0, hx119_1⟩ (fun hHeld => ?_); refine with_tabW api_Run_74.tab5 api_Run_74.bits5 (fun HT_ HW_ => ?_); generalize wc.drew = w37 at HO_0 HK HB hx118_0 hx118_1 hx119_0 hx119_1 hHeld ⊢; refine pA 0 43 16 1 ?_; refine pA 1 44 16 3 ?_; refine pA 2 45 16 7 ?_; refine pA 3 46 16 15 ?_; refine pA 4 47 16 31 ?_; refine pA 5 48 16 63 ?_; refine pA 7 50 16 191 ?_; refine pA 8 51 16 447 ?_; refine pA 9 52 16 959 ?_; refine pA 10 53 16 1983 ?_; refine pA 11 54 16 4031 ?_; refine tA 6 49 16 4095 ?_; refine tA 12 55 16 8191 ?_; refine one_ (i := 13) (N := some 56) (ab 16 16383) rfl rfl (one_of HT_.out (by kernel_rfl)) (by decide) (fun K hK => ?_); refine goesV_ #[.agg #[.bool false]] Try.func48 (by kernel_rfl) rfl #[.agg #[.bool false], .agg #[.int .i64 ((rd_T25 x0_1 (ji21)).f0), .int .i64 ((rd_T25 x0_1 (ji21)).f1)], .agg #[.int .i64 ((rd_T25 x0_1 (ji24)).f0), .int .i64 ((rd_T25 x0_1 (ji24)).f1)]] (by rfl) rfl rfl rfl (by (try simp only [List.map_toArray, List.map_cons, List.map_nil]); first | done | (simp only [hji21, hji24]; rfl) | rfl | (simp only [List.length_drop, List.length_take]; rfl)) ?_; refine (runs_order_compare.calls false ((rd_T25 x0_1 (ji21)).f0) ((rd_T25 x0_1 (ji21)).f1) ((rd_T25 x0_1 (ji24)).f0) ((rd_T25 x0_1 (ji24)).f1) t120 _ A27.out).mono ?_; rintro e w39 ⟨rfl, hb⟩; have HS0_ := (hb.cell (World.block_lt_of_cell? _ _ (hHeld.1))).trans (hHeld.1); have HS1_ := (hb.cell (World.block_lt_of_cell? _ _ (hHeld.2.1))).trans (hHeld.2.1); have HS2_ := (hb.cell (World.block_lt_of_cell? _ _ (hHeld.2.2.1))).trans (hHeld.2.2.1); have HS3_ := (hb.cell (World.block_lt_of_cell? _ _ (hHeld.2.2.2))).trans (hHeld.2.2.2); refine ⟨_, rfl, ?_⟩; replace HO_0 := Aside0.mk (Kd.R_below h0_ hb); replace HK := Aside0.mk (Kept.below (S := (fun k_ => P0_ k_)) hk_ hb); replace HB := Aside0.mk (below_step hb_ hb); (try clear hb); (try clear hb2); (try clear hk); (try clear hi); refine hK.out _ _ ⟨HS0_, HS1_, HS2_, HS3_⟩ (fun hHeld => ?_); clear hK K; refine nA ?_; refine pA 14 57 16 32767 ?_; refine pA 15 58 16 65535 ?_; refine done_ (done_of HT_.out (by kernel_rfl)) ?_; (try go_wp2)
            first | go_end0 | ((try simp only [Exit.inBlock, Exit.then]); refine bodyPost_ret (results_none rfl _ _ _) rfl ?_)
            exact ⟨by first | rfl | (simp [errW_none, errW_some] <;> rfl) | (simp only [← hji21, ← hji24]; first | rfl | (simp [errW_none, errW_some] <;> rfl)) | (simp [*, errW_none, errW_some] <;> rfl), h0_, hb_, hk_⟩
          ·rw [if_neg c26] at H
           exact absurd H (by simp)
         ·rw [if_neg c25] at H
          exact absurd H (by simp)
        ·rw [if_neg c23] at H
         exact absurd H (by simp)
       ·rw [if_neg c22] at H
        exact absurd H (by simp)
      ·replace c20 := Bool.eq_false_iff.mpr c20
       subst c20; (have H1 : (if 0 ≤ (wrap64 (a3 + x10_1)) then (if (wrap64 (a3 + x10_1)) < (x0_1.length : Int) then (if 0 ≤ (wrap64 (a3 + (wrap64 ((wrap64 (2 * x10_1)) + 1)))) then (if (wrap64 (a3 + (wrap64 ((wrap64 (2 * x10_1)) + 1)))) < (x0_1.length : Int) then ((runs_order_compare.f false ((rd_T25 x0_1 (wrap64 (a3 + x10_1))).f0) ((rd_T25 x0_1 (wrap64 (a3 + x10_1))).f1) ((rd_T25 x0_1 (wrap64 (a3 + (wrap64 ((wrap64 (2 * x10_1)) + 1))))).f0) ((rd_T25 x0_1 (wrap64 (a3 + (wrap64 ((wrap64 (2 * x10_1)) + 1))))).f1)).bind fun t127 => (if t127 < 0 then (api_Run_74.l0 kj6 ((x0_1.set ((wrap64 (a3 + x10_1)) : Int).toNat (⟨(rd_T25 x0_1 (wrap64 (a3 + (wrap64 ((wrap64 (2 * x10_1)) + 1))))).f0, (rd_T25 x0_1 (wrap64 (a3 + (wrap64 ((wrap64 (2 * x10_1)) + 1))))).f1⟩ : S25)).set ((wrap64 (a3 + (wrap64 ((wrap64 (2 * x10_1)) + 1)))) : Int).toNat (⟨(rd_T25 x0_1 (wrap64 (a3 + x10_1))).f0, (rd_T25 x0_1 (wrap64 (a3 + x10_1))).f1⟩ : S25)) a2 a3 (wrap64 ((wrap64 (2 * x10_1)) + 1))) else (some x0_1))) else (none)) else (none)) else (none)) else (none)) = some r := by rw [if_neg (show ¬ (false = true) by decide)] at H; exact H); clear H; have H := H1; clear H1; obtain ⟨ji40, hji40⟩ : ∃ j_ : Int, (wrap64 (a3 + x10_1)) = j_ := ⟨_, rfl⟩; (replace H : (if 0 ≤ (ji40) then (if (ji40) < (x0_1.length : Int) then (if 0 ≤ (wrap64 (a3 + (wrap64 ((wrap64 (2 * x10_1)) + 1)))) then (if (wrap64 (a3 + (wrap64 ((wrap64 (2 * x10_1)) + 1)))) < (x0_1.length : Int) then ((runs_order_compare.f false ((rd_T25 x0_1 (ji40)).f0) ((rd_T25 x0_1 (ji40)).f1) ((rd_T25 x0_1 (wrap64 (a3 + (wrap64 ((wrap64 (2 * x10_1)) + 1))))).f0) ((rd_T25 x0_1 (wrap64 (a3 + (wrap64 ((wrap64 (2 * x10_1)) + 1))))).f1)).bind fun t127 => (if t127 < 0 then (api_Run_74.l0 kj6 ((x0_1.set ((ji40) : Int).toNat (⟨(rd_T25 x0_1 (wrap64 (a3 + (wrap64 ((wrap64 (2 * x10_1)) + 1))))).f0, (rd_T25 x0_1 (wrap64 (a3 + (wrap64 ((wrap64 (2 * x10_1)) + 1))))).f1⟩ : S25)).set ((wrap64 (a3 + (wrap64 ((wrap64 (2 * x10_1)) + 1)))) : Int).toNat (⟨(rd_T25 x0_1 (ji40)).f0, (rd_T25 x0_1 (ji40)).f1⟩ : S25)) a2 a3 (wrap64 ((wrap64 (2 * x10_1)) + 1))) else (some x0_1))) else (none)) else (none)) else (none)) else (none)) = some r := by first | (rw [hji40] at H; exact H) | (simp only [hji40] at H ⊢; exact H)); have hji40w : (IntKind.i64.wrap (a3 + x10_1)) = ji40 := (i64_w _).trans hji40
       by_cases c41 : 0 ≤ (ji40)
       ·rw [if_pos c41] at H
        have c41b0 : decide (0 ≤ (ji40)) = true := decide_eq_true c41; clear c41
        by_cases c42 : (ji40) < (x0_1.length : Int)
        ·rw [if_pos c42] at H
         have c42b0 : decide ((ji40) < (x0_1.length : Int)) = true := decide_eq_true c42; clear c42; obtain ⟨ji43, hji43⟩ : ∃ j_ : Int, (wrap64 (a3 + (wrap64 ((wrap64 (2 * x10_1)) + 1)))) = j_ := ⟨_, rfl⟩; (replace H : (if 0 ≤ (ji43) then (if (ji43) < (x0_1.length : Int) then ((runs_order_compare.f false ((rd_T25 x0_1 (ji40)).f0) ((rd_T25 x0_1 (ji40)).f1) ((rd_T25 x0_1 (ji43)).f0) ((rd_T25 x0_1 (ji43)).f1)).bind fun t127 => (if t127 < 0 then (api_Run_74.l0 kj6 ((x0_1.set ((ji40) : Int).toNat (⟨(rd_T25 x0_1 (ji43)).f0, (rd_T25 x0_1 (ji43)).f1⟩ : S25)).set ((ji43) : Int).toNat (⟨(rd_T25 x0_1 (ji40)).f0, (rd_T25 x0_1 (ji40)).f1⟩ : S25)) a2 a3 (wrap64 ((wrap64 (2 * x10_1)) + 1))) else (some x0_1))) else (none)) else (none)) = some r := by first | (rw [hji43] at H; exact H) | (simp only [hji43] at H ⊢; exact H)); have hji43w : (IntKind.i64.wrap (a3 + (wrap64 ((wrap64 (2 * x10_1)) + 1)))) = ji43 := (i64_w _).trans hji43
         by_cases c44 : 0 ≤ (ji43)
         ·rw [if_pos c44] at H
          have c44b0 : decide (0 ≤ (ji43)) = true := decide_eq_true c44; clear c44
          by_cases c45 : (ji43) < (x0_1.length : Int)
          ·rw [if_pos c45] at H
           have c45b0 : decide ((ji43) < (x0_1.length : Int)) = true := decide_eq_true c45; clear c45; replace H := Option.bind_eq_some_iff.mp H; obtain ⟨t127, A460, H⟩ := H; replace H : (if t127 < 0 then (api_Run_74.l0 kj6 ((x0_1.set ((ji40) : Int).toNat (⟨(rd_T25 x0_1 (ji43)).f0, (rd_T25 x0_1 (ji43)).f1⟩ : S25)).set ((ji43) : Int).toNat (⟨(rd_T25 x0_1 (ji40)).f0, (rd_T25 x0_1 (ji40)).f1⟩ : S25)) a2 a3 (wrap64 ((wrap64 (2 * x10_1)) + 1))) else (some x0_1)) = some r := H; have A46 := Aside0.mk A460; clear A460
           by_cases c47 : t127 < 0
           ·rw [if_pos c47] at H
            have c47b0 : decide (t127 < 0) = true := decide_eq_true c47; clear c47; obtain ⟨y130, hy130⟩ : ∃ y_ : List (S25), y_ = (x0_1.set ((ji40) : Int).toNat (⟨(rd_T25 x0_1 (ji43)).f0, (rd_T25 x0_1 (ji43)).f1⟩ : S25)) := ⟨_, rfl⟩; (replace H : (api_Run_74.l0 kj6 (y130.set ((ji43) : Int).toNat (⟨(rd_T25 x0_1 (ji40)).f0, (rd_T25 x0_1 (ji40)).f1⟩ : S25)) a2 a3 (wrap64 ((wrap64 (2 * x10_1)) + 1))) = some r := by first | (rw [hy130]; with_reducible exact H) | (have H2_ := (Option.bind_some _ _).symm.trans H; rw [hy130]; with_reducible exact H2_) | (have H2_ := (Option.bind_some _ _).symm.trans H; with_reducible exact H2_) | with_reducible exact H | (rw [hy130]; exact H) | exact H); have Ny130 := Aside0.mk hy130; clear hy130; obtain ⟨y131, hy131⟩ : ∃ y_ : List (S25), y_ = (y130.set ((ji43) : Int).toNat (⟨(rd_T25 x0_1 (ji40)).f0, (rd_T25 x0_1 (ji40)).f1⟩ : S25)) := ⟨_, rfl⟩; (replace H : (api_Run_74.l0 kj6 y131 a2 a3 (wrap64 ((wrap64 (2 * x10_1)) + 1))) = some r := by first | (rw [hy131]; with_reducible exact H) | (have H2_ := (Option.bind_some _ _).symm.trans H; rw [hy131]; with_reducible exact H2_) | (have H2_ := (Option.bind_some _ _).symm.trans H; with_reducible exact H2_) | with_reducible exact H | (rw [hy131]; exact H) | exact H); have Ny131 := Aside0.mk hy131; clear hy131; have H' := Aside0.mk H; clear H; (try go_wp2); replace HO_0 := Aside0.mk (Kd.R_drew HO_0.out); replace HK := Aside0.mk (Kept.drew HK.out); replace HB := Aside0.mk (below_drew1 HB.out); obtain ⟨Ao51, co51, eo51⟩ := Kd.R_slice HO_0.out; (first | subst eo51 | (injection eo51 with f1_ f2_ f3_; have f4_ := f1_.symm; have f5_ := f3_.symm; clear f1_ f2_ f3_; subst f4_; subst f5_)); have p125 : 0 ≤ ((ji40) : Int) := od_; have q125 : (ji40) < (x0_1.length : Int) := od_; obtain ⟨ad125, e125, hx125_0, hx125_1⟩ := at_T25 (Kd.R_reads' HO_0.out).2.2 (ji40) p125 q125
            cases e125
            replace p125 := eq_true p125; replace q125 := eq_true q125; have p126 : 0 ≤ ((ji43) : Int) := od_; have q126 : (ji43) < (x0_1.length : Int) := od_; obtain ⟨ad126, e126, hx126_0, hx126_1⟩ := at_T25 (Kd.R_reads' HO_0.out).2.2 (ji43) p126 q126; obtain rfl : ad125 = ad126 := (by injection e126); replace p126 := eq_true p126; replace q126 := eq_true q126; refine start_ (n := 16) (S := fun w' => w'.cell? (ad125.add (((ji40)).toNat * 2)) = some (.int .i64 ((rd_T25 x0_1 (ji40)).f0)) ∧ w'.cell? ⟨(ad125.add (((ji40)).toNat * 2)).block, (ad125.add (((ji40)).toNat * 2)).off + 1, none⟩ = some (.int .i64 ((rd_T25 x0_1 (ji40)).f1)) ∧ w'.cell? (ad125.add (((ji43)).toNat * 2)) = some (.int .i64 ((rd_T25 x0_1 (ji43)).f0)) ∧ w'.cell? ⟨(ad125.add (((ji43)).toNat * 2)).block, (ad125.add (((ji43)).toNat * 2)).off + 1, none⟩ = some (.int .i64 ((rd_T25 x0_1 (ji43)).f1))) (ds := []) (ab 16 0) (by kernel_rfl) rfl rfl ⟨hx125_0, hx125_1, hx126_0, hx126_1⟩ (fun hHeld => ?_); refine with_tabW api_Run_74.tab5 api_Run_74.bits5 (fun HT_ HW_ => ?_); generalize wc.drew = w50 at HO_0 HK HB hx125_0 hx125_1 hx126_0 hx126_1 hHeld ⊢; refine pA 0 43 16 1 ?_; refine pA 1 44 16 3 ?_; refine pA 2 45 16 7 ?_; refine pA 3 46 16 15 ?_; refine pA 4 47 16 31 ?_; refine pA 5 48 16 63 ?_; refine pA 7 50 16 191 ?_; refine pA 8 51 16 447 ?_; refine pA 9 52 16 959 ?_; refine pA 10 53 16 1983 ?_; refine pA 11 54 16 4031 ?_; refine tA 6 49 16 4095 ?_; refine tA 12 55 16 8191 ?_; refine one_ (i := 13) (N := some 56) (ab 16 16383) rfl rfl (one_of HT_.out (by kernel_rfl)) (by decide) (fun K hK => ?_); refine goesV_ #[.agg #[.bool false]] Try.func48 (by kernel_rfl) rfl #[.agg #[.bool false], .agg #[.int .i64 ((rd_T25 x0_1 (ji40)).f0), .int .i64 ((rd_T25 x0_1 (ji40)).f1)], .agg #[.int .i64 ((rd_T25 x0_1 (ji43)).f0), .int .i64 ((rd_T25 x0_1 (ji43)).f1)]] (by rfl) rfl rfl rfl (by (try simp only [List.map_toArray, List.map_cons, List.map_nil]); first | done | (simp only [hji40, hji43]; rfl) | rfl | (simp only [List.length_drop, List.length_take]; rfl)) ?_; refine (runs_order_compare.calls false ((rd_T25 x0_1 (ji40)).f0) ((rd_T25 x0_1 (ji40)).f1) ((rd_T25 x0_1 (ji43)).f0) ((rd_T25 x0_1 (ji43)).f1) t127 _ A46.out).mono ?_; rintro e w52 ⟨rfl, hb⟩; have HS0_ := (hb.cell (World.block_lt_of_cell? _ _ (hHeld.1))).trans (hHeld.1); have HS1_ := (hb.cell (World.block_lt_of_cell? _ _ (hHeld.2.1))).trans (hHeld.2.1); have HS2_ := (hb.cell (World.block_lt_of_cell? _ _ (hHeld.2.2.1))).trans (hHeld.2.2.1); have HS3_ := (hb.cell (World.block_lt_of_cell? _ _ (hHeld.2.2.2))).trans (hHeld.2.2.2); refine ⟨_, rfl, ?_⟩; replace HO_0 := Aside0.mk (Kd.R_below h0_ hb); replace HK := Aside0.mk (Kept.below (S := (fun k_ => P0_ k_)) hk_ hb); replace HB := Aside0.mk (below_step hb_ hb); (try clear hb); (try clear hb2); (try clear hk); (try clear hi); refine hK.out _ _ ⟨HS0_, HS1_, HS2_, HS3_⟩ (fun hHeld => ?_); clear hK K; refine nA ?_; refine pA 14 57 16 32767 ?_; refine pA 15 58 16 65535 ?_; refine done_ (done_of HT_.out (by kernel_rfl)) ?_; (try go_wp2); replace HO_0 := Aside0.mk (Kd.R_drew HO_0.out); replace HK := Aside0.mk (Kept.drew HK.out); replace HB := Aside0.mk (below_drew1 HB.out); have p128 : 0 ≤ ((ji43) : Int) := od_; have q128 : (ji43) < (x0_1.length : Int) := od_; obtain ⟨ad128, e128, hx128_0, hx128_1⟩ := at_T25 (Kd.R_reads' HO_0.out).2.2 (ji43) p128 q128; obtain rfl : ad125 = ad128 := (by injection e128); replace p128 := eq_true p128; replace q128 := eq_true q128; have p129 : 0 ≤ ((ji40) : Int) := od_; have q129 : (ji40) < (x0_1.length : Int) := od_; obtain ⟨ad129, e129, hx129_0, hx129_1⟩ := at_T25 (Kd.R_reads' HO_0.out).2.2 (ji40) p129 q129; obtain rfl : ad125 = ad129 := (by injection e129); replace p129 := eq_true p129; replace q129 := eq_true q129; have p48 : 0 ≤ ((ji40) : Int) := od_; have q48 : ((ji40) : Int) < ((x0_1.length : Int) : Int) := od_; obtain ⟨go48, co48, eo48, gb48, gl48, cl48, HG48⟩ := Kd.R_form HO_0.out (by omega); (first | cases eo48 | (injection eo48 with ea_ en_ ec_; (first | subst ea_ | (injection ea_ with ea_; subst ea_)); subst ec_; clear en_))
            have GB48 := Aside0.mk gb48; have GG48 := Aside0.mk HG48; clear gb48 gl48 HG48; have HMgo48 := Aside0.mk (show (P0_ go48 ∨ w.heap.size ≤ go48) from (HO_0.out.1 _ rfl)); (first | simp only [add_plain] at hx125_0 | skip); (first | simp only [add_plain] at hx125_1 | skip); (first | simp only [add_plain] at hx126_0 | skip); (first | simp only [add_plain] at hx126_1 | skip); (first | simp only [add_plain] at hx128_0 | skip); (first | simp only [add_plain] at hx128_1 | skip); (first | simp only [add_plain] at hx129_0 | skip); (first | simp only [add_plain] at hx129_1 | skip); obtain ⟨ce48, hcl48, hM48, hcc48, hfr48⟩ := Kd.R_elem HO_0.out z25 ((ji40) : Int) p48 q48; obtain rfl := k25_openM hM48; have hx48_0 : World.cell? _ ⟨go48, ((ji40) : Int).toNat * 2, none⟩ = some (.int .i64 ((rd_T25 x0_1 (ji40)).f0)) := hcc48 0 _ rfl; have hx48_1 : World.cell? _ ⟨go48, ((ji40) : Int).toNat * 2 + 1, none⟩ = some (.int .i64 ((rd_T25 x0_1 (ji40)).f1)) := hcc48 1 _ rfl; have hf48_0 : World.frozen? _ ⟨go48, ((ji40) : Int).toNat * 2, none⟩ = false := hfr48 0; have hf48_1 : World.frozen? _ ⟨go48, ((ji40) : Int).toNat * 2 + 1, none⟩ = false := hfr48 1; clear hcl48 hcc48 hfr48 hM48; replace p48 := eq_true p48; replace q48 := eq_true q48; obtain ⟨ce54, hcl54, hM54, hcc54, hfr54⟩ := Kd.R_elem HO_0.out z25 ((ji40) : Int) od_ (by have h_ : ((ji40) : Int) < ((x0_1.length : Int) : Int) := od_; first | exact h_ | (have e_ := (Kd.R_reads' HO_0.out).1; omega) | simpa using h_); obtain rfl := k25_openM hM54; have HP54 := (Kd.R_seg HO_0.out ((ji40) : Int) od_ (by have h_ : ((ji40) : Int) < ((x0_1.length : Int) : Int) := od_; first | exact h_ | (have e_ := (Kd.R_reads' HO_0.out).1; omega) | simpa using h_) (seg := [.int .i64 ((rd_T25 x0_1 (ji43)).f0), .int .i64 ((rd_T25 x0_1 (ji43)).f1)]) (j := 0) hcl54 hcc54 (show 2 ≤ 2 from by decide) (x' := (⟨(rd_T25 x0_1 (ji43)).f0, (rd_T25 x0_1 (ji43)).f1⟩ : S25)) (k25_mkM _ _ _ (⟨(rd_T25 x0_1 (ji43)).f0, (rd_T25 x0_1 (ji43)).f1⟩ : S25) ) (fun _ hk => hk)).1; rw [← Ny130.out] at HP54; have HQ54 := Aside0.mk HP54; clear hcl54 hcc54 hfr54 hM54 HP54; have p49 : 0 ≤ ((ji43) : Int) := od_; have q49 : ((ji43) : Int) < ((x0_1.length : Int) : Int) := od_; obtain ⟨ce49, hcl49, hM49, hcc49, hfr49⟩ := Kd.R_elem HQ54.out z25 ((ji43) : Int) p49 q49; obtain rfl := k25_openM hM49; have hx49_0 : World.cell? _ ⟨go48, ((ji43) : Int).toNat * 2, none⟩ = some (.int .i64 ((rd_T25 y130 (ji43)).f0)) := hcc49 0 _ rfl; have hx49_1 : World.cell? _ ⟨go48, ((ji43) : Int).toNat * 2 + 1, none⟩ = some (.int .i64 ((rd_T25 y130 (ji43)).f1)) := hcc49 1 _ rfl; have hf49_0 : World.frozen? _ ⟨go48, ((ji43) : Int).toNat * 2, none⟩ = false := hfr49 0; have hf49_1 : World.frozen? _ ⟨go48, ((ji43) : Int).toNat * 2 + 1, none⟩ = false := hfr49 1; clear hcl49 hcc49 hfr49 hM49; replace p49 := eq_true p49; replace q49 := eq_true q49; obtain ⟨ce55, hcl55, hM55, hcc55, hfr55⟩ := Kd.R_elem HQ54.out z25 ((ji43) : Int) od_ (by have h_ : ((ji43) : Int) < ((x0_1.length : Int) : Int) := od_; first | exact h_ | (have e_ := (Kd.R_reads' HO_0.out).1; omega) | simpa using h_); obtain rfl := k25_openM hM55; have HP55 := (Kd.R_seg HQ54.out ((ji43) : Int) od_ (by have h_ : ((ji43) : Int) < ((x0_1.length : Int) : Int) := od_; first | exact h_ | (have e_ := (Kd.R_reads' HO_0.out).1; omega) | simpa using h_) (seg := [.int .i64 ((rd_T25 x0_1 (ji40)).f0), .int .i64 ((rd_T25 x0_1 (ji40)).f1)]) (j := 0) hcl55 hcc55 (show 2 ≤ 2 from by decide) (x' := (⟨(rd_T25 x0_1 (ji40)).f0, (rd_T25 x0_1 (ji40)).f1⟩ : S25)) (k25_mkM _ _ _ (⟨(rd_T25 x0_1 (ji40)).f0, (rd_T25 x0_1 (ji40)).f1⟩ : S25) ) (fun _ hk => hk)).1; rw [← Ny131.out] at HP55; have HQ55 := Aside0.mk HP55; clear hcl55 hcc55 hfr55 hM55 HP55; refine start_ (n := 24) (S := fun w' => w'.cell? ⟨go48, (((ji43)).toNat * 2), none⟩ = some (.int .i64 ((rd_T25 x0_1 (ji43)).f0)) ∧ w'.cell? ⟨go48, (((ji43)).toNat * 2) + 1, none⟩ = some (.int .i64 ((rd_T25 x0_1 (ji43)).f1)) ∧ w'.cell? ⟨go48, (((ji40)).toNat * 2), none⟩ = some (.int .i64 ((rd_T25 x0_1 (ji40)).f0)) ∧ w'.cell? ⟨go48, (((ji40)).toNat * 2) + 1, none⟩ = some (.int .i64 ((rd_T25 x0_1 (ji40)).f1))) (ds := [21, 23]) (ab 24 0) (by kernel_rfl) rfl rfl ⟨hx128_0, hx128_1, hx129_0, hx129_1⟩ (fun hHeld => ?_); refine with_tabW api_Run_74.tab6 api_Run_74.bits6 (fun HT_ HW_ => ?_)
            generalize w52.drew = w53 at HO_0 HK HB GG48 HQ54 HQ55 hf48_0 hf48_1 hf49_0 hf49_1 hx125_0 hx125_1 hx126_0 hx126_1 hx128_0 hx128_1 hx129_0 hx129_1 hx48_0 hx48_1 hx49_0 hx49_1 hHeld ⊢; (try (simp only [World.setCells, Nat.add_zero, show (k25).sz = 2 from rfl] at hx49_0; try simp [go_sem] at hx49_0)); (try (simp only [World.setCells, Nat.add_zero, show (k25).sz = 2 from rfl] at hf49_0; try simp [go_sem] at hf49_0)); (try (simp only [World.setCells, Nat.add_zero, show (k25).sz = 2 from rfl] at hx49_1; try simp [go_sem] at hx49_1)); (try (simp only [World.setCells, Nat.add_zero, show (k25).sz = 2 from rfl] at hf49_1; try simp [go_sem] at hf49_1)); refine pA 0 59 24 1 ?_; refine pA 1 60 24 3 ?_; refine pA 2 61 24 7 ?_; refine pA 3 62 24 15 ?_; refine pA 4 63 24 31 ?_; refine pA 5 64 24 63 ?_; refine pA 6 65 24 127 ?_; refine pA 7 66 24 255 ?_; refine pA 8 67 24 511 ?_; refine pA 9 68 24 1023 ?_; refine pA 10 69 24 2047 ?_; refine pA 11 70 24 4095 ?_; refine pA 12 71 24 8191 ?_; refine pA 14 73 24 24575 ?_; refine pA 15 74 24 57343 ?_; refine pA 16 75 24 122879 ?_; refine pA 17 76 24 253951 ?_; refine pA 18 77 24 516095 ?_; refine tA 13 72 24 524287 ?_; refine tA 19 78 24 1048575 ?_; refine pA 20 79 24 2097151 ?_; refine last_ (i := 21) (N := none) (ab 24 4194303) rfl rfl (one_of HT_.out (by kernel_rfl)) (by decide) (fun K hK => ?_); refine sA ?_; refine hK.out _ _ ?_; clear hK K; refine pA 22 80 24 8388607 ?_; refine last_ (i := 23) (N := none) (ab 24 16777215) rfl rfl (one_of HT_.out (by kernel_rfl)) (by decide) (fun K hK => ?_); refine sA ?_; refine hK.out _ _ ?_; clear hK K; refine done_ (done_of HT_.out (by kernel_rfl)) ?_; (try go_wp2); go_roundg kj6
            case measure => have := HK1.out; have := HJ6.out; omega
            case rel => exact ⟨(y131), ((wrap64 ((wrap64 (2 * x10_1)) + 1))), rf_, H', ⟨by have := HK1.out; have := HJ6.out; omega⟩, ⟨by (with_reducible repeat (first | apply Kd.R_alloc | apply Kd.R_drewN | apply Kd.R_drew)); exact HQ55.out⟩, ⟨by repeat (first | (with_reducible first | exact HK.out | apply Kept.alloc | apply Kept.drewN | apply Kept.drew | refine Kept.setCell ?_ HMgo48.out _ | refine Kept.setCell ?_ HMgo48.out _ | refine Kept.setCell ?_ HMgo48.out _ | refine Kept.setCell ?_ HMgo48.out _) | exact HK.out)⟩, ⟨by repeat (first | (with_reducible first | exact HB.out | apply below_alloc | apply pw_below_drewN | apply below_drew1 | refine below_set ?_ GB48.out | refine below_set ?_ GB48.out | refine below_set ?_ GB48.out | refine below_set ?_ GB48.out) | exact HB.out)⟩⟩
           ·rw [if_neg c47] at H
            have c47b0 : decide (t127 < 0) = false := decide_eq_false c47; clear c47; obtain rfl := Option.some.inj H; (try go_wp2); replace HO_0 := Aside0.mk (Kd.R_drew HO_0.out); replace HK := Aside0.mk (Kept.drew HK.out); replace HB := Aside0.mk (below_drew1 HB.out); obtain ⟨Ao57, co57, eo57⟩ := Kd.R_slice HO_0.out; (first | subst eo57 | (injection eo57 with f1_ f2_ f3_; have f4_ := f1_.symm; have f5_ := f3_.symm; clear f1_ f2_ f3_; subst f4_; subst f5_)); have p125 : 0 ≤ ((ji40) : Int) := od_; have q125 : (ji40) < (x0_1.length : Int) := od_; obtain ⟨ad125, e125, hx125_0, hx125_1⟩ := at_T25 (Kd.R_reads' HO_0.out).2.2 (ji40) p125 q125
            cases e125
            replace p125 := eq_true p125; replace q125 := eq_true q125; have p126 : 0 ≤ ((ji43) : Int) := od_; have q126 : (ji43) < (x0_1.length : Int) := od_; obtain ⟨ad126, e126, hx126_0, hx126_1⟩ := at_T25 (Kd.R_reads' HO_0.out).2.2 (ji43) p126 q126; obtain rfl : ad125 = ad126 := (by injection e126); replace p126 := eq_true p126; replace q126 := eq_true q126; refine start_ (n := 16) (S := fun w' => w'.cell? (ad125.add (((ji40)).toNat * 2)) = some (.int .i64 ((rd_T25 x0_1 (ji40)).f0)) ∧ w'.cell? ⟨(ad125.add (((ji40)).toNat * 2)).block, (ad125.add (((ji40)).toNat * 2)).off + 1, none⟩ = some (.int .i64 ((rd_T25 x0_1 (ji40)).f1)) ∧ w'.cell? (ad125.add (((ji43)).toNat * 2)) = some (.int .i64 ((rd_T25 x0_1 (ji43)).f0)) ∧ w'.cell? ⟨(ad125.add (((ji43)).toNat * 2)).block, (ad125.add (((ji43)).toNat * 2)).off + 1, none⟩ = some (.int .i64 ((rd_T25 x0_1 (ji43)).f1))) (ds := []) (ab 16 0) (by kernel_rfl) rfl rfl ⟨hx125_0, hx125_1, hx126_0, hx126_1⟩ (fun hHeld => ?_); refine with_tabW api_Run_74.tab5 api_Run_74.bits5 (fun HT_ HW_ => ?_); generalize wc.drew = w56 at HO_0 HK HB hx125_0 hx125_1 hx126_0 hx126_1 hHeld ⊢; refine pA 0 43 16 1 ?_; refine pA 1 44 16 3 ?_; refine pA 2 45 16 7 ?_; refine pA 3 46 16 15 ?_; refine pA 4 47 16 31 ?_; refine pA 5 48 16 63 ?_; refine pA 7 50 16 191 ?_; refine pA 8 51 16 447 ?_; refine pA 9 52 16 959 ?_; refine pA 10 53 16 1983 ?_; refine pA 11 54 16 4031 ?_; refine tA 6 49 16 4095 ?_; refine tA 12 55 16 8191 ?_; refine one_ (i := 13) (N := some 56) (ab 16 16383) rfl rfl (one_of HT_.out (by kernel_rfl)) (by decide) (fun K hK => ?_); refine goesV_ #[.agg #[.bool false]] Try.func48 (by kernel_rfl) rfl #[.agg #[.bool false], .agg #[.int .i64 ((rd_T25 x0_1 (ji40)).f0), .int .i64 ((rd_T25 x0_1 (ji40)).f1)], .agg #[.int .i64 ((rd_T25 x0_1 (ji43)).f0), .int .i64 ((rd_T25 x0_1 (ji43)).f1)]] (by rfl) rfl rfl rfl (by (try simp only [List.map_toArray, List.map_cons, List.map_nil]); first | done | (simp only [hji40, hji43]; rfl) | rfl | (simp only [List.length_drop, List.length_take]; rfl)) ?_; refine (runs_order_compare.calls false ((rd_T25 x0_1 (ji40)).f0) ((rd_T25 x0_1 (ji40)).f1) ((rd_T25 x0_1 (ji43)).f0) ((rd_T25 x0_1 (ji43)).f1) t127 _ A46.out).mono ?_; rintro e w58 ⟨rfl, hb⟩; have HS0_ := (hb.cell (World.block_lt_of_cell? _ _ (hHeld.1))).trans (hHeld.1); have HS1_ := (hb.cell (World.block_lt_of_cell? _ _ (hHeld.2.1))).trans (hHeld.2.1); have HS2_ := (hb.cell (World.block_lt_of_cell? _ _ (hHeld.2.2.1))).trans (hHeld.2.2.1); have HS3_ := (hb.cell (World.block_lt_of_cell? _ _ (hHeld.2.2.2))).trans (hHeld.2.2.2); refine ⟨_, rfl, ?_⟩; replace HO_0 := Aside0.mk (Kd.R_below h0_ hb); replace HK := Aside0.mk (Kept.below (S := (fun k_ => P0_ k_)) hk_ hb); replace HB := Aside0.mk (below_step hb_ hb); (try clear hb); (try clear hb2); (try clear hk); (try clear hi); refine hK.out _ _ ⟨HS0_, HS1_, HS2_, HS3_⟩ (fun hHeld => ?_); clear hK K; refine nA ?_; refine pA 14 57 16 32767 ?_; refine pA 15 58 16 65535 ?_; refine done_ (done_of HT_.out (by kernel_rfl)) ?_; (try go_wp2)
            first | go_end0 | ((try simp only [Exit.inBlock, Exit.then]); refine bodyPost_ret (results_none rfl _ _ _) rfl ?_)
            exact ⟨by first | rfl | (simp [errW_none, errW_some] <;> rfl) | (simp only [← hji40, ← hji43]; first | rfl | (simp [errW_none, errW_some] <;> rfl)) | (simp [*, errW_none, errW_some] <;> rfl), h0_, hb_, hk_⟩
          ·rw [if_neg c45] at H
           exact absurd H (by simp)
         ·rw [if_neg c44] at H
          exact absurd H (by simp)
        ·rw [if_neg c42] at H
         exact absurd H (by simp)
       ·rw [if_neg c41] at H
        exact absurd H (by simp)
end Go.Proofs.Ytkbcmjejfbbcpaa.A.So