/- Walks of functions, and plain facts about what they compute. No conditions. -/
import Derived.Test.YtfehdlkklfcnpaaTma
import Derived.Test.YtfehdlkklfcnpaaProg
import Derived.Deep.Slices
import Derived.SizedLaws
import Derived.ChangeArms
import Derived.Lib.ItoaNum
import Derived.Laws.RangeAny
import Derived.LoopTactic
import Derived.Test.YtfehdlkklfcnpaaRows
import Derived.ChangeSame
set_option linter.unusedVariables false
set_option linter.unusedSimpArgs false
namespace Go.Proofs.Ytfehdlkklfcnpaa.A
open Go.RowKit Go.Proofs.YtfehdlkklfcnpaaW.PrintWords Go.Proofs.YtfehdlkklfcnpaaW.PrintLast Go.Proofs.YtfehdlkklfcnpaaW.PrintMore
attribute [local go_sem] max2_int min2_int max_two min_two max_three min_three max_four min_four
def errW : Option Int → Value
  | none => .nilIface
  | some c => .iface 0 (.int .i64 c)
theorem errW_none : errW none = .nilIface := rfl
theorem errW_some (c : Int) : errW (some c) = .iface 0 (.int .i64 c) := rfl
theorem info3 : (Try.prog.info? 3).map (fun i => (i.zero, i.size, i.bytes)) = some (some (.int .i64 0), 1, 8) := by kernel_rfl
theorem info26 : (Try.prog.info? 26).map (fun i => (i.zero, i.size, i.bytes)) = some (some (.agg #[(.int .i64 0), (.int .i64 0), (.string ⟨#[]⟩), (.string ⟨#[]⟩), (.string ⟨#[]⟩), (.bool false), (.bool false), (.slice none 0 0)]), 8, 96) := by kernel_rfl
theorem info86 : (Try.prog.info? 86).map (fun i => (i.zero, i.size, i.bytes)) = some (some (.agg #[(.int .i64 0), (.int .i64 0)]), 2, 16) := by kernel_rfl
structure S86 where
  f0 : Int
  f1 : Int
def z86 : S86 := ⟨(0 : Int), (0 : Int)⟩
def k86 : Kd S86 := Kd.iso (Kd.pair (Kd.int .i64) (Kd.int .i64)) (fun x : S86 => (x.f0, x.f1))
theorem k86_heap : Kd.Heap k86 := Kd.heap_iso _ (Kd.heap_pair (Kd.heap_int .i64) (Kd.heap_int .i64))
theorem k86_open {w : World} {x : S86} {cs : List Value} (h : k86.K w x cs) : cs = [.int .i64 x.f0, .int .i64 x.f1] := by
  obtain ⟨_, _, rfl, rfl, rfl⟩ := h
  exact rfl
theorem k86_mkM (w : World) (base : Nat) (ok : Nat → Prop) (x : S86)  : k86.M w base ok x [.int .i64 x.f0, .int .i64 x.f1] := ⟨[.int .i64 x.f0], [.int .i64 x.f1], rfl, rfl, rfl⟩
def rd_T86 (xs : List S86) (i : Int) : S86 := xs.getD i.toNat z86
theorem at_T86 {w : World} {A : Option Addr} {n : Nat} {xs : List S86} (h : Kd.C k86 w A n xs) (i : Int) (h0 : 0 ≤ i) (h1 : i < n) : ∃ ad , A = some ad ∧ w.cell? (ad.add (i.toNat * 2)) = some (.int .i64 (rd_T86 xs i).f0) ∧ w.cell? ⟨(ad.add (i.toNat * 2)).block, (ad.add (i.toNat * 2)).off + 1, none⟩ = some (.int .i64 (rd_T86 xs i).f1) := by
  obtain ⟨ad, c, e, _, hK, hc0⟩ := Kd.C_get h z86 i h0 h1
  have hc : ∀ j u, c[j]? = some u → w.cell? (ad.add (i.toNat * 2 + j)) = some u := hc0
  obtain rfl := k86_open hK
  exact ⟨ad, e, hc 0 _ rfl, by rw [← add_field _ _ 1 (by omega)]; exact hc 1 _ rfl⟩
structure S23 where
  f0 : Int
  f1 : ByteArray
  f2 : ByteArray
  f3 : ByteArray
def z23 : S23 := ⟨(0 : Int), (⟨#[]⟩ : ByteArray), (⟨#[]⟩ : ByteArray), (⟨#[]⟩ : ByteArray)⟩
def k23 : Kd S23 := Kd.iso (Kd.pair (Kd.int .i64) (Kd.pair Kd.string (Kd.pair Kd.string Kd.string))) (fun x : S23 => (x.f0, x.f1, x.f2, x.f3))
theorem k23_heap : Kd.Heap k23 := Kd.heap_iso _ (Kd.heap_pair (Kd.heap_int .i64) (Kd.heap_pair Kd.heap_string (Kd.heap_pair Kd.heap_string Kd.heap_string)))
theorem k23_open {w : World} {x : S23} {cs : List Value} (h : k23.K w x cs) : cs = [.int .i64 x.f0, .string x.f1, .string x.f2, .string x.f3] := by
  obtain ⟨_, _, rfl, rfl, ⟨_, _, rfl, rfl, ⟨_, _, rfl, rfl, rfl⟩⟩⟩ := h
  exact rfl
theorem k23_mk (w : World) (x : S23)  : k23.K w x [.int .i64 x.f0, .string x.f1, .string x.f2, .string x.f3] := ⟨[.int .i64 x.f0], [.string x.f1, .string x.f2, .string x.f3], rfl, rfl, ⟨[.string x.f1], [.string x.f2, .string x.f3], rfl, rfl, ⟨[.string x.f2], [.string x.f3], rfl, rfl, rfl⟩⟩⟩
structure S26 where
  f0 : Int
  f1 : S23
  f2 : Bool
  f3 : Bool
  f4 : (List S26)
def z26 : S26 := ⟨(0 : Int), z23, false, false, ([] : List S26)⟩
def F26 (d : Kd S26) : Kd S26 := Kd.iso (Kd.pair (Kd.int .i64) (Kd.pair k23 (Kd.pair Kd.bool (Kd.pair Kd.bool (Kd.slice 26 d))))) (fun x : S26 => (x.f0, x.f1, x.f2, x.f3, x.f4))
theorem mono26 : Kd.Mono F26 := Kd.mono_iso _ (Kd.mono_pair (Kd.mono_const _) (Kd.mono_pair (Kd.mono_const _) (Kd.mono_pair (Kd.mono_const _) (Kd.mono_pair (Kd.mono_const _) (Kd.mono_slice 26 Kd.mono_id)))))
theorem sub26 : Kd.Sub F26 [26] := Kd.sub_iso _ (Kd.sub_pair (Kd.sub_const _ (by decide)) (Kd.sub_pair (Kd.sub_const _ (by decide)) (Kd.sub_pair (Kd.sub_const _ (by decide)) (Kd.sub_pair (Kd.sub_const _ (by decide)) (Kd.sub_slice 26 (by decide) Kd.sub_id)))))
theorem sz26 : ∀ n, (Kd.upto F26 8 [26] n).sz = 8 := Kd.upto_sz (fun _ => rfl)
def k26 : Kd S26 := Kd.fix F26 8 [26] sz26 (Kd.upto_E sub26)
theorem k26_heap : Kd.Heap k26 := Kd.heap_fix (fun _ h_ => Kd.heap_iso _ (Kd.heap_pair (Kd.heap_int .i64) (Kd.heap_pair k23_heap (Kd.heap_pair Kd.heap_bool (Kd.heap_pair Kd.heap_bool (Kd.heap_slice 26 h_))))))
theorem k26_open {w : World} {x : S26} {cs : List Value} (h : k26.K w x cs) : ∃ A7 c7, cs = [.int .i64 x.f0, .int .i64 x.f1.f0, .string x.f1.f1, .string x.f1.f2, .string x.f1.f3, .bool x.f2, .bool x.f3, .slice A7 x.f4.length c7] ∧ x.f4.length ≤ c7 ∧ k26.C w A7 x.f4.length x.f4 := by
  obtain ⟨n, h⟩ := h
  cases n with
  | zero => exact h.elim
  | succ n =>
    obtain ⟨_, _, rfl, rfl, ⟨_, _, rfl, s1, ⟨_, _, rfl, rfl, ⟨_, _, rfl, rfl, ⟨A7, c7, rfl, l7, g7⟩⟩⟩⟩⟩ := h
    obtain rfl := k23_open s1
    exact ⟨A7, c7, rfl, l7, Kd.fix_C g7⟩
theorem k26_mk (w : World) (x : S26) {A7 : Option Addr} {c7 : Nat} (l7 : x.f4.length ≤ c7) (g7 : k26.C w A7 x.f4.length x.f4) : k26.K w x [.int .i64 x.f0, .int .i64 x.f1.f0, .string x.f1.f1, .string x.f1.f2, .string x.f1.f3, .bool x.f2, .bool x.f3, .slice A7 x.f4.length c7] := by
  obtain ⟨n7, q7⟩ := Kd.fix_C_back mono26 g7
  have r7 := Kd.upto_C_le mono26 sz26 (show n7 ≤ n7 by omega) q7
  exact ⟨n7 + 1, ⟨[.int .i64 x.f0], [.int .i64 x.f1.f0, .string x.f1.f1, .string x.f1.f2, .string x.f1.f3, .bool x.f2, .bool x.f3, .slice A7 x.f4.length c7], rfl, rfl, ⟨[.int .i64 x.f1.f0, .string x.f1.f1, .string x.f1.f2, .string x.f1.f3], [.bool x.f2, .bool x.f3, .slice A7 x.f4.length c7], rfl, (k23_mk w x.f1 ), ⟨[.bool x.f2], [.bool x.f3, .slice A7 x.f4.length c7], rfl, rfl, ⟨[.bool x.f3], [.slice A7 x.f4.length c7], rfl, rfl, ⟨A7, c7, rfl, l7, r7⟩⟩⟩⟩⟩⟩
theorem k26_openF {W : World} {ok : Nat → Prop} {x : S26} {cs : List Value} (h : Kd.FK k26 W ok x cs) : ∃ A7 c7, cs = [.int .i64 x.f0, .int .i64 x.f1.f0, .string x.f1.f1, .string x.f1.f2, .string x.f1.f3, .bool x.f2, .bool x.f3, .slice A7 x.f4.length c7] ∧ x.f4.length ≤ c7 ∧ Kd.F k26 W ok A7 x.f4.length x.f4 := by
  obtain ⟨A7, c7, rfl, l7, _⟩ := k26_open (Kd.FK_now h)
  exact ⟨A7, c7, rfl, l7, (fun W' hW => by obtain ⟨A7_, c7_, he, l7_, g7_⟩ := k26_open (h W' hW); injection (Option.some.inj (show some (Value.slice A7 x.f4.length c7) = some (Value.slice A7_ x.f4.length c7_) from congrArg (fun l => l[7]?) he)) with ha_ _ _; rw [ha_]; exact g7_)⟩
theorem k26_mkF (W : World) (ok : Nat → Prop) (x : S26) {A7 : Option Addr} {c7 : Nat} (l7 : x.f4.length ≤ c7) (g7 : Kd.F k26 W ok A7 x.f4.length x.f4) : Kd.FK k26 W ok x [.int .i64 x.f0, .int .i64 x.f1.f0, .string x.f1.f1, .string x.f1.f2, .string x.f1.f3, .bool x.f2, .bool x.f3, .slice A7 x.f4.length c7] := fun W2 hW => k26_mk W2 x l7 (g7 W2 hW)
def rd_T26 (xs : List S26) (i : Int) : S26 := xs.getD i.toNat z26
theorem at_T26 {w : World} {A : Option Addr} {n : Nat} {xs : List S26} (h : Kd.C k26 w A n xs) (i : Int) (h0 : 0 ≤ i) (h1 : i < n) : ∃ ad A7 c7, A = some ad ∧ w.cell? (ad.add (i.toNat * 8)) = some (.int .i64 (rd_T26 xs i).f0) ∧ w.cell? ⟨(ad.add (i.toNat * 8)).block, (ad.add (i.toNat * 8)).off + 1, none⟩ = some (.int .i64 (rd_T26 xs i).f1.f0) ∧ w.cell? ⟨(ad.add (i.toNat * 8)).block, (ad.add (i.toNat * 8)).off + 2, none⟩ = some (.string (rd_T26 xs i).f1.f1) ∧ w.cell? ⟨(ad.add (i.toNat * 8)).block, (ad.add (i.toNat * 8)).off + 3, none⟩ = some (.string (rd_T26 xs i).f1.f2) ∧ w.cell? ⟨(ad.add (i.toNat * 8)).block, (ad.add (i.toNat * 8)).off + 4, none⟩ = some (.string (rd_T26 xs i).f1.f3) ∧ w.cell? ⟨(ad.add (i.toNat * 8)).block, (ad.add (i.toNat * 8)).off + 5, none⟩ = some (.bool (rd_T26 xs i).f2) ∧ w.cell? ⟨(ad.add (i.toNat * 8)).block, (ad.add (i.toNat * 8)).off + 6, none⟩ = some (.bool (rd_T26 xs i).f3) ∧ w.cell? ⟨(ad.add (i.toNat * 8)).block, (ad.add (i.toNat * 8)).off + 7, none⟩ = some (.slice A7 (rd_T26 xs i).f4.length c7) ∧ (rd_T26 xs i).f4.length ≤ c7 ∧ k26.C w A7 (rd_T26 xs i).f4.length (rd_T26 xs i).f4 := by
  obtain ⟨ad, c, e, _, hK, hc0⟩ := Kd.C_get h z26 i h0 h1
  have hc : ∀ j u, c[j]? = some u → w.cell? (ad.add (i.toNat * 8 + j)) = some u := hc0
  obtain ⟨A7, c7, rfl, l7, g7⟩ := k26_open hK
  exact ⟨ad, A7, c7, e, hc 0 _ rfl, by rw [← add_field _ _ 1 (by omega)]; exact hc 1 _ rfl, by rw [← add_field _ _ 2 (by omega)]; exact hc 2 _ rfl, by rw [← add_field _ _ 3 (by omega)]; exact hc 3 _ rfl, by rw [← add_field _ _ 4 (by omega)]; exact hc 4 _ rfl, by rw [← add_field _ _ 5 (by omega)]; exact hc 5 _ rfl, by rw [← add_field _ _ 6 (by omega)]; exact hc 6 _ rfl, by rw [← add_field _ _ 7 (by omega)]; exact hc 7 _ rfl, l7, g7⟩
end Go.Proofs.Ytfehdlkklfcnpaa.A
namespace Go.Proofs.Ytfehdlkklfcnpaa.Rd
open Go.RowKit Go.Deep Go.Proofs.YtfehdlkklfcnpaaW.PrintWords
def RdF {α : Type} (P : Program) (t : TypeId) (d : Kd α) (wf : α → Prop) (f : Nat) : Prop :=
  ∀ {H : Type} (enc : TypeId × Value → H) (W : World) (cs : List Value) (x : DataW H × List MemPlace),
    DataW.trod enc P W 0 (fun _ => true) true f t cs = some x → (x.1.weights P t).all (· ≤ reachBytes) = true → ∃ a, d.K W a cs ∧ wf a
def Rd {α : Type} (P : Program) (t : TypeId) (d : Kd α) (wf : α → Prop) : Prop := ∀ f, RdF P t d wf f
section
variable {P : Program} {t e : TypeId} {α : Type} {d : Kd α} {wf : α → Prop}
theorem Rd.int {k : IntKind} (ht : P.underlying t = some (.int k)) : Rd P t (Kd.int k) (fun a => (Lit.int k a).wf = true) := by
  intro f H enc W cs x h _
  obtain ⟨n, rfl, _, hw⟩ := DataW.trod_int ht h
  exact ⟨n, rfl, hw⟩
theorem Rd.bool (ht : P.underlying t = some .bool) : Rd P t Kd.bool (fun _ => True) := by
  intro f H enc W cs x h _
  obtain ⟨b, rfl, _⟩ := DataW.trod_bool ht h
  exact ⟨b, rfl, trivial⟩
theorem Rd.string (ht : P.underlying t = some .string) : Rd P t Kd.string (fun s => s.size ≤ 140737488351232) := by
  intro f H enc W cs x h hw
  obtain ⟨s, rfl, rfl, _⟩ := DataW.trod_string ht h
  refine ⟨s, rfl, ?_⟩
  have h1 := of_decide_eq_true (List.all_eq_true.1 hw s.data.toList.length (by simp [DataW.weights]))
  rw [Array.length_toList] at h1
  exact h1
theorem all_weights {H : Type} {l : List (DataW H)} (h : (DataW.weightsAll P e l).all (· ≤ reachBytes) = true) : ∀ x, x ∈ l → (x.weights P e).all (· ≤ reachBytes) = true := by
  induction l with
  | nil => intro x hx; simp at hx
  | cons y l ih =>
    simp only [DataW.weightsAll, List.all_append, Bool.and_eq_true] at h
    intro x hx
    rcases List.mem_cons.1 hx with rfl | hx
    · exact h.1
    · exact ih h.2 x hx
theorem list_of {β : Type} (Q : Nat → β → Prop) : ∀ (n : Nat), (∀ i, i < n → ∃ b, Q i b) → ∃ l : List β, l.length = n ∧ ∀ i b, l[i]? = some b → Q i b
  | 0, _ => ⟨[], rfl, fun i b h => by simp at h⟩
  | n + 1, h => by
    obtain ⟨l, hl, hq⟩ := list_of Q n (fun i hi => h i (by omega))
    obtain ⟨b, hb⟩ := h n (by omega)
    refine ⟨l ++ [b], by simp [hl], fun i c hc => ?_⟩
    rcases Nat.lt_or_ge i l.length with hi | hi
    · rw [List.getElem?_append_left hi] at hc
      exact hq i c hc
    · have hlt := (List.getElem?_eq_some_iff.1 hc).1
      rw [List.length_append, List.length_singleton] at hlt
      have : i = n := by omega
      subst this
      rw [List.getElem?_append_right hi, hl, Nat.sub_self] at hc
      simp at hc
      subst hc
      exact hb
theorem RdF.slice (ht : P.underlying t = some (.slice e)) (hc : P.cellsOf e = d.sz) {f : Nat} (hd : ∀ g, g < f → RdF P e d wf g) : RdF P t (Kd.slice e d) (fun l => l.length * P.bytesOf e ≤ 140737488351232 ∧ ∀ x, x ∈ l → wf x) f := by
  intro H enc W cs x h hw
  rcases DataW.trod_slice ht h with ⟨rfl, rfl⟩ | ⟨a, len, cap, elems, rest, n, rfl, rfl, rfl, _, hlc, hm, hlen, hel, _, _⟩
  · exact ⟨[], ⟨none, 0, rfl, Nat.le_refl _, rfl, by simp, fun h => absurd h (by simp)⟩, by simp, fun x h => by simp at h⟩
  simp only [DataW.weights, ht, List.all_cons, List.all_append, Bool.and_eq_true, decide_eq_true_eq] at hw
  obtain ⟨hb, hw1, _⟩ := hw
  rw [List.length_map, List.length_map] at hb
  obtain ⟨l, hl, hq⟩ := list_of (fun i b => ∃ c, c.length = d.sz ∧ d.K W b c ∧ wf b ∧ ∀ j u, c[j]? = some u → W.cell? (a.add (i * d.sz + j)) = some u) len fun i hi => by
    have hi' : i < elems.length := by omega
    have h1 := hel i hi
    rw [List.getElem?_eq_getElem hi'] at h1
    obtain ⟨c, hc1, hc2⟩ := Option.bind_eq_some_iff.1 h1
    obtain ⟨_, hcl, hcell⟩ := World.cells?_some hc1
    obtain ⟨b, hk, hwf⟩ := hd n (Nat.lt_succ_self n) enc W c _ hc2 (all_weights hw1 _ (List.mem_map.2 ⟨_, List.getElem_mem hi', rfl⟩))
    refine ⟨b, c, by rw [hcl, hc], hk, hwf, fun j u hj => ?_⟩
    have hjl := (List.getElem?_eq_some_iff.1 hj).1
    have h2 := hcell j (by omega)
    rw [hj, hc] at h2
    rw [← h2]
    congr 1
    exact (Deep.add_add _ _ _).symm
  refine ⟨l, ⟨some a, cap, by rw [hl], by rw [hl]; exact hlc, hl ▸ rfl, by unfold maxLen at hm; omega, fun _ => ⟨a, rfl, fun j p hj => ?_⟩⟩, ?_, fun x hx => ?_⟩
  · obtain ⟨c, h1, h2, _, h4⟩ := hq j p hj
    exact ⟨c, h1, h2, h4⟩
  · have : l.length * P.bytesOf e ≤ (elems.length + rest.length) * P.bytesOf e := Nat.mul_le_mul_right _ (by omega)
    unfold reachBytes at hb
    omega
  · obtain ⟨i, hi⟩ := List.getElem?_of_mem hx
    obtain ⟨c, _, _, h3, _⟩ := hq i x hi
    exact h3
theorem Rd.slice (ht : P.underlying t = some (.slice e)) (hc : P.cellsOf e = d.sz) (hd : Rd P e d wf) : Rd P t (Kd.slice e d) (fun l => l.length * P.bytesOf e ≤ 140737488351232 ∧ ∀ x, x ∈ l → wf x) :=
  fun f => RdF.slice ht hc (fun g _ => hd g)
end
end Go.Proofs.Ytfehdlkklfcnpaa.Rd
namespace Go.Proofs.Ytfehdlkklfcnpaa.A
open Go.RowKit Go.Proofs.YtfehdlkklfcnpaaW.PrintWords Go.Proofs.YtfehdlkklfcnpaaW.PrintLast Go.Proofs.YtfehdlkklfcnpaaW.PrintMore
def okB (c : UInt8) : Bool := decide (48 ≤ c.toNat ∧ c.toNat ≤ 57 ∨ c.toNat = 88)
def saneL (l : List UInt8) : Bool := l.all okB && decide (l ≠ []) && decide (l.length ≤ 4)
def mask_Sane.f (s : ByteArray) : Option Bool := some (saneL s.data.toList)
def upto (lo : Int) : Nat → List Int
  | 0 => []
  | n + 1 => lo :: upto (lo + 1) n
def stepR (c : UInt8) (r : S86) : List S86 := if c.toNat = 88 then [⟨r.f0 * 10, r.f1 * 10 + 9⟩] else (upto r.f0 (r.f1 + 1 - r.f0).toNat).map fun n => ⟨n * 10 + ((c.toNat : Int) - 48), n * 10 + ((c.toNat : Int) - 48)⟩
def setL : List UInt8 → List S86 → List S86
  | [], out => out
  | c :: l, out => setL l (out.flatMap (stepR c))
def mask_Set.f (s : ByteArray) : Option (List S86) := some (if saneL s.data.toList = true then setL s.data.toList [⟨0, 0⟩] else [])
theorem width_pos (s : ByteArray) (pos : Nat) (h : pos < s.size) : 1 ≤ (Utf8.decode s pos).2 := by
  by_cases ha : (s[pos]'h).toNat < 128
  · rw [decode_ascii s pos h ha]
    exact Nat.le_refl _
  · exact (decode_high s pos h (by omega)).2
theorem at_list (s : ByteArray) (pos : Nat) (h : pos < s.size) : s.data.toList[pos]? = some (s[pos]'h) := by
  rw [List.getElem?_eq_getElem (by simpa using h)]
  simp [ByteArray.getElem_eq_getElem_data]
theorem drop_at (s : ByteArray) (pos : Nat) (h : pos < s.size) : s.data.toList.drop pos = (s[pos]'h) :: s.data.toList.drop (pos + 1) := by
  have h1 : pos < s.data.toList.length := by simpa using h
  rw [List.drop_eq_getElem_cons h1]
  congr 1
theorem below_iter (w : World) (s : ByteArray) (pos : Nat) : Below w.heap.size w (w.iter s pos) := below_alloc (Below.refl _ _) _
set_option maxHeartbeats 4000000 in
set_option maxRecDepth 1000000 in
theorem mask_Sane.calls (a0 : ByteArray) (r : Bool) (w : World) (h : mask_Sane.f a0 = some r) :
    Calls Try.prog 55 #[.string a0] w fun e w' => e = .returned (.bool r) ∧ Below w.heap.size w w' := by
  obtain rfl := Option.some.inj h
  clear h
  go_enter Try.func55, Try.ntmps55
  go_wp2
  go_loopw [] (fun w' => ∃ pos : Nat, w' = w.iter a0 pos ∧ saneL a0.data.toList = ((a0.data.toList.drop pos).all okB && decide (a0.data.toList ≠ []) && decide (a0.data.toList.length ≤ 4))) (fun w' => a0.size - w'.iterPos w.heap.size)
  case atStart => exact ⟨0, rfl, rfl⟩
  case round =>
    obtain ⟨pos, rfl, hs⟩ := hrel
    by_cases hp : pos < a0.size
    · have hnx : ∀ ty, (Instr.next (.pointer (some ⟨w.heap.size, 0, none⟩)) true ty).run Try.prog (w.iter a0 pos) = _ := fun ty => run_next_any w a0 pos ty hp
      have hwd := width_pos a0 pos hp
      rw [drop_at a0 pos hp, List.all_cons] at hs
      have hb : okB (a0[pos]'hp) = true → Utf8.decode a0 pos = ((a0[pos]'hp).toNat, 1) := fun h => decode_ascii a0 pos hp (by have := of_decide_eq_true h; omega)
      have hn : okB (a0[pos]'hp) = false → ((Utf8.decode a0 pos).1 < 48 ∨ 57 < (Utf8.decode a0 pos).1) ∧ (Utf8.decode a0 pos).1 ≠ 88 := fun h => by
        have h := of_decide_eq_false h
        by_cases ha : (a0[pos]'hp).toNat < 128
        · rw [decode_ascii a0 pos hp ha]; simp only; omega
        · have := (decode_high a0 pos hp (by omega)).1; omega
      generalize hc : ((Utf8.decode a0 pos).1 : Int) = c at hnx
      by_cases hk : okB (a0[pos]'hp) = true
      · have hd := hb hk
        have hk2 := of_decide_eq_true hk
        rw [hd] at hc
        simp only at hc
        have d1 : decide (c < 48) = false := decide_eq_false (by omega)
        rw [hk, Bool.true_and] at hs
        by_cases h88 : c = 88
        · have d2 : decide (57 < c) = true := decide_eq_true (by omega)
          have d3 : (c != 88) = false := by subst h88; rfl
          go_wp2
          go_roundw
          case rel => exact ⟨pos + 1, rfl, hs⟩
          case measure => simp; omega
        · have d2 : decide (57 < c) = false := decide_eq_false (by omega)
          go_wp2
          go_roundw
          case rel => exact ⟨pos + 1, rfl, hs⟩
          case measure => simp; omega
      · have hk := Bool.eq_false_iff.mpr hk
        have hf : saneL a0.data.toList = false := by rw [hs, hk]; rfl
        obtain ⟨h1, h2⟩ := hn hk
        have d3 : (c != 88) = true := by rw [bne_iff_ne]; omega
        by_cases h48 : c < 48
        · have d1 : decide (c < 48) = true := decide_eq_true h48
          go_wp2
          go_ret
          exact ⟨by first | rfl | (rw [hf]; rfl), below_iter _ _ _⟩
        · have d1 : decide (c < 48) = false := decide_eq_false h48
          have d2 : decide (57 < c) = true := decide_eq_true (by omega)
          go_wp2
          go_ret
          exact ⟨by first | rfl | (rw [hf]; rfl), below_iter _ _ _⟩
    · have hnx : ∀ ty, (Instr.next (.pointer (some ⟨w.heap.size, 0, none⟩)) true ty).run Try.prog (w.iter a0 pos) = _ := fun ty => run_next_end w a0 pos ty hp
      rw [List.drop_eq_nil_of_le (by simpa using hp)] at hs
      simp only [List.all_nil, Bool.true_and] at hs
      have HS := A_ hs
      clear hs
      go_wp2
      · rename_i he
        rw [ByteArray.toList_eq] at he
        have hf : saneL a0.data.toList = false := by rw [HS.out, he]; rfl
        go_ret
        exact ⟨by first | rfl | (rw [hf]; rfl), below_iter _ _ _⟩
      · rename_i he
        rw [ByteArray.toList_eq] at he
        have hsz : a0.size = a0.data.toList.length := by simp
        have he3 : a0.toList.isEmpty = false := by rw [ByteArray.toList_eq]; cases hl : a0.data.toList <;> simp_all
        have hf : saneL a0.data.toList = decide ((a0.size : Int) ≤ 4) := by
          rw [HS.out, decide_eq_true he, Bool.true_and, hsz]
          exact decide_eq_decide.2 (by omega)
        clear he hsz HS
        go_ret
        exact ⟨by first | rfl | (rw [hf]; rfl) | (rw [hf, he3]; rfl) | (rw [hf]; simp [he3]), below_iter _ _ _⟩
end Go.Proofs.Ytfehdlkklfcnpaa.A
namespace Go.Proofs.Ytfehdlkklfcnpaa.A.B
open Go.RowKit Go.Proofs.YtfehdlkklfcnpaaW.PrintWords Go.Proofs.YtfehdlkklfcnpaaW.PrintLast Go.Proofs.YtfehdlkklfcnpaaW.PrintMore
attribute [local go_sem] max2_int min2_int max_two min_two max_three min_three max_four min_four
mutual
def mask_Set.l0 : Nat → Int → List (S86) → List (S86) → Int → Int → Option ((List (S86)))
  | 0, _, _, _, _, _ => none
  | k + 1, x5, x6, x21, x22, x23 => if x23 < x22 then (if 0 ≤ x23 then (if x23 < (x21.length : Int) then (if x5 = 88 then (if x6.length < 8796093022208 then (mask_Set.l0 k x5 (x6 ++ [(⟨wrap64 (((rd_T86 x21 x23).f0) * 10), wrap64 ((wrap64 (((rd_T86 x21 x23).f1) * 10)) + 9)⟩ : S86)]) x21 x22 (wrap64 (x23 + 1))) else (none)) else (mask_Set.l1 k x5 x6 ((rd_T86 x21 x23).f0) x21 x22 x23 ((rd_T86 x21 x23).f0) ((rd_T86 x21 x23).f1))) else (none)) else (none)) else (some x6)
def mask_Set.l1 : Nat → Int → List (S86) → Int → List (S86) → Int → Int → Int → Int → Option ((List (S86)))
  | 0, _, _, _, _, _, _, _, _ => none
  | k + 1, x5, x6, x9, x21, x22, x23, x103000, x103001 => if x9 ≤ x103001 then (if x6.length < 8796093022208 then (mask_Set.l1 k x5 (x6 ++ [(⟨wrap64 ((wrap64 (x9 * 10)) + (wrap64 (wrap32 (x5 - 48)))), wrap64 ((wrap64 (x9 * 10)) + (wrap64 (wrap32 (x5 - 48))))⟩ : S86)]) (wrap64 (x9 + 1)) x21 x22 x23 x103000 x103001) else (none)) else (mask_Set.l0 k x5 x6 x21 x22 (wrap64 (x23 + 1)))
end
def mask_Set.f (k : Nat) (l0 : List (S86)) (a1 : Int) : Option ((List (S86))) := mask_Set.l0 k a1 ([] : List (S86)) l0 (l0.length : Int) 0
end Go.Proofs.Ytfehdlkklfcnpaa.A.B
namespace Go.Proofs.Ytfehdlkklfcnpaa.A
open Go.RowKit Go.Proofs.YtfehdlkklfcnpaaW.PrintWords Go.Proofs.YtfehdlkklfcnpaaW.PrintLast Go.Proofs.YtfehdlkklfcnpaaW.PrintMore
attribute [local go_sem] max2_int min2_int max_two min_two max_three min_three max_four min_four
def itset (w : World) (g : Nat) (s : ByteArray) (pos : Nat) : World := { w with heap := w.heap.setIfInBounds g (.stringIter s pos) }
theorem itset_size (w : World) (g : Nat) (s : ByteArray) (pos : Nat) : (itset w g s pos).heap.size = w.heap.size := by simp [itset]
theorem itset_at {w : World} {g : Nat} {s : ByteArray} {pos q : Nat} (h : w.heap[g]? = some (.stringIter s q)) : (itset w g s pos).heap[g]? = some (.stringIter s pos) := by
  have := (Array.getElem?_eq_some_iff.1 h).1
  simp [itset, this]
theorem itset_ne (w : World) (g : Nat) (s : ByteArray) (pos : Nat) {k : Nat} (h : k ≠ g) : (itset w g s pos).heap[k]? = w.heap[k]? := by
  simp [itset, Array.getElem?_setIfInBounds, Ne.symm h]
theorem itset_below {B : Nat} {w0 w : World} {g : Nat} {s : ByteArray} {pos : Nat} (h : Below B w0 w) (hg : B ≤ g) : Below B w0 (itset w g s pos) :=
  ⟨h.os, h.tape, h.output, by rw [itset_size]; exact h.size, fun k hk => (itset_ne w g s pos (by omega)).trans (h.block k hk)⟩
theorem itset_keep (w : World) (g : Nat) (s : ByteArray) (pos : Nat) : KeepBut w (itset w g s pos) g none := ⟨by rw [itset_size]; exact Nat.le_refl _, fun k _ hk _ => itset_ne w g s pos hk⟩
theorem run_next_at {P : Program} {w : World} {g : Nat} {s : ByteArray} {pos : Nat} (ty : TypeId) (hg : w.heap[g]? = some (.stringIter s pos)) (h : pos < s.size) (ha : (s[pos]'h).toNat < 128) :
    (Instr.next (.pointer (some ⟨g, 0, none⟩)) true ty).run P w = .ok (.tuple #[.bool true, .int .i64 pos, .int .i32 (s[pos]'h).toNat]) (itset w g s (pos + 1)) := by
  simp only [Instr.next, getObj, setObj, Sem.run_bind, Sem.run, hg, Result.andThen, h, if_true, decode_ascii s pos h ha]
  simp [goInt, Sem.run, hg, itset]
theorem run_next_done {P : Program} {w : World} {g : Nat} {s : ByteArray} {pos : Nat} (ty : TypeId) (hg : w.heap[g]? = some (.stringIter s pos)) (h : ¬ pos < s.size) :
    (Instr.next (.pointer (some ⟨g, 0, none⟩)) true ty).run P w = .ok (.tuple #[.bool false]) w := by
  simp [Instr.next, getObj, Sem.run, hg, h]
theorem k86_E : k86.E = [] := rfl
theorem ok_of {s : ByteArray} (h : mask_Sane.f s = some true) : ∀ (pos : Nat) (hp : pos < s.size), 48 ≤ (s[pos]'hp).toNat ∧ (s[pos]'hp).toNat ≤ 57 ∨ (s[pos]'hp).toNat = 88 := fun pos hp => by
  have h := Option.some.inj h
  unfold saneL at h
  simp only [Bool.and_eq_true] at h
  have h2 := List.all_eq_true.1 h.1.1 (s[pos]'hp) (List.mem_of_getElem? (at_list s pos hp))
  exact of_decide_eq_true h2
theorem w64 {x : Int} (h1 : -9223372036854775808 ≤ x) (h2 : x ≤ 9223372036854775807) : wrap64 x = x := by unfold wrap64; omega
theorem at_rd (p : List S86) (r : S86) (t : List S86) : rd_T86 (p ++ r :: t) (p.length : Int) = r := by simp [rd_T86]
theorem at_lt {α : Type} (p : List α) (r : α) (t : List α) : (p.length : Int) < ((p ++ r :: t).length : Int) := by simp; omega
theorem at_end {α : Type} (p : List α) : ¬ (p.length : Int) < ((p ++ []).length : Int) := by simp
theorem at_0 {α : Type} (p : List α) : 0 ≤ (p.length : Int) := Int.natCast_nonneg _
theorem at_next {α : Type} {p : List α} {r : α} {t : List α} (h : (p ++ r :: t).length ≤ 4611686018427387904) : wrap64 ((p.length : Int) + 1) = ((p ++ [r]).length : Int) := by
  simp at h
  rw [w64 (by omega) (by omega)]
  simp
theorem at_app {α : Type} (p : List α) (r : α) (t : List α) : p ++ r :: t = (p ++ [r]) ++ t := by simp
theorem Ev.eq {α : Type} {g : Nat → Option α} {r q : α} (h : Ev g r) (e : r = q) : Ev g q := e ▸ h
def one (c n : Int) : S86 := ⟨n * 10 + (c - 48), n * 10 + (c - 48)⟩
theorem upto_len (lo : Int) : ∀ n, (upto lo n).length = n
  | 0 => rfl
  | n + 1 => by rw [upto, List.length_cons, upto_len (lo + 1) n]
theorem set_l1 (c : Int) (hc : 48 ≤ c ∧ c ≤ 57) (x : List S86) (len i lo hi : Int) (hhi : hi < 1000) (z : List S86) : ∀ (m : Nat) (n : Int) (acc : List S86), 0 ≤ n → n + m = hi + 1 → acc.length + m < 8796093022208 →
    Ev (fun k => B.mask_Set.l0 k c (acc ++ (upto n m).map (one c)) x len (wrap64 (i + 1))) z → Ev (fun k => B.mask_Set.l1 k c acc n x len i lo hi) z
  | 0, n, acc, h0, hm, hl, h => by
    simp only [upto, List.map_nil, List.append_nil] at h
    refine Ev.step (fun k => ?_) h
    rw [B.mask_Set.l1, if_neg (by omega)]
  | m + 1, n, acc, h0, hm, hl, h => by
    have e : acc ++ (upto n (m + 1)).map (one c) = (acc ++ [one c n]) ++ (upto (n + 1) m).map (one c) := by rw [upto]; simp
    rw [e] at h
    have ih := set_l1 c hc x len i lo hi hhi z m (n + 1) (acc ++ [one c n]) (by omega) (by omega) (by rw [List.length_append, List.length_singleton]; omega) h
    refine Ev.step (fun k => ?_) ih
    have w1 : wrap32 (c - 48) = c - 48 := by unfold wrap32; omega
    rw [B.mask_Set.l1, if_pos (by omega), if_pos (by omega), w1, w64 (x := n * 10) (by omega) (by omega), w64 (x := c - 48) (by omega) (by omega), w64 (x := n * 10 + (c - 48)) (by omega) (by omega), w64 (x := n + 1) (by omega) (by omega)]
    rfl
def fine (out : List S86) (b : Int) : Prop := ∀ r, r ∈ out → 0 ≤ r.f0 ∧ r.f0 ≤ r.f1 ∧ r.f1 < b
theorem set_l0 (c : UInt8) (hc : 48 ≤ c.toNat ∧ c.toNat ≤ 57 ∨ c.toNat = 88) : ∀ (t p acc : List S86), fine t 1000 → (p ++ t).length < 1000000 → acc.length + t.length * 1000 < 100000000 →
    Ev (fun k => B.mask_Set.l0 k (c.toNat : Int) acc (p ++ t) ((p ++ t).length : Int) (p.length : Int)) (acc ++ t.flatMap (stepR c))
  | [], p, acc, _, _, _ => by
    refine Ev.step (f := fun _ => some (acc ++ [].flatMap (stepR c))) (fun k => ?_) (Ev.now _)
    rw [B.mask_Set.l0, if_neg (at_end p)]; simp
  | r :: t, p, acc, hf, hn, hl => by
    simp only [List.length_cons] at hl
    obtain ⟨f1, f2, f3⟩ := hf r List.mem_cons_self
    have hft : fine t 1000 := fun q hq => hf q (List.mem_cons_of_mem _ hq)
    by_cases h88 : c.toNat = 88
    · have ih := set_l0 c hc t (p ++ [r]) (acc ++ stepR c r) hft (by rw [← at_app]; exact hn) (by unfold stepR; rw [if_pos h88]; simp; omega)
      rw [← at_app] at ih
      refine Ev.eq (Ev.step (fun k => ?_) ih) (by simp)
      rw [B.mask_Set.l0, if_pos (at_lt p r t), if_pos (at_0 p), if_pos (at_lt p r t), if_pos (by omega), if_pos (by omega), at_rd, at_next (p := p) (r := r) (t := t) (by omega), w64 (x := r.f0 * 10) (by omega) (by omega), w64 (x := r.f1 * 10) (by omega) (by omega), w64 (x := r.f1 * 10 + 9) (by omega) (by omega)]
      unfold stepR
      rw [if_pos h88]
    · have hlen : (stepR c r).length = (r.f1 + 1 - r.f0).toNat := by unfold stepR; rw [if_neg h88, List.length_map, upto_len]
      have ih := set_l0 c hc t (p ++ [r]) (acc ++ stepR c r) hft (by rw [← at_app]; exact hn) (by rw [List.length_append, hlen]; omega)
      rw [← at_app] at ih
      have hgo := set_l1 (c.toNat : Int) (by omega) (p ++ r :: t) ((p ++ r :: t).length : Int) (p.length : Int) r.f0 r.f1 f3 (acc ++ stepR c r ++ t.flatMap (stepR c)) (r.f1 + 1 - r.f0).toNat r.f0 acc f1 (by omega) (by omega) (by
        rw [at_next (p := p) (r := r) (t := t) (by omega)]
        have e : (upto r.f0 (r.f1 + 1 - r.f0).toNat).map (one (c.toNat : Int)) = stepR c r := by unfold stepR; rw [if_neg h88]; rfl
        rw [e]
        exact ih)
      refine Ev.eq (Ev.step (fun k => ?_) hgo) (by simp)
      rw [B.mask_Set.l0, if_pos (at_lt p r t), if_pos (at_0 p), if_pos (at_lt p r t), if_neg (by omega), at_rd]
theorem set_body (c : UInt8) (hc : 48 ≤ c.toNat ∧ c.toNat ≤ 57 ∨ c.toNat = 88) (out : List S86) (hf : fine out 1000) (hl : out.length ≤ 1000) : Ev (fun k => B.mask_Set.f k out (c.toNat : Int)) (out.flatMap (stepR c)) := by
  have := set_l0 c hc out [] [] hf (by simp; omega) (by simp; omega)
  simp only [List.nil_append, List.length_nil] at this
  exact this
def lenB : Nat → Nat
  | 0 => 1
  | p + 1 => lenB p * 10 ^ p
theorem upto_mem (lo : Int) : ∀ (n : Nat) (x : Int), x ∈ upto lo n ↔ lo ≤ x ∧ x < lo + n
  | 0, x => by rw [upto]; constructor
               · intro h; cases h
               · intro h; omega
  | n + 1, x => by rw [upto, List.mem_cons, upto_mem (lo + 1) n x]; omega
theorem stepR_fine {c : UInt8} (hc : 48 ≤ c.toNat ∧ c.toNat ≤ 57 ∨ c.toNat = 88) {out : List S86} {b : Int} (h : fine out b) : fine (out.flatMap (stepR c)) (b * 10) := fun r hr => by
  obtain ⟨q, hq, hr⟩ := List.mem_flatMap.1 hr
  obtain ⟨h1, h2, h3⟩ := h q hq
  unfold stepR at hr
  by_cases h88 : c.toNat = 88
  · rw [if_pos h88] at hr
    obtain rfl := List.mem_singleton.1 hr
    simp only; omega
  · rw [if_neg h88] at hr
    obtain ⟨n, hn, rfl⟩ := List.mem_map.1 hr
    have hn := (upto_mem _ _ _).1 hn
    simp only; omega
theorem flat_len {α β : Type} (f : α → List β) (m : Nat) : ∀ l : List α, (∀ x, x ∈ l → (f x).length ≤ m) → (l.flatMap f).length ≤ l.length * m
  | [], _ => by simp
  | x :: l, h => by
    have h1 := h x List.mem_cons_self
    have h2 := flat_len f m l (fun y hy => h y (List.mem_cons_of_mem _ hy))
    rw [List.flatMap_cons, List.length_append, List.length_cons, Nat.succ_mul]
    omega
theorem stepR_len {c : UInt8} {out : List S86} {b : Nat} (hb : 1 ≤ b) (h : fine out b) : (out.flatMap (stepR c)).length ≤ out.length * b := flat_len _ _ _ fun q hq => by
  obtain ⟨h1, h2, h3⟩ := h q hq
  unfold stepR
  split
  · simp; exact hb
  · rw [List.length_map, upto_len]; omega
def setInv (s : ByteArray) (p : Nat) (out : List S86) : Prop := setL (s.data.toList.drop p) out = setL s.data.toList [⟨0, 0⟩] ∧ fine out (10 ^ p : Nat) ∧ out.length ≤ lenB p
theorem setInv_0 (s : ByteArray) : setInv s 0 [⟨0, 0⟩] := ⟨rfl, fun r hr => by obtain rfl := List.mem_singleton.1 hr; exact ⟨Int.le_refl _, Int.le_refl _, by decide⟩, by decide⟩
theorem setInv_step {s : ByteArray} {p : Nat} {out : List S86} (hp : p < s.size) (hok : 48 ≤ (s[p]'hp).toNat ∧ (s[p]'hp).toNat ≤ 57 ∨ (s[p]'hp).toNat = 88) (h : setInv s p out) : setInv s (p + 1) (out.flatMap (stepR (s[p]'hp))) := by
  obtain ⟨h1, h2, h3⟩ := h
  refine ⟨?_, ?_, ?_⟩
  · rw [← h1, drop_at s p hp]; rfl
  · have := stepR_fine hok h2
    rw [Nat.pow_succ]
    have e : (((10 ^ p * 10 : Nat)) : Int) = ((10 ^ p : Nat) : Int) * 10 := by push_cast; rfl
    rw [e]; exact this
  · have := stepR_len (c := s[p]'hp) (Nat.pow_pos (n := p) (by decide : 0 < 10)) h2
    rw [lenB]
    exact Nat.le_trans this (Nat.mul_le_mul_right _ h3)
theorem setInv_small {s : ByteArray} {p : Nat} {out : List S86} (hp : p ≤ 3) (h : setInv s p out) : fine out 1000 ∧ out.length ≤ 1000 := by
  obtain ⟨h1, h2, h3⟩ := h
  have h10 : (10 ^ p : Nat) ≤ 1000 := Nat.pow_le_pow_right (n := 10) (by decide) hp
  have hl : lenB p ≤ 1000 := by
    rcases (by omega : p = 0 ∨ p = 1 ∨ p = 2 ∨ p = 3) with rfl | rfl | rfl | rfl <;> decide
  refine ⟨fun r hr => ?_, by omega⟩
  obtain ⟨a, b, c⟩ := h2 r hr
  have : ((10 ^ p : Nat) : Int) ≤ 1000 := Int.ofNat_le.2 h10
  exact ⟨a, b, by omega⟩
theorem iterPos_of {w : World} {g : Nat} {s : ByteArray} {p : Nat} (h : w.heap[g]? = some (.stringIter s p)) : w.iterPos g = p := by unfold World.iterPos; rw [h]
set_option maxHeartbeats 8000000 in
set_option maxRecDepth 1000000 in
theorem mask_Set.calls (a0 : ByteArray) (rr : List S86) (w00 : World) (h : mask_Set.f a0 = some rr) :
    Calls Try.prog 83 #[.string a0] w00 fun e w' => ∃ v0_ : Value, e = .returned (v0_) ∧ Kd.R k86 86 w' w00.heap.size (fun _ => True) v0_ rr ∧ Below w00.heap.size w00 w' := by
  have hu37 := Try.underlying86
  obtain rfl := Option.some.inj h
  clear h
  have HB := A_ (Below.refl w00.heap.size w00)
  by_cases hs : saneL a0.data.toList = true
  rotate_left
  · have hs := Bool.eq_false_iff.mpr hs
    have AS := A_ (show mask_Sane.f a0 = some false from congrArg some hs)
    rw [hs]
    clear hs
    go_enter Try.func83, Try.ntmps83
    go_wp2_with (first | (refine gC 55 ?_; refine gL 12 Try.func55 #[.string a0] ?_; (with_reducible refine (mask_Sane.calls a0 false _ AS.out).mono ?_); rintro e w5 ⟨rfl, hb⟩; refine ⟨_, rfl, ?_⟩; have HB2 := bs_ hb; clear HB hb; have HB := HB2; clear HB2))
    go_ret
    exact ⟨_, rfl, Kd.R_nil _ _ _ _ _, HB.out⟩
  have AS := A_ (show mask_Sane.f a0 = some true from congrArg some hs)
  rw [if_pos hs]
  have hsz : a0.size = a0.data.toList.length := by simp
  have h4 : a0.size ≤ 4 := by rw [hsz]; unfold saneL at hs; simp only [Bool.and_eq_true, decide_eq_true_eq] at hs; exact hs.2
  have HOK := A_ (ok_of AS.out)
  have H4 := A_ h4
  clear hs hsz h4
  go_enter Try.func83, Try.ntmps83
  go_wp2_with (first | (refine gC 55 ?_; refine gL 12 Try.func55 #[.string a0] ?_; (with_reducible refine (mask_Sane.calls a0 true _ AS.out).mono ?_); rintro e w5 ⟨rfl, hb⟩; refine ⟨_, rfl, ?_⟩; have HB2 := bs_ hb; clear HB hb; have HB := HB2; clear HB2) | (refine gD 15 ?_; refine Kd.R_lit k86 _ 86 ?hg (N := 15) ?hd (xs := ([(⟨0, 0⟩ : S86)] : List S86)) (inner := [.int .i64 0, .int .i64 0]) (ok := fun _ => True) (okp := fun _ => True) ?hr ?hp (fun _ hk => hk) trivial (Below.refl _ _) (Nat.le_refl _) (by simp) ?_; (case hd => rfl); (case hg => rfl); (case hr => first | (go_simp; done) | (go_simp; rfl)); (case hp => exact (Reps.c2 (show Kd.M k86 _ _ _ (⟨0, 0⟩ : S86) [.int .i64 0, .int .i64 0] from (k86_mkM _ _ _ (⟨0, 0⟩ : S86) )) (Reps.none _ _))); intro v3 w13 ho14 hb hg_ hnew_; clear hg_ hnew_; have HO := A_ (Kd.R_lower ho14 (below_size hs_)); have HB2 := bs_ hb; clear HB hb ho14; have HB := HB2; clear HB2))
  obtain ⟨gi, hgi⟩ : ∃ g : Nat, g = w13.heap.size := ⟨_, rfl⟩
  have HI0 := A_ (show (w13.iter a0 0).heap[gi]? = some (.stringIter a0 0) by rw [hgi]; exact World.iter_heap w13 a0 0)
  have HO0 := A_ (show Kd.R k86 86 (w13.iter a0 0) w00.heap.size (fun k => k ≠ gi) v3 [(⟨0, 0⟩ : S86)] from Kd.R_alloc (Kd.R_reok k86_E HO.out (fun k hk => by
    have := Kd.R_lt HO.out
    have h := this k hk
    omega)) _)
  have HB0 := A_ (show Below w00.heap.size w00 (w13.iter a0 0) from below_alloc HB.out _)
  have HG0 := A_ (show w00.heap.size ≤ gi by rw [hgi]; exact HB.out.size)
  rw [← hgi]
  clear HO HB hgi
  go_loopw [3] (fun v3 w' => ∃ (p : Nat) (out : List S86), Aside0 (w'.heap[gi]? = some (.stringIter a0 p)) ∧ Aside0 (Kd.R k86 86 w' w00.heap.size (fun k => k ≠ gi) v3 out) ∧ Aside0 (Below w00.heap.size w00 w') ∧ Aside0 (setInv a0 p out)) (fun _ w' => a0.size - w'.iterPos gi)
  case atStart => exact ⟨0, _, HI0, HO0, HB0, ⟨setInv_0 a0⟩⟩
  case round =>
    clear HI0 HO0 HB0
    obtain ⟨p, l0, HI, HO, HBB, HD⟩ := hrel
    by_cases hp : p < a0.size
    · have hok := HOK.out p hp
      have hnx : ∀ ty, (Instr.next (.pointer (some ⟨gi, 0, none⟩)) true ty).run Try.prog wr = _ := fun ty => run_next_at ty HI.out hp (by omega)
      obtain ⟨hf, hl⟩ := setInv_small (by have := H4.out; omega) HD.out
      obtain ⟨k, hk⟩ := (set_body (a0[p]'hp) hok l0 hf hl).rounds
      have HD2 := A_ (setInv_step hp hok HD.out)
      obtain ⟨r, hr⟩ : ∃ r, r = l0.flatMap (stepR (a0[p]'hp)) := ⟨_, rfl⟩
      rw [← hr] at hk HD2
      obtain ⟨w, hw⟩ : ∃ w, w = itset wr gi a0 (p + 1) := ⟨_, rfl⟩
      rw [← hw] at hnx
      have HIw := A_ (show w.heap[gi]? = some (.stringIter a0 (p + 1)) by rw [hw]; exact itset_at HI.out)
      have HOw := A_ (show Kd.R k86 86 w w00.heap.size (fun k => k ≠ gi) u3 l0 by rw [hw]; exact Kd.R_keep HO.out (itset_keep _ _ _ _) (fun _ h => h))
      have HBw := A_ (show Below w00.heap.size w00 w by rw [hw]; exact itset_below HBB.out HG0.out)
      have hpos := A_ (iterPos_of HI.out)
      have hp2 := A_ hp
      obtain ⟨A0, c0, rfl⟩ := Kd.R_slice HOw.out
      have HR0 := A_ (Kd.R_reads' HOw.out).2.2
      have HC0 := A_ (Kd.R_reads' HOw.out).2.1
      have hend : ∀ (v : Value) (w' : World), Kd.R k86 86 w' w.heap.size (fun _ => True) v r → Below w.heap.size w w' → ∃ (p : Nat) (out : List S86), Aside0 (w'.heap[gi]? = some (.stringIter a0 p)) ∧ Aside0 (Kd.R k86 86 w' w00.heap.size (fun k => k ≠ gi) v out) ∧ Aside0 (Below w00.heap.size w00 w') ∧ Aside0 (setInv a0 p out) := fun v w' h1 h2 =>
        ⟨p + 1, r, ⟨blk_below HIw.out h2⟩, ⟨Kd.R_lower (Kd.R_reok k86_E h1 (fun k hk => by have h3 := Kd.R_base h1 k hk; have h4 := blk_lt HIw.out; omega)) HBw.out.size⟩, ⟨below_step HBw.out h2⟩, HD2⟩
      have hmeas : ∀ (w' : World), Below w.heap.size w w' → a0.size - w'.iterPos gi < a0.size - wr.iterPos gi := fun w' h2 => by
        rw [iterPos_of (blk_below HIw.out h2), hpos.out]; have := hp2.out; omega
      have HEND := A_ hend
      have HMEAS := A_ hmeas
      generalize ((a0[p]'hp).toNat : Int) = a1 at hnx hk
      have H' := A_ (show B.mask_Set.l0 k a1 ([] : List S86) l0 (l0.length : Int) 0 = some r from hk)
      have HB := A_ (Below.refl w.heap.size w)
      clear hk hr hw hf hl hok hend hmeas HD HI HO HBB HOw HIw HBw HD2 hpos hp2 hp
      go_wp2
      go_loopg [6, 23] k (fun kq v6 v23 w' => ∃ (x6_1 : List (S86)) (x23_1 : Int), v23 = .int .i64 x23_1 ∧ Aside0 (B.mask_Set.l0 kq a1 x6_1 l0 (l0.length : Int) x23_1 = some r) ∧ Aside0 (kq ≤ k) ∧ Aside0 (Kd.R k86 86 w' w.heap.size (fun _ => True) v6 x6_1) ∧ Aside0 (Below w.heap.size w w'))
      case atStart => exact ⟨(([] : List (S86))), (0), (by first | rfl | (simp; done) | (simp [*]; done)), H', ⟨Nat.le_refl _⟩, ⟨by first | exact Kd.R_nil _ _ _ _ _ | exact Kd.N_nil _ _ _ _ _ | exact Kd.V_nil _ _ _ _ _ | exact Kd.Q_nil _ _ _ _ _ | exact Kd.S_nil _ _ _ _ _⟩, ⟨hs_⟩⟩
      case round =>
        clear H'
        try clear p2
        obtain ⟨x6_1, x23_1, rfl, HA, HK1, HO_6, HB⟩ := hrel
        cases gk with
        | zero => exact absurd HA.out (by simp [B.mask_Set.l0])
        | succ k1 =>
          have H := HA.out
          clear HA
          simp only [B.mask_Set.l0] at H
          by_cases c3 : x23_1 < (l0.length : Int)
          · rw [if_pos c3] at H
            have c3b0 := decide_eq_true c3
            clear c3
            by_cases c4 : 0 ≤ x23_1
            · rw [if_pos c4] at H
              have c4b0 := decide_eq_true c4
              clear c4
              by_cases c5 : x23_1 < (l0.length : Int)
              · rw [if_pos c5] at H
                have c5b0 := decide_eq_true c5
                clear c5
                by_cases c6 : a1 = 88
                · rw [if_pos c6] at H
                  have c6b0 : (a1 == 88) = true := beq_iff_eq.mpr c6
                  have c6b1 : (a1 != 88) = false := bne_eq_false_iff_eq.mpr c6
                  clear c6
                  by_cases c7 : x6_1.length < 8796093022208
                  · rw [if_pos c7] at H
                    have LMc7 := A_ c7
                    clear c7
                    obtain ⟨y103, hy103⟩ : ∃ y_ : List (S86), y_ = (x6_1 ++ [(⟨wrap64 (((rd_T86 l0 x23_1).f0) * 10), wrap64 ((wrap64 (((rd_T86 l0 x23_1).f1) * 10)) + 9)⟩ : S86)]) := ⟨_, rfl⟩
                    replace H : (B.mask_Set.l0 k1 a1 y103 l0 (l0.length : Int) (wrap64 (x23_1 + 1))) = some r := by first | (rw [hy103]; with_reducible exact H) | (have H2_ := (Option.bind_some _ _).symm.trans H; rw [hy103]; with_reducible exact H2_) | (have H2_ := (Option.bind_some _ _).symm.trans H; with_reducible exact H2_) | with_reducible exact H | (rw [hy103]; exact H) | exact H
                    have Ny103 := A_ hy103
                    clear hy103
                    have H' := A_ H
                    clear H
                    have p101 : 0 ≤ (x23_1 : Int) := of_decide_eq_true (by first | (with_reducible assumption) | assumption)
                    have q101 : x23_1 < (l0.length : Int) := of_decide_eq_true (by first | (with_reducible assumption) | assumption)
                    obtain ⟨ad101, e101, hx101_0, hx101_1⟩ := at_T86 HR0.out x23_1 p101 q101
                    cases e101
                    replace hx101_0 := cl_ HB hx101_0
                    replace hx101_1 := cl_ HB hx101_1
                    replace p101 := eq_true p101
                    replace q101 := eq_true q101
                    go_wp2_with (first | (refine gD 8 ?_; refine bxe_ 8 #[.int .i64 0, .int .i64 0] 86 ?_; intro gb102 hg w8 hbox hb; replace HO_6 := A_ (Kd.R_below (Kd.R_elderB (fxR_ HO_6.out) gb102 (Nat.le_of_eq hg.symm)) hb); have BK102 := A_ (hbox); have GW102 := gs_ w hg; have GE102 := gs_ w hg; replace HB := bs_ hb; clear hb hbox hg; have hcz9_0 : w8.cell? ⟨gb102, 0, none⟩ = some (.int .i64 0) := bq_ BK102 0; have hcz9_1 : w8.cell? ⟨gb102, 1, none⟩ = some (.int .i64 0) := bq_ BK102 1; have hfz9_0 := blk_frozen BK102.out 0; have hfz9_1 := blk_frozen BK102.out 1) | ((with_reducible refine gate_builtin (b := .append) (xs := #[.tmp 29, .tmp 38]) rfl ?_); at_builtin; refine Kd.R_append k86 (w0 := w) w.heap.size rfl (.tmp 29) (.tmp 38) 82 86 (.agg #[(.int .i64 0), (.int .i64 0)]) 16 rfl Try.underlying82 info86 rfl (by decide) (by omega) u6 x6_1 (⟨wrap64 (((rd_T86 l0 x23_1).f0) * 10), wrap64 ((wrap64 (((rd_T86 l0 x23_1).f1) * 10)) + 9)⟩ : S86) [.int .i64 (wrap64 (((rd_T86 l0 x23_1).f0) * 10)), .int .i64 (wrap64 ((wrap64 (((rd_T86 l0 x23_1).f1) * 10)) + 9))] (fun k_ => k_ ≠ gb102) (fun _ => False) rfl (by first | (go_simp; done) | (go_simp; rfl)) ?aP (fun _ hk => hk.elim) ?aF ?aO ?aB ?aS ?aL ?_; (case aP => exact k86_mkM _ _ _ (⟨wrap64 (((rd_T86 l0 x23_1).f0) * 10), wrap64 ((wrap64 (((rd_T86 l0 x23_1).f1) * 10)) + 9)⟩ : S86)); (case aB => exact hs_); (case aF => exact (fun k_ hk => fb_ BK102 k_ hk)); (case aO => exact (fpR_ HO_6.out)); (case aS => exact (below_size hs_)); (case aL => have := LMc7.out; omega); intro v104 w10 ho hb hg hat; rw [← Ny103.out] at ho; replace BK102 := A_ (blk_grown (g := gb102) (o := .cells #[.int .i64 ((rd_T86 l0 x23_1).f0), .int .i64 ((rd_T86 l0 x23_1).f1)] 86 (0, 0)) (pb_ BK102.out) hg (Kd.R_away HO_6.out (fun _ hk => hk.2))); replace HB := A_ (hb); have HO105 := A_ (ho); clear HO_6; clear ho hb hg hat))
                    go_roundg k1
                    case measure => have := HK1.out; omega
                    case rel => exact ⟨(y103), (wrap64 (x23_1 + 1)), (by first | rfl | (simp; done) | (simp [*]; done)), H', ⟨by have := HK1.out; omega⟩, ⟨by (with_reducible repeat (first | apply Kd.R_alloc | apply Kd.R_drewN | apply Kd.R_drew)); exact Kd.R_mono HO105.out (fun _ hk => trivial)⟩, ⟨hs_⟩⟩
                  · rw [if_neg c7] at H
                    exact absurd H (by simp)
                · rw [if_neg c6] at H
                  have c6b0 : (a1 == 88) = false := beq_eq_false_iff_ne.mpr c6
                  have c6b1 : (a1 != 88) = true := bne_iff_ne.mpr c6
                  have H' := A_ H
                  clear H
                  have p101 : 0 ≤ (x23_1 : Int) := of_decide_eq_true (by first | (with_reducible assumption) | assumption)
                  have q101 : x23_1 < (l0.length : Int) := of_decide_eq_true (by first | (with_reducible assumption) | assumption)
                  obtain ⟨ad101, e101, hx101_0, hx101_1⟩ := at_T86 HR0.out x23_1 p101 q101
                  cases e101
                  replace hx101_0 := cl_ HB hx101_0
                  replace hx101_1 := cl_ HB hx101_1
                  replace p101 := eq_true p101
                  replace q101 := eq_true q101
                  go_wp2_with (first | (refine gD 8 ?_; refine bxe_ 8 #[.int .i64 0, .int .i64 0] 86 ?_; intro gb102 hg w11 hbox hb; replace HO_6 := A_ (Kd.R_below (Kd.R_elderB (fxR_ HO_6.out) gb102 (Nat.le_of_eq hg.symm)) hb); have BK102 := A_ (hbox); have GW102 := gs_ w hg; have GE102 := gs_ w hg; replace HB := bs_ hb; clear hb hbox hg; have hcz12_0 : w11.cell? ⟨gb102, 0, none⟩ = some (.int .i64 0) := bq_ BK102 0; have hcz12_1 : w11.cell? ⟨gb102, 1, none⟩ = some (.int .i64 0) := bq_ BK102 1; have hfz12_0 := blk_frozen BK102.out 0; have hfz12_1 := blk_frozen BK102.out 1))
                  go_loopg [6, 9] k1 (fun kq v6 v9 w' => ∃ (x6_2 : List (S86)) (x9_2 : Int), v9 = .int .i64 x9_2 ∧ Aside0 (B.mask_Set.l1 kq a1 x6_2 x9_2 l0 (l0.length : Int) x23_1 ((rd_T86 l0 x23_1).f0) ((rd_T86 l0 x23_1).f1) = some r) ∧ Aside0 (kq ≤ k1) ∧ Aside0 (Kd.R k86 86 w' w.heap.size (fun k_ => k_ ≠ gb102) v6 x6_2) ∧ Aside0 (w'.heap[gb102]? = some (.cells #[.int .i64 ((rd_T86 l0 x23_1).f0), .int .i64 ((rd_T86 l0 x23_1).f1)] 86 (0, 0))) ∧ Aside0 (Below w.heap.size w w'))
                  case atStart => exact ⟨(x6_1), ((rd_T86 l0 x23_1).f0), (by first | rfl | (simp; done) | (simp [*]; done)), H', ⟨Nat.le_refl _⟩, ⟨fpR_ HO_6.out⟩, ⟨pb_ BK102.out⟩, ⟨hs_⟩⟩
                  case round =>
                    clear H'
                    try clear p1
                    try clear q1
                    try clear hx1
                    try clear p2
                    try clear c3
                    try clear c3b0
                    try clear c4
                    try clear c4b0
                    try clear c5
                    try clear c5b0
                    try clear c6
                    try clear c6b0
                    try clear c6b1
                    try clear p6
                    try clear c7
                    try clear c8
                    try clear p10
                    try clear q10
                    try clear hx10
                    try clear hcz12_0
                    try clear hcz12_1
                    try clear hcz9_0
                    try clear hcz9_1
                    try clear hfz12_0
                    try clear hfz12_1
                    try clear hfz9_0
                    try clear hfz9_1
                    try clear hx101_0
                    try clear hx101_1
                    try clear p101
                    try clear p2
                    try clear q101
                    obtain ⟨x6_2, x9_2, rfl, HA, HK2, HO_6, BK102, HB⟩ := hrel
                    cases gk with
                    | zero => exact absurd HA.out (by simp [B.mask_Set.l1])
                    | succ k2 =>
                      have H := HA.out
                      clear HA
                      simp only [B.mask_Set.l1] at H
                      by_cases c13 : x9_2 ≤ ((rd_T86 l0 x23_1).f1)
                      · rw [if_pos c13] at H
                        have c13b0 := decide_eq_true c13
                        clear c13
                        by_cases c14 : x6_2.length < 8796093022208
                        · rw [if_pos c14] at H
                          have LMc14 := A_ c14
                          clear c14
                          obtain ⟨y106, hy106⟩ : ∃ y_ : List (S86), y_ = (x6_2 ++ [(⟨wrap64 ((wrap64 (x9_2 * 10)) + (wrap64 (wrap32 (a1 - 48)))), wrap64 ((wrap64 (x9_2 * 10)) + (wrap64 (wrap32 (a1 - 48))))⟩ : S86)]) := ⟨_, rfl⟩
                          replace H : (B.mask_Set.l1 k2 a1 y106 (wrap64 (x9_2 + 1)) l0 (l0.length : Int) x23_1 ((rd_T86 l0 x23_1).f0) ((rd_T86 l0 x23_1).f1)) = some r := by first | (rw [hy106]; with_reducible exact H) | (have H2_ := (Option.bind_some _ _).symm.trans H; rw [hy106]; with_reducible exact H2_) | (have H2_ := (Option.bind_some _ _).symm.trans H; with_reducible exact H2_) | with_reducible exact H | (rw [hy106]; exact H) | exact H
                          have Ny106 := A_ hy106
                          clear hy106
                          have H' := A_ H
                          clear H
                          have hcz15_0 : wr.cell? ⟨gb102, 0, none⟩ = some (.int .i64 ((rd_T86 l0 x23_1).f0)) := bq_ BK102 0
                          have hcz15_1 : wr.cell? ⟨gb102, 1, none⟩ = some (.int .i64 ((rd_T86 l0 x23_1).f1)) := bq_ BK102 1
                          have hfz15_0 := blk_frozen BK102.out 0
                          have hfz15_1 := blk_frozen BK102.out 1
                          go_wp2_with (first | ((with_reducible refine gate_builtin (b := .append) (xs := #[.tmp 54, .tmp 58]) rfl ?_); at_builtin; refine Kd.R_append k86 (w0 := w) w.heap.size rfl (.tmp 54) (.tmp 58) 82 86 (.agg #[(.int .i64 0), (.int .i64 0)]) 16 rfl Try.underlying82 info86 rfl (by decide) (by omega) u6 x6_2 (⟨wrap64 ((wrap64 (x9_2 * 10)) + (wrap64 (wrap32 (a1 - 48)))), wrap64 ((wrap64 (x9_2 * 10)) + (wrap64 (wrap32 (a1 - 48))))⟩ : S86) [.int .i64 (wrap64 ((wrap64 (x9_2 * 10)) + (wrap64 (wrap32 (a1 - 48))))), .int .i64 (wrap64 ((wrap64 (x9_2 * 10)) + (wrap64 (wrap32 (a1 - 48)))))] (fun k_ => k_ ≠ gb102) (fun _ => False) rfl rfl ?aP (fun _ hk => hk.elim) ?aF ?aO ?aB ?aS ?aL ?_; (case aP => exact k86_mkM _ _ _ (⟨wrap64 ((wrap64 (x9_2 * 10)) + (wrap64 (wrap32 (a1 - 48)))), wrap64 ((wrap64 (x9_2 * 10)) + (wrap64 (wrap32 (a1 - 48))))⟩ : S86)); (case aB => exact hs_); (case aF => exact (fun k_ hk => fb_ BK102 k_ hk)); (case aO => exact (fxR_ HO_6.out)); (case aS => exact (below_size hs_)); (case aL => have := LMc14.out; omega); intro v107 w16 ho hb hg hat; rw [← Ny106.out] at ho; replace BK102 := A_ (blk_grown (g := gb102) (o := .cells #[.int .i64 ((rd_T86 l0 x23_1).f0), .int .i64 ((rd_T86 l0 x23_1).f1)] 86 (0, 0)) (bl_ BK102.out) hg (Kd.R_away HO_6.out (fun _ hk => hk))); replace HB := A_ (hb); have HO108 := A_ (ho); clear HO_6; clear ho hb hg hat))
                          go_roundg k2
                          case measure => have := HK1.out; have := HK2.out; omega
                          case rel => exact ⟨(y106), (wrap64 (x9_2 + 1)), (by first | rfl | (simp; done) | (simp [*]; done)), H', ⟨by have := HK1.out; have := HK2.out; omega⟩, ⟨fxR_ HO108.out⟩, ⟨bl_ BK102.out⟩, ⟨hs_⟩⟩
                        · rw [if_neg c14] at H
                          exact absurd H (by simp)
                      · rw [if_neg c13] at H
                        have c13b0 := decide_eq_false c13
                        clear c13
                        have H' := A_ H
                        clear H
                        have hcz17_0 : wr.cell? ⟨gb102, 0, none⟩ = some (.int .i64 ((rd_T86 l0 x23_1).f0)) := bq_ BK102 0
                        have hcz17_1 : wr.cell? ⟨gb102, 1, none⟩ = some (.int .i64 ((rd_T86 l0 x23_1).f1)) := bq_ BK102 1
                        have hfz17_0 := blk_frozen BK102.out 0
                        have hfz17_1 := blk_frozen BK102.out 1
                        go_wp2
                        go_roundg k2
                        case measure => have := HK1.out; have := HK2.out; omega
                        case rel => exact ⟨(x6_2), (wrap64 (x23_1 + 1)), (by first | rfl | (simp; done) | (simp [*]; done)), H', ⟨by have := HK1.out; have := HK2.out; omega⟩, ⟨by (with_reducible repeat (first | apply Kd.R_alloc | apply Kd.R_drewN | apply Kd.R_drew)); exact Kd.R_mono HO_6.out (fun _ hk => trivial)⟩, ⟨hs_⟩⟩
              · rw [if_neg c5] at H
                exact absurd H (by simp)
            · rw [if_neg c4] at H
              exact absurd H (by simp)
          · rw [if_neg c3] at H
            have c3b0 := decide_eq_false c3
            clear c3
            obtain rfl := Option.some.inj H
            go_wp2
            go_roundw
            case rel => exact HEND.out _ _ HO_6.out HB.out
            case measure => exact HMEAS.out _ HB.out
    · have hnx : ∀ ty, (Instr.next (.pointer (some ⟨gi, 0, none⟩)) true ty).run Try.prog wr = _ := fun ty => run_next_done ty HI.out hp
      have hf : l0 = setL a0.data.toList [⟨0, 0⟩] := by rw [← HD.out.1, List.drop_eq_nil_of_le (by simpa using hp)]; rfl
      have HF := A_ hf
      clear hf hp
      go_wp2
      go_ret
      exact ⟨_, rfl, by rw [← HF.out]; exact Kd.R_mono HO.out (fun _ _ => trivial), HBB.out⟩
def runs_Sane.l0 : Nat → Int → List (S86) → Int → Int → Option (Bool)
  | 0, _, _, _, _ => none
  | k + 1, x3, x6, x7, x8 => if x8 < x7 then (if 0 ≤ x8 then (if x8 < (x6.length : Int) then (if ((rd_T86 x6 x8).f0) > ((rd_T86 x6 x8).f1) then (some false) else (if ((rd_T86 x6 x8).f0) < (wrap64 (x3 + 2)) then (some false) else (if ((rd_T86 x6 x8).f1) > 1099511627776 then (some false) else (runs_Sane.l0 k ((rd_T86 x6 x8).f1) x6 x7 (wrap64 (x8 + 1)))))) else (none)) else (none)) else (some true)
def runs_Sane.f (k : Nat) (l0 : List (S86)) : Option (Bool) := runs_Sane.l0 k (-1099511627778) l0 (l0.length : Int) 0
theorem runs_Sane.mono_l : ∀ k, (∀ y0 y1 y2 y3, LeO (runs_Sane.l0 k y0 y1 y2 y3) (runs_Sane.l0 (k + 1) y0 y1 y2 y3))
  | 0 => fun _ _ _ _ r h => by simp [runs_Sane.l0] at h
  | k + 1 => by
    have ih0 := runs_Sane.mono_l k
    · intro y0 y1 y2 y3
      unfold runs_Sane.l0
      repeat' (with_reducible first | apply ih0 | exact LeO.refl _ | exact LeO.none _ | refine LeO.ite ?_ ?_ | refine LeO.bind ?_ fun _ => ?_)
theorem runs_Sane.mono : ∀ a0 k, LeO (runs_Sane.f k a0) (runs_Sane.f (k + 1) a0) := by
  intro a0 k
  have ih0 := runs_Sane.mono_l k
  unfold runs_Sane.f
  repeat' (with_reducible first | apply ih0 | exact LeO.refl _ | exact LeO.none _ | refine LeO.ite ?_ ?_ | refine LeO.bind ?_ fun _ => ?_)
def runs_Make.f (_ : List S86) : Option (List S86) := none
def sets_known.f (k : Nat) (l0 : List (S86)) : Option ((List (S86))) := (runs_Sane.f k l0).bind fun t103 => (if t103 = true then (some l0) else ((runs_Make.f l0).bind fun t104 => (some t104)))
theorem sets_known.mono : ∀ a0 k, LeO (sets_known.f k a0) (sets_known.f (k + 1) a0) := by
  intro a0 k
  unfold sets_known.f
  repeat' (with_reducible first | apply runs_Sane.mono | exact LeO.refl _ | exact LeO.none _ | refine LeO.ite ?_ ?_ | refine LeO.bind ?_ fun _ => ?_)
mutual
def sets_Meet.l0 : Nat → List (S86) → List (S86) → List (S86) → Int → Int → Option ((List (S86)))
  | 0, _, _, _, _, _ => none
  | k + 1, x0, x1, x5, x6, x7 => if x6 < (x0.length : Int) then (sets_Meet.j1 k x0 x1 x5 x6 x7 (decide (x7 < (x1.length : Int)))) else (sets_Meet.j1 k x0 x1 x5 x6 x7 false)
def sets_Meet.j1 : Nat → List (S86) → List (S86) → List (S86) → Int → Int → Bool → Option ((List (S86)))
  | 0, _, _, _, _, _, _ => none
  | k + 1, x0, x1, x5, x6, x7, x22 => if x22 = true then (if 0 ≤ x6 then (if x6 < (x0.length : Int) then (if 0 ≤ x7 then (if x7 < (x1.length : Int) then (if (mx ((rd_T86 x0 x6).f0) ((rd_T86 x1 x7).f0)) ≤ (mn ((rd_T86 x0 x6).f1) ((rd_T86 x1 x7).f1)) then (if x5.length < 8796093022208 then ((some (x5 ++ [(⟨mx ((rd_T86 x0 x6).f0) ((rd_T86 x1 x7).f0), mn ((rd_T86 x0 x6).f1) ((rd_T86 x1 x7).f1)⟩ : S86)] : List (S86))).bind fun y118 => (if ((rd_T86 x0 x6).f1) < ((rd_T86 x1 x7).f1) then (sets_Meet.l0 k x0 x1 y118 (wrap64 (x6 + 1)) x7) else (sets_Meet.l0 k x0 x1 y118 x6 (wrap64 (x7 + 1))))) else (none)) else (if ((rd_T86 x0 x6).f1) < ((rd_T86 x1 x7).f1) then (sets_Meet.l0 k x0 x1 x5 (wrap64 (x6 + 1)) x7) else (sets_Meet.l0 k x0 x1 x5 x6 (wrap64 (x7 + 1))))) else (none)) else (none)) else (none)) else (none)) else (some x5)
end
def sets_Meet.f (k : Nat) (l0 : List (S86)) (l1 : List (S86)) : Option ((List (S86))) := (sets_known.f k l0).bind fun t107 => ((sets_known.f k l1).bind fun t110 => (sets_Meet.l0 k t107 t110 ([] : List (S86)) 0 0))
theorem sets_Meet.mono_l : ∀ k, (∀ y0 y1 y2 y3 y4, LeO (sets_Meet.l0 k y0 y1 y2 y3 y4) (sets_Meet.l0 (k + 1) y0 y1 y2 y3 y4)) ∧ (∀ y0 y1 y2 y3 y4 y5, LeO (sets_Meet.j1 k y0 y1 y2 y3 y4 y5) (sets_Meet.j1 (k + 1) y0 y1 y2 y3 y4 y5))
  | 0 => ⟨fun _ _ _ _ _ r h => by simp [sets_Meet.l0] at h, fun _ _ _ _ _ _ r h => by simp [sets_Meet.j1] at h⟩
  | k + 1 => by
    obtain ⟨ih0, ih1⟩ := sets_Meet.mono_l k
    refine ⟨?_, ?_⟩
    · intro y0 y1 y2 y3 y4
      unfold sets_Meet.l0
      repeat' (with_reducible first | apply ih0 | apply ih1 | apply sets_known.mono | exact LeO.refl _ | exact LeO.none _ | refine LeO.ite ?_ ?_ | refine LeO.bind ?_ fun _ => ?_)
    · intro y0 y1 y2 y3 y4 y5
      unfold sets_Meet.j1
      repeat' (with_reducible first | apply ih0 | apply ih1 | apply sets_known.mono | exact LeO.refl _ | exact LeO.none _ | refine LeO.ite ?_ ?_ | refine LeO.bind ?_ fun _ => ?_)
theorem sets_Meet.mono : ∀ a0 a1 k, LeO (sets_Meet.f k a0 a1) (sets_Meet.f (k + 1) a0 a1) := by
  intro a0 a1 k
  obtain ⟨ih0, ih1⟩ := sets_Meet.mono_l k
  unfold sets_Meet.f
  repeat' (with_reducible first | apply ih0 | apply ih1 | apply sets_known.mono | exact LeO.refl _ | exact LeO.none _ | refine LeO.ite ?_ ?_ | refine LeO.bind ?_ fun _ => ?_)
def lim : Int := 1099511627776
def mem (l : List S86) (n : Int) : Prop := ∃ r, r ∈ l ∧ r.f0 ≤ n ∧ n ≤ r.f1
def saneF : Int → List S86 → Prop
  | _, [] => True
  | a, r :: t => a + 2 ≤ r.f0 ∧ r.f0 ≤ r.f1 ∧ r.f1 ≤ lim ∧ saneF r.f1 t
def sane (l : List S86) : Prop := saneF (-lim - 2) l
theorem mem_nil (n : Int) : ¬ mem [] n := fun ⟨_, h, _⟩ => by simp at h
theorem mem_cons (r : S86) (t : List S86) (n : Int) : mem (r :: t) n ↔ (r.f0 ≤ n ∧ n ≤ r.f1) ∨ mem t n := by
  constructor
  · rintro ⟨q, hq, h⟩
    rcases List.mem_cons.1 hq with rfl | hq
    · exact .inl h
    · exact .inr ⟨q, hq, h⟩
  · rintro (h | ⟨q, hq, h⟩)
    · exact ⟨r, List.mem_cons_self, h⟩
    · exact ⟨q, List.mem_cons_of_mem _ hq, h⟩
theorem mem_append (s t : List S86) (n : Int) : mem (s ++ t) n ↔ mem s n ∨ mem t n := by
  induction s with
  | nil => simp [mem_nil]
  | cons r s ih => rw [List.cons_append, mem_cons, mem_cons, ih, or_assoc]
theorem saneF_mem : ∀ {a : Int} {l : List S86}, saneF a l → ∀ {n : Int}, mem l n → a + 2 ≤ n ∧ n ≤ lim
  | _, [], _, _, h => absurd h (mem_nil _)
  | a, r :: t, ⟨h1, h2, h3, h4⟩, n, h => by
    rcases (mem_cons _ _ _).1 h with h | h
    · omega
    · have := saneF_mem h4 h
      omega
theorem saneF_le {a b : Int} {l : List S86} (h : saneF a l) (hb : b ≤ a) : saneF b l := by
  cases l with
  | nil => trivial
  | cons r t =>
    obtain ⟨h1, h2, h3, h4⟩ := h
    exact ⟨by omega, h2, h3, h4⟩
def ins (x : S86) : List S86 → List S86
  | [] => [x]
  | q :: t => if q.f1 < x.f0 - 1 then q :: ins x t else if x.f1 + 1 < q.f0 then x :: q :: t else ins ⟨min x.f0 q.f0, max x.f1 q.f1⟩ t
def clamp (r : S86) : S86 := ⟨max r.f0 (-lim), min r.f1 lim⟩
def step (s : List S86) (r : S86) : List S86 := if (clamp r).f0 ≤ (clamp r).f1 then ins (clamp r) s else s
theorem Ev.ift {α : Type} {c : Prop} [Decidable c] {g f : Nat → Option α} {r : α} (hc : c) (h : Ev g r) : Ev (fun k => if c then g k else f k) r := Ev.congr (fun k => if_pos hc) h
theorem Ev.iff_ {α : Type} {c : Prop} [Decidable c] {g f : Nat → Option α} {r : α} (hc : ¬ c) (h : Ev f r) : Ev (fun k => if c then g k else f k) r := Ev.congr (fun k => if_neg hc) h
theorem Ev.bnow {α β : Type} {a : Option α} {f : Nat → α → Option β} {x : α} {r : β} (h : a = some x) (k : Ev (fun n => f n x) r) : Ev (fun n => a.bind (f n)) r := Ev.congr (fun n => by rw [h]; rfl) k
theorem sane_all {l : List UInt8} (h : saneL l = true) : l.all okB = true ∧ l ≠ [] ∧ l.length ≤ 4 := by
  unfold saneL at h
  simp only [Bool.and_eq_true, decide_eq_true_eq] at h
  exact ⟨h.1.1, h.1.2, h.2⟩
theorem bsize (s : ByteArray) : s.size = s.data.toList.length := by simp
theorem Sane_l0 : ∀ (t p : List S86) (last : Int), (p ++ t).length ≤ 4611686018427387904 → -lim - 2 ≤ last → last ≤ lim →
    ∃ b, Ev (fun k => runs_Sane.l0 k last (p ++ t) ((p ++ t).length : Int) (p.length : Int)) b ∧ (b = true ↔ saneF last t)
  | [], p, last, _, _, _ => ⟨true, Ev.step (f := fun _ => some true) (fun k => by simp only [runs_Sane.l0]; rw [if_neg (at_end p)]) (Ev.now true), by simp [saneF]⟩
  | r :: t, p, last, hn, h1, h2 => by
    have e : ∀ k, runs_Sane.l0 (k + 1) last (p ++ r :: t) ((p ++ r :: t).length : Int) (p.length : Int) = (if r.f0 > r.f1 then some false else if r.f0 < last + 2 then some false else if r.f1 > 1099511627776 then some false else runs_Sane.l0 k r.f1 (p ++ r :: t) ((p ++ r :: t).length : Int) ((p ++ [r]).length : Int)) := fun k => by
      simp only [runs_Sane.l0]
      rw [if_pos (at_lt p r t), if_pos (at_0 p), if_pos (at_lt p r t), at_rd, at_next hn, w64 (by unfold lim at h1; omega) (by unfold lim at h2; omega)]
    by_cases c1 : r.f0 > r.f1
    · exact ⟨false, Ev.step (f := fun _ => some false) (fun k => by rw [e, if_pos c1]) (Ev.now _), by simp [saneF]; omega⟩
    by_cases c2 : r.f0 < last + 2
    · exact ⟨false, Ev.step (f := fun _ => some false) (fun k => by rw [e, if_neg c1, if_pos c2]) (Ev.now _), by simp [saneF]; omega⟩
    by_cases c3 : r.f1 > 1099511627776
    · exact ⟨false, Ev.step (f := fun _ => some false) (fun k => by rw [e, if_neg c1, if_neg c2, if_pos c3]) (Ev.now _), by simp [saneF, lim]; omega⟩
    obtain ⟨b, hb, hs⟩ := Sane_l0 t (p ++ [r]) r.f1 (by rw [← at_app]; exact hn) (by omega) (by unfold lim; omega)
    rw [← at_app] at hb
    refine ⟨b, Ev.step (fun k => by rw [e, if_neg c1, if_neg c2, if_neg c3]) hb, ?_⟩
    rw [hs, saneF]
    unfold lim
    exact ⟨fun h => ⟨by omega, by omega, by omega, h⟩, fun h => h.2.2.2⟩
theorem Sane_f (l : List S86) (hn : l.length ≤ 4611686018427387904) : ∃ b, Ev (fun k => runs_Sane.f k l) b ∧ (b = true ↔ sane l) := by
  obtain ⟨b, hb, hs⟩ := Sane_l0 l [] (-lim - 2) (by simpa using hn) (by omega) (by unfold lim; omega)
  exact ⟨b, hb, hs⟩
theorem mx_max (a b : Int) : mx a b = max a b := by unfold mx; omega
theorem mn_min (a b : Int) : mn a b = min a b := by unfold mn; omega
theorem sknown_s {l : List S86} (hs : sane l) (hn : l.length < 4398046511104) : Ev (fun k => sets_known.f k l) l := by
  obtain ⟨b, hb, h⟩ := Sane_f l (by omega)
  obtain rfl := h.2 hs
  exact Ev.bind hb (Ev.ift rfl (Ev.now _))
theorem mem_one (r : S86) (n : Int) : mem [r] n ↔ r.f0 ≤ n ∧ n ≤ r.f1 := by rw [mem_cons]; simp [mem_nil]
def both (r q : S86) : S86 := ⟨max r.f0 q.f0, min r.f1 q.f1⟩
def meet2 : List S86 → List S86 → List S86
  | [], _ => []
  | _ :: _, [] => []
  | r :: s, q :: t => (if (both r q).f0 ≤ (both r q).f1 then [both r q] else []) ++ (if r.f1 < q.f1 then meet2 s (q :: t) else meet2 (r :: s) t)
termination_by s t => s.length + t.length
theorem meet2_nil (s : List S86) : meet2 s [] = [] := by cases s <;> simp [meet2]
theorem meet2_cons (r : S86) (s : List S86) (q : S86) (t : List S86) : meet2 (r :: s) (q :: t) = (if (both r q).f0 ≤ (both r q).f1 then [both r q] else []) ++ (if r.f1 < q.f1 then meet2 s (q :: t) else meet2 (r :: s) t) := by rw [meet2]
theorem meet2_len : ∀ (m : Nat) (s t : List S86), s.length + t.length = m → (meet2 s t).length ≤ s.length + t.length
  | _, [], t, _ => by simp [meet2]
  | _, s, [], _ => by simp [meet2_nil]
  | m + 1, r :: s, q :: t, e => by
    simp only [List.length_cons] at e
    rw [meet2_cons, List.length_append]
    have h1 : (if (both r q).f0 ≤ (both r q).f1 then [both r q] else []).length ≤ 1 := by split <;> simp
    by_cases c : r.f1 < q.f1
    · rw [if_pos c]
      have := meet2_len m s (q :: t) (by simp only [List.length_cons]; omega)
      simp only [List.length_cons] at this ⊢
      omega
    · rw [if_neg c]
      have := meet2_len m (r :: s) t (by simp only [List.length_cons]; omega)
      simp only [List.length_cons] at this ⊢
      omega
theorem meet2_sane : ∀ (m : Nat) (s t : List S86) (a b : Int), s.length + t.length = m → saneF a s → saneF b t → saneF (max a b) (meet2 s t)
  | _, [], t, _, _, _, _, _ => by simp [meet2, saneF]
  | _, s, [], _, _, _, _, _ => by simp [meet2_nil, saneF]
  | m + 1, r :: s, q :: t, a, b, e, hs, ht => by
    simp only [List.length_cons] at e
    obtain ⟨r1, r2, r3, r4⟩ := hs
    obtain ⟨q1, q2, q3, q4⟩ := ht
    have ht : saneF (if r.f1 < q.f1 then max r.f1 b else max a q.f1) (if r.f1 < q.f1 then meet2 s (q :: t) else meet2 (r :: s) t) := by
      split
      · exact meet2_sane m s (q :: t) _ _ (by simp only [List.length_cons]; omega) r4 ⟨q1, q2, q3, q4⟩
      · exact meet2_sane m (r :: s) t _ _ (by simp only [List.length_cons]; omega) ⟨r1, r2, r3, r4⟩ q4
    rw [meet2_cons]
    by_cases c : (both r q).f0 ≤ (both r q).f1
    · rw [if_pos c]
      simp only [both] at c
      refine ⟨by simp only [both]; omega, by simp only [both]; exact c, by simp only [both]; omega, saneF_le ht ?_⟩
      simp only [both]
      split <;> omega
    · rw [if_neg c, List.nil_append]
      refine saneF_le ht ?_
      split <;> omega
theorem meet2_mem : ∀ (m : Nat) (s t : List S86) (a b : Int), s.length + t.length = m → saneF a s → saneF b t → ∀ n, mem (meet2 s t) n ↔ mem s n ∧ mem t n
  | _, [], t, _, _, _, _, _, n => by simp [meet2, mem_nil]
  | _, s, [], _, _, _, _, _, n => by simp [meet2_nil, mem_nil]
  | m + 1, r :: s, q :: t, a, b, e, hs, ht, n => by
    simp only [List.length_cons] at e
    have hs0 := hs; have ht0 := ht
    obtain ⟨r1, r2, r3, r4⟩ := hs
    obtain ⟨q1, q2, q3, q4⟩ := ht
    have ho : mem (if (both r q).f0 ≤ (both r q).f1 then [both r q] else []) n ↔ (r.f0 ≤ n ∧ n ≤ r.f1) ∧ q.f0 ≤ n ∧ n ≤ q.f1 := by
      by_cases c : (both r q).f0 ≤ (both r q).f1
      · rw [if_pos c, mem_one]; simp only [both]; omega
      · rw [if_neg c]; simp only [both] at c; constructor
        · exact fun h => absurd h (mem_nil _)
        · intro h; omega
    rw [meet2_cons, mem_append, ho]
    by_cases c : r.f1 < q.f1
    · rw [if_pos c, meet2_mem m s (q :: t) _ _ (by simp only [List.length_cons]; omega) r4 ht0 n, mem_cons, mem_cons]
      have h1 : mem t n → q.f1 + 2 ≤ n := fun h => (saneF_mem q4 h).1
      constructor
      · rintro (h | h)
        · exact ⟨.inl h.1, .inl h.2⟩
        · exact ⟨.inr h.1, h.2⟩
      · rintro ⟨h | h, h'⟩
        · rcases h' with h' | h'
          · exact .inl ⟨h, h'⟩
          · have := h1 h'; omega
        · exact .inr ⟨h, h'⟩
    · rw [if_neg c, meet2_mem m (r :: s) t _ _ (by simp only [List.length_cons]; omega) hs0 q4 n, mem_cons, mem_cons]
      have h1 : mem s n → r.f1 + 2 ≤ n := fun h => (saneF_mem r4 h).1
      constructor
      · rintro (h | h)
        · exact ⟨.inl h.1, .inl h.2⟩
        · exact ⟨h.1, .inr h.2⟩
      · rintro ⟨h, h' | h'⟩
        · rcases h with h | h
          · exact .inl ⟨h, h'⟩
          · have := h1 h; omega
        · exact .inr ⟨h, h'⟩
theorem Meet_l0 : ∀ (m : Nat) (s t p q acc : List S86), s.length + t.length = m → (p ++ s).length < 4398046511104 → (q ++ t).length < 4398046511104 → acc.length + s.length + t.length < 8796093022208 →
    Ev (fun k => sets_Meet.l0 k (p ++ s) (q ++ t) acc (p.length : Int) (q.length : Int)) (acc ++ meet2 s t)
  | _, [], t, p, q, acc, _, _, _, _ => by
    refine Ev.step (f := fun k => sets_Meet.j1 k (p ++ []) (q ++ t) acc (p.length : Int) (q.length : Int) false) (fun k => by rw [sets_Meet.l0, if_neg (at_end p)]) ?_
    refine Ev.step (f := fun _ => some (acc ++ meet2 [] t)) (fun k => by rw [sets_Meet.j1, if_neg (by simp)]; simp [meet2]) (Ev.now _)
  | _, r :: s, [], p, q, acc, _, _, _, _ => by
    refine Ev.step (f := fun k => sets_Meet.j1 k (p ++ r :: s) (q ++ []) acc (p.length : Int) (q.length : Int) false) (fun k => by rw [sets_Meet.l0, if_pos (at_lt p r s), decide_eq_false (at_end q)]) ?_
    refine Ev.step (f := fun _ => some (acc ++ meet2 (r :: s) [])) (fun k => by rw [sets_Meet.j1, if_neg (by simp)]; simp [meet2_nil]) (Ev.now _)
  | m + 1, r :: s, x :: t, p, q, acc, e, h1, h2, h3 => by
    simp only [List.length_cons] at e h3
    refine Ev.step (f := fun k => sets_Meet.j1 k (p ++ r :: s) (q ++ x :: t) acc (p.length : Int) (q.length : Int) true) (fun k => by rw [sets_Meet.l0, if_pos (at_lt p r s), decide_eq_true (at_lt q x t)]) ?_
    have hn1 := at_next (p := p) (r := r) (t := s) (by omega)
    have hn2 := at_next (p := q) (r := x) (t := t) (by omega)
    have hgo : ∀ acc' : List S86, acc'.length + (s.length + 1) + (t.length + 1) ≤ acc.length + (s.length + 1) + (t.length + 1) + 1 →
        Ev (fun k => if (r.f1) < (x.f1) then sets_Meet.l0 k (p ++ r :: s) (q ++ x :: t) acc' (wrap64 ((p.length : Int) + 1)) (q.length : Int) else sets_Meet.l0 k (p ++ r :: s) (q ++ x :: t) acc' (p.length : Int) (wrap64 ((q.length : Int) + 1)))
          (acc' ++ (if r.f1 < x.f1 then meet2 s (x :: t) else meet2 (r :: s) t)) := fun acc' ha => by
      by_cases c : r.f1 < x.f1
      · rw [if_pos c]
        refine Ev.ift c ?_
        rw [hn1]
        have := Meet_l0 m s (x :: t) (p ++ [r]) q acc' (by simp only [List.length_cons]; omega) (by rw [← at_app]; exact h1) h2 (by simp only [List.length_cons]; omega)
        rw [← at_app] at this
        exact this
      · rw [if_neg c]
        refine Ev.iff_ c ?_
        rw [hn2]
        have := Meet_l0 m (r :: s) t p (q ++ [x]) acc' (by simp only [List.length_cons]; omega) h1 (by rw [← at_app]; exact h2) (by simp only [List.length_cons]; omega)
        rw [← at_app] at this
        exact this
    rw [meet2_cons]
    by_cases c : (both r x).f0 ≤ (both r x).f1
    · rw [if_pos c, ← List.append_assoc]
      refine Ev.step (fun k => ?_) (hgo (acc ++ [both r x]) (by rw [List.length_append, List.length_singleton]; omega))
      rw [sets_Meet.j1, if_pos rfl, if_pos (at_0 p), if_pos (at_lt p r s), if_pos (at_0 q), if_pos (at_lt q x t), at_rd, at_rd, mx_max, mn_min, if_pos (show max r.f0 x.f0 ≤ min r.f1 x.f1 from c), if_pos (by omega)]
      rfl
    · rw [if_neg c, List.nil_append]
      refine Ev.step (fun k => ?_) (hgo acc (by omega))
      rw [sets_Meet.j1, if_pos rfl, if_pos (at_0 p), if_pos (at_lt p r s), if_pos (at_0 q), if_pos (at_lt q x t), at_rd, at_rd, mx_max, mn_min, if_neg (show ¬ max r.f0 x.f0 ≤ min r.f1 x.f1 from c)]
theorem Meet_s {a b : List S86} (ha : sane a) (hb : sane b) (h : a.length + b.length < 4398046511104) : Ev (fun k => sets_Meet.f k a b) (meet2 a b) ∧ (∀ n, mem (meet2 a b) n ↔ mem a n ∧ mem b n) ∧ sane (meet2 a b) ∧ (meet2 a b).length ≤ a.length + b.length := by
  refine ⟨Ev.bind (sknown_s ha (by omega)) (Ev.bind (sknown_s hb (by omega)) ?_), fun n => ?_, ?_, ?_⟩
  · have := Meet_l0 _ a b [] [] [] rfl (by simp; omega) (by simp; omega) (by simp; omega)
    simpa using this
  · exact meet2_mem _ a b _ _ rfl ha hb n
  · have := meet2_sane _ a b _ _ rfl ha hb
    rw [Int.max_self] at this
    exact this
  · exact meet2_len _ a b rfl
theorem setL_snoc (c : UInt8) : ∀ (l : List UInt8) (out : List S86), setL (l ++ [c]) out = (setL l out).flatMap (stepR c)
  | [], out => rfl
  | x :: l, out => by simp only [List.cons_append, setL]; exact setL_snoc c l _
theorem setL_fine (s : ByteArray) (h : saneL s.data.toList = true) : fine (setL s.data.toList [⟨0, 0⟩]) 10000 := by
  have ho := ok_of (s := s) (congrArg some h)
  have step : ∀ p, p ≤ s.size → ∃ out, setInv s p out := fun p => by
    induction p with
    | zero => exact fun _ => ⟨_, setInv_0 s⟩
    | succ p ih =>
      intro hp
      obtain ⟨out, hi⟩ := ih (by omega)
      exact ⟨_, setInv_step (by omega) (ho p (by omega)) hi⟩
  obtain ⟨out, h1, h2, h3⟩ := step s.size (Nat.le_refl _)
  have hd : setL (s.data.toList.drop s.size) out = out := by rw [List.drop_eq_nil_of_le (by rw [bsize]; exact Nat.le_refl _)]; rfl
  rw [hd] at h1
  rw [← h1]
  have h4 : s.size ≤ 4 := by rw [bsize]; exact (sane_all h).2.2
  have h10 : (10 ^ s.size : Nat) ≤ 10000 := Nat.pow_le_pow_right (n := 10) (by decide) h4
  have : ((10 ^ s.size : Nat) : Int) ≤ 10000 := Int.ofNat_le.2 h10
  exact fun q hq => by obtain ⟨a, b, c⟩ := h2 q hq; exact ⟨a, b, by omega⟩
theorem pow_small {m n : Nat} (h : m ≤ n) (hn : n ≤ 4) : (10 ^ m : Nat) ≤ 10000 := Nat.pow_le_pow_right (n := 10) (by decide) (Nat.le_trans h hn)
def refR : List UInt8 → Nat → Bool
  | [], _ => true
  | c :: r, u => (decide (c.toNat = 88) || decide (c.toNat = 48 + u % 10)) && refR r (u / 10)
def refV (s : List UInt8) (n : Int) : Bool := saneL s && decide (0 ≤ n) && decide (n < ((10 ^ s.length : Nat) : Int)) && refR s.reverse n.toNat
def gap : Int → List S86 → Prop
  | _, [] => True
  | a, r :: t => a + 2 ≤ r.f0 ∧ r.f0 ≤ r.f1 ∧ gap r.f1 t
theorem gap_le {a b : Int} {l : List S86} (h : gap a l) (hb : b ≤ a) : gap b l := by
  cases l with
  | nil => trivial
  | cons r t => exact ⟨by have := h.1; omega, h.2.1, h.2.2⟩
theorem gap_app : ∀ {u : List S86} {a c : Int} {v : List S86}, gap a u → (∀ x, x ∈ u → x.f1 ≤ c) → a ≤ c → gap c v → gap a (u ++ v)
  | [], a, c, v, _, _, hc, hv => gap_le hv hc
  | x :: u, a, c, v, ⟨h1, h2, h3⟩, hu, hc, hv => ⟨h1, h2, gap_app h3 (fun y hy => hu y (List.mem_cons_of_mem _ hy)) (hu x List.mem_cons_self) hv⟩
theorem gap_sane : ∀ {l : List S86} {a : Int}, gap a l → (∀ x, x ∈ l → x.f1 ≤ lim) → saneF a l
  | [], _, _, _ => trivial
  | x :: l, a, ⟨h1, h2, h3⟩, h => ⟨h1, h2, h x List.mem_cons_self, gap_sane h3 (fun y hy => h y (List.mem_cons_of_mem _ hy))⟩
theorem gap_ones (c : Int) : ∀ (m : Nat) (lo a : Int), a + 2 ≤ lo * 10 + (c - 48) → gap a ((upto lo m).map (one c))
  | 0, _, _, _ => trivial
  | m + 1, lo, a, h => ⟨h, Int.le_refl _, gap_ones c m (lo + 1) _ (by simp only [one]; omega)⟩
theorem gap_step (c : UInt8) (hc : 48 ≤ c.toNat ∧ c.toNat ≤ 57 ∨ c.toNat = 88) : ∀ (l : List S86) (a : Int), gap a l → gap (10 * a + 9) (l.flatMap (stepR c))
  | [], _, _ => trivial
  | q :: l, a, ⟨h1, h2, h3⟩ => by
    rw [List.flatMap_cons]
    refine gap_app (c := 10 * q.f1 + 9) ?_ ?_ (by omega) (gap_step c hc l q.f1 h3)
    · unfold stepR
      split
      · exact ⟨by simp only; omega, by simp only; omega, trivial⟩
      · exact gap_ones (c.toNat : Int) _ q.f0 _ (by omega)
    · intro x hx
      unfold stepR at hx
      split at hx
      · obtain rfl := List.mem_singleton.1 hx
        simp only; omega
      · obtain ⟨n, hn, rfl⟩ := List.mem_map.1 hx
        have := (upto_mem _ _ _).1 hn
        simp only; omega
theorem gap_set : ∀ (r : List UInt8), (∀ c, c ∈ r → 48 ≤ c.toNat ∧ c.toNat ≤ 57 ∨ c.toNat = 88) → gap (-((10 ^ r.length : Nat) : Int) - 1) (setL r.reverse [(⟨0, 0⟩ : S86)])
  | [], _ => ⟨by decide, Int.le_refl _, trivial⟩
  | c :: r, h => by
    have ih := gap_step c (h c List.mem_cons_self) _ _ (gap_set r (fun x hx => h x (List.mem_cons_of_mem _ hx)))
    rw [List.reverse_cons, setL_snoc, List.length_cons, Nat.pow_succ]
    refine gap_le ih ?_
    rw [Int.natCast_mul]
    generalize ((10 ^ r.length : Nat) : Int) = q
    omega
theorem mem_step (c : UInt8) (hc : 48 ≤ c.toNat ∧ c.toNat ≤ 57 ∨ c.toNat = 88) (l : List S86) (n : Int) : mem (l.flatMap (stepR c)) n ↔ mem l (n / 10) ∧ (c.toNat = 88 ∨ (c.toNat : Int) = 48 + n % 10) := by
  constructor
  · rintro ⟨x, hx, h1, h2⟩
    obtain ⟨q, hq, hx⟩ := List.mem_flatMap.1 hx
    unfold stepR at hx
    by_cases h : c.toNat = 88
    · rw [if_pos h] at hx
      obtain rfl := List.mem_singleton.1 hx
      simp only at h1 h2
      exact ⟨⟨q, hq, by omega, by omega⟩, .inl h⟩
    · rw [if_neg h] at hx
      obtain ⟨m, hm, rfl⟩ := List.mem_map.1 hx
      have hm := (upto_mem _ _ _).1 hm
      simp only at h1 h2
      exact ⟨⟨q, hq, by omega, by omega⟩, .inr (by omega)⟩
  · rintro ⟨⟨q, hq, h1, h2⟩, h⟩
    by_cases h8 : c.toNat = 88
    · exact ⟨⟨q.f0 * 10, q.f1 * 10 + 9⟩, List.mem_flatMap.2 ⟨q, hq, by unfold stepR; rw [if_pos h8]; exact List.mem_singleton.2 rfl⟩, by simp only; omega, by simp only; omega⟩
    · have h9 := h.resolve_left h8
      refine ⟨⟨(n / 10) * 10 + ((c.toNat : Int) - 48), (n / 10) * 10 + ((c.toNat : Int) - 48)⟩, List.mem_flatMap.2 ⟨q, hq, ?_⟩, by simp only; omega, by simp only; omega⟩
      unfold stepR
      rw [if_neg h8]
      exact List.mem_map.2 ⟨n / 10, (upto_mem _ _ _).2 ⟨h1, by omega⟩, rfl⟩
theorem mem_set : ∀ (r : List UInt8), (∀ c, c ∈ r → 48 ≤ c.toNat ∧ c.toNat ≤ 57 ∨ c.toNat = 88) → ∀ n : Int, mem (setL r.reverse [(⟨0, 0⟩ : S86)]) n ↔ 0 ≤ n ∧ n < ((10 ^ r.length : Nat) : Int) ∧ refR r n.toNat = true
  | [], _, n => by
    rw [List.reverse_nil, setL, mem_cons]
    simp [mem_nil, refR]; omega
  | c :: r, h, n => by
    have ih := mem_set r (fun x hx => h x (List.mem_cons_of_mem _ hx)) (n / 10)
    rw [List.reverse_cons, setL_snoc, mem_step c (h c List.mem_cons_self), ih, List.length_cons, Nat.pow_succ, Int.natCast_mul, refR, Bool.and_eq_true, Bool.or_eq_true, decide_eq_true_eq, decide_eq_true_eq]
    generalize ((10 ^ r.length : Nat) : Int) = q
    constructor
    · rintro ⟨⟨h1, h2, h3⟩, h4⟩
      have e : (n / 10).toNat = n.toNat / 10 := by omega
      rw [e] at h3
      exact ⟨by omega, by show n < q * 10; omega, by omega, h3⟩
    · rintro ⟨h1, h2, h4, h3⟩
      have e : (n / 10).toNat = n.toNat / 10 := by omega
      have h2 : n < q * 10 := h2
      rw [e]
      exact ⟨⟨by omega, by omega, h3⟩, by omega⟩
theorem sane_ok {l : List UInt8} (hs : saneL l = true) : ∀ c, c ∈ l.reverse → 48 ≤ c.toNat ∧ c.toNat ≤ 57 ∨ c.toNat = 88 := fun c hc => of_decide_eq_true (List.all_eq_true.1 (sane_all hs).1 c (List.mem_reverse.1 hc))
theorem set_is (s : ByteArray) (hs : saneL s.data.toList = true) : sane (setL s.data.toList [⟨0, 0⟩]) ∧ ∀ n, mem (setL s.data.toList [⟨0, 0⟩]) n ↔ refV s.data.toList n = true := by
  have h1 := gap_set s.data.toList.reverse (sane_ok hs)
  have h2 := mem_set s.data.toList.reverse (sane_ok hs)
  have hf := setL_fine s hs
  rw [List.reverse_reverse, List.length_reverse] at h1 h2
  have hp := pow_small (m := s.data.toList.length) (n := 4) (sane_all hs).2.2 (by omega)
  refine ⟨saneF_le (gap_sane h1 (fun x hx => by have := (hf x hx).2.2; unfold lim; omega)) (by unfold lim; omega), fun n => ?_⟩
  rw [h2 n]
  unfold refV
  rw [hs, Bool.true_and, Bool.and_eq_true, Bool.and_eq_true, decide_eq_true_eq, decide_eq_true_eq, and_assoc]
def sets_Clip.f (k : Nat) (l0 : List (S86)) (a1 : Int) (a2 : Int) : Option ((List (S86))) := (sets_Meet.f k l0 (([(⟨a1, a2⟩ : S86)] : List (S86)))).bind fun t128 => (some t128)
theorem sets_Clip.mono : ∀ a0 a1 a2 k, LeO (sets_Clip.f k a0 a1 a2) (sets_Clip.f (k + 1) a0 a1 a2) := by
  intro a0 a1 a2 k
  unfold sets_Clip.f
  repeat' (with_reducible first | apply sets_Meet.mono | exact LeO.refl _ | exact LeO.none _ | refine LeO.ite ?_ ?_ | refine LeO.bind ?_ fun _ => ?_)
mutual
def point_numbers.l0 : Nat → List Int → List (S86) → Int → Int → Option (List Int)
  | 0, _, _, _, _ => none
  | k + 1, x5, x12, x13, x14 => if x14 < x13 then (if 0 ≤ x14 then (if x14 < (x12.length : Int) then (point_numbers.l1 k x5 ((rd_T86 x12 x14).f0) x12 x13 x14 ((rd_T86 x12 x14).f0) ((rd_T86 x12 x14).f1)) else (none)) else (none)) else (some x5)
def point_numbers.l1 : Nat → List Int → Int → List (S86) → Int → Int → Int → Int → Option (List Int)
  | 0, _, _, _, _, _, _, _ => none
  | k + 1, x5, x8, x12, x13, x14, x139000, x139001 => if x8 ≤ x139001 then (if x5.length < 17592186044416 then (point_numbers.l1 k (x5 ++ [x8]) (wrap64 (x8 + 1)) x12 x13 x14 x139000 x139001) else (none)) else (point_numbers.l0 k x5 x12 x13 (wrap64 (x14 + 1)))
end
def point_numbers.f (k : Nat) (a0 : ByteArray) (a1 : Int) : Option (List Int) := (mask_Set.f a0).bind fun t131 => ((sets_Clip.f k t131 1 a1).bind fun t134 => (point_numbers.l0 k ([] : List Int) t134 (t134.length : Int) 0))
theorem point_numbers.mono_l : ∀ k, (∀ y0 y1 y2 y3, LeO (point_numbers.l0 k y0 y1 y2 y3) (point_numbers.l0 (k + 1) y0 y1 y2 y3)) ∧ (∀ y0 y1 y2 y3 y4 y5 y6, LeO (point_numbers.l1 k y0 y1 y2 y3 y4 y5 y6) (point_numbers.l1 (k + 1) y0 y1 y2 y3 y4 y5 y6))
  | 0 => ⟨fun _ _ _ _ r h => by simp [point_numbers.l0] at h, fun _ _ _ _ _ _ _ r h => by simp [point_numbers.l1] at h⟩
  | k + 1 => by
    obtain ⟨ih0, ih1⟩ := point_numbers.mono_l k
    refine ⟨?_, ?_⟩
    · intro y0 y1 y2 y3
      unfold point_numbers.l0
      repeat' (with_reducible first | apply ih0 | apply ih1 | apply sets_Clip.mono | exact LeO.refl _ | exact LeO.none _ | refine LeO.ite ?_ ?_ | refine LeO.bind ?_ fun _ => ?_)
    · intro y0 y1 y2 y3 y4 y5 y6
      unfold point_numbers.l1
      repeat' (with_reducible first | apply ih0 | apply ih1 | apply sets_Clip.mono | exact LeO.refl _ | exact LeO.none _ | refine LeO.ite ?_ ?_ | refine LeO.bind ?_ fun _ => ?_)
theorem point_numbers.mono : ∀ a0 a1 k, LeO (point_numbers.f k a0 a1) (point_numbers.f (k + 1) a0 a1) := by
  intro a0 a1 k
  obtain ⟨ih0, ih1⟩ := point_numbers.mono_l k
  unfold point_numbers.f
  repeat' (with_reducible first | apply ih0 | apply ih1 | apply sets_Clip.mono | exact LeO.refl _ | exact LeO.none _ | refine LeO.ite ?_ ?_ | refine LeO.bind ?_ fun _ => ?_)
def point_some.f (k : Nat) (a0 : ByteArray) (a1 : Int) (a2 : Int) : Option (Bool) := if (a0.size : Int) = a1 then ((point_numbers.f k a0 a2).bind fun t142 => (some (decide ((t142.length : Int) > 0)))) else (some false)
theorem point_some.mono : ∀ a0 a1 a2 k, LeO (point_some.f k a0 a1 a2) (point_some.f (k + 1) a0 a1 a2) := by
  intro a0 a1 a2 k
  unfold point_some.f
  repeat' (with_reducible first | apply point_numbers.mono | exact LeO.refl _ | exact LeO.none _ | refine LeO.ite ?_ ?_ | refine LeO.bind ?_ fun _ => ?_)
def point_Sane.j0 : Nat → Bool → Int → ByteArray → ByteArray → ByteArray → Option (Bool)
  | 0, _, _, _, _, _ => none
  | k + 1, x3, x146000, x146001, x146002, x146003 => if x146000 = 0 then (if (x146001.size : Int) = 4 then ((point_some.f k x146002 2 12).bind fun t147 => (if t147 = true then ((point_some.f k x146003 2 31).bind fun t148 => (some t148)) else (some false))) else (some false)) else (if x146000 = 1 then (if (x146001.size : Int) = 4 then ((point_some.f k x146002 2 12).bind fun t149 => (if t149 = true then (some (x146003.toList == ([] : List UInt8))) else (some false))) else (some false)) else (if x146000 = 2 then (if (x146001.size : Int) = 4 then ((point_some.f k x146002 1 4).bind fun t150 => (if t150 = true then (some (x146003.toList == ([] : List UInt8))) else (some false))) else (some false)) else (if x146000 = 3 then (if (x146001.size : Int) = 4 then (some x3) else (some false)) else (if x146000 = 4 then (if (x146001.size : Int) = 3 then (some x3) else (some false)) else (if x146000 = 5 then (if (x146001.size : Int) = 2 then (some x3) else (some false)) else (some false))))))
def point_Sane.f (k : Nat) (a0_0 : Int) (a0_1 : ByteArray) (a0_2 : ByteArray) (a0_3 : ByteArray) : Option (Bool) := (mask_Sane.f a0_1).bind fun t146 => (if t146 = true then (if a0_2.toList = ([] : List UInt8) then (point_Sane.j0 k (a0_3.toList == ([] : List UInt8)) a0_0 a0_1 a0_2 a0_3) else (point_Sane.j0 k false a0_0 a0_1 a0_2 a0_3)) else (some false))
theorem point_Sane.mono_l : ∀ k, (∀ y0 y1 y2 y3 y4, LeO (point_Sane.j0 k y0 y1 y2 y3 y4) (point_Sane.j0 (k + 1) y0 y1 y2 y3 y4))
  | 0 => fun _ _ _ _ _ r h => by simp [point_Sane.j0] at h
  | k + 1 => by
    have ih0 := point_Sane.mono_l k
    · intro y0 y1 y2 y3 y4
      unfold point_Sane.j0
      repeat' (with_reducible first | apply ih0 | apply point_some.mono | exact LeO.refl _ | exact LeO.none _ | refine LeO.ite ?_ ?_ | refine LeO.bind ?_ fun _ => ?_)
theorem point_Sane.mono : ∀ a0 a1 a2 a3 k, LeO (point_Sane.f k a0 a1 a2 a3) (point_Sane.f (k + 1) a0 a1 a2 a3) := by
  intro a0 a1 a2 a3 k
  have ih0 := point_Sane.mono_l k
  unfold point_Sane.f
  repeat' (with_reducible first | apply ih0 | apply point_some.mono | exact LeO.refl _ | exact LeO.none _ | refine LeO.ite ?_ ?_ | refine LeO.bind ?_ fun _ => ?_)
def setV (s : ByteArray) : List S86 := if saneL s.data.toList = true then setL s.data.toList [⟨0, 0⟩] else []
theorem setL_len (s : ByteArray) (h : saneL s.data.toList = true) : (setL s.data.toList [⟨0, 0⟩]).length ≤ 1000000 := by
  have ho := ok_of (s := s) (congrArg some h)
  have step : ∀ p, p ≤ s.size → ∃ out, setInv s p out := fun p => by
    induction p with
    | zero => exact fun _ => ⟨_, setInv_0 s⟩
    | succ p ih =>
      intro hp
      obtain ⟨out, hi⟩ := ih (by omega)
      exact ⟨_, setInv_step (by omega) (ho p (by omega)) hi⟩
  obtain ⟨out, h1, h2, h3⟩ := step s.size (Nat.le_refl _)
  have hd : setL (s.data.toList.drop s.size) out = out := by rw [List.drop_eq_nil_of_le (by rw [bsize]; exact Nat.le_refl _)]; rfl
  rw [hd] at h1
  rw [← h1]
  have h4 : s.size ≤ 4 := by rw [bsize]; exact (sane_all h).2.2
  have hl : lenB s.size ≤ 1000000 := by
    rcases (by omega : s.size = 0 ∨ s.size = 1 ∨ s.size = 2 ∨ s.size = 3 ∨ s.size = 4) with e | e | e | e | e <;> rw [e] <;> decide
  omega
theorem refV_sane {l : List UInt8} {n : Int} (h : saneL l = false) : refV l n = false := by unfold refV; rw [h]; rfl
theorem setV_is (s : ByteArray) : sane (setV s) ∧ (setV s).length ≤ 1000000 ∧ ∀ n, mem (setV s) n ↔ refV s.data.toList n = true := by
  unfold setV
  by_cases h : saneL s.data.toList = true
  · rw [if_pos h]
    exact ⟨(set_is s h).1, setL_len s h, (set_is s h).2⟩
  · rw [if_neg h]
    refine ⟨trivial, by simp, fun n => ?_⟩
    rw [refV_sane (Bool.eq_false_iff.2 h)]
    simp [mem_nil]
def numsR (r : S86) : List Int := upto r.f0 (r.f1 + 1 - r.f0).toNat
theorem nums_l1 (s : List S86) (i lo hi R' : Int) (hh : hi ≤ 1000) {R : List Int} : ∀ (m : Nat) (x : Int) (acc : List Int), 0 ≤ x → x + m = hi + 1 ∨ (m = 0 ∧ hi < x) → acc.length + m < 17592186044416 →
    Ev (fun k => point_numbers.l0 k (acc ++ upto x m) s (s.length : Int) (wrap64 (i + 1))) R → Ev (fun k => point_numbers.l1 k acc x s (s.length : Int) i lo hi) R
  | 0, x, acc, h0, hx, hl, h => by
    refine Ev.step (f := fun k => point_numbers.l0 k acc s (s.length : Int) (wrap64 (i + 1))) (fun k => by rw [point_numbers.l1, if_neg (by omega)]) ?_
    simpa [upto] using h
  | m + 1, x, acc, h0, hx, hl, h => by
    refine Ev.step (f := fun k => point_numbers.l1 k (acc ++ [x]) (x + 1) s (s.length : Int) i lo hi) (fun k => by rw [point_numbers.l1, if_pos (by omega), if_pos (by omega), w64 (by omega) (by omega)]) ?_
    refine nums_l1 s i lo hi R' hh m (x + 1) (acc ++ [x]) (by omega) (by omega) (by rw [List.length_append, List.length_singleton]; omega) ?_
    rw [List.append_assoc, List.singleton_append]
    exact h
theorem nums_l0 : ∀ (t p : List S86) (acc : List Int), (∀ r, r ∈ t → 1 ≤ r.f0 ∧ r.f1 ≤ 31) → acc.length + 32 * t.length < 17592186044416 → (p ++ t).length ≤ 4611686018427387904 →
    Ev (fun k => point_numbers.l0 k acc (p ++ t) ((p ++ t).length : Int) (p.length : Int)) (acc ++ t.flatMap numsR)
  | [], p, acc, _, _, _ => Ev.step (f := fun _ => some (acc ++ [])) (fun k => by rw [point_numbers.l0, if_neg (at_end p), List.append_nil]) (Ev.now _)
  | r :: t, p, acc, hr, hl, hp => by
    have h1 := hr r List.mem_cons_self
    refine Ev.step (f := fun k => point_numbers.l1 k acc r.f0 (p ++ r :: t) ((p ++ r :: t).length : Int) (p.length : Int) r.f0 r.f1) (fun k => by rw [point_numbers.l0, if_pos (at_lt p r t), if_pos (at_0 p), if_pos (at_lt p r t), at_rd]) ?_
    have hm : (r.f1 + 1 - r.f0).toNat ≤ 31 := by omega
    rw [List.length_cons] at hl
    refine nums_l1 (p ++ r :: t) (p.length : Int) r.f0 r.f1 0 (by omega) (r.f1 + 1 - r.f0).toNat r.f0 acc (by omega) (by omega) (by omega) ?_
    rw [at_next hp]
    have := nums_l0 t (p ++ [r]) (acc ++ numsR r) (fun q hq => hr q (List.mem_cons_of_mem _ hq)) (by rw [List.length_append]; unfold numsR; rw [upto_len]; omega) (by rw [← at_app]; exact hp)
    rw [← at_app] at this
    rw [List.flatMap_cons, ← List.append_assoc]
    exact this
def anyV (l : List UInt8) (i : Int) : Nat → Bool
  | 0 => false
  | m + 1 => refV l i || anyV l (i + 1) m
theorem anyV_iff (l : List UInt8) : ∀ (m : Nat) (i : Int), anyV l i m = true ↔ ∃ n, i ≤ n ∧ n < i + m ∧ refV l n = true
  | 0, i => by
    simp only [anyV]
    exact ⟨fun h => absurd h (by simp), fun ⟨n, h1, h2, _⟩ => by omega⟩
  | m + 1, i => by
    rw [anyV, Bool.or_eq_true, anyV_iff l m (i + 1)]
    constructor
    · rintro (h | ⟨n, h1, h2, h3⟩)
      · exact ⟨i, by omega, by omega, h⟩
      · exact ⟨n, by omega, by omega, h3⟩
    · rintro ⟨n, h1, h2, h3⟩
      rcases (by omega : n = i ∨ i + 1 ≤ n) with rfl | h
      · exact .inl h3
      · exact .inr ⟨n, h, by omega, h3⟩
theorem numbers_f (s : ByteArray) (m : Nat) (hm : 1 ≤ m ∧ m ≤ 31) : ∃ L : List Int, Ev (fun k => point_numbers.f k s (m : Int)) L ∧ (L ≠ [] ↔ anyV s.data.toList 1 m = true) := by
  obtain ⟨h1, h2, h3⟩ := setV_is s
  have hb : sane [(⟨1, (m : Int)⟩ : S86)] := ⟨by show -lim - 2 + 2 ≤ (1 : Int); unfold lim; omega, by show (1 : Int) ≤ (m : Int); omega, by show (m : Int) ≤ lim; unfold lim; omega, trivial⟩
  obtain ⟨e1, e2, e3, e4⟩ := Meet_s h1 hb (by simp; omega)
  have hin : ∀ r, r ∈ meet2 (setV s) [(⟨1, (m : Int)⟩ : S86)] → r.f0 ≤ r.f1 ∧ 1 ≤ r.f0 ∧ r.f1 ≤ (m : Int) := fun r hr => by
    have hle : r.f0 ≤ r.f1 := by
      have : ∀ {a : Int} {l : List S86}, saneF a l → ∀ q, q ∈ l → q.f0 ≤ q.f1 := by
        intro a l
        induction l generalizing a with
        | nil => intro _ q hq; cases hq
        | cons x t ih =>
          intro h q hq
          rcases List.mem_cons.1 hq with rfl | hq
          · exact h.2.1
          · exact ih h.2.2.2 q hq
      exact this e3 r hr
    have ha := (e2 r.f0).1 ⟨r, hr, Int.le_refl _, hle⟩
    have hc := (e2 r.f1).1 ⟨r, hr, hle, Int.le_refl _⟩
    have ha := (mem_one _ _).1 ha.2
    have hc := (mem_one _ _).1 hc.2
    simp only at ha hc
    exact ⟨hle, ha.1, hc.2⟩
  refine ⟨(meet2 (setV s) [(⟨1, (m : Int)⟩ : S86)]).flatMap numsR, ?_, ?_⟩
  · refine Ev.bnow (x := setV s) rfl ?_
    refine Ev.bind (Ev.bind e1 (Ev.now _)) ?_
    have := nums_l0 (meet2 (setV s) [(⟨1, (m : Int)⟩ : S86)]) [] [] (fun r hr => ⟨(hin r hr).2.1, by have := (hin r hr).2.2; omega⟩) (by simp at e4 ⊢; omega) (by simp at e4 ⊢; omega)
    simpa using this
  · rw [anyV_iff]
    constructor
    · intro h
      obtain ⟨n, hn⟩ := List.exists_mem_of_ne_nil _ h
      obtain ⟨r, hr, hn⟩ := List.mem_flatMap.1 hn
      have hn := (upto_mem _ _ _).1 hn
      obtain ⟨a, b, c⟩ := hin r hr
      have hmem := (e2 n).1 ⟨r, hr, hn.1, by omega⟩
      exact ⟨n, by omega, by omega, (h3 n).1 hmem.1⟩
    · rintro ⟨n, ha, hc, hv⟩
      obtain ⟨r, hr, hn1, hn2⟩ := (e2 n).2 ⟨(h3 n).2 hv, (mem_one _ _).2 ⟨by simp only; omega, by simp only; omega⟩⟩
      intro he
      have : n ∈ (meet2 (setV s) [(⟨1, (m : Int)⟩ : S86)]).flatMap numsR := List.mem_flatMap.2 ⟨r, hr, (upto_mem _ _ _).2 ⟨hn1, by omega⟩⟩
      rw [he] at this
      cases this
def someV (s : ByteArray) (n : Int) (m : Nat) : Bool := decide ((s.size : Int) = n) && anyV s.data.toList 1 m
theorem some_f (s : ByteArray) (n : Int) (m : Nat) (hm : 1 ≤ m ∧ m ≤ 31) : Ev (fun k => point_some.f k s n (m : Int)) (someV s n m) := by
  unfold someV
  by_cases h : (s.size : Int) = n
  · rw [decide_eq_true h, Bool.true_and]
    refine Ev.ift h ?_
    obtain ⟨L, h1, h2⟩ := numbers_f s m hm
    refine Ev.bind h1 (Ev.eq (Ev.now _) ?_)
    cases hv : anyV s.data.toList 1 m with
    | true =>
      have := h2.2 hv
      cases L with
      | nil => exact absurd rfl this
      | cons x t => exact decide_eq_true (by simp)
    | false =>
      cases L with
      | nil => rfl
      | cons x t => exact absurd (h2.1 (by simp)) (by rw [hv]; simp)
  · rw [decide_eq_false h, Bool.false_and]
    exact Ev.iff_ h (Ev.now _)
def emptyV (s : ByteArray) : Bool := s.toList == ([] : List UInt8)
def ptV (p : S23) : Bool := saneL p.f1.data.toList && (
  if p.f0 = 0 then decide ((p.f1.size : Int) = 4) && (someV p.f2 2 12 && someV p.f3 2 31)
  else if p.f0 = 1 then decide ((p.f1.size : Int) = 4) && (someV p.f2 2 12 && emptyV p.f3)
  else if p.f0 = 2 then decide ((p.f1.size : Int) = 4) && (someV p.f2 1 4 && emptyV p.f3)
  else if p.f0 = 3 then decide ((p.f1.size : Int) = 4) && (emptyV p.f2 && emptyV p.f3)
  else if p.f0 = 4 then decide ((p.f1.size : Int) = 3) && (emptyV p.f2 && emptyV p.f3)
  else if p.f0 = 5 then decide ((p.f1.size : Int) = 2) && (emptyV p.f2 && emptyV p.f3)
  else false)
theorem Ev.cond {c : Prop} [Decidable c] {g : Nat → Option Bool} {r : Bool} (h : c → Ev g r) : Ev (fun k => if c then g k else some false) (decide c && r) := by
  by_cases hc : c
  · rw [decide_eq_true hc, Bool.true_and]; exact Ev.ift hc (h hc)
  · rw [decide_eq_false hc, Bool.false_and]; exact Ev.iff_ hc (Ev.now _)
theorem Ev.andb {a : Nat → Option Bool} {g : Nat → Option Bool} {x r : Bool} (h1 : Ev a x) (h2 : Ev g r) : Ev (fun k => (a k).bind fun t => if t = true then g k else some false) (x && r) := by
  refine Ev.bind h1 ?_
  cases x with
  | true => rw [Bool.true_and]; exact Ev.ift rfl h2
  | false => exact Ev.iff_ (by simp) (Ev.now _)
theorem Ev.pick {c : Prop} [Decidable c] {g f : Nat → Option Bool} {r q : Bool} (h1 : Ev g r) (h2 : Ev f q) : Ev (fun k => if c then g k else f k) (if c then r else q) := by
  by_cases hc : c
  · rw [if_pos hc]; exact Ev.ift hc h1
  · rw [if_neg hc]; exact Ev.iff_ hc h2
theorem Ev.self {a : Nat → Option Bool} {x : Bool} (h : Ev a x) : Ev (fun k => (a k).bind fun t => some t) x := Ev.bind h (Ev.now _)
theorem bare_and (a b : ByteArray) : (if a.toList = ([] : List UInt8) then emptyV b else false) = (emptyV a && emptyV b) := by
  unfold emptyV
  by_cases h : a.toList = []
  · rw [if_pos h, h]; rfl
  · rw [if_neg h]
    have : (a.toList == ([] : List UInt8)) = false := by cases hl : a.toList with
      | nil => exact absurd hl h
      | cons x t => rfl
    rw [this]; rfl
theorem ptSane_f (p : S23) : Ev (fun k => point_Sane.f k p.f0 p.f1 p.f2 p.f3) (ptV p) := by
  unfold ptV
  refine Ev.bnow (x := saneL p.f1.data.toList) rfl ?_
  have hj : ∀ b : Bool, b = (emptyV p.f2 && emptyV p.f3) → Ev (fun k => point_Sane.j0 k b p.f0 p.f1 p.f2 p.f3) (
      if p.f0 = 0 then decide ((p.f1.size : Int) = 4) && (someV p.f2 2 12 && someV p.f3 2 31)
      else if p.f0 = 1 then decide ((p.f1.size : Int) = 4) && (someV p.f2 2 12 && emptyV p.f3)
      else if p.f0 = 2 then decide ((p.f1.size : Int) = 4) && (someV p.f2 1 4 && emptyV p.f3)
      else if p.f0 = 3 then decide ((p.f1.size : Int) = 4) && (emptyV p.f2 && emptyV p.f3)
      else if p.f0 = 4 then decide ((p.f1.size : Int) = 3) && (emptyV p.f2 && emptyV p.f3)
      else if p.f0 = 5 then decide ((p.f1.size : Int) = 2) && (emptyV p.f2 && emptyV p.f3)
      else false) := fun b hb => by
    subst hb
    refine Ev.step (fun k => by rw [point_Sane.j0]) ?_
    refine Ev.pick (Ev.cond fun _ => Ev.andb (some_f p.f2 2 12 (by omega)) (Ev.self (some_f p.f3 2 31 (by omega)))) ?_
    refine Ev.pick (Ev.cond fun _ => Ev.andb (some_f p.f2 2 12 (by omega)) (Ev.now _)) ?_
    refine Ev.pick (Ev.cond fun _ => Ev.andb (some_f p.f2 1 4 (by omega)) (Ev.now _)) ?_
    refine Ev.pick (Ev.cond fun _ => Ev.now _) ?_
    refine Ev.pick (Ev.cond fun _ => Ev.now _) ?_
    exact Ev.pick (Ev.cond fun _ => Ev.now _) (Ev.now _)
  cases hs : saneL p.f1.data.toList with
  | false => exact Ev.iff_ (by simp) (Ev.now _)
  | true =>
    rw [Bool.true_and]
    refine Ev.ift rfl ?_
    have hb := bare_and p.f2 p.f3
    by_cases h : p.f2.toList = ([] : List UInt8)
    · rw [if_pos h] at hb
      exact Ev.ift h (hj _ hb)
    · rw [if_neg h] at hb
      exact Ev.iff_ h (hj _ hb)
mutual
def slices_EqualFunc.l0 : Nat → List (S26) → List (S26) → Int → Int → Option (Bool)
  | 0, _, _, _, _ => none
  | k + 1, x1, x15, x16, x17 => if x17 < x16 then (if 0 ≤ x17 then (if x17 < (x15.length : Int) then (if x17 < (x1.length : Int) then ((tree_Same.f k ((rd_T26 x15 x17).f0) ((rd_T26 x15 x17).f1.f0) ((rd_T26 x15 x17).f1.f1) ((rd_T26 x15 x17).f1.f2) ((rd_T26 x15 x17).f1.f3) ((rd_T26 x15 x17).f2) ((rd_T26 x15 x17).f3) ((rd_T26 x15 x17).f4) ((rd_T26 x1 x17).f0) ((rd_T26 x1 x17).f1.f0) ((rd_T26 x1 x17).f1.f1) ((rd_T26 x1 x17).f1.f2) ((rd_T26 x1 x17).f1.f3) ((rd_T26 x1 x17).f2) ((rd_T26 x1 x17).f3) ((rd_T26 x1 x17).f4)).bind fun t105 => (if t105 = true then (slices_EqualFunc.l0 k x1 x15 x16 (wrap64 (x17 + 1))) else (some false))) else (none)) else (none)) else (none)) else (some true)
def tree_Same.f : Nat → Int → Int → ByteArray → ByteArray → ByteArray → Bool → Bool → List (S26) → Int → Int → ByteArray → ByteArray → ByteArray → Bool → Bool → List (S26) → Option (Bool)
  | 0, _, _, _, _, _, _, _, _, _, _, _, _, _, _, _, _ => none
  | k + 1, a0_0, a0_1, a0_2, a0_3, a0_4, a0_5, a0_6, l0_7, a1_0, a1_1, a1_2, a1_3, a1_4, a1_5, a1_6, l1_7 => if a0_0 = a1_0 then (if (a0_1 == a1_1 && (a0_2.toList == a1_2.toList && (a0_3.toList == a1_3.toList && (a0_4.toList == a1_4.toList)))) = true then (if (a0_5 == a1_5) = true then (if (a0_6 == a1_6) = true then ((if (l0_7.length : Int) = (l1_7.length : Int) then (slices_EqualFunc.l0 k l1_7 l0_7 (l0_7.length : Int) 0) else (some false)).bind fun t103 => (some t103)) else (some false)) else (some false)) else (some false)) else (some false)
end
def slices_EqualFunc.f (k : Nat) (l0 : List (S26)) (l1 : List (S26))  : Option (Bool) := if (l0.length : Int) = (l1.length : Int) then (slices_EqualFunc.l0 k l1 l0 (l0.length : Int) 0) else (some false)
theorem tree_Same.f_succ (k : Nat) (a0_0 : Int) (a0_1 : Int) (a0_2 : ByteArray) (a0_3 : ByteArray) (a0_4 : ByteArray) (a0_5 : Bool) (a0_6 : Bool) (l0_7 : List (S26)) (a1_0 : Int) (a1_1 : Int) (a1_2 : ByteArray) (a1_3 : ByteArray) (a1_4 : ByteArray) (a1_5 : Bool) (a1_6 : Bool) (l1_7 : List (S26)) : tree_Same.f (k + 1) a0_0 a0_1 a0_2 a0_3 a0_4 a0_5 a0_6 l0_7 a1_0 a1_1 a1_2 a1_3 a1_4 a1_5 a1_6 l1_7 = if a0_0 = a1_0 then (if (a0_1 == a1_1 && (a0_2.toList == a1_2.toList && (a0_3.toList == a1_3.toList && (a0_4.toList == a1_4.toList)))) = true then (if (a0_5 == a1_5) = true then (if (a0_6 == a1_6) = true then ((slices_EqualFunc.f k l0_7 l1_7).bind fun t103 => (some t103)) else (some false)) else (some false)) else (some false)) else (some false) := by
  rw [tree_Same.f]
  rfl
theorem tree_Same.mono_l : ∀ k, (∀ y0 y1 y2 y3 y4 y5 y6 y7 y8 y9 y10 y11 y12 y13 y14 y15, LeO (tree_Same.f k y0 y1 y2 y3 y4 y5 y6 y7 y8 y9 y10 y11 y12 y13 y14 y15) (tree_Same.f (k + 1) y0 y1 y2 y3 y4 y5 y6 y7 y8 y9 y10 y11 y12 y13 y14 y15)) ∧ (∀ y0 y1 y2 y3, LeO (slices_EqualFunc.l0 k y0 y1 y2 y3) (slices_EqualFunc.l0 (k + 1) y0 y1 y2 y3))
  | 0 => ⟨fun _ _ _ _ _ _ _ _ _ _ _ _ _ _ _ _ r h => by simp [tree_Same.f] at h, fun _ _ _ _ r h => by simp [slices_EqualFunc.l0] at h⟩
  | k + 1 => by
    obtain ⟨ih0, ih1⟩ := tree_Same.mono_l k
    refine ⟨?_, ?_⟩
    · intro y0 y1 y2 y3 y4 y5 y6 y7 y8 y9 y10 y11 y12 y13 y14 y15
      unfold tree_Same.f
      repeat' (with_reducible first | apply ih0 | apply ih1 | exact LeO.refl _ | exact LeO.none _ | refine LeO.ite ?_ ?_ | refine LeO.bind ?_ fun _ => ?_)
    · intro y0 y1 y2 y3
      unfold slices_EqualFunc.l0
      repeat' (with_reducible first | apply ih0 | apply ih1 | exact LeO.refl _ | exact LeO.none _ | refine LeO.ite ?_ ?_ | refine LeO.bind ?_ fun _ => ?_)
theorem tree_Same.mono : ∀ a0 a1 a2 a3 a4 a5 a6 a7 a8 a9 a10 a11 a12 a13 a14 a15 k, LeO (tree_Same.f k a0 a1 a2 a3 a4 a5 a6 a7 a8 a9 a10 a11 a12 a13 a14 a15) (tree_Same.f (k + 1) a0 a1 a2 a3 a4 a5 a6 a7 a8 a9 a10 a11 a12 a13 a14 a15) := fun a0 a1 a2 a3 a4 a5 a6 a7 a8 a9 a10 a11 a12 a13 a14 a15 k => (tree_Same.mono_l k).1 a0 a1 a2 a3 a4 a5 a6 a7 a8 a9 a10 a11 a12 a13 a14 a15
def tree_bare.f (a0_0 : Int) (a0_1 : Int) (a0_2 : ByteArray) (a0_3 : ByteArray) (a0_4 : ByteArray) (a0_5 : Bool) (a0_6 : Bool) (l0_7 : List (S26)) : Option (Bool) := if (a0_1 == 0 && (a0_2.toList == ([] : List UInt8) && (a0_3.toList == ([] : List UInt8) && (a0_4.toList == ([] : List UInt8))))) = true then (if a0_5 = true then (some false) else (some (!a0_6))) else (some false)
def tree_End.f (k : Nat) (a0_0 : Int) (a0_1 : Int) (a0_2 : ByteArray) (a0_3 : ByteArray) (a0_4 : ByteArray) (a0_5 : Bool) (a0_6 : Bool) (l0_7 : List (S26)) : Option (Bool) := if a0_0 = 0 then (if (l0_7.length : Int) = 0 then ((point_Sane.f k a0_1 a0_2 a0_3 a0_4).bind fun t153 => (some t153)) else (some false)) else (if a0_0 = 3 then (if (l0_7.length : Int) = 0 then ((tree_bare.f a0_0 a0_1 a0_2 a0_3 a0_4 a0_5 a0_6 l0_7).bind fun t154 => (some t154)) else (some false)) else (if a0_0 = 4 then (if (l0_7.length : Int) = 0 then ((tree_bare.f a0_0 a0_1 a0_2 a0_3 a0_4 a0_5 a0_6 l0_7).bind fun t155 => (some t155)) else (some false)) else (some false)))
theorem tree_End.mono : ∀ a0 a1 a2 a3 a4 a5 a6 a7 k, LeO (tree_End.f k a0 a1 a2 a3 a4 a5 a6 a7) (tree_End.f (k + 1) a0 a1 a2 a3 a4 a5 a6 a7) := by
  intro a0 a1 a2 a3 a4 a5 a6 a7 k
  unfold tree_End.f
  repeat' (with_reducible first | apply point_Sane.mono | exact LeO.refl _ | exact LeO.none _ | refine LeO.ite ?_ ?_ | refine LeO.bind ?_ fun _ => ?_)
mutual
def slices_IndexFunc.l0 : Nat → List (S26) → Int → Int → Option (Int)
  | 0, _, _, _ => none
  | k + 1, x0, x7, x8 => if x8 < x7 then (if 0 ≤ x8 then (if x8 < (x0.length : Int) then (((tree_right.f k ((rd_T26 x0 x8).f0) ((rd_T26 x0 x8).f1.f0) ((rd_T26 x0 x8).f1.f1) ((rd_T26 x0 x8).f1.f2) ((rd_T26 x0 x8).f1.f3) ((rd_T26 x0 x8).f2) ((rd_T26 x0 x8).f3) ((rd_T26 x0 x8).f4)).bind fun t102_ => (some (!t102_))).bind fun t102 => (if t102 = true then (some x8) else (slices_IndexFunc.l0 k x0 x7 (wrap64 (x8 + 1))))) else (none)) else (none)) else (some (-1))
def tree_right.f : Nat → Int → Int → ByteArray → ByteArray → ByteArray → Bool → Bool → List (S26) → Option (Bool)
  | 0, _, _, _, _, _, _, _, _ => none
  | k + 1, a0_0, a0_1, a0_2, a0_3, a0_4, a0_5, a0_6, l0_7 => if a0_0 = 0 then ((tree_End.f k a0_0 a0_1 a0_2 a0_3 a0_4 a0_5 a0_6 l0_7).bind fun t105 => (some t105)) else (if a0_0 = 1 then ((tree_bare.f a0_0 a0_1 a0_2 a0_3 a0_4 a0_5 a0_6 l0_7).bind fun t106 => (if t106 = true then (if (l0_7.length : Int) = 2 then (if 0 < (l0_7.length : Int) then ((tree_End.f k ((rd_T26 l0_7 0).f0) ((rd_T26 l0_7 0).f1.f0) ((rd_T26 l0_7 0).f1.f1) ((rd_T26 l0_7 0).f1.f2) ((rd_T26 l0_7 0).f1.f3) ((rd_T26 l0_7 0).f2) ((rd_T26 l0_7 0).f3) ((rd_T26 l0_7 0).f4)).bind fun t108 => (if t108 = true then (if 1 < (l0_7.length : Int) then ((tree_End.f k ((rd_T26 l0_7 1).f0) ((rd_T26 l0_7 1).f1.f0) ((rd_T26 l0_7 1).f1.f1) ((rd_T26 l0_7 1).f1.f2) ((rd_T26 l0_7 1).f1.f3) ((rd_T26 l0_7 1).f2) ((rd_T26 l0_7 1).f3) ((rd_T26 l0_7 1).f4)).bind fun t110 => (some t110)) else (none)) else (some false))) else (none)) else (some false)) else (some false))) else (if a0_0 = 2 then ((tree_bare.f a0_0 a0_1 a0_2 a0_3 a0_4 a0_5 a0_6 l0_7).bind fun t111 => (if t111 = true then (if (l0_7.length : Int) > 0 then (((slices_IndexFunc.l0 k l0_7 (l0_7.length : Int) 0).bind fun t103 => (some (decide (t103 ≥ 0)))).bind fun t112 => (some (!t112))) else (some false)) else (some false))) else (some false)))
end
def tree_right_1.f (k : Nat) (a0_0 : Int) (a0_1 : Int) (a0_2 : ByteArray) (a0_3 : ByteArray) (a0_4 : ByteArray) (a0_5 : Bool) (a0_6 : Bool) (l0_7 : List (S26)) : Option (Bool) := (tree_right.f k a0_0 a0_1 a0_2 a0_3 a0_4 a0_5 a0_6 l0_7).bind fun t102 => (some (!t102))
def slices_IndexFunc.f (k : Nat) (l0 : List (S26))  : Option (Int) := slices_IndexFunc.l0 k l0 (l0.length : Int) 0
def slices_ContainsFunc.f (k : Nat) (l0 : List (S26))  : Option (Bool) := (slices_IndexFunc.f k l0).bind fun t103 => (some (decide (t103 ≥ 0)))
def tree_rightR.f (k : Nat) (a0_0 : Int) (a0_1 : Int) (a0_2 : ByteArray) (a0_3 : ByteArray) (a0_4 : ByteArray) (a0_5 : Bool) (a0_6 : Bool) (l0_7 : List (S26)) : Option (Bool) := if a0_0 = 0 then ((tree_End.f k a0_0 a0_1 a0_2 a0_3 a0_4 a0_5 a0_6 l0_7).bind fun t105 => (some t105)) else (if a0_0 = 1 then ((tree_bare.f a0_0 a0_1 a0_2 a0_3 a0_4 a0_5 a0_6 l0_7).bind fun t106 => (if t106 = true then (if (l0_7.length : Int) = 2 then (if 0 < (l0_7.length : Int) then ((tree_End.f k ((rd_T26 l0_7 0).f0) ((rd_T26 l0_7 0).f1.f0) ((rd_T26 l0_7 0).f1.f1) ((rd_T26 l0_7 0).f1.f2) ((rd_T26 l0_7 0).f1.f3) ((rd_T26 l0_7 0).f2) ((rd_T26 l0_7 0).f3) ((rd_T26 l0_7 0).f4)).bind fun t108 => (if t108 = true then (if 1 < (l0_7.length : Int) then ((tree_End.f k ((rd_T26 l0_7 1).f0) ((rd_T26 l0_7 1).f1.f0) ((rd_T26 l0_7 1).f1.f1) ((rd_T26 l0_7 1).f1.f2) ((rd_T26 l0_7 1).f1.f3) ((rd_T26 l0_7 1).f2) ((rd_T26 l0_7 1).f3) ((rd_T26 l0_7 1).f4)).bind fun t110 => (some t110)) else (none)) else (some false))) else (none)) else (some false)) else (some false))) else (if a0_0 = 2 then ((tree_bare.f a0_0 a0_1 a0_2 a0_3 a0_4 a0_5 a0_6 l0_7).bind fun t111 => (if t111 = true then (if (l0_7.length : Int) > 0 then ((slices_ContainsFunc.f k l0_7).bind fun t112 => (some (!t112))) else (some false)) else (some false))) else (some false)))
theorem slices_IndexFunc.l0_succ (k : Nat) (x0 : List S26) (x7 x8 : Int) : slices_IndexFunc.l0 (k + 1) x0 x7 x8 = if x8 < x7 then (if 0 ≤ x8 then (if x8 < (x0.length : Int) then ((tree_right_1.f k ((rd_T26 x0 x8).f0) ((rd_T26 x0 x8).f1.f0) ((rd_T26 x0 x8).f1.f1) ((rd_T26 x0 x8).f1.f2) ((rd_T26 x0 x8).f1.f3) ((rd_T26 x0 x8).f2) ((rd_T26 x0 x8).f3) ((rd_T26 x0 x8).f4)).bind fun t102 => (if t102 = true then (some x8) else (slices_IndexFunc.l0 k x0 x7 (wrap64 (x8 + 1))))) else (none)) else (none)) else (some (-1)) := by
  rw [slices_IndexFunc.l0]
  rfl
theorem tree_right.f_succ (k : Nat) (a0_0 : Int) (a0_1 : Int) (a0_2 : ByteArray) (a0_3 : ByteArray) (a0_4 : ByteArray) (a0_5 : Bool) (a0_6 : Bool) (l0_7 : List (S26)) : tree_right.f (k + 1) a0_0 a0_1 a0_2 a0_3 a0_4 a0_5 a0_6 l0_7 = tree_rightR.f k a0_0 a0_1 a0_2 a0_3 a0_4 a0_5 a0_6 l0_7 := by
  rw [tree_right.f]
  rfl
theorem tree_right.mono_l : ∀ k, (∀ y0 y1 y2 y3 y4 y5 y6 y7, LeO (tree_right.f k y0 y1 y2 y3 y4 y5 y6 y7) (tree_right.f (k + 1) y0 y1 y2 y3 y4 y5 y6 y7)) ∧ (∀ y0 y1 y2, LeO (slices_IndexFunc.l0 k y0 y1 y2) (slices_IndexFunc.l0 (k + 1) y0 y1 y2))
  | 0 => ⟨fun _ _ _ _ _ _ _ _ r h => by simp [tree_right.f] at h, fun _ _ _ r h => by simp [slices_IndexFunc.l0] at h⟩
  | k + 1 => by
    obtain ⟨ih0, ih1⟩ := tree_right.mono_l k
    refine ⟨?_, ?_⟩
    · intro y0 y1 y2 y3 y4 y5 y6 y7
      unfold tree_right.f
      repeat' (with_reducible first | apply ih0 | apply ih1 | apply tree_End.mono | exact LeO.refl _ | exact LeO.none _ | refine LeO.ite ?_ ?_ | refine LeO.bind ?_ fun _ => ?_)
    · intro y0 y1 y2
      unfold slices_IndexFunc.l0
      repeat' (with_reducible first | apply ih0 | apply ih1 | apply tree_End.mono | exact LeO.refl _ | exact LeO.none _ | refine LeO.ite ?_ ?_ | refine LeO.bind ?_ fun _ => ?_)
theorem tree_right.mono : ∀ a0 a1 a2 a3 a4 a5 a6 a7 k, LeO (tree_right.f k a0 a1 a2 a3 a4 a5 a6 a7) (tree_right.f (k + 1) a0 a1 a2 a3 a4 a5 a6 a7) := fun a0 a1 a2 a3 a4 a5 a6 a7 k => (tree_right.mono_l k).1 a0 a1 a2 a3 a4 a5 a6 a7
mutual
def tree_Count_1.l0 : Nat → Int → List (S26) → Int → Int → Option (Int)
  | 0, _, _, _, _ => none
  | k + 1, x1, x9, x10, x11 => if x11 < x10 then (if 0 ≤ x11 then (if x11 < (x9.length : Int) then ((tree_Count_1.f k ((rd_T26 x9 x11).f0) ((rd_T26 x9 x11).f1.f0) ((rd_T26 x9 x11).f1.f1) ((rd_T26 x9 x11).f1.f2) ((rd_T26 x9 x11).f1.f3) ((rd_T26 x9 x11).f2) ((rd_T26 x9 x11).f3) ((rd_T26 x9 x11).f4) x1).bind fun t104 => (tree_Count_1.l0 k t104 x9 x10 (wrap64 (x11 + 1)))) else (none)) else (none)) else (some x1)
def tree_Count_1.f : Nat → Int → Int → ByteArray → ByteArray → ByteArray → Bool → Bool → List (S26) → Int → Option (Int)
  | 0, _, _, _, _, _, _, _, _, _ => none
  | k + 1, a0_0, a0_1, a0_2, a0_3, a0_4, a0_5, a0_6, l0_7, a1 => tree_Count_1.l0 k (wrap64 (a1 + 1)) l0_7 (l0_7.length : Int) 0
end
theorem tree_Count_1.mono_l : ∀ k, (∀ y0 y1 y2 y3 y4 y5 y6 y7 y8, LeO (tree_Count_1.f k y0 y1 y2 y3 y4 y5 y6 y7 y8) (tree_Count_1.f (k + 1) y0 y1 y2 y3 y4 y5 y6 y7 y8)) ∧ (∀ y0 y1 y2 y3, LeO (tree_Count_1.l0 k y0 y1 y2 y3) (tree_Count_1.l0 (k + 1) y0 y1 y2 y3))
  | 0 => ⟨fun _ _ _ _ _ _ _ _ _ r h => by simp [tree_Count_1.f] at h, fun _ _ _ _ r h => by simp [tree_Count_1.l0] at h⟩
  | k + 1 => by
    obtain ⟨ih0, ih1⟩ := tree_Count_1.mono_l k
    refine ⟨?_, ?_⟩
    · intro y0 y1 y2 y3 y4 y5 y6 y7 y8
      unfold tree_Count_1.f
      repeat' (with_reducible first | apply ih0 | apply ih1 | exact LeO.refl _ | exact LeO.none _ | refine LeO.ite ?_ ?_ | refine LeO.bind ?_ fun _ => ?_)
    · intro y0 y1 y2 y3
      unfold tree_Count_1.l0
      repeat' (with_reducible first | apply ih0 | apply ih1 | exact LeO.refl _ | exact LeO.none _ | refine LeO.ite ?_ ?_ | refine LeO.bind ?_ fun _ => ?_)
theorem tree_Count_1.mono : ∀ a0 a1 a2 a3 a4 a5 a6 a7 a8 k, LeO (tree_Count_1.f k a0 a1 a2 a3 a4 a5 a6 a7 a8) (tree_Count_1.f (k + 1) a0 a1 a2 a3 a4 a5 a6 a7 a8) := by
  intro a0 a1 a2 a3 a4 a5 a6 a7 a8 k
  obtain ⟨ih0, ih1⟩ := tree_Count_1.mono_l k
  exact ih0 a0 a1 a2 a3 a4 a5 a6 a7 a8
mutual
def tree_Deep_1.j0 : Nat → Int → Int → Int → Int → ByteArray → ByteArray → ByteArray → Bool → Bool → List (S26) → Option (Int)
  | 0, _, _, _, _, _, _, _, _, _, _ => none
  | k + 1, x1, x2, x106000, x106001, x106002, x106003, x106004, x106005, x106006, x106007 => tree_Deep_1.l0 k x1 (mx x2 x1) x106007 (x106007.length : Int) 0
def tree_Deep_1.l0 : Nat → Int → Int → List (S26) → Int → Int → Option (Int)
  | 0, _, _, _, _, _ => none
  | k + 1, x1, x2, x17, x18, x19 => if x19 < x18 then (if 0 ≤ x19 then (if x19 < (x17.length : Int) then ((tree_Deep_1.f k ((rd_T26 x17 x19).f0) ((rd_T26 x17 x19).f1.f0) ((rd_T26 x17 x19).f1.f1) ((rd_T26 x17 x19).f1.f2) ((rd_T26 x17 x19).f1.f3) ((rd_T26 x17 x19).f2) ((rd_T26 x17 x19).f3) ((rd_T26 x17 x19).f4) x1 x2).bind fun t108 => (tree_Deep_1.l0 k x1 t108 x17 x18 (wrap64 (x19 + 1)))) else (none)) else (none)) else (some x2)
def tree_Deep_1.f : Nat → Int → Int → ByteArray → ByteArray → ByteArray → Bool → Bool → List (S26) → Int → Int → Option (Int)
  | 0, _, _, _, _, _, _, _, _, _, _ => none
  | k + 1, a0_0, a0_1, a0_2, a0_3, a0_4, a0_5, a0_6, l0_7, a1, a2 => if a0_0 = 2 then (tree_Deep_1.j0 k (wrap64 (a1 + 1)) a2 a0_0 a0_1 a0_2 a0_3 a0_4 a0_5 a0_6 l0_7) else (tree_Deep_1.j0 k a1 a2 a0_0 a0_1 a0_2 a0_3 a0_4 a0_5 a0_6 l0_7)
end
theorem tree_Deep_1.mono_l : ∀ k, (∀ y0 y1 y2 y3 y4 y5 y6 y7 y8 y9, LeO (tree_Deep_1.f k y0 y1 y2 y3 y4 y5 y6 y7 y8 y9) (tree_Deep_1.f (k + 1) y0 y1 y2 y3 y4 y5 y6 y7 y8 y9)) ∧ (∀ y0 y1 y2 y3 y4 y5 y6 y7 y8 y9, LeO (tree_Deep_1.j0 k y0 y1 y2 y3 y4 y5 y6 y7 y8 y9) (tree_Deep_1.j0 (k + 1) y0 y1 y2 y3 y4 y5 y6 y7 y8 y9)) ∧ (∀ y0 y1 y2 y3 y4, LeO (tree_Deep_1.l0 k y0 y1 y2 y3 y4) (tree_Deep_1.l0 (k + 1) y0 y1 y2 y3 y4))
  | 0 => ⟨fun _ _ _ _ _ _ _ _ _ _ r h => by simp [tree_Deep_1.f] at h, fun _ _ _ _ _ _ _ _ _ _ r h => by simp [tree_Deep_1.j0] at h, fun _ _ _ _ _ r h => by simp [tree_Deep_1.l0] at h⟩
  | k + 1 => by
    obtain ⟨ih0, ih1, ih2⟩ := tree_Deep_1.mono_l k
    refine ⟨?_, ?_, ?_⟩
    · intro y0 y1 y2 y3 y4 y5 y6 y7 y8 y9
      unfold tree_Deep_1.f
      repeat' (with_reducible first | apply ih0 | apply ih1 | apply ih2 | exact LeO.refl _ | exact LeO.none _ | refine LeO.ite ?_ ?_ | refine LeO.bind ?_ fun _ => ?_)
    · intro y0 y1 y2 y3 y4 y5 y6 y7 y8 y9
      unfold tree_Deep_1.j0
      repeat' (with_reducible first | apply ih0 | apply ih1 | apply ih2 | exact LeO.refl _ | exact LeO.none _ | refine LeO.ite ?_ ?_ | refine LeO.bind ?_ fun _ => ?_)
    · intro y0 y1 y2 y3 y4
      unfold tree_Deep_1.l0
      repeat' (with_reducible first | apply ih0 | apply ih1 | apply ih2 | exact LeO.refl _ | exact LeO.none _ | refine LeO.ite ?_ ?_ | refine LeO.bind ?_ fun _ => ?_)
theorem tree_Deep_1.mono : ∀ a0 a1 a2 a3 a4 a5 a6 a7 a8 a9 k, LeO (tree_Deep_1.f k a0 a1 a2 a3 a4 a5 a6 a7 a8 a9) (tree_Deep_1.f (k + 1) a0 a1 a2 a3 a4 a5 a6 a7 a8 a9) := by
  intro a0 a1 a2 a3 a4 a5 a6 a7 a8 a9 k
  obtain ⟨ih0, ih1, ih2⟩ := tree_Deep_1.mono_l k
  exact ih0 a0 a1 a2 a3 a4 a5 a6 a7 a8 a9
def tree_Count.f (k : Nat) (a0_0 : Int) (a0_1 : Int) (a0_2 : ByteArray) (a0_3 : ByteArray) (a0_4 : ByteArray) (a0_5 : Bool) (a0_6 : Bool) (l0_7 : List (S26)) : Option (Int) := tree_Count_1.f k a0_0 a0_1 a0_2 a0_3 a0_4 a0_5 a0_6 l0_7 0
theorem tree_Count.mono : ∀ a0 a1 a2 a3 a4 a5 a6 a7 k, LeO (tree_Count.f k a0 a1 a2 a3 a4 a5 a6 a7) (tree_Count.f (k + 1) a0 a1 a2 a3 a4 a5 a6 a7) := fun a0 a1 a2 a3 a4 a5 a6 a7 k => tree_Count_1.mono a0 a1 a2 a3 a4 a5 a6 a7 0 k
def tree_Deep.f (k : Nat) (a0_0 : Int) (a0_1 : Int) (a0_2 : ByteArray) (a0_3 : ByteArray) (a0_4 : ByteArray) (a0_5 : Bool) (a0_6 : Bool) (l0_7 : List (S26)) : Option (Int) := tree_Deep_1.f k a0_0 a0_1 a0_2 a0_3 a0_4 a0_5 a0_6 l0_7 0 0
theorem tree_Deep.mono : ∀ a0 a1 a2 a3 a4 a5 a6 a7 k, LeO (tree_Deep.f k a0 a1 a2 a3 a4 a5 a6 a7) (tree_Deep.f (k + 1) a0 a1 a2 a3 a4 a5 a6 a7) := fun a0 a1 a2 a3 a4 a5 a6 a7 k => tree_Deep_1.mono a0 a1 a2 a3 a4 a5 a6 a7 0 0 k
def tree_Sane.f (k : Nat) (a0_0 : Int) (a0_1 : Int) (a0_2 : ByteArray) (a0_3 : ByteArray) (a0_4 : ByteArray) (a0_5 : Bool) (a0_6 : Bool) (l0_7 : List (S26)) : Option (Bool) := (tree_Count.f k a0_0 a0_1 a0_2 a0_3 a0_4 a0_5 a0_6 l0_7).bind fun t157 => (if t157 ≤ 64 then ((tree_Deep.f k a0_0 a0_1 a0_2 a0_3 a0_4 a0_5 a0_6 l0_7).bind fun t158 => (if t158 ≤ 8 then ((tree_right.f k a0_0 a0_1 a0_2 a0_3 a0_4 a0_5 a0_6 l0_7).bind fun t159 => (some t159)) else (some false))) else (some false))
theorem tree_Sane.mono : ∀ a0 a1 a2 a3 a4 a5 a6 a7 k, LeO (tree_Sane.f k a0 a1 a2 a3 a4 a5 a6 a7) (tree_Sane.f (k + 1) a0 a1 a2 a3 a4 a5 a6 a7) := by
  intro a0 a1 a2 a3 a4 a5 a6 a7 k
  unfold tree_Sane.f
  repeat' (with_reducible first | apply tree_Count.mono | apply tree_Deep.mono | apply tree_right.mono | exact LeO.refl _ | exact LeO.none _ | refine LeO.ite ?_ ?_ | refine LeO.bind ?_ fun _ => ?_)
mutual
def lustrumref10_Count.l0 : Nat → Int → Int → Int → Int → ByteArray → ByteArray → ByteArray → Bool → Bool → List (S26) → Option (Int)
  | 0, _, _, _, _, _, _, _, _, _, _ => none
  | k + 1, x3, x4, x230000, x230001, x230002, x230003, x230004, x230005, x230006, x230007 => if x4 < (x230007.length : Int) then (if 0 ≤ x4 then ((lustrumref10_Count.f k ((rd_T26 x230007 x4).f0) ((rd_T26 x230007 x4).f1.f0) ((rd_T26 x230007 x4).f1.f1) ((rd_T26 x230007 x4).f1.f2) ((rd_T26 x230007 x4).f1.f3) ((rd_T26 x230007 x4).f2) ((rd_T26 x230007 x4).f3) ((rd_T26 x230007 x4).f4)).bind fun t231 => (lustrumref10_Count.l0 k (wrap64 (x3 + t231)) (wrap64 (x4 + 1)) x230000 x230001 x230002 x230003 x230004 x230005 x230006 x230007)) else (none)) else (some x3)
def lustrumref10_Count.f : Nat → Int → Int → ByteArray → ByteArray → ByteArray → Bool → Bool → List (S26) → Option (Int)
  | 0, _, _, _, _, _, _, _, _ => none
  | k + 1, a0_0, a0_1, a0_2, a0_3, a0_4, a0_5, a0_6, l0_7 => lustrumref10_Count.l0 k 1 0 a0_0 a0_1 a0_2 a0_3 a0_4 a0_5 a0_6 l0_7
end
mutual
def lustrumref10_short.j0 : Nat → Bool → Int → Int → ByteArray → ByteArray → ByteArray → Bool → Bool → List (S26) → Option (Bool)
  | 0, _, _, _, _, _, _, _, _, _ => none
  | k + 1, x22, x233000, x233001, x233002, x233003, x233004, x233005, x233006, x233007 => if x22 = true then (some false) else (lustrumref10_short.l0 k 0 x233000 x233001 x233002 x233003 x233004 x233005 x233006 x233007)
def lustrumref10_short.l0 : Nat → Int → Int → Int → ByteArray → ByteArray → ByteArray → Bool → Bool → List (S26) → Option (Bool)
  | 0, _, _, _, _, _, _, _, _, _ => none
  | k + 1, x3, x233000, x233001, x233002, x233003, x233004, x233005, x233006, x233007 => if x3 < (x233007.length : Int) then (if 0 ≤ x3 then ((lustrumref10_short.f k ((rd_T26 x233007 x3).f0) ((rd_T26 x233007 x3).f1.f0) ((rd_T26 x233007 x3).f1.f1) ((rd_T26 x233007 x3).f1.f2) ((rd_T26 x233007 x3).f1.f3) ((rd_T26 x233007 x3).f2) ((rd_T26 x233007 x3).f3) ((rd_T26 x233007 x3).f4)).bind fun t234 => (if t234 = true then (lustrumref10_short.l0 k (wrap64 (x3 + 1)) x233000 x233001 x233002 x233003 x233004 x233005 x233006 x233007) else (some false))) else (none)) else (some true)
def lustrumref10_short.f : Nat → Int → Int → ByteArray → ByteArray → ByteArray → Bool → Bool → List (S26) → Option (Bool)
  | 0, _, _, _, _, _, _, _, _ => none
  | k + 1, a0_0, a0_1, a0_2, a0_3, a0_4, a0_5, a0_6, l0_7 => if (a0_2.size : Int) > 10 then (lustrumref10_short.j0 k true a0_0 a0_1 a0_2 a0_3 a0_4 a0_5 a0_6 l0_7) else (if (a0_3.size : Int) > 10 then (lustrumref10_short.j0 k true a0_0 a0_1 a0_2 a0_3 a0_4 a0_5 a0_6 l0_7) else (lustrumref10_short.j0 k (decide ((a0_4.size : Int) > 10)) a0_0 a0_1 a0_2 a0_3 a0_4 a0_5 a0_6 l0_7))
end
def lustrumref10_Few.f (k : Nat) (a0_0 : Int) (a0_1 : Int) (a0_2 : ByteArray) (a0_3 : ByteArray) (a0_4 : ByteArray) (a0_5 : Bool) (a0_6 : Bool) (l0_7 : List (S26)) : Option (Bool) := (lustrumref10_Count.f k a0_0 a0_1 a0_2 a0_3 a0_4 a0_5 a0_6 l0_7).bind fun t236 => (if t236 ≤ 120 then ((lustrumref10_short.f k a0_0 a0_1 a0_2 a0_3 a0_4 a0_5 a0_6 l0_7).bind fun t237 => (some t237)) else (some false))
mutual
def nd : S26 → Nat
  | ⟨_, _, _, _, l⟩ => ndL l + 1
def ndL : List S26 → Nat
  | [] => 0
  | x :: l => nd x + ndL l
end
mutual
def dp : S26 → Nat
  | ⟨k, _, _, _, l⟩ => if k = 2 then dpL l + 1 else dpL l
def dpL : List S26 → Nat
  | [] => 0
  | x :: l => max (dp x) (dpL l)
end
mutual
def sm : S26 → S26 → Bool
  | ⟨k, p, a, t, l⟩, n => decide (k = n.f0) && (decide (p.f0 = n.f1.f0) && (decide (p.f1.toList = n.f1.f1.toList) && (decide (p.f2.toList = n.f1.f2.toList) && decide (p.f3.toList = n.f1.f3.toList)))) && (a == n.f2) && (t == n.f3) && smL l n.f4
def smL : List S26 → List S26 → Bool
  | [], [] => true
  | x :: l, y :: m => sm x y && smL l m
  | _, _ => false
end
def bareV (n : S26) : Bool := decide (n.f1.f0 = 0) && (emptyV n.f1.f1 && (emptyV n.f1.f2 && emptyV n.f1.f3)) && !n.f2 && !n.f3
def endV (n : S26) : Bool := decide (n.f4 = []) && (if n.f0 = 0 then ptV n.f1 else if n.f0 = 3 ∨ n.f0 = 4 then bareV n else false)
def two : List S26 → Bool
  | [x, y] => endV x && endV y
  | _ => false
mutual
def rt : S26 → Bool
  | ⟨k, p, a, t, l⟩ => if k = 0 then endV ⟨k, p, a, t, l⟩ else if k = 1 then bareV ⟨k, p, a, t, l⟩ && two l else if k = 2 then bareV ⟨k, p, a, t, l⟩ && (decide (l ≠ []) && rtL l) else false
def rtL : List S26 → Bool
  | [] => true
  | x :: l => rt x && rtL l
end
mutual
def sh : S26 → Bool
  | ⟨_, p, _, _, l⟩ => decide (p.f1.size ≤ 10) && (decide (p.f2.size ≤ 10) && decide (p.f3.size ≤ 10)) && shL l
def shL : List S26 → Bool
  | [] => true
  | x :: l => sh x && shL l
end
theorem nd_eq (n : S26) : nd n = ndL n.f4 + 1 := by cases n; rw [nd]
theorem dp_eq (n : S26) : dp n = if n.f0 = 2 then dpL n.f4 + 1 else dpL n.f4 := by cases n; rw [dp]
theorem sm_eq (a n : S26) : sm a n = (decide (a.f0 = n.f0) && (decide (a.f1.f0 = n.f1.f0) && (decide (a.f1.f1.toList = n.f1.f1.toList) && (decide (a.f1.f2.toList = n.f1.f2.toList) && decide (a.f1.f3.toList = n.f1.f3.toList)))) && (a.f2 == n.f2) && (a.f3 == n.f3) && smL a.f4 n.f4) := by cases a; rw [sm]
theorem rt_eq (n : S26) : rt n = if n.f0 = 0 then endV n else if n.f0 = 1 then bareV n && two n.f4 else if n.f0 = 2 then bareV n && (decide (n.f4 ≠ []) && rtL n.f4) else false := by cases n; rw [rt]
theorem sh_eq (n : S26) : sh n = (decide (n.f1.f1.size ≤ 10) && (decide (n.f1.f2.size ≤ 10) && decide (n.f1.f3.size ≤ 10)) && shL n.f4) := by cases n; rw [sh]
theorem nd_pos (n : S26) : 1 ≤ nd n := by rw [nd_eq]; omega
theorem len_nd : ∀ l : List S26, l.length ≤ ndL l
  | [] => Nat.le_refl _
  | x :: l => by have h1 := nd_pos x; have h2 := len_nd l; rw [ndL, List.length_cons]; omega
inductive wfN : S26 → Prop
  | mk (n : S26) (h1 : n.f1.f1.size ≤ 140737488351232) (h2 : n.f1.f2.size ≤ 140737488351232) (h3 : n.f1.f3.size ≤ 140737488351232) (hl : n.f4.length ≤ 1466015503711) (hc : ∀ x, x ∈ n.f4 → wfN x) : wfN n
theorem wfN.s1 {n : S26} (h : wfN n) : n.f1.f1.size ≤ 140737488351232 := by cases h; assumption
theorem wfN.s2 {n : S26} (h : wfN n) : n.f1.f2.size ≤ 140737488351232 := by cases h; assumption
theorem wfN.s3 {n : S26} (h : wfN n) : n.f1.f3.size ≤ 140737488351232 := by cases h; assumption
theorem wfN.len {n : S26} (h : wfN n) : n.f4.length ≤ 1466015503711 := by cases h; assumption
theorem wfN.all {n : S26} (h : wfN n) : ∀ x, x ∈ n.f4 → wfN x := by cases h; assumption
theorem at_rd26 (p : List S26) (r : S26) (t : List S26) : rd_T26 (p ++ r :: t) (p.length : Int) = r := by simp [rd_T26]
abbrev cn1 (k : Nat) (n : S26) (c : Int) : Option Int := tree_Count_1.f k n.f0 n.f1.f0 n.f1.f1 n.f1.f2 n.f1.f3 n.f2 n.f3 n.f4 c
abbrev dp1 (k : Nat) (n : S26) (i c : Int) : Option Int := tree_Deep_1.f k n.f0 n.f1.f0 n.f1.f1 n.f1.f2 n.f1.f3 n.f2 n.f3 n.f4 i c
abbrev tCount (k : Nat) (n : S26) : Option Int := tree_Count.f k n.f0 n.f1.f0 n.f1.f1 n.f1.f2 n.f1.f3 n.f2 n.f3 n.f4
abbrev tDeep (k : Nat) (n : S26) : Option Int := tree_Deep.f k n.f0 n.f1.f0 n.f1.f1 n.f1.f2 n.f1.f3 n.f2 n.f3 n.f4
abbrev tEnd (k : Nat) (n : S26) : Option Bool := tree_End.f k n.f0 n.f1.f0 n.f1.f1 n.f1.f2 n.f1.f3 n.f2 n.f3 n.f4
abbrev tBare (n : S26) : Option Bool := tree_bare.f n.f0 n.f1.f0 n.f1.f1 n.f1.f2 n.f1.f3 n.f2 n.f3 n.f4
abbrev tRight (k : Nat) (n : S26) : Option Bool := tree_right.f k n.f0 n.f1.f0 n.f1.f1 n.f1.f2 n.f1.f3 n.f2 n.f3 n.f4
abbrev tSane (k : Nat) (n : S26) : Option Bool := tree_Sane.f k n.f0 n.f1.f0 n.f1.f1 n.f1.f2 n.f1.f3 n.f2 n.f3 n.f4
abbrev tSame (k : Nat) (n m : S26) : Option Bool := tree_Same.f k n.f0 n.f1.f0 n.f1.f1 n.f1.f2 n.f1.f3 n.f2 n.f3 n.f4 m.f0 m.f1.f0 m.f1.f1 m.f1.f2 m.f1.f3 m.f2 m.f3 m.f4
abbrev rCount (k : Nat) (n : S26) : Option Int := lustrumref10_Count.f k n.f0 n.f1.f0 n.f1.f1 n.f1.f2 n.f1.f3 n.f2 n.f3 n.f4
abbrev rShort (k : Nat) (n : S26) : Option Bool := lustrumref10_short.f k n.f0 n.f1.f0 n.f1.f1 n.f1.f2 n.f1.f3 n.f2 n.f3 n.f4
abbrev rFew (k : Nat) (n : S26) : Option Bool := lustrumref10_Few.f k n.f0 n.f1.f0 n.f1.f1 n.f1.f2 n.f1.f3 n.f2 n.f3 n.f4
theorem cn_f : ∀ (m : Nat) (n : S26) (c : Int), nd n ≤ m → 0 ≤ c → c + nd n ≤ 4611686018427387904 → Ev (fun k => cn1 k n c) (c + nd n)
  | 0, n, c, h, _, _ => by have := nd_pos n; omega
  | m + 1, n, c, h, h0, hb => by
    have loop : ∀ (t p : List S26) (c : Int), ndL t ≤ m → 0 ≤ c → c + ndL t ≤ 4611686018427387904 → (p ++ t).length ≤ 4611686018427387904 → Ev (fun k => tree_Count_1.l0 k c (p ++ t) ((p ++ t).length : Int) (p.length : Int)) (c + ndL t) := fun t => by
      induction t with
      | nil => exact fun p c _ _ _ _ => Ev.step (f := fun _ => some c) (fun k => by rw [tree_Count_1.l0, if_neg (at_end p)]) (Ev.eq (Ev.now _) (by simp [ndL]))
      | cons x t ih =>
        intro p c hm hc hb hp
        rw [ndL] at hm hb ⊢
        refine Ev.step (f := fun k => (cn1 k x c).bind fun t' => tree_Count_1.l0 k t' (p ++ x :: t) ((p ++ x :: t).length : Int) ((p ++ [x]).length : Int)) (fun k => by rw [tree_Count_1.l0, if_pos (at_lt p x t), if_pos (at_0 p), if_pos (at_lt p x t), at_rd26, at_next hp]) ?_
        refine Ev.bind (cn_f m x c (by omega) hc (by omega)) ?_
        have := ih (p ++ [x]) (c + nd x) (by omega) (by omega) (by omega) (by rw [← at_app]; exact hp)
        rw [← at_app] at this
        exact Ev.eq this (by omega)
    have hn := nd_eq n
    have hl := len_nd n.f4
    refine Ev.step (f := fun k => tree_Count_1.l0 k (c + 1) n.f4 (n.f4.length : Int) 0) (fun k => by show tree_Count_1.f (k + 1) _ _ _ _ _ _ _ _ _ = _; rw [tree_Count_1.f, w64 (by omega) (by omega)]) ?_
    have := loop n.f4 [] (c + 1) (by omega) (by omega) (by omega) (by simp; omega)
    exact Ev.eq this (by omega)
theorem tCount_f (n : S26) (h : nd n ≤ 4611686018427387904) : Ev (fun k => tCount k n) (nd n : Int) := Ev.eq (cn_f _ n 0 (Nat.le_refl _) (Int.le_refl _) (by omega)) (by omega)
theorem rCount_some : ∀ (m : Nat) (n : S26), nd n ≤ m → wfN n → ∃ v, Ev (fun k => rCount k n) v
  | 0, n, h, _ => by have := nd_pos n; omega
  | m + 1, n, h, hw => by
    have loop : ∀ (t p : List S26) (c : Int), ndL t ≤ m → (∀ x, x ∈ t → wfN x) → (p ++ t).length ≤ 4611686018427387904 → ∃ v, Ev (fun k => lustrumref10_Count.l0 k c (p.length : Int) n.f0 n.f1.f0 n.f1.f1 n.f1.f2 n.f1.f3 n.f2 n.f3 (p ++ t)) v := fun t => by
      induction t with
      | nil => exact fun p c _ _ _ => ⟨c, Ev.step (f := fun _ => some c) (fun k => by rw [lustrumref10_Count.l0, if_neg (at_end p)]) (Ev.now _)⟩
      | cons x t ih =>
        intro p c hm hx hp
        rw [ndL] at hm
        obtain ⟨v, hv⟩ := rCount_some m x (by omega) (hx x List.mem_cons_self)
        obtain ⟨u, hu⟩ := ih (p ++ [x]) (wrap64 (c + v)) (by have := nd_pos x; omega) (fun y hy => hx y (List.mem_cons_of_mem _ hy)) (by rw [← at_app]; exact hp)
        rw [← at_app] at hu
        exact ⟨u, Ev.step (f := fun k => (rCount k x).bind fun t' => lustrumref10_Count.l0 k (wrap64 (c + t')) ((p ++ [x]).length : Int) n.f0 n.f1.f0 n.f1.f1 n.f1.f2 n.f1.f3 n.f2 n.f3 (p ++ x :: t)) (fun k => by rw [lustrumref10_Count.l0, if_pos (at_lt p x t), if_pos (at_0 p), at_rd26, at_next hp]) (Ev.bind hv hu)⟩
    have hn := nd_eq n
    have hl := hw.len
    obtain ⟨v, hv⟩ := loop n.f4 [] 1 (by omega) hw.all (by simp; omega)
    exact ⟨v, Ev.step (f := fun k => lustrumref10_Count.l0 k 1 0 n.f0 n.f1.f0 n.f1.f1 n.f1.f2 n.f1.f3 n.f2 n.f3 n.f4) (fun k => by show lustrumref10_Count.f (k + 1) _ _ _ _ _ _ _ _ = _; rw [lustrumref10_Count.f]) hv⟩
theorem dp_f : ∀ (m : Nat) (n : S26) (i c : Int), nd n ≤ m → 0 ≤ i → 0 ≤ c → i + nd n ≤ 4611686018427387904 → Ev (fun k => dp1 k n i c) (max c (i + dp n))
  | 0, n, i, c, h, _, _, _ => by have := nd_pos n; omega
  | m + 1, n, i, c, h, h0, hc, hb => by
    have loop : ∀ (t p : List S26) (i c : Int), ndL t ≤ m → 0 ≤ i → i ≤ c → i + ndL t ≤ 4611686018427387904 → (p ++ t).length ≤ 4611686018427387904 → Ev (fun k => tree_Deep_1.l0 k i c (p ++ t) ((p ++ t).length : Int) (p.length : Int)) (max c (i + dpL t)) := fun t => by
      induction t with
      | nil => exact fun p i c _ _ h _ _ => Ev.step (f := fun _ => some c) (fun k => by rw [tree_Deep_1.l0, if_neg (at_end p)]) (Ev.eq (Ev.now _) (by simp only [dpL]; omega))
      | cons x t ih =>
        intro p i c hm hi hc hb hp
        rw [ndL] at hm hb
        rw [dpL]
        refine Ev.step (f := fun k => (dp1 k x i c).bind fun t' => tree_Deep_1.l0 k i t' (p ++ x :: t) ((p ++ x :: t).length : Int) ((p ++ [x]).length : Int)) (fun k => by rw [tree_Deep_1.l0, if_pos (at_lt p x t), if_pos (at_0 p), if_pos (at_lt p x t), at_rd26, at_next hp]) ?_
        refine Ev.bind (dp_f m x i c (by omega) hi (by omega) (by omega)) ?_
        have := ih (p ++ [x]) i (max c (i + dp x)) (by have := nd_pos x; omega) hi (by omega) (by omega) (by rw [← at_app]; exact hp)
        rw [← at_app] at this
        exact Ev.eq this (by omega)
    have hn := nd_eq n
    have hl := len_nd n.f4
    have hj : ∀ x1 : Int, 0 ≤ x1 → x1 ≤ i + 1 → Ev (fun k => tree_Deep_1.j0 k x1 c n.f0 n.f1.f0 n.f1.f1 n.f1.f2 n.f1.f3 n.f2 n.f3 n.f4) (max c (x1 + dpL n.f4)) := fun x1 h1 h2 => by
      refine Ev.step (f := fun k => tree_Deep_1.l0 k x1 (mx c x1) n.f4 (n.f4.length : Int) 0) (fun k => by rw [tree_Deep_1.j0]) ?_
      have := loop n.f4 [] x1 (mx c x1) (by omega) h1 (by rw [mx_max]; omega) (by omega) (by simp; omega)
      rw [mx_max] at this ⊢
      exact Ev.eq this (by omega)
    rw [dp_eq]
    by_cases h2 : n.f0 = 2
    · rw [if_pos h2]
      refine Ev.step (f := fun k => tree_Deep_1.j0 k (i + 1) c n.f0 n.f1.f0 n.f1.f1 n.f1.f2 n.f1.f3 n.f2 n.f3 n.f4) (fun k => by show tree_Deep_1.f (k + 1) _ _ _ _ _ _ _ _ _ _ = _; rw [tree_Deep_1.f, if_pos h2, w64 (by omega) (by omega)]) ?_
      exact Ev.eq (hj (i + 1) (by omega) (by omega)) (by omega)
    · rw [if_neg h2]
      refine Ev.step (f := fun k => tree_Deep_1.j0 k i c n.f0 n.f1.f0 n.f1.f1 n.f1.f2 n.f1.f3 n.f2 n.f3 n.f4) (fun k => by show tree_Deep_1.f (k + 1) _ _ _ _ _ _ _ _ _ _ = _; rw [tree_Deep_1.f, if_neg h2]) ?_
      exact hj i (by omega) (by omega)
theorem tDeep_f (n : S26) (h : nd n ≤ 4611686018427387904) : Ev (fun k => tDeep k n) (dp n : Int) := Ev.eq (dp_f _ n 0 0 (Nat.le_refl _) (Int.le_refl _) (Int.le_refl _) (by omega)) (by omega)
end Go.Proofs.Ytfehdlkklfcnpaa.A
namespace Go.Proofs.Ytfehdlkklfcnpaa.Rd
open Go.RowKit Go.Deep Go.Proofs.YtfehdlkklfcnpaaW.PrintWords Go.Proofs.Ytfehdlkklfcnpaa.A
def wfI (n : Int) : Prop := -9223372036854775808 ≤ n ∧ n ≤ 9223372036854775807
theorem wfI_of {n : Int} (h : (Lit.int .i64 n).wf = true) : wfI n := by
  have h1 := of_decide_eq_true (p := _ ∧ _) (by simpa [Lit.wf, IntKind.signed, IntKind.bits, Bool.and_eq_true, decide_eq_true_eq] using h)
  exact h1
theorem len4 {α : Type} {l : List α} (h : l.length = 4) : ∃ a b c d, l = [a, b, c, d] := by
  match l, h with
  | [a, b, c, d], _ => exact ⟨a, b, c, d, rfl⟩
theorem len5 {α : Type} {l : List α} (h : l.length = 5) : ∃ a b c d e, l = [a, b, c, d, e] := by
  match l, h with
  | [a, b, c, d, e], _ => exact ⟨a, b, c, d, e, rfl⟩
theorem len8 {α : Type} {l : List α} (h : l.length = 8) : ∃ a b c d e f g i, l = [a, b, c, d, e, f, g, i] := by
  match l, h with
  | [a, b, c, d, e, f, g, i], _ => exact ⟨a, b, c, d, e, f, g, i, rfl⟩
theorem pt_read (f : Nat) {H : Type} (enc : TypeId × Value → H) (W : World) (cs : List Value) (x : DataW H × List MemPlace)
    (h : DataW.trod enc Try.prog W 0 (fun _ => true) true f 23 cs = some x) (hw : (x.1.weights Try.prog 23).all (· ≤ reachBytes) = true) :
    ∃ p : S23, cs = [.int .i64 p.f0, .string p.f1, .string p.f2, .string p.f3] ∧ wfI p.f0 ∧ p.f1.size ≤ 140737488351232 ∧ p.f2.size ≤ 140737488351232 ∧ p.f3.size ≤ 140737488351232 := by
  obtain ⟨xs, m, rfl, rfl, hl, hlen, hf⟩ := DataW.trod_struct Try.underlying23 h
  have e1 : Try.prog.cellsOf 23 = 4 := by kernel_rfl
  have e2 : Try.prog.cellsOf 3 = 1 := by kernel_rfl
  have e3 : Try.prog.cellsOf 9 = 1 := by kernel_rfl
  rw [e1] at hl
  have hlen : xs.length = 4 := hlen
  obtain ⟨y0, y1, y2, y3, rfl⟩ := len4 hlen
  obtain ⟨c0, c1, c2, c3, rfl⟩ := len4 hl
  · skip
    have h0 : DataW.trod enc Try.prog W 0 (fun _ => true) true m 3 (([c0, c1, c2, c3].drop 0).take (Try.prog.cellsOf 3)) = some y0 := hf 0 _ rfl
    have h1 : DataW.trod enc Try.prog W 0 (fun _ => true) true m 9 (([c0, c1, c2, c3].drop 1).take (Try.prog.cellsOf 9)) = some y1 := hf 1 _ rfl
    have h2 : DataW.trod enc Try.prog W 0 (fun _ => true) true m 9 (([c0, c1, c2, c3].drop 2).take (Try.prog.cellsOf 9)) = some y2 := hf 2 _ rfl
    have h3 : DataW.trod enc Try.prog W 0 (fun _ => true) true m 9 (([c0, c1, c2, c3].drop 3).take (Try.prog.cellsOf 9)) = some y3 := hf 3 _ rfl
    rw [e2] at h0
    rw [e3] at h1 h2 h3
    simp only [DataW.weights, Try.underlying23, List.map_cons, List.map_nil, DataW.weightsEach, List.all_append, Bool.and_eq_true] at hw
    obtain ⟨_, w1, w2, w3, _⟩ := hw
    obtain ⟨a, ha, _, wa⟩ := DataW.trod_int Try.underlying3 h0
    obtain ⟨s1, hs1, z1⟩ := Rd.string Try.underlying9 m enc W _ _ h1 w1
    obtain ⟨s2, hs2, z2⟩ := Rd.string Try.underlying9 m enc W _ _ h2 w2
    obtain ⟨s3, hs3, z3⟩ := Rd.string Try.underlying9 m enc W _ _ h3 w3
    replace ha : [c0] = [.int .i64 a] := ha
    replace hs1 : [c1] = [.string s1] := hs1
    replace hs2 : [c2] = [.string s2] := hs2
    replace hs3 : [c3] = [.string s3] := hs3
    simp only [List.cons.injEq, and_true] at ha hs1 hs2 hs3
    subst ha hs1 hs2 hs3
    exact ⟨⟨a, s1, s2, s3⟩, rfl, wfI_of wa, z1, z2, z3⟩
theorem ndL_le {H : Type} : ∀ (l : List S26) (ds : List (DataW H)), l.length = ds.length → (∀ (i : Nat) (b : S26), l[i]? = some b → ∃ d, ds[i]? = some d ∧ nd b ≤ Rows.uptoBulk d) → ndL l ≤ Rows.uptoBulkAll ds
  | [], [], _, _ => by rw [ndL]; exact Nat.zero_le _
  | b :: l, d :: ds, e, h => by
    obtain ⟨d', h1, h2⟩ := h 0 b rfl
    obtain rfl : d = d' := by simpa using h1
    have := ndL_le l ds (by simpa using e) (fun (i : Nat) (b : S26) hb => by have := h (i + 1) b (by simpa using hb); simpa using this)
    rw [ndL, Rows.uptoBulkAll]
    omega
  | [], _ :: _, e, _ => by simp at e
  | _ :: _, [], e, _ => by simp at e
theorem node_read : ∀ (f : Nat) {H : Type} (enc : TypeId × Value → H) (W : World) (cs : List Value) (x : DataW H × List MemPlace),
    DataW.trod enc Try.prog W 0 (fun _ => true) true f 26 cs = some x → (x.1.weights Try.prog 26).all (· ≤ reachBytes) = true → ∃ n : S26, k26.K W n cs ∧ wfN n ∧ wfI n.f0 ∧ nd n ≤ Rows.uptoBulk x.1 := by
  intro f
  induction f using Nat.strongRecOn with
  | _ f ih =>
  intro H enc W cs x h hw
  obtain ⟨xs, m, rfl, rfl, hl, hlen, hf⟩ := DataW.trod_struct Try.underlying26 h
  have e1 : Try.prog.cellsOf 26 = 8 := by kernel_rfl
  have e2 : Try.prog.cellsOf 3 = 1 := by kernel_rfl
  have e3 : Try.prog.cellsOf 23 = 4 := by kernel_rfl
  have e4 : Try.prog.cellsOf 4 = 1 := by kernel_rfl
  have e5 : Try.prog.cellsOf 24 = 1 := by kernel_rfl
  rw [e1] at hl
  have hlen : xs.length = 5 := hlen
  obtain ⟨y0, y1, y2, y3, y4, rfl⟩ := len5 hlen
  obtain ⟨c0, c1, c2, c3, c4, c5, c6, c7, rfl⟩ := len8 hl
  · skip
    have h0 : DataW.trod enc Try.prog W 0 (fun _ => true) true m 3 (([c0, c1, c2, c3, c4, c5, c6, c7].drop 0).take (Try.prog.cellsOf 3)) = some y0 := hf 0 _ rfl
    have h1 : DataW.trod enc Try.prog W 0 (fun _ => true) true m 23 (([c0, c1, c2, c3, c4, c5, c6, c7].drop 1).take (Try.prog.cellsOf 23)) = some y1 := hf 1 _ rfl
    have h2 : DataW.trod enc Try.prog W 0 (fun _ => true) true m 4 (([c0, c1, c2, c3, c4, c5, c6, c7].drop 5).take (Try.prog.cellsOf 4)) = some y2 := hf 2 _ rfl
    have h3 : DataW.trod enc Try.prog W 0 (fun _ => true) true m 4 (([c0, c1, c2, c3, c4, c5, c6, c7].drop 6).take (Try.prog.cellsOf 4)) = some y3 := hf 3 _ rfl
    have h4 : DataW.trod enc Try.prog W 0 (fun _ => true) true m 24 (([c0, c1, c2, c3, c4, c5, c6, c7].drop 7).take (Try.prog.cellsOf 24)) = some y4 := hf 4 _ rfl
    rw [e2] at h0
    rw [e3] at h1
    rw [e4] at h2 h3
    rw [e5] at h4
    simp only [DataW.weights, Try.underlying26, List.map_cons, List.map_nil, DataW.weightsEach, List.all_append, Bool.and_eq_true] at hw
    obtain ⟨_, w1, _, _, w4, _⟩ := hw
    obtain ⟨a, ha, _, wa⟩ := DataW.trod_int Try.underlying3 h0
    obtain ⟨p, hp, wp, z1, z2, z3⟩ := pt_read m enc W _ _ h1 w1
    obtain ⟨b2, hb2, _⟩ := DataW.trod_bool Try.underlying4 h2
    obtain ⟨b3, hb3, _⟩ := DataW.trod_bool Try.underlying4 h3
    replace ha : [c0] = [.int .i64 a] := ha
    replace hp : [c1, c2, c3, c4] = [.int .i64 p.f0, .string p.f1, .string p.f2, .string p.f3] := hp
    replace hb2 : [c5] = [.bool b2] := hb2
    replace hb3 : [c6] = [.bool b3] := hb3
    replace h4 : DataW.trod enc Try.prog W 0 (fun _ => true) true m 24 [c7] = some y4 := h4
    simp only [List.cons.injEq, and_true] at ha hp hb2 hb3
    obtain ⟨rfl, rfl, rfl, rfl⟩ := hp
    subst ha hb2 hb3
    have hL : ∃ l : List S26, (Kd.slice 26 k26).K W l [c7] ∧ l.length ≤ 1466015503711 ∧ (∀ x, x ∈ l → wfN x) ∧ ndL l + 1 ≤ Rows.uptoBulk y4.1 := by
      rcases DataW.trod_slice Try.underlying24 h4 with ⟨e, rfl⟩ | ⟨ad, len, cap, elems, rest, g, rfl, e, rfl, _, hlc, hm, hle, hel, _, _⟩
      · simp only [List.cons.injEq, and_true] at e
        subst e
        exact ⟨[], ⟨none, 0, rfl, Nat.le_refl _, rfl, by simp, fun h => absurd h (by simp)⟩, by simp, fun x h => (by cases h), by rw [ndL, Rows.uptoBulk]; omega⟩
      · simp only [List.cons.injEq, and_true] at e
        subst e
        simp only [DataW.weights, Try.underlying24, List.all_cons, List.all_append, Bool.and_eq_true, decide_eq_true_eq] at w4
        obtain ⟨hb, hw1, _⟩ := w4
        rw [List.length_map, List.length_map] at hb
        have eb : Try.prog.bytesOf 26 = 96 := by kernel_rfl
        rw [eb] at hb
        obtain ⟨l, hl, hq⟩ := list_of (fun i b => ∃ c, c.length = k26.sz ∧ k26.K W b c ∧ wfN b ∧ (∃ d, (elems.map (·.1))[i]? = some d ∧ nd b ≤ Rows.uptoBulk d) ∧ ∀ j u, c[j]? = some u → W.cell? (ad.add (i * k26.sz + j)) = some u) len fun i hi => by
          have hi' : i < elems.length := by omega
          have h1 := hel i hi
          rw [List.getElem?_eq_getElem hi'] at h1
          obtain ⟨c, hc1, hc2⟩ := Option.bind_eq_some_iff.1 h1
          obtain ⟨_, hcl, hcell⟩ := World.cells?_some hc1
          obtain ⟨b, hk, hwf, _, hbk⟩ := ih g (by omega) enc W c _ hc2 (all_weights hw1 _ (List.mem_map.2 ⟨_, List.getElem_mem hi', rfl⟩))
          have esz : k26.sz = 8 := rfl
          refine ⟨b, c, by rw [hcl, e1, esz], hk, hwf, ⟨_, by rw [List.getElem?_map, List.getElem?_eq_getElem hi']; rfl, hbk⟩, fun j u hj => ?_⟩
          have hjl := (List.getElem?_eq_some_iff.1 hj).1
          have h2 := hcell j (by omega)
          rw [hj, e1] at h2
          rw [← h2, esz]
          exact congrArg W.cell? (Deep.add_add _ _ _).symm
        refine ⟨l, ⟨some ad, cap, by rw [hl], by rw [hl]; exact hlc, hl ▸ rfl, by unfold maxLen at hm; omega, fun _ => ⟨ad, rfl, fun j p hj => ?_⟩⟩, by unfold reachBytes at hb; omega, fun x hx => ?_, ?_⟩
        · obtain ⟨c, h1, h2, _, _, h4⟩ := hq j p hj
          exact ⟨c, h1, h2, h4⟩
        · obtain ⟨i, hi⟩ := List.getElem?_of_mem hx
          obtain ⟨c, _, _, h3, _, _⟩ := hq i x hi
          exact h3
        · have := ndL_le l (elems.map (·.1)) (by rw [List.length_map]; omega) (fun i b hb => by obtain ⟨c, _, _, _, h5, _⟩ := hq i b hb; exact h5)
          clear hb hm hw1 hlc
          rw [Rows.uptoBulk]
          omega
    obtain ⟨l, ⟨A, c, e, hlc, hC⟩, hlen, hwl, hbl⟩ := hL
    simp only [List.cons.injEq, and_true] at e
    subst e
    refine ⟨⟨a, p, b2, b3, l⟩, k26_mk W ⟨a, p, b2, b3, l⟩ hlc hC, .mk _ z1 z2 z3 hlen hwl, wfI_of wa, ?_⟩
    rw [nd_eq]
    simp only [List.map_cons, List.map_nil, Rows.uptoBulk, Rows.uptoBulkAll]
    omega
theorem nodes_read (f : Nat) {H : Type} (enc : TypeId × Value → H) (W : World) (v : Value) (x : DataW H × List MemPlace)
    (h : DataW.trod enc Try.prog W 0 (fun _ => true) true f 24 [v] = some x) (hw : (x.1.weights Try.prog 24).all (· ≤ reachBytes) = true) :
    ∃ l : List S26, (Kd.slice 26 k26).K W l [v] ∧ l.length ≤ 1466015503711 ∧ (∀ x, x ∈ l → wfN x) ∧ ndL l + 1 ≤ Rows.uptoBulk x.1 := by
  have e1 : Try.prog.cellsOf 26 = 8 := by kernel_rfl
  rcases DataW.trod_slice Try.underlying24 h with ⟨e, rfl⟩ | ⟨ad, len, cap, elems, rest, g, rfl, e, rfl, _, hlc, hm, hle, hel, _, _⟩
  · simp only [List.cons.injEq, and_true] at e
    subst e
    exact ⟨[], ⟨none, 0, rfl, Nat.le_refl _, rfl, by simp, fun h => absurd h (by simp)⟩, by simp, fun x h => (by cases h), by rw [ndL, Rows.uptoBulk]; omega⟩
  · simp only [List.cons.injEq, and_true] at e
    subst e
    simp only [DataW.weights, Try.underlying24, List.all_cons, List.all_append, Bool.and_eq_true, decide_eq_true_eq] at hw
    obtain ⟨hb, hw1, _⟩ := hw
    rw [List.length_map, List.length_map] at hb
    have eb : Try.prog.bytesOf 26 = 96 := by kernel_rfl
    rw [eb] at hb
    obtain ⟨l, hl, hq⟩ := list_of (fun i b => ∃ c, c.length = k26.sz ∧ k26.K W b c ∧ wfN b ∧ (∃ d, (elems.map (·.1))[i]? = some d ∧ nd b ≤ Rows.uptoBulk d) ∧ ∀ j u, c[j]? = some u → W.cell? (ad.add (i * k26.sz + j)) = some u) len fun i hi => by
      have hi' : i < elems.length := by omega
      have h1 := hel i hi
      rw [List.getElem?_eq_getElem hi'] at h1
      obtain ⟨c, hc1, hc2⟩ := Option.bind_eq_some_iff.1 h1
      obtain ⟨_, hcl, hcell⟩ := World.cells?_some hc1
      obtain ⟨b, hk, hwf, _, hbk⟩ := node_read g enc W c _ hc2 (all_weights hw1 _ (List.mem_map.2 ⟨_, List.getElem_mem hi', rfl⟩))
      have esz : k26.sz = 8 := rfl
      refine ⟨b, c, by rw [hcl, e1, esz], hk, hwf, ⟨_, by rw [List.getElem?_map, List.getElem?_eq_getElem hi']; rfl, hbk⟩, fun j u hj => ?_⟩
      have hjl := (List.getElem?_eq_some_iff.1 hj).1
      have h2 := hcell j (by omega)
      rw [hj, e1] at h2
      rw [← h2, esz]
      exact congrArg W.cell? (Deep.add_add _ _ _).symm
    refine ⟨l, ⟨some ad, cap, by rw [hl], by rw [hl]; exact hlc, hl ▸ rfl, by unfold maxLen at hm; omega, fun _ => ⟨ad, rfl, fun j p hj => ?_⟩⟩, by unfold reachBytes at hb; omega, fun x hx => ?_, ?_⟩
    · obtain ⟨c, h1, h2, _, _, h4⟩ := hq j p hj
      exact ⟨c, h1, h2, h4⟩
    · obtain ⟨i, hi⟩ := List.getElem?_of_mem hx
      obtain ⟨c, _, _, h3, _, _⟩ := hq i x hi
      exact h3
    · have := ndL_le l (elems.map (·.1)) (by rw [List.length_map]; omega) (fun i b hb => by obtain ⟨c, _, _, _, h5, _⟩ := hq i b hb; exact h5)
      clear hb hm hw1 hlc
      rw [Rows.uptoBulk]
      omega
theorem nodes_arg {H : Type} {enc : TypeId × Value → H} {W : World} {ts : List TypeId} {ds : List (DataW H)} {j : Nat} {A : Option Addr} {len c : Nat} {x : DataW H} {ps : List MemPlace} (hsz : (DataW.weightsEach Try.prog ts ds).all (· ≤ reachBytes) = true) (ht : ts[j]? = some 24) (hd : ds[j]? = some x)
    (h : DataW.Trod enc Try.prog W 0 (fun _ => true) true 24 (.slice A len c) x ps) :
    ∃ l : List S26, len = l.length ∧ l.length ≤ c ∧ Kd.C k26 W A l.length l ∧ l.length ≤ 1466015503711 ∧ (∀ y, y ∈ l → wfN y) ∧ ndL l + 1 ≤ Rows.uptoBulk x := by
  obtain ⟨f, hf⟩ := h
  obtain ⟨l, ⟨A', c', e, hl, hC⟩, h1, h2, h3⟩ := nodes_read f enc W (.slice A len c) _ hf (by
    rw [List.all_eq_true] at hsz ⊢
    exact fun n hn => hsz n (DataW.weights_mem_each ht hd n hn))
  simp only [List.cons.injEq, and_true, Value.slice.injEq] at e
  obtain ⟨rfl, rfl, rfl⟩ := e
  exact ⟨l, rfl, hl, hC, h1, h2, h3⟩
theorem pt_arg {H : Type} {enc : TypeId × Value → H} {W : World} {ts : List TypeId} {ds : List (DataW H)} {j : Nat} {v : Value} {x : DataW H} {ps : List MemPlace} (hsz : (DataW.weightsEach Try.prog ts ds).all (· ≤ reachBytes) = true) (ht : ts[j]? = some 23) (hd : ds[j]? = some x)
    (h : DataW.Trod enc Try.prog W 0 (fun _ => true) true 23 v x ps) (hv : ∃ cs, v = .agg cs) :
    ∃ n : S23, v = .agg #[.int .i64 n.f0, .string n.f1, .string n.f2, .string n.f3] ∧ wfI n.f0 ∧ n.f1.size ≤ 140737488351232 ∧ n.f2.size ≤ 140737488351232 ∧ n.f3.size ≤ 140737488351232 := by
  obtain ⟨f, hf⟩ := h
  obtain ⟨n, e, h0, h1, h2, h3⟩ := pt_read f enc W _ _ hf (by
    rw [List.all_eq_true] at hsz ⊢
    exact fun n hn => hsz n (DataW.weights_mem_each ht hd n hn))
  obtain ⟨cs, rfl⟩ := hv
  have e : cs.toList = _ := e
  obtain ⟨l⟩ := cs
  simp only at e
  exact ⟨n, by rw [show l = _ from e], h0, h1, h2, h3⟩
end Go.Proofs.Ytfehdlkklfcnpaa.Rd
namespace Go.Proofs.Ytfehdlkklfcnpaa.A
open Go.RowKit Go.Proofs.YtfehdlkklfcnpaaW.PrintWords Go.Proofs.YtfehdlkklfcnpaaW.PrintLast Go.Proofs.YtfehdlkklfcnpaaW.PrintMore
attribute [local go_sem] max2_int min2_int max_two min_two max_three min_three max_four min_four
def tree_Of.f (a0_0 : Int) (a0_1 : ByteArray) (a0_2 : ByteArray) (a0_3 : ByteArray) (a1 : Bool) (a2 : Bool) : Option (Int × Int × ByteArray × ByteArray × ByteArray × Bool × Bool × (List (S26))) := some (0, a0_0, a0_1, a0_2, a0_3, a1, a2, ([] : List (S26)))
def slices_Clone.f (l0 : List (S26)) : Option (List (S26)) := if l0.length < 1466015503701 then some l0 else none
def tree_OneOf.f (l0 : List (S26)) : Option (Int × Int × ByteArray × ByteArray × ByteArray × Bool × Bool × (List (S26))) := (slices_Clone.f l0).bind fun t169 => (some (2, 0, (⟨#[]⟩ : ByteArray), (⟨#[]⟩ : ByteArray), (⟨#[]⟩ : ByteArray), false, false, t169))
def tree_Between.f (a0_0 : Int) (a0_1 : Int) (a0_2 : ByteArray) (a0_3 : ByteArray) (a0_4 : ByteArray) (a0_5 : Bool) (a0_6 : Bool) (l0_7 : List (S26)) (a1_0 : Int) (a1_1 : Int) (a1_2 : ByteArray) (a1_3 : ByteArray) (a1_4 : ByteArray) (a1_5 : Bool) (a1_6 : Bool) (l1_7 : List (S26)) : Option (Int × Int × ByteArray × ByteArray × ByteArray × Bool × Bool × (List (S26))) := some (1, 0, (⟨#[]⟩ : ByteArray), (⟨#[]⟩ : ByteArray), (⟨#[]⟩ : ByteArray), false, false, (([(⟨a0_0, (⟨a0_1, a0_2, a0_3, a0_4⟩ : S23), a0_5, a0_6, l0_7⟩ : S26), (⟨a1_0, (⟨a1_1, a1_2, a1_3, a1_4⟩ : S23), a1_5, a1_6, l1_7⟩ : S26)] : List (S26))))
def lustrumlaw10_awake.f (k : Nat)  : Option (Bool) := (tree_Of.f 3 (⟨#[49, 57, 56, 52]⟩ : ByteArray) (⟨#[]⟩ : ByteArray) (⟨#[]⟩ : ByteArray) false true).bind fun bt178 => ((tree_Between.f bt178.1 bt178.2.1 bt178.2.2.1 bt178.2.2.2.1 bt178.2.2.2.2.1 bt178.2.2.2.2.2.1 bt178.2.2.2.2.2.2.1 bt178.2.2.2.2.2.2.2 3 0 (⟨#[]⟩ : ByteArray) (⟨#[]⟩ : ByteArray) (⟨#[]⟩ : ByteArray) false false ([] : List (S26))).bind fun bt189 => ((tree_Sane.f k bt189.1 bt189.2.1 bt189.2.2.1 bt189.2.2.2.1 bt189.2.2.2.2.1 bt189.2.2.2.2.2.1 bt189.2.2.2.2.2.2.1 bt189.2.2.2.2.2.2.2).bind fun t200 => (if t200 = true then ((tree_Count.f k bt189.1 bt189.2.1 bt189.2.2.1 bt189.2.2.2.1 bt189.2.2.2.2.1 bt189.2.2.2.2.2.1 bt189.2.2.2.2.2.2.1 bt189.2.2.2.2.2.2.2).bind fun t201 => (if t201 = 3 then ((tree_OneOf.f ([] : List (S26))).bind fun bt202 => ((tree_Sane.f k bt202.1 bt202.2.1 bt202.2.2.1 bt202.2.2.2.1 bt202.2.2.2.2.1 bt202.2.2.2.2.2.1 bt202.2.2.2.2.2.2.1 bt202.2.2.2.2.2.2.2).bind fun t212 => (if t212 = true then (some false) else ((tree_OneOf.f (([(⟨bt189.1, (⟨bt189.2.1, bt189.2.2.1, bt189.2.2.2.1, bt189.2.2.2.2.1⟩ : S23), bt189.2.2.2.2.2.1, bt189.2.2.2.2.2.2.1, bt189.2.2.2.2.2.2.2⟩ : S26)] : List (S26)))).bind fun bt216 => ((tree_Deep.f k bt216.1 bt216.2.1 bt216.2.2.1 bt216.2.2.2.1 bt216.2.2.2.2.1 bt216.2.2.2.2.2.1 bt216.2.2.2.2.2.2.1 bt216.2.2.2.2.2.2.2).bind fun t226 => (if t226 = 1 then ((tree_Same.f k bt189.1 bt189.2.1 bt189.2.2.1 bt189.2.2.2.1 bt189.2.2.2.2.1 bt189.2.2.2.2.2.1 bt189.2.2.2.2.2.2.1 bt189.2.2.2.2.2.2.2 bt189.1 bt189.2.1 bt189.2.2.1 bt189.2.2.2.1 bt189.2.2.2.2.1 bt189.2.2.2.2.2.1 bt189.2.2.2.2.2.2.1 bt189.2.2.2.2.2.2.2).bind fun t227 => (if t227 = true then ((tree_End.f k bt178.1 bt178.2.1 bt178.2.2.1 bt178.2.2.2.1 bt178.2.2.2.2.1 bt178.2.2.2.2.2.1 bt178.2.2.2.2.2.2.1 bt178.2.2.2.2.2.2.2).bind fun t228 => (if t228 = true then (some bt178.2.2.2.2.2.2.1) else (some false))) else (some false))) else (some false))))))) else (some false))) else (some false))))
theorem lustrumlaw10_awake.mono : ∀ k, LeO (lustrumlaw10_awake.f k ) (lustrumlaw10_awake.f (k + 1) ) := by
  intro  k
  unfold lustrumlaw10_awake.f
  repeat' (with_reducible first | apply tree_Count.mono | apply tree_Deep.mono | apply tree_End.mono | apply tree_Same.mono | apply tree_Sane.mono | exact LeO.refl _ | exact LeO.none _ | refine LeO.ite ?_ ?_ | refine LeO.bind ?_ fun _ => ?_)
mutual
def lustrumlaw10_TreeMade.j0 : Nat → Bool → Bool → List (S26) → Bool → Bool → Int → ByteArray → ByteArray → ByteArray → Option (Bool)
  | 0, _, _, _, _, _, _, _, _, _ => none
  | k + 1, x1, x2, x3, x9, x42, x292000, x292001, x292002, x292003 => if x42 = true then (some x9) else ((tree_Of.f x292000 x292001 x292002 x292003 x1 x2).bind fun bt294 => (if bt294.1 = 0 then (if (!(bt294.2.1 == x292000) || (!(bt294.2.2.1.toList == x292001.toList) || (!(bt294.2.2.2.1.toList == x292002.toList) || (!(bt294.2.2.2.2.1.toList == x292003.toList))))) = true then (lustrumlaw10_TreeMade.j1 k x3 x9 true bt294.1 bt294.2.1 bt294.2.2.1 bt294.2.2.2.1 bt294.2.2.2.2.1 bt294.2.2.2.2.2.1 bt294.2.2.2.2.2.2.1 bt294.2.2.2.2.2.2.2) else (if (bt294.2.2.2.2.2.1 != x1) = true then (lustrumlaw10_TreeMade.j1 k x3 x9 true bt294.1 bt294.2.1 bt294.2.2.1 bt294.2.2.2.1 bt294.2.2.2.2.1 bt294.2.2.2.2.2.1 bt294.2.2.2.2.2.2.1 bt294.2.2.2.2.2.2.2) else (if (bt294.2.2.2.2.2.2.1 != x2) = true then (lustrumlaw10_TreeMade.j1 k x3 x9 true bt294.1 bt294.2.1 bt294.2.2.1 bt294.2.2.2.1 bt294.2.2.2.2.1 bt294.2.2.2.2.2.1 bt294.2.2.2.2.2.2.1 bt294.2.2.2.2.2.2.2) else (if (bt294.2.2.2.2.2.2.2.length : Int) = 0 then ((tree_Sane.f k bt294.1 bt294.2.1 bt294.2.2.1 bt294.2.2.2.1 bt294.2.2.2.2.1 bt294.2.2.2.2.2.1 bt294.2.2.2.2.2.2.1 bt294.2.2.2.2.2.2.2).bind fun t305 => ((point_Sane.f k x292000 x292001 x292002 x292003).bind fun t306 => (if (t305 != t306) = true then (lustrumlaw10_TreeMade.j1 k x3 x9 true bt294.1 bt294.2.1 bt294.2.2.1 bt294.2.2.2.1 bt294.2.2.2.2.1 bt294.2.2.2.2.2.1 bt294.2.2.2.2.2.2.1 bt294.2.2.2.2.2.2.2) else ((tree_End.f k bt294.1 bt294.2.1 bt294.2.2.1 bt294.2.2.2.1 bt294.2.2.2.2.1 bt294.2.2.2.2.2.1 bt294.2.2.2.2.2.2.1 bt294.2.2.2.2.2.2.2).bind fun t307 => ((point_Sane.f k x292000 x292001 x292002 x292003).bind fun t308 => (lustrumlaw10_TreeMade.j1 k x3 x9 (t307 != t308) bt294.1 bt294.2.1 bt294.2.2.1 bt294.2.2.2.1 bt294.2.2.2.2.1 bt294.2.2.2.2.2.1 bt294.2.2.2.2.2.2.1 bt294.2.2.2.2.2.2.2)))))) else (lustrumlaw10_TreeMade.j1 k x3 x9 true bt294.1 bt294.2.1 bt294.2.2.1 bt294.2.2.2.1 bt294.2.2.2.2.1 bt294.2.2.2.2.2.1 bt294.2.2.2.2.2.2.1 bt294.2.2.2.2.2.2.2))))) else (lustrumlaw10_TreeMade.j1 k x3 x9 true bt294.1 bt294.2.1 bt294.2.2.1 bt294.2.2.2.1 bt294.2.2.2.2.1 bt294.2.2.2.2.2.1 bt294.2.2.2.2.2.2.1 bt294.2.2.2.2.2.2.2)))
def lustrumlaw10_TreeMade.j1 : Nat → List (S26) → Bool → Bool → Int → Int → ByteArray → ByteArray → ByteArray → Bool → Bool → List (S26) → Option (Bool)
  | 0, _, _, _, _, _, _, _, _, _, _, _ => none
  | k + 1, x3, x9, x88, x305000, x305001, x305002, x305003, x305004, x305005, x305006, x305007 => if x88 = true then (some false) else ((tree_OneOf.f x3).bind fun bt309 => (lustrumlaw10_TreeMade.l0 k x3 x9 (decide ((x3.length : Int) > 0)) 0 x305000 x305001 x305002 x305003 x305004 x305005 x305006 x305007 bt309.1 bt309.2.1 bt309.2.2.1 bt309.2.2.2.1 bt309.2.2.2.2.1 bt309.2.2.2.2.2.1 bt309.2.2.2.2.2.2.1 bt309.2.2.2.2.2.2.2))
def lustrumlaw10_TreeMade.l0 : Nat → List (S26) → Bool → Bool → Int → Int → Int → ByteArray → ByteArray → ByteArray → Bool → Bool → List (S26) → Int → Int → ByteArray → ByteArray → ByteArray → Bool → Bool → List (S26) → Option (Bool)
  | 0, _, _, _, _, _, _, _, _, _, _, _, _, _, _, _, _, _, _, _, _ => none
  | k + 1, x3, x9, x12, x13, x305000, x305001, x305002, x305003, x305004, x305005, x305006, x305007, x320000, x320001, x320002, x320003, x320004, x320005, x320006, x320007 => if x13 < (x3.length : Int) then (if x12 = true then (if 0 ≤ x13 then ((tree_Sane.f k ((rd_T26 x3 x13).f0) ((rd_T26 x3 x13).f1.f0) ((rd_T26 x3 x13).f1.f1) ((rd_T26 x3 x13).f1.f2) ((rd_T26 x3 x13).f1.f3) ((rd_T26 x3 x13).f2) ((rd_T26 x3 x13).f3) ((rd_T26 x3 x13).f4)).bind fun t324 => (lustrumlaw10_TreeMade.j3 k x3 x9 t324 x13 x305000 x305001 x305002 x305003 x305004 x305005 x305006 x305007 x320000 x320001 x320002 x320003 x320004 x320005 x320006 x320007)) else (none)) else (lustrumlaw10_TreeMade.j3 k x3 x9 false x13 x305000 x305001 x305002 x305003 x305004 x305005 x305006 x305007 x320000 x320001 x320002 x320003 x320004 x320005 x320006 x320007)) else (if x9 = true then (if x320000 = 2 then (if (x320007.length : Int) = (x3.length : Int) then ((tree_Sane.f k x320000 x320001 x320002 x320003 x320004 x320005 x320006 x320007).bind fun t320 => (if x12 = true then ((tree_Count.f k x320000 x320001 x320002 x320003 x320004 x320005 x320006 x320007).bind fun t321 => (if t321 ≤ 64 then ((tree_Deep.f k x320000 x320001 x320002 x320003 x320004 x320005 x320006 x320007).bind fun t322 => (some (t320 == (decide (t322 ≤ 8))))) else (some (t320 == false)))) else (some (t320 == false)))) else (some false)) else (some false)) else (some false))
def lustrumlaw10_TreeMade.j3 : Nat → List (S26) → Bool → Bool → Int → Int → Int → ByteArray → ByteArray → ByteArray → Bool → Bool → List (S26) → Int → Int → ByteArray → ByteArray → ByteArray → Bool → Bool → List (S26) → Option (Bool)
  | 0, _, _, _, _, _, _, _, _, _, _, _, _, _, _, _, _, _, _, _, _ => none
  | k + 1, x3, x9, x12, x13, x305000, x305001, x305002, x305003, x305004, x305005, x305006, x305007, x320000, x320001, x320002, x320003, x320004, x320005, x320006, x320007 => if 0 ≤ x13 then (if x13 < (x3.length : Int) then ((tree_Between.f x305000 x305001 x305002 x305003 x305004 x305005 x305006 x305007 ((rd_T26 x3 x13).f0) ((rd_T26 x3 x13).f1.f0) ((rd_T26 x3 x13).f1.f1) ((rd_T26 x3 x13).f1.f2) ((rd_T26 x3 x13).f1.f3) ((rd_T26 x3 x13).f2) ((rd_T26 x3 x13).f3) ((rd_T26 x3 x13).f4)).bind fun bt326 => (if bt326.1 = 1 then (if (bt326.2.2.2.2.2.2.2.length : Int) = 2 then (if 0 < (bt326.2.2.2.2.2.2.2.length : Int) then ((tree_Same.f k ((rd_T26 bt326.2.2.2.2.2.2.2 0).f0) ((rd_T26 bt326.2.2.2.2.2.2.2 0).f1.f0) ((rd_T26 bt326.2.2.2.2.2.2.2 0).f1.f1) ((rd_T26 bt326.2.2.2.2.2.2.2 0).f1.f2) ((rd_T26 bt326.2.2.2.2.2.2.2 0).f1.f3) ((rd_T26 bt326.2.2.2.2.2.2.2 0).f2) ((rd_T26 bt326.2.2.2.2.2.2.2 0).f3) ((rd_T26 bt326.2.2.2.2.2.2.2 0).f4) x305000 x305001 x305002 x305003 x305004 x305005 x305006 x305007).bind fun t338 => (if t338 = true then (if 1 < (bt326.2.2.2.2.2.2.2.length : Int) then ((tree_Same.f k ((rd_T26 bt326.2.2.2.2.2.2.2 1).f0) ((rd_T26 bt326.2.2.2.2.2.2.2 1).f1.f0) ((rd_T26 bt326.2.2.2.2.2.2.2 1).f1.f1) ((rd_T26 bt326.2.2.2.2.2.2.2 1).f1.f2) ((rd_T26 bt326.2.2.2.2.2.2.2 1).f1.f3) ((rd_T26 bt326.2.2.2.2.2.2.2 1).f2) ((rd_T26 bt326.2.2.2.2.2.2.2 1).f3) ((rd_T26 bt326.2.2.2.2.2.2.2 1).f4) ((rd_T26 x3 x13).f0) ((rd_T26 x3 x13).f1.f0) ((rd_T26 x3 x13).f1.f1) ((rd_T26 x3 x13).f1.f2) ((rd_T26 x3 x13).f1.f3) ((rd_T26 x3 x13).f2) ((rd_T26 x3 x13).f3) ((rd_T26 x3 x13).f4)).bind fun t341 => (if t341 = true then ((tree_Sane.f k bt326.1 bt326.2.1 bt326.2.2.1 bt326.2.2.2.1 bt326.2.2.2.2.1 bt326.2.2.2.2.2.1 bt326.2.2.2.2.2.2.1 bt326.2.2.2.2.2.2.2).bind fun t342 => ((tree_End.f k x305000 x305001 x305002 x305003 x305004 x305005 x305006 x305007).bind fun t343 => (if t343 = true then ((tree_End.f k ((rd_T26 x3 x13).f0) ((rd_T26 x3 x13).f1.f0) ((rd_T26 x3 x13).f1.f1) ((rd_T26 x3 x13).f1.f2) ((rd_T26 x3 x13).f1.f3) ((rd_T26 x3 x13).f2) ((rd_T26 x3 x13).f3) ((rd_T26 x3 x13).f4)).bind fun t345 => (if (t342 != t345) = true then (some false) else ((tree_Count.f k bt326.1 bt326.2.1 bt326.2.2.1 bt326.2.2.2.1 bt326.2.2.2.2.1 bt326.2.2.2.2.2.1 bt326.2.2.2.2.2.2.1 bt326.2.2.2.2.2.2.2).bind fun t346 => ((tree_Count.f k ((rd_T26 x3 x13).f0) ((rd_T26 x3 x13).f1.f0) ((rd_T26 x3 x13).f1.f1) ((rd_T26 x3 x13).f1.f2) ((rd_T26 x3 x13).f1.f3) ((rd_T26 x3 x13).f2) ((rd_T26 x3 x13).f3) ((rd_T26 x3 x13).f4)).bind fun t348 => (if t346 = (wrap64 (t348 + 2)) then (lustrumlaw10_TreeMade.l0 k x3 x9 x12 (wrap64 (x13 + 1)) x305000 x305001 x305002 x305003 x305004 x305005 x305006 x305007 x320000 x320001 x320002 x320003 x320004 x320005 x320006 x320007) else (some false)))))) else (if (t342 != false) = true then (some false) else ((tree_Count.f k bt326.1 bt326.2.1 bt326.2.2.1 bt326.2.2.2.1 bt326.2.2.2.2.1 bt326.2.2.2.2.2.1 bt326.2.2.2.2.2.2.1 bt326.2.2.2.2.2.2.2).bind fun t349 => ((tree_Count.f k ((rd_T26 x3 x13).f0) ((rd_T26 x3 x13).f1.f0) ((rd_T26 x3 x13).f1.f1) ((rd_T26 x3 x13).f1.f2) ((rd_T26 x3 x13).f1.f3) ((rd_T26 x3 x13).f2) ((rd_T26 x3 x13).f3) ((rd_T26 x3 x13).f4)).bind fun t351 => (if t349 = (wrap64 (t351 + 2)) then (lustrumlaw10_TreeMade.l0 k x3 x9 x12 (wrap64 (x13 + 1)) x305000 x305001 x305002 x305003 x305004 x305005 x305006 x305007 x320000 x320001 x320002 x320003 x320004 x320005 x320006 x320007) else (some false)))))))) else (some false))) else (none)) else (some false))) else (none)) else (some false)) else (some false))) else (none)) else (none)
end
def lustrumlaw10_TreeMade.f (k : Nat) (a0_0 : Int) (a0_1 : ByteArray) (a0_2 : ByteArray) (a0_3 : ByteArray) (a1 : Bool) (a2 : Bool) (l3 : List (S26)) : Option (Bool) := (lustrumlaw10_awake.f k).bind fun t292 => (if (a0_1.size : Int) > 10 then (lustrumlaw10_TreeMade.j0 k a1 a2 l3 t292 true a0_0 a0_1 a0_2 a0_3) else (if (a0_2.size : Int) > 10 then (lustrumlaw10_TreeMade.j0 k a1 a2 l3 t292 true a0_0 a0_1 a0_2 a0_3) else (if (a0_3.size : Int) > 10 then (lustrumlaw10_TreeMade.j0 k a1 a2 l3 t292 true a0_0 a0_1 a0_2 a0_3) else (if (l3.length : Int) > 8 then (lustrumlaw10_TreeMade.j0 k a1 a2 l3 t292 true a0_0 a0_1 a0_2 a0_3) else ((lustrumref10_Few.f k 0 0 (⟨#[]⟩ : ByteArray) (⟨#[]⟩ : ByteArray) (⟨#[]⟩ : ByteArray) false false l3).bind fun t293 => (lustrumlaw10_TreeMade.j0 k a1 a2 l3 t292 (!t293) a0_0 a0_1 a0_2 a0_3))))))
theorem eqA23 (d : Nat) (w : World) (x0 y0 : Int) (x1 y1 : ByteArray) (x2 y2 : ByteArray) (x3 y3 : ByteArray) :
  (Op.equalIn (d + 2) 23 (.agg #[.int .i64 x0, .string x1, .string x2, .string x3]) (.agg #[.int .i64 y0, .string y1, .string y2, .string y3])).run Try.prog w = .ok (x0 == y0 && (x1.toList == y1.toList && (x2.toList == y2.toList && (x3.toList == y3.toList)))) w := by
 refine eqA_of Try.underlying23 (by kernel_rfl) ?_; refine eqf_cons (by rfl) (by go_simp; rfl) (by go_simp; rfl) (by go_simp) ?_; refine eqf_cons (by rfl) (by go_simp; rfl) (by go_simp; rfl) (by go_simp) ?_; refine eqf_cons (by rfl) (by go_simp; rfl) (by go_simp; rfl) (by go_simp) ?_; exact eqf_last (by rfl) (by go_simp; rfl) (by go_simp; rfl) (by go_simp)
end Go.Proofs.Ytfehdlkklfcnpaa.A
namespace Go.Proofs.Ytfehdlkklfcnpaa.A
open Go.RowKit Go.Proofs.YtfehdlkklfcnpaaW.PrintWords Go.Proofs.YtfehdlkklfcnpaaW.PrintLast Go.Proofs.YtfehdlkklfcnpaaW.PrintMore
attribute [local go_sem] max2_int min2_int max_two min_two max_three min_three max_four min_four
attribute [local go_sem] isSome_setCell
set_option maxHeartbeats 8000000 in
set_option maxRecDepth 100000 in
theorem runs_Sane.calls (k : Nat) (A0 : Option Addr) (c0 : Nat) (l0 : List (S86)) (r : Bool) (w : World) (hr0 : Kd.C k86 w A0 l0.length l0) (hc0 : l0.length ≤ c0) (h : runs_Sane.f k l0 = some r) :
  Calls Try.prog 96 #[.slice A0 l0.length c0] w fun e w' => e = .returned (.bool r) ∧ Below w.heap.size w w' := by
 have hu86 := Try.underlying86; have HR0 := A_ hr0; have HC0 := A_ hc0; clear hr0 hc0; have HB := A_ (Below.refl w.heap.size w); have H : (runs_Sane.l0 k (-1099511627778) l0 (l0.length : Int) 0) = some r := h; clear h; have H' := A_ H; clear H; go_enter Try.func96, Try.ntmps96; go_wp2; go_loopg [3, 8] k (fun kq v3 v8 w' => ∃ (x3_1 : Int) (x8_1 : Int), v3 = .int .i64 x3_1 ∧ v8 = .int .i64 x8_1 ∧ Aside0 (runs_Sane.l0 kq x3_1 l0 (l0.length : Int) x8_1 = some r) ∧ Aside0 (kq ≤ k) ∧ Aside0 (Below w.heap.size w w'))
 case atStart => exact ⟨((-1099511627778)), (0), rf_, rf_, H', ⟨Nat.le_refl _⟩, ⟨hs_⟩⟩
 case round =>
  clear H'; obtain ⟨x3_1, x8_1, rfl, rfl, HA, HK1, HB⟩ := hrel
  cases gk with
  | zero => exact absurd HA.out (by simp [runs_Sane.l0])
  | succ k1 =>
   have H := HA.out; clear HA; simp only [runs_Sane.l0] at H
   by_cases c2 : x8_1 < (l0.length : Int)
   ·rw [if_pos c2] at H
    have c2b0 := decide_eq_true c2; clear c2
    by_cases c3 : 0 ≤ x8_1
    ·rw [if_pos c3] at H
     have c3b0 := decide_eq_true c3; clear c3
     by_cases c4 : x8_1 < (l0.length : Int)
     ·rw [if_pos c4] at H
      have c4b0 := decide_eq_true c4; clear c4
      by_cases c5 : ((rd_T86 l0 x8_1).f0) > ((rd_T86 l0 x8_1).f1)
      ·rw [if_pos c5] at H
       have c5b0 := decide_eq_true c5; clear c5; obtain rfl := Option.some.inj H; have p101 : 0 ≤ (x8_1 : Int) := od_; have q101 : x8_1 < (l0.length : Int) := od_; obtain ⟨ad101, e101, hx101_0, hx101_1⟩ := at_T86 HR0.out x8_1 p101 q101
       cases e101
       replace hx101_0 := cl_ HB hx101_0; replace hx101_1 := cl_ HB hx101_1; replace p101 := eq_true p101; replace q101 := eq_true q101; go_wp2_with (first | (refine gx_ w 5 #[.int .i64 0, .int .i64 0] 86 ?_; clear HB; intro gb102 w6 BK102 GE102 HB; have GW102 := GE102; have Z7 := bz2_ BK102)); go_ret; exact ⟨re_, hs_⟩
      ·rw [if_neg c5] at H
       have c5b0 := decide_eq_false c5; clear c5
       by_cases c8 : ((rd_T86 l0 x8_1).f0) < (wrap64 (x3_1 + 2))
       ·rw [if_pos c8] at H
        have c8b0 := decide_eq_true c8; clear c8; obtain rfl := Option.some.inj H; have p101 : 0 ≤ (x8_1 : Int) := od_; have q101 : x8_1 < (l0.length : Int) := od_; obtain ⟨ad101, e101, hx101_0, hx101_1⟩ := at_T86 HR0.out x8_1 p101 q101
        cases e101
        replace hx101_0 := cl_ HB hx101_0; replace hx101_1 := cl_ HB hx101_1; replace p101 := eq_true p101; replace q101 := eq_true q101; go_wp2_with (first | (refine gx_ w 5 #[.int .i64 0, .int .i64 0] 86 ?_; clear HB; intro gb102 w9 BK102 GE102 HB; have GW102 := GE102; have Z10 := bz2_ BK102)); go_ret; exact ⟨re_, hs_⟩
       ·rw [if_neg c8] at H
        have c8b0 := decide_eq_false c8; clear c8
        by_cases c11 : ((rd_T86 l0 x8_1).f1) > 1099511627776
        ·rw [if_pos c11] at H
         have c11b0 := decide_eq_true c11; clear c11; obtain rfl := Option.some.inj H; have p101 : 0 ≤ (x8_1 : Int) := od_; have q101 : x8_1 < (l0.length : Int) := od_; obtain ⟨ad101, e101, hx101_0, hx101_1⟩ := at_T86 HR0.out x8_1 p101 q101
         cases e101
         replace hx101_0 := cl_ HB hx101_0; replace hx101_1 := cl_ HB hx101_1; replace p101 := eq_true p101; replace q101 := eq_true q101; go_wp2_with (first | (refine gx_ w 5 #[.int .i64 0, .int .i64 0] 86 ?_; clear HB; intro gb102 w12 BK102 GE102 HB; have GW102 := GE102; have Z13 := bz2_ BK102)); go_ret; exact ⟨re_, hs_⟩
        ·rw [if_neg c11] at H
         have c11b0 := decide_eq_false c11; clear c11; have H' := A_ H; clear H; have p101 : 0 ≤ (x8_1 : Int) := od_; have q101 : x8_1 < (l0.length : Int) := od_; obtain ⟨ad101, e101, hx101_0, hx101_1⟩ := at_T86 HR0.out x8_1 p101 q101
         cases e101
         replace hx101_0 := cl_ HB hx101_0; replace hx101_1 := cl_ HB hx101_1; replace p101 := eq_true p101; replace q101 := eq_true q101; go_wp2_with (first | (refine gx_ w 5 #[.int .i64 0, .int .i64 0] 86 ?_; clear HB; intro gb102 w14 BK102 GE102 HB; have GW102 := GE102; have Z15 := bz2_ BK102)); go_roundg k1
         case measure => have := HK1.out; omega
         case rel => exact ⟨((rd_T86 l0 x8_1).f1), (wrap64 (x8_1 + 1)), rf_, rf_, H', ⟨by have := HK1.out; omega⟩, ⟨hs_⟩⟩
     ·rw [if_neg c4] at H
      exact absurd H (by simp)
    ·rw [if_neg c3] at H
     exact absurd H (by simp)
   ·rw [if_neg c2] at H
    have c2b0 := decide_eq_false c2; clear c2; obtain rfl := Option.some.inj H; go_wp2; go_ret; exact ⟨re_, hs_⟩
theorem runs_Make.calls (A0 : Option Addr) (c0 : Nat) (l0 r : List S86) (w : World) (hr0 : Kd.C k86 w A0 l0.length l0) (hc0 : l0.length ≤ c0) (h : runs_Make.f l0 = some r) :
    Calls Try.prog 97 #[.slice A0 l0.length c0] w fun e w' => ∃ v0_ : Value, e = .returned (v0_) ∧ Kd.R k86 86 w' w.heap.size (fun _ => True) v0_ r ∧ Below w.heap.size w w' := by
  exact absurd h (by simp [runs_Make.f])
set_option maxHeartbeats 8000000 in
set_option maxRecDepth 100000 in
theorem sets_known.calls (k : Nat) (P0_ : Nat → Prop) (A0 : Option Addr) (c0 : Nat) (l0 r : List (S86)) (w : World) (hs0 : Kd.V k86 86 w w.heap.size (fun k_ => P0_ k_) (.slice A0 l0.length c0) l0) (h : sets_known.f k l0 = some r) :
  Calls Try.prog 93 #[.slice A0 l0.length c0] w fun e w' => ∃ v0_ : Value, e = .returned (v0_) ∧ Kd.V k86 86 w' w.heap.size (fun k_ => (P0_ k_ ∨ w.heap.size ≤ k_)) v0_ r ∧ Below w.heap.size w w' := by
 have HO0 := A_ (show Kd.V k86 86 w w.heap.size (fun k_ => (P0_ k_ ∨ w.heap.size ≤ k_)) (.slice A0 l0.length c0) l0 from Kd.V_mono hs0 (fun k_ hk => .inl hk)); have HB := A_ (Below.refl w.heap.size w); have H : ((runs_Sane.f k l0).bind fun t103 => (if t103 = true then (some l0) else ((runs_Make.f l0).bind fun t104 => (some t104)))) = some r := h; clear h; replace H := Option.bind_eq_some_iff.mp H; obtain ⟨t103, A20, H⟩ := H; replace H : (if t103 = true then (some l0) else ((runs_Make.f l0).bind fun t104 => (some t104))) = some r := H; have A2 := A_ A20; clear A20
 by_cases c3 : t103 = true
 ·subst c3
  replace H := iP_ H; obtain rfl := Option.some.inj H; go_enter Try.func93, Try.ntmps93; go_wp2_with (first | (refine gC 96 ?_; refine gL 4 Try.func96 #[.slice A0 l0.length c0] ?_; (with_reducible refine (runs_Sane.calls k _ _ l0 true _ ?side1 ?side2 A2.out).mono ?_); (case side1 => exact cr_ (Kd.V_reads' HO0.out).2.2); (case side2 => exact (Kd.V_reads' HO0.out).2.1); rintro e w4 ⟨rfl, hb⟩; refine ⟨_, rfl, ?_⟩; replace HO0 := bV_ HO0 hb; replace HB := bs_ hb; (try clear hb))); go_ret; exact ⟨_, by first | rfl | (simp [errW_none, errW_some] <;> rfl) | (simp [*, errW_none, errW_some] <;> rfl), fxV_ HO0.out, hs_⟩
 ·replace c3 := Bool.eq_false_iff.mpr c3
  subst c3; replace H := iN_ H; replace H := Option.bind_eq_some_iff.mp H; obtain ⟨t104, A50, H⟩ := H; replace H : (some t104) = some r := H; have A5 := A_ A50; clear A50; obtain rfl := Option.some.inj H; go_enter Try.func93, Try.ntmps93; go_wp2_with (first | (refine gC 96 ?_; refine gL 4 Try.func96 #[.slice A0 l0.length c0] ?_; (with_reducible refine (runs_Sane.calls k _ _ l0 false _ ?side1 ?side2 A2.out).mono ?_); (case side1 => exact cr_ (Kd.V_reads' HO0.out).2.2); (case side2 => exact (Kd.V_reads' HO0.out).2.1); rintro e w6 ⟨rfl, hb⟩; refine ⟨_, rfl, ?_⟩; replace HO0 := bV_ HO0 hb; replace HB := bs_ hb; (try clear hb)) | (refine gC 97 ?_; refine gL 7 Try.func97 #[.slice A0 l0.length c0] ?_; (with_reducible refine (runs_Make.calls _ _ l0 t104 _ ?side1 ?side2 A5.out).mono ?_); (case side1 => exact cr_ (Kd.V_reads' HO0.out).2.2); (case side2 => exact (Kd.V_reads' HO0.out).2.1); rintro e w7 ⟨v105, rfl, ho0, hb⟩; refine ⟨_, rfl, ?_⟩; replace HO0 := A_ (Kd.V_elder' (hrV_ HO0.out) (Kd.R_base ho0) hb); have HO106 := A_ (Kd.R_lower (Kd.R_newM (M := fun k_ => (w.heap.size ≤ k_)) ho0 (below_size hs_) (fun k_ h_ => h_)) (below_size hs_)); replace HB := bs_ hb; (try clear hb); (try clear ho0))); go_ret; exact ⟨_, by first | rfl | (simp [errW_none, errW_some] <;> rfl) | (simp [*, errW_none, errW_some] <;> rfl), Kd.V_mono (Kd.R_V (by (with_reducible repeat (first | apply Kd.R_alloc | apply Kd.R_drewN | apply Kd.R_drew)); exact Kd.R_mono HO106.out (fun _ hk => hk.1))) (fun k_ hk => by first | exact ⟨(.inr (hk.1)), hk.2⟩ | exact (.inr (hk))), hs_⟩
def sets_Meet.T5 : Bool × List (List Nat × List Nat) := (true, [([], []), ([], []), ([0, 1], [0, 1]), ([2], [2]), ([3], [3]), ([], []), ([], []), ([5, 6], [5, 6]), ([7], [7]), ([8], [8]), ([4, 9], [4, 9]), ([], []), ([], []), ([11, 12], [11, 12]), ([13], [13]), ([14], [14]), ([], []), ([], []), ([16, 17], [16, 17]), ([18], [18]), ([19], [19]), ([15, 20], [15, 20]), ([10, 21], [10, 21]), ([], []), ([23, 22, 0, 1, 2, 3, 4, 5, 6, 7, 8, 9, 10, 11, 12, 13, 14, 15, 16, 17, 18, 19, 20, 21, 22, 23], [22, 23])])
def sets_Meet.B5 : List Nat := [0, 0, 3, 7, 15, 0, 0, 96, 224, 480, 1023, 0, 0, 6144, 14336, 30720, 0, 0, 196608, 458752, 983040, 2095104, 4194303, 0, 16777215]
theorem sets_Meet.tab5 : rtab .any (opsOf Try.f89 5) = sets_Meet.T5 := by kernel_rfl
theorem sets_Meet.bits5 : waitsOk sets_Meet.T5.2 sets_Meet.B5 = true := by kernel_rfl
def sets_Meet.T8 : Bool × List (List Nat × List Nat) := (true, [([], []), ([], []), ([0, 1], [0, 1]), ([2], [2]), ([3], [3]), ([], []), ([], []), ([5, 6], [5, 6]), ([7], [7]), ([8], [8]), ([4, 9], [4, 9])])
def sets_Meet.B8 : List Nat := [0, 0, 3, 7, 15, 0, 0, 96, 224, 480, 1023]
theorem sets_Meet.tab8 : rtab .any (opsOf Try.f89 8) = sets_Meet.T8 := by kernel_rfl
theorem sets_Meet.bits8 : waitsOk sets_Meet.T8.2 sets_Meet.B8 = true := by kernel_rfl
set_option maxHeartbeats 8000000 in
set_option maxRecDepth 100000 in
theorem sets_Meet.calls (k : Nat) (A0 : Option Addr) (c0 : Nat) (l0 : List (S86)) (A1 : Option Addr) (c1 : Nat) (l1 r : List (S86)) (w : World) (hr0 : Kd.C k86 w A0 l0.length l0) (hc0 : l0.length ≤ c0) (hr1 : Kd.C k86 w A1 l1.length l1) (hc1 : l1.length ≤ c1) (h : sets_Meet.f k l0 l1 = some r) :
  Calls Try.prog 89 #[.slice A0 l0.length c0, .slice A1 l1.length c1] w fun e w' => ∃ v0_ : Value, e = .returned (v0_) ∧ Kd.R k86 86 w' w.heap.size (fun _ => True) v0_ r ∧ Below w.heap.size w w' := by
 have hu86 := Try.underlying86; have HR0 := A_ hr0; have HC0 := A_ hc0; clear hr0 hc0; have HR1 := A_ hr1; have HC1 := A_ hc1; clear hr1 hc1; have HB := A_ (Below.refl w.heap.size w); have H : ((sets_known.f k l0).bind fun t107 => ((sets_known.f k l1).bind fun t110 => (sets_Meet.l0 k t107 t110 ([] : List (S86)) 0 0))) = some r := h; clear h; obtain ⟨t107, A3, H⟩ := bi_ H; obtain ⟨t110, A4, H⟩ := bi_ H; have H' := A_ H; clear H; go_enter Try.func89, Try.ntmps89; go_wp2_with (fail); (try go_step3); go_wp2_with (first | (refine gC 93 ?_; refine gL 10 Try.func93 #[.slice A0 l0.length c0] ?_; (with_reducible refine (sets_known.calls k (fun k_ => k_ < w.heap.size) _ _ l0 t107 _ ?side1 A3.out).mono ?_); (case side1 => exact Kd.V_mk HC0.out (Kd.F_below (Kd.C_F k86_heap HR0.out) hs_)); rintro e w5 ⟨v108, rfl, ho0, hb⟩; refine ⟨_, rfl, ?_⟩; have HO109 := A_ (Kd.V_lower (Kd.V_mono (ok' := fun k_ => True) ho0 (fun k_ hk_ => trivial)) (below_size hs_)); replace HB := bs_ hb; (try clear hb); (try clear ho0)) | (refine gC 93 ?_; refine gL 12 Try.func93 #[.slice A1 l1.length c1] ?_; (with_reducible refine (sets_known.calls k (fun k_ => k_ < w.heap.size) _ _ l1 t110 _ ?side1 A4.out).mono ?_); (case side1 => exact Kd.V_mk HC1.out (Kd.F_below (Kd.C_F k86_heap HR1.out) hs_)); rintro e w6 ⟨v111, rfl, ho0, hb⟩; refine ⟨_, rfl, ?_⟩; replace HO109 := bV_ HO109 hb; have HO112 := A_ (Kd.V_lower (Kd.V_mono (ok' := fun k_ => True) ho0 (fun k_ hk_ => trivial)) (below_size hs_)); replace HB := bs_ hb; (try clear hb); (try clear ho0))); (try (go_step3; try go_wp2_with (fail))); go_loopg [5, 6, 7] k (fun kq v5 v6 v7 w' => ∃ (x5_1 : List (S86)) (x6_1 : Int) (x7_1 : Int), v6 = .int .i64 x6_1 ∧ v7 = .int .i64 x7_1 ∧ Aside0 (sets_Meet.l0 kq t107 t110 x5_1 x6_1 x7_1 = some r) ∧ Aside0 (kq ≤ k) ∧ Aside0 (Kd.V k86 86 w' w.heap.size (fun k_ => nv_ k_ v5) v108 t107) ∧ Aside0 (Kd.V k86 86 w' w.heap.size (fun k_ => nv_ k_ v5) v111 t110) ∧ Aside0 (Kd.R k86 86 w' w.heap.size (fun _ => True) v5 x5_1) ∧ Aside0 (Below w.heap.size w w'))
 case atStart => exact ⟨(([] : List (S86))), (0), (0), rf_, rf_, H', ⟨Nat.le_refl _⟩, ⟨by (with_reducible repeat (first | apply Kd.V_alloc | apply Kd.V_drewN | apply Kd.V_drew)); exact Kd.V_mono HO109.out (fun _ hk => (by simp [Value.ownBlock]))⟩, ⟨by (with_reducible repeat (first | apply Kd.V_alloc | apply Kd.V_drewN | apply Kd.V_drew)); exact Kd.V_mono HO112.out (fun _ hk => (by simp [Value.ownBlock]))⟩, ⟨by first | exact Kd.R_nil _ _ _ _ _ | exact Kd.N_nil _ _ _ _ _ | exact Kd.V_nil _ _ _ _ _ | exact Kd.Q_nil _ _ _ _ _ | exact Kd.S_nil _ _ _ _ _⟩, ⟨hs_⟩⟩
 case round =>
  clear H'; (try clear c1); (try clear p2); (try clear p3); obtain ⟨x5_1, x6_1, x7_1, rfl, rfl, HA, HK1, HO_0, HO_1, HO_5, HB⟩ := hrel
  cases gk with
  | zero => exact absurd HA.out (by simp [sets_Meet.l0])
  | succ k1 =>
   have H := HA.out; clear HA; simp only [sets_Meet.l0] at H; have HC7 := A_ H; clear H; go_upto_region 4 with (fail); go_cut [22] (fun v22 wc => ∃ (kq : Nat) (x22_6 : Bool), v22 = .bool x22_6 ∧ Aside0 (sets_Meet.j1 kq t107 t110 x5_1 x6_1 x7_1 x22_6 = some r) ∧ Aside0 (kq ≤ k1) ∧ Aside0 (Kd.V k86 86 wc w.heap.size (fun k_ => nv_ k_ u5) v108 t107) ∧ Aside0 (Kd.V k86 86 wc w.heap.size (fun k_ => nv_ k_ u5) v111 t110) ∧ Aside0 (Kd.R k86 86 wc w.heap.size (fun _ => True) u5 x5_1) ∧ Aside0 (Below w.heap.size w wc))
   case first =>
    have H := HC7.out; clear HC7
    by_cases c8 : x6_1 < (t107.length : Int)
    ·rw [if_pos c8] at H
     have c8b0 := decide_eq_true c8; clear c8; (first | rw [c8b0] | (simp only [i64_w, i32_w]; rw [c8b0]) | skip); have H' := A_ H; clear H; obtain ⟨Ao9, co9, eo9⟩ := Kd.V_slice HO_0.out; subst eo9; obtain ⟨Ao10, co10, eo10⟩ := Kd.V_slice HO_1.out; subst eo10; go_wp2; go_meet
     case rel => exact ⟨_, (decide (x7_1 < (t110.length : Int))), rf_, H', ⟨by have := HK1.out; first | omega | exact Nat.le_refl _⟩, ⟨fxV_ HO_0.out⟩, ⟨fxV_ HO_1.out⟩, ⟨fxR_ HO_5.out⟩, ⟨hs_⟩⟩
    ·rw [if_neg c8] at H
     have c8b0 := decide_eq_false c8; clear c8; (first | rw [c8b0] | (simp only [i64_w, i32_w]; rw [c8b0]) | skip); have H' := A_ H; clear H; obtain ⟨Ao11, co11, eo11⟩ := Kd.V_slice HO_0.out; subst eo11; go_wp2; go_meet
     case rel => exact ⟨_, (false), rf_, H', ⟨by have := HK1.out; first | omega | exact Nat.le_refl _⟩, ⟨fxV_ HO_0.out⟩, ⟨fxV_ HO_1.out⟩, ⟨fxR_ HO_5.out⟩, ⟨hs_⟩⟩
   case rest =>
    clear HC7; (try clear c1); (try clear p2); (try clear p3); (try clear c8); (try clear c8b0); (try clear c9); (try clear p2); (try clear p3); obtain ⟨kq, x22_6, rfl, HA, HJ6, HO_0, HO_1, HO_5, HB⟩ := hcut
    cases kq with
    | zero => exact absurd HA.out (by simp [sets_Meet.j1])
    | succ kj6 =>
     have H := HA.out; clear HA; simp only [sets_Meet.j1] at H
     by_cases c12 : x22_6 = true
     ·subst c12
      replace H := iP_ H
      by_cases c13 : 0 ≤ x6_1
      ·rw [if_pos c13] at H
       have c13b0 := decide_eq_true c13; clear c13
       by_cases c14 : x6_1 < (t107.length : Int)
       ·rw [if_pos c14] at H
        have c14b0 := decide_eq_true c14; clear c14
        by_cases c15 : 0 ≤ x7_1
        ·rw [if_pos c15] at H
         have c15b0 := decide_eq_true c15; clear c15
         by_cases c16 : x7_1 < (t110.length : Int)
         ·rw [if_pos c16] at H
          have c16b0 := decide_eq_true c16; clear c16; obtain ⟨ji17, hji17⟩ : ∃ j_ : Int, (mx ((rd_T86 t107 x6_1).f0) ((rd_T86 t110 x7_1).f0)) = j_ := ⟨_, rfl⟩; (replace H : (if (ji17) ≤ (mn ((rd_T86 t107 x6_1).f1) ((rd_T86 t110 x7_1).f1)) then (if x5_1.length < 8796093022208 then ((some (x5_1 ++ [(⟨ji17, mn ((rd_T86 t107 x6_1).f1) ((rd_T86 t110 x7_1).f1)⟩ : S86)] : List (S86))).bind fun y118 => (if ((rd_T86 t107 x6_1).f1) < ((rd_T86 t110 x7_1).f1) then (sets_Meet.l0 kj6 t107 t110 y118 (wrap64 (x6_1 + 1)) x7_1) else (sets_Meet.l0 kj6 t107 t110 y118 x6_1 (wrap64 (x7_1 + 1))))) else (none)) else (if ((rd_T86 t107 x6_1).f1) < ((rd_T86 t110 x7_1).f1) then (sets_Meet.l0 kj6 t107 t110 x5_1 (wrap64 (x6_1 + 1)) x7_1) else (sets_Meet.l0 kj6 t107 t110 x5_1 x6_1 (wrap64 (x7_1 + 1))))) = some r := by first | (rw [hji17] at H; exact H) | (simp only [hji17] at H ⊢; exact H)); have hji17_ : (if ((rd_T86 t107 x6_1).f0) < ((rd_T86 t110 x7_1).f0) then ((rd_T86 t110 x7_1).f0) else ((rd_T86 t107 x6_1).f0)) = ji17 := hji17; obtain ⟨ji18, hji18⟩ : ∃ j_ : Int, (mn ((rd_T86 t107 x6_1).f1) ((rd_T86 t110 x7_1).f1)) = j_ := ⟨_, rfl⟩; (replace H : (if (ji17) ≤ (ji18) then (if x5_1.length < 8796093022208 then ((some (x5_1 ++ [(⟨ji17, ji18⟩ : S86)] : List (S86))).bind fun y118 => (if ((rd_T86 t107 x6_1).f1) < ((rd_T86 t110 x7_1).f1) then (sets_Meet.l0 kj6 t107 t110 y118 (wrap64 (x6_1 + 1)) x7_1) else (sets_Meet.l0 kj6 t107 t110 y118 x6_1 (wrap64 (x7_1 + 1))))) else (none)) else (if ((rd_T86 t107 x6_1).f1) < ((rd_T86 t110 x7_1).f1) then (sets_Meet.l0 kj6 t107 t110 x5_1 (wrap64 (x6_1 + 1)) x7_1) else (sets_Meet.l0 kj6 t107 t110 x5_1 x6_1 (wrap64 (x7_1 + 1))))) = some r := by first | (rw [hji18] at H; exact H) | (simp only [hji18] at H ⊢; exact H)); have hji18_ : (if ((rd_T86 t110 x7_1).f1) < ((rd_T86 t107 x6_1).f1) then ((rd_T86 t110 x7_1).f1) else ((rd_T86 t107 x6_1).f1)) = ji18 := hji18
          by_cases c19 : (ji17) ≤ (ji18)
          ·rw [if_pos c19] at H
           have c19b0 := decide_eq_true c19; clear c19
           by_cases c20 : x5_1.length < 8796093022208
           ·rw [if_pos c20] at H
            have LMc20 := A_ c20; clear c20; obtain ⟨y118, hy118⟩ : ∃ y_ : List (S86), y_ = (x5_1 ++ [(⟨ji17, ji18⟩ : S86)]) := ⟨_, rfl⟩; (replace H : (if ((rd_T86 t107 x6_1).f1) < ((rd_T86 t110 x7_1).f1) then (sets_Meet.l0 kj6 t107 t110 y118 (wrap64 (x6_1 + 1)) x7_1) else (sets_Meet.l0 kj6 t107 t110 y118 x6_1 (wrap64 (x7_1 + 1)))) = some r := hy_ hy118 H); have Ny118 := A_ hy118; clear hy118
            by_cases c21 : ((rd_T86 t107 x6_1).f1) < ((rd_T86 t110 x7_1).f1)
            ·rw [if_pos c21] at H
             have c21b0 := decide_eq_true c21; clear c21; have H' := A_ H; clear H; (try go_wp2); replace HO_0 := A_ (Kd.V_drew HO_0.out); replace HO_1 := A_ (Kd.V_drew HO_1.out); replace HO_5 := A_ (Kd.R_drew HO_5.out); replace HB := A_ (below_drew1 HB.out); obtain ⟨Ao23, co23, eo23⟩ := Kd.V_slice HO_0.out; (first | subst eo23 | (injection eo23 with f1_ f2_ f3_; have f4_ := f1_.symm; have f5_ := f3_.symm; clear f1_ f2_ f3_; subst f4_; subst f5_)); have p113 : 0 ≤ (x6_1 : Int) := od_; have q113 : x6_1 < (t107.length : Int) := od_; obtain ⟨ad113, e113, hx113_0, hx113_1⟩ := at_T86 (Kd.V_reads' HO_0.out).2.2 x6_1 p113 q113
             cases e113
             replace p113 := eq_true p113; replace q113 := eq_true q113; obtain ⟨Ao24, co24, eo24⟩ := Kd.V_slice HO_1.out; (first | subst eo24 | (injection eo24 with f1_ f2_ f3_; have f4_ := f1_.symm; have f5_ := f3_.symm; clear f1_ f2_ f3_; subst f4_; subst f5_)); have p114 : 0 ≤ (x7_1 : Int) := od_; have q114 : x7_1 < (t110.length : Int) := od_; obtain ⟨ad114, e114, hx114_0, hx114_1⟩ := at_T86 (Kd.V_reads' HO_1.out).2.2 x7_1 p114 q114
             cases e114
             replace p114 := eq_true p114; replace q114 := eq_true q114; have p115 : 0 ≤ (x6_1 : Int) := od_; have q115 : x6_1 < (t107.length : Int) := od_; obtain ⟨ad115, e115, hx115_0, hx115_1⟩ := at_T86 (Kd.V_reads' HO_0.out).2.2 x6_1 p115 q115; obtain rfl : ad113 = ad115 := (by injection e115); replace p115 := eq_true p115; replace q115 := eq_true q115; have p116 : 0 ≤ (x7_1 : Int) := od_; have q116 : x7_1 < (t110.length : Int) := od_; obtain ⟨ad116, e116, hx116_0, hx116_1⟩ := at_T86 (Kd.V_reads' HO_1.out).2.2 x7_1 p116 q116; obtain rfl : ad114 = ad116 := (by injection e116); replace p116 := eq_true p116; replace q116 := eq_true q116; refine start_ (n := 25) (S := fun w' => w'.cell? (ad113.add ((x6_1).toNat * 2)) = some (.int .i64 ((rd_T86 t107 x6_1).f0)) ∧ w'.cell? ⟨(ad113.add ((x6_1).toNat * 2)).block, (ad113.add ((x6_1).toNat * 2)).off + 1, none⟩ = some (.int .i64 ((rd_T86 t107 x6_1).f1)) ∧ w'.cell? (ad114.add ((x7_1).toNat * 2)) = some (.int .i64 ((rd_T86 t110 x7_1).f0)) ∧ w'.cell? ⟨(ad114.add ((x7_1).toNat * 2)).block, (ad114.add ((x7_1).toNat * 2)).off + 1, none⟩ = some (.int .i64 ((rd_T86 t110 x7_1).f1)) ∧ w'.cell? (ad113.add ((x6_1).toNat * 2)) = some (.int .i64 ((rd_T86 t107 x6_1).f0)) ∧ w'.cell? ⟨(ad113.add ((x6_1).toNat * 2)).block, (ad113.add ((x6_1).toNat * 2)).off + 1, none⟩ = some (.int .i64 ((rd_T86 t107 x6_1).f1)) ∧ w'.cell? (ad114.add ((x7_1).toNat * 2)) = some (.int .i64 ((rd_T86 t110 x7_1).f0)) ∧ w'.cell? ⟨(ad114.add ((x7_1).toNat * 2)).block, (ad114.add ((x7_1).toNat * 2)).off + 1, none⟩ = some (.int .i64 ((rd_T86 t110 x7_1).f1))) (ds := []) (ab 25 0) (by kernel_rfl) rfl rfl ⟨hx113_0, hx113_1, hx114_0, hx114_1, hx115_0, hx115_1, hx116_0, hx116_1⟩ (fun hHeld => ?_); refine with_tabW sets_Meet.tab5 sets_Meet.bits5 (fun HT_ HW_ => ?_); generalize wc.drew = w22 at HO_0 HO_1 HO_5 HB hx113_0 hx113_1 hx114_0 hx114_1 hx115_0 hx115_1 hx116_0 hx116_1 hHeld ⊢; refine pA 0 23 25 1 ?_; refine pA 1 24 25 3 ?_; refine pA 2 25 25 7 ?_; refine pA 3 26 25 15 ?_; refine pA 5 28 25 47 ?_; refine pA 6 29 25 111 ?_; refine pA 7 30 25 239 ?_; refine pA 8 31 25 495 ?_; refine pA 11 34 25 2543 ?_; refine pA 12 35 25 6639 ?_; refine pA 13 36 25 14831 ?_; refine pA 14 37 25 31215 ?_; refine pA 16 39 25 96751 ?_; refine pA 17 40 25 227823 ?_; refine pA 18 41 25 489967 ?_; refine pA 19 42 25 1014255 ?_; refine tB 4 27 25 1014271 ?_; refine tB 9 32 25 1014783 ?_; refine pA 10 33 25 1015807 ?_; refine tB 15 38 25 1048575 ?_; refine tB 20 43 25 2097151 ?_; refine pA 21 44 25 4194303 ?_; refine pA 22 45 25 8388607 ?_; refine oA 23 (some 8) 25 16777215 fun K hK => ?_; refine bxs_ 8 #[.int .i64 0, .int .i64 0] 86 ?_; intro gb117 hg w25 hbox hb; have NE0_ : ad113.block ≠ gb117 := (by have h_ := World.block_lt_of_cell? _ _ hHeld.1; rw [add_block] at h_; omega); have NE1_ : ad114.block ≠ gb117 := (by have h_ := World.block_lt_of_cell? _ _ hHeld.2.2.1; rw [add_block] at h_; omega); have HS0_ := (hb.cell (World.block_lt_of_cell? _ _ (hHeld.1))).trans (hHeld.1); have HS1_ := (hb.cell (World.block_lt_of_cell? _ _ (hHeld.2.1))).trans (hHeld.2.1); have HS2_ := (hb.cell (World.block_lt_of_cell? _ _ (hHeld.2.2.1))).trans (hHeld.2.2.1); have HS3_ := (hb.cell (World.block_lt_of_cell? _ _ (hHeld.2.2.2.1))).trans (hHeld.2.2.2.1); have HS4_ := (hb.cell (World.block_lt_of_cell? _ _ (hHeld.2.2.2.2.1))).trans (hHeld.2.2.2.2.1); have HS5_ := (hb.cell (World.block_lt_of_cell? _ _ (hHeld.2.2.2.2.2.1))).trans (hHeld.2.2.2.2.2.1)
             have HS6_ := (hb.cell (World.block_lt_of_cell? _ _ (hHeld.2.2.2.2.2.2.1))).trans (hHeld.2.2.2.2.2.2.1); have HS7_ := (hb.cell (World.block_lt_of_cell? _ _ (hHeld.2.2.2.2.2.2.2))).trans (hHeld.2.2.2.2.2.2.2); replace HO_0 := eV_ HO_0 hg hb; replace HO_1 := eV_ HO_1 hg hb; replace HO_5 := A_ (Kd.R_below (Kd.R_elderB (hrR_ HO_5.out) gb117 (Nat.le_of_eq hg.symm)) hb); have BK117 := A_ (hbox); have GW117 := gs_ w hg; have GE117 := gs_ w hg; replace HB := bs_ hb; clear hb hbox hg; refine hK.out _ _ ⟨HS0_, HS1_, HS2_, HS3_, HS4_, HS5_, HS6_, HS7_⟩ (fun hHeld => ?_); clear hK K; refine nA ?_; refine oA 24 none 25 33554431 fun K hK => ?_; have hs26 : w25.cell? ⟨gb117, 0, none⟩ = some (.int .i64 0) := bq_ BK117 0; have hfs26 := blk_frozen BK117.out 0; have hs27 : w25.cell? ⟨gb117, 1, none⟩ = some (.int .i64 0) := bq_ BK117 1; have hfs27 := blk_frozen BK117.out 1; refine sA ?_; refine hK.out _ _ ⟨((cell_far (p := ⟨gb117, _, none⟩) (ne_ NE0_) _).trans (((cell_far (p := ⟨gb117, _, none⟩) (ne_ NE0_) _).trans (hHeld.1)))), ((cell_far (p := ⟨gb117, _, none⟩) (ne_ NE0_) _).trans (((cell_far (p := ⟨gb117, _, none⟩) (ne_ NE0_) _).trans (hHeld.2.1)))), ((cell_far (p := ⟨gb117, _, none⟩) (ne_ NE1_) _).trans (((cell_far (p := ⟨gb117, _, none⟩) (ne_ NE1_) _).trans (hHeld.2.2.1)))), ((cell_far (p := ⟨gb117, _, none⟩) (ne_ NE1_) _).trans (((cell_far (p := ⟨gb117, _, none⟩) (ne_ NE1_) _).trans (hHeld.2.2.2.1)))), ((cell_far (p := ⟨gb117, _, none⟩) (ne_ NE0_) _).trans (((cell_far (p := ⟨gb117, _, none⟩) (ne_ NE0_) _).trans (hHeld.2.2.2.2.1)))), ((cell_far (p := ⟨gb117, _, none⟩) (ne_ NE0_) _).trans (((cell_far (p := ⟨gb117, _, none⟩) (ne_ NE0_) _).trans (hHeld.2.2.2.2.2.1)))), ((cell_far (p := ⟨gb117, _, none⟩) (ne_ NE1_) _).trans (((cell_far (p := ⟨gb117, _, none⟩) (ne_ NE1_) _).trans (hHeld.2.2.2.2.2.2.1)))), ((cell_far (p := ⟨gb117, _, none⟩) (ne_ NE1_) _).trans (((cell_far (p := ⟨gb117, _, none⟩) (ne_ NE1_) _).trans (hHeld.2.2.2.2.2.2.2))))⟩ (fun hHeld => ?_)
             clear hK K; refine done_ (done_of HT_.out (by kernel_rfl)) ?_; have Z28 := bz2_ BK117; (try go_wp2_with (first | ((with_reducible refine gate_builtin (b := .append) (xs := #[.tmp 51, .tmp 53]) rfl ?_); (try (refine gate_guard (by rfl) ?_; dsimp only)); at_builtin; refine Kd.R_append k86 (w0 := w) w.heap.size rfl (.tmp 51) (.tmp 53) 82 86 (.agg #[(.int .i64 0), (.int .i64 0)]) 16 rfl Try.underlying82 info86 rfl (by decide) (by omega) u5 x5_1 (⟨ji17, ji18⟩ : S86) [.int .i64 ji17, .int .i64 ji18] (fun k_ => k_ ≠ gb117) (fun _ => False) rfl (by first | (go_simp; done) | (go_simp; rfl)) ?aP (fun _ hk => hk.elim) ?aF ?aO ?aB ?aS ?aL ?_; (case aP => exact k86_mkM _ _ _ (⟨ji17, ji18⟩ : S86)); (case aB => exact hs_); (case aF => exact (fun k_ hk => fb_ BK117 k_ hk)); (case aO => exact (fpR_ HO_5.out)); (case aS => exact (below_size hs_)); (case aL => have := LMc20.out; omega); intro v119 w29 ho hb hg hat; rw [← Ny118.out] at ho; replace HO_0 := A_ (Kd.V_afterv (ok := (fun k_ => k_ ≠ gb117)) (fpV_ HO_0.out) hg hat); replace HO_1 := A_ (Kd.V_afterv (ok := (fun k_ => k_ ≠ gb117)) (fpV_ HO_1.out) hg hat); replace BK117 := A_ (blk_grown (g := gb117) (o := .cells #[.int .i64 ji17, .int .i64 ji18] 86 (0, 0)) (pb_ BK117.out) hg (Kd.R_away HO_5.out (fun _ hk => hk.2))); replace HB := A_ (hb); have HO120 := A_ (ho); clear HO_5; clear ho hb hg hat)))
             replace HO_0 := A_ (Kd.V_drew HO_0.out); replace HO_1 := A_ (Kd.V_drew HO_1.out); replace HO120 := A_ (Kd.R_drew HO120.out); replace BK117 := A_ (blk_drew BK117.out); replace HB := A_ (below_drew1 HB.out); have p121 : 0 ≤ (x6_1 : Int) := od_; have q121 : x6_1 < (t107.length : Int) := od_; obtain ⟨ad121, e121, hx121_0, hx121_1⟩ := at_T86 (Kd.V_reads' HO_0.out).2.2 x6_1 p121 q121; obtain rfl : ad113 = ad121 := (by injection e121); replace p121 := eq_true p121; replace q121 := eq_true q121; have p122 : 0 ≤ (x7_1 : Int) := od_; have q122 : x7_1 < (t110.length : Int) := od_; obtain ⟨ad122, e122, hx122_0, hx122_1⟩ := at_T86 (Kd.V_reads' HO_1.out).2.2 x7_1 p122 q122; obtain rfl : ad114 = ad122 := (by injection e122); replace p122 := eq_true p122; replace q122 := eq_true q122; refine start_ (n := 11) (S := fun w' => w'.cell? (ad113.add ((x6_1).toNat * 2)) = some (.int .i64 ((rd_T86 t107 x6_1).f0)) ∧ w'.cell? ⟨(ad113.add ((x6_1).toNat * 2)).block, (ad113.add ((x6_1).toNat * 2)).off + 1, none⟩ = some (.int .i64 ((rd_T86 t107 x6_1).f1)) ∧ w'.cell? (ad114.add ((x7_1).toNat * 2)) = some (.int .i64 ((rd_T86 t110 x7_1).f0)) ∧ w'.cell? ⟨(ad114.add ((x7_1).toNat * 2)).block, (ad114.add ((x7_1).toNat * 2)).off + 1, none⟩ = some (.int .i64 ((rd_T86 t110 x7_1).f1))) (ds := []) (ab 11 0) (by kernel_rfl) rfl rfl ⟨hx121_0, hx121_1, hx122_0, hx122_1⟩ (fun hHeld => ?_); refine with_tabW sets_Meet.tab8 sets_Meet.bits8 (fun HT_ HW_ => ?_); generalize w29.drew = w30 at HO_0 HO_1 HO120 BK117 HB hx121_0 hx121_1 hx122_0 hx122_1 hHeld ⊢; refine pA 0 55 11 1 ?_; refine pA 1 56 11 3 ?_; refine pA 2 57 11 7 ?_; refine pA 3 58 11 15 ?_; refine pA 5 60 11 47 ?_; refine pA 6 61 11 111 ?_; refine pA 7 62 11 239 ?_; refine pA 8 63 11 495 ?_; refine tB 4 59 11 511 ?_; refine tB 9 64 11 1023 ?_; refine pA 10 65 11 2047 ?_; refine done_ (done_of HT_.out (by kernel_rfl)) ?_; (try go_wp2); go_roundg kj6
             case measure => have := HK1.out; have := HJ6.out; omega
             case rel => exact ⟨(y118), (wrap64 (x6_1 + 1)), (x7_1), rf_, rf_, H', ⟨by have := HK1.out; have := HJ6.out; omega⟩, ⟨by (with_reducible repeat (first | apply Kd.V_alloc | apply Kd.V_drewN | apply Kd.V_drew)); exact Kd.V_mono HO_0.out (fun _ hk => hk.2)⟩, ⟨by (with_reducible repeat (first | apply Kd.V_alloc | apply Kd.V_drewN | apply Kd.V_drew)); exact Kd.V_mono HO_1.out (fun _ hk => hk.2)⟩, ⟨by (with_reducible repeat (first | apply Kd.R_alloc | apply Kd.R_drewN | apply Kd.R_drew)); exact Kd.R_mono HO120.out (fun _ hk => trivial)⟩, ⟨hs_⟩⟩
            ·rw [if_neg c21] at H
             have c21b0 := decide_eq_false c21; clear c21; have H' := A_ H; clear H; (try go_wp2); replace HO_0 := A_ (Kd.V_drew HO_0.out); replace HO_1 := A_ (Kd.V_drew HO_1.out); replace HO_5 := A_ (Kd.R_drew HO_5.out); replace HB := A_ (below_drew1 HB.out); obtain ⟨Ao32, co32, eo32⟩ := Kd.V_slice HO_0.out; (first | subst eo32 | (injection eo32 with f1_ f2_ f3_; have f4_ := f1_.symm; have f5_ := f3_.symm; clear f1_ f2_ f3_; subst f4_; subst f5_)); have p113 : 0 ≤ (x6_1 : Int) := od_; have q113 : x6_1 < (t107.length : Int) := od_; obtain ⟨ad113, e113, hx113_0, hx113_1⟩ := at_T86 (Kd.V_reads' HO_0.out).2.2 x6_1 p113 q113
             cases e113
             replace p113 := eq_true p113; replace q113 := eq_true q113; obtain ⟨Ao33, co33, eo33⟩ := Kd.V_slice HO_1.out; (first | subst eo33 | (injection eo33 with f1_ f2_ f3_; have f4_ := f1_.symm; have f5_ := f3_.symm; clear f1_ f2_ f3_; subst f4_; subst f5_)); have p114 : 0 ≤ (x7_1 : Int) := od_; have q114 : x7_1 < (t110.length : Int) := od_; obtain ⟨ad114, e114, hx114_0, hx114_1⟩ := at_T86 (Kd.V_reads' HO_1.out).2.2 x7_1 p114 q114
             cases e114
             replace p114 := eq_true p114; replace q114 := eq_true q114; have p115 : 0 ≤ (x6_1 : Int) := od_; have q115 : x6_1 < (t107.length : Int) := od_; obtain ⟨ad115, e115, hx115_0, hx115_1⟩ := at_T86 (Kd.V_reads' HO_0.out).2.2 x6_1 p115 q115; obtain rfl : ad113 = ad115 := (by injection e115); replace p115 := eq_true p115; replace q115 := eq_true q115; have p116 : 0 ≤ (x7_1 : Int) := od_; have q116 : x7_1 < (t110.length : Int) := od_; obtain ⟨ad116, e116, hx116_0, hx116_1⟩ := at_T86 (Kd.V_reads' HO_1.out).2.2 x7_1 p116 q116; obtain rfl : ad114 = ad116 := (by injection e116); replace p116 := eq_true p116; replace q116 := eq_true q116; refine start_ (n := 25) (S := fun w' => w'.cell? (ad113.add ((x6_1).toNat * 2)) = some (.int .i64 ((rd_T86 t107 x6_1).f0)) ∧ w'.cell? ⟨(ad113.add ((x6_1).toNat * 2)).block, (ad113.add ((x6_1).toNat * 2)).off + 1, none⟩ = some (.int .i64 ((rd_T86 t107 x6_1).f1)) ∧ w'.cell? (ad114.add ((x7_1).toNat * 2)) = some (.int .i64 ((rd_T86 t110 x7_1).f0)) ∧ w'.cell? ⟨(ad114.add ((x7_1).toNat * 2)).block, (ad114.add ((x7_1).toNat * 2)).off + 1, none⟩ = some (.int .i64 ((rd_T86 t110 x7_1).f1)) ∧ w'.cell? (ad113.add ((x6_1).toNat * 2)) = some (.int .i64 ((rd_T86 t107 x6_1).f0)) ∧ w'.cell? ⟨(ad113.add ((x6_1).toNat * 2)).block, (ad113.add ((x6_1).toNat * 2)).off + 1, none⟩ = some (.int .i64 ((rd_T86 t107 x6_1).f1)) ∧ w'.cell? (ad114.add ((x7_1).toNat * 2)) = some (.int .i64 ((rd_T86 t110 x7_1).f0)) ∧ w'.cell? ⟨(ad114.add ((x7_1).toNat * 2)).block, (ad114.add ((x7_1).toNat * 2)).off + 1, none⟩ = some (.int .i64 ((rd_T86 t110 x7_1).f1))) (ds := []) (ab 25 0) (by kernel_rfl) rfl rfl ⟨hx113_0, hx113_1, hx114_0, hx114_1, hx115_0, hx115_1, hx116_0, hx116_1⟩ (fun hHeld => ?_); refine with_tabW sets_Meet.tab5 sets_Meet.bits5 (fun HT_ HW_ => ?_); generalize wc.drew = w31 at HO_0 HO_1 HO_5 HB hx113_0 hx113_1 hx114_0 hx114_1 hx115_0 hx115_1 hx116_0 hx116_1 hHeld ⊢; refine pA 0 23 25 1 ?_; refine pA 1 24 25 3 ?_; refine pA 2 25 25 7 ?_; refine pA 3 26 25 15 ?_; refine pA 5 28 25 47 ?_; refine pA 6 29 25 111 ?_; refine pA 7 30 25 239 ?_; refine pA 8 31 25 495 ?_; refine pA 11 34 25 2543 ?_; refine pA 12 35 25 6639 ?_; refine pA 13 36 25 14831 ?_; refine pA 14 37 25 31215 ?_; refine pA 16 39 25 96751 ?_; refine pA 17 40 25 227823 ?_; refine pA 18 41 25 489967 ?_; refine pA 19 42 25 1014255 ?_; refine tB 4 27 25 1014271 ?_; refine tB 9 32 25 1014783 ?_; refine pA 10 33 25 1015807 ?_; refine tB 15 38 25 1048575 ?_; refine tB 20 43 25 2097151 ?_; refine pA 21 44 25 4194303 ?_; refine pA 22 45 25 8388607 ?_; refine oA 23 (some 8) 25 16777215 fun K hK => ?_; refine bxs_ 8 #[.int .i64 0, .int .i64 0] 86 ?_; intro gb117 hg w34 hbox hb; have NE0_ : ad113.block ≠ gb117 := (by have h_ := World.block_lt_of_cell? _ _ hHeld.1; rw [add_block] at h_; omega); have NE1_ : ad114.block ≠ gb117 := (by have h_ := World.block_lt_of_cell? _ _ hHeld.2.2.1; rw [add_block] at h_; omega); have HS0_ := (hb.cell (World.block_lt_of_cell? _ _ (hHeld.1))).trans (hHeld.1); have HS1_ := (hb.cell (World.block_lt_of_cell? _ _ (hHeld.2.1))).trans (hHeld.2.1); have HS2_ := (hb.cell (World.block_lt_of_cell? _ _ (hHeld.2.2.1))).trans (hHeld.2.2.1); have HS3_ := (hb.cell (World.block_lt_of_cell? _ _ (hHeld.2.2.2.1))).trans (hHeld.2.2.2.1); have HS4_ := (hb.cell (World.block_lt_of_cell? _ _ (hHeld.2.2.2.2.1))).trans (hHeld.2.2.2.2.1); have HS5_ := (hb.cell (World.block_lt_of_cell? _ _ (hHeld.2.2.2.2.2.1))).trans (hHeld.2.2.2.2.2.1)
             have HS6_ := (hb.cell (World.block_lt_of_cell? _ _ (hHeld.2.2.2.2.2.2.1))).trans (hHeld.2.2.2.2.2.2.1); have HS7_ := (hb.cell (World.block_lt_of_cell? _ _ (hHeld.2.2.2.2.2.2.2))).trans (hHeld.2.2.2.2.2.2.2); replace HO_0 := eV_ HO_0 hg hb; replace HO_1 := eV_ HO_1 hg hb; replace HO_5 := A_ (Kd.R_below (Kd.R_elderB (hrR_ HO_5.out) gb117 (Nat.le_of_eq hg.symm)) hb); have BK117 := A_ (hbox); have GW117 := gs_ w hg; have GE117 := gs_ w hg; replace HB := bs_ hb; clear hb hbox hg; refine hK.out _ _ ⟨HS0_, HS1_, HS2_, HS3_, HS4_, HS5_, HS6_, HS7_⟩ (fun hHeld => ?_); clear hK K; refine nA ?_; refine oA 24 none 25 33554431 fun K hK => ?_; have hs35 : w34.cell? ⟨gb117, 0, none⟩ = some (.int .i64 0) := bq_ BK117 0; have hfs35 := blk_frozen BK117.out 0; have hs36 : w34.cell? ⟨gb117, 1, none⟩ = some (.int .i64 0) := bq_ BK117 1; have hfs36 := blk_frozen BK117.out 1; refine sA ?_; refine hK.out _ _ ⟨((cell_far (p := ⟨gb117, _, none⟩) (ne_ NE0_) _).trans (((cell_far (p := ⟨gb117, _, none⟩) (ne_ NE0_) _).trans (hHeld.1)))), ((cell_far (p := ⟨gb117, _, none⟩) (ne_ NE0_) _).trans (((cell_far (p := ⟨gb117, _, none⟩) (ne_ NE0_) _).trans (hHeld.2.1)))), ((cell_far (p := ⟨gb117, _, none⟩) (ne_ NE1_) _).trans (((cell_far (p := ⟨gb117, _, none⟩) (ne_ NE1_) _).trans (hHeld.2.2.1)))), ((cell_far (p := ⟨gb117, _, none⟩) (ne_ NE1_) _).trans (((cell_far (p := ⟨gb117, _, none⟩) (ne_ NE1_) _).trans (hHeld.2.2.2.1)))), ((cell_far (p := ⟨gb117, _, none⟩) (ne_ NE0_) _).trans (((cell_far (p := ⟨gb117, _, none⟩) (ne_ NE0_) _).trans (hHeld.2.2.2.2.1)))), ((cell_far (p := ⟨gb117, _, none⟩) (ne_ NE0_) _).trans (((cell_far (p := ⟨gb117, _, none⟩) (ne_ NE0_) _).trans (hHeld.2.2.2.2.2.1)))), ((cell_far (p := ⟨gb117, _, none⟩) (ne_ NE1_) _).trans (((cell_far (p := ⟨gb117, _, none⟩) (ne_ NE1_) _).trans (hHeld.2.2.2.2.2.2.1)))), ((cell_far (p := ⟨gb117, _, none⟩) (ne_ NE1_) _).trans (((cell_far (p := ⟨gb117, _, none⟩) (ne_ NE1_) _).trans (hHeld.2.2.2.2.2.2.2))))⟩ (fun hHeld => ?_)
             clear hK K; refine done_ (done_of HT_.out (by kernel_rfl)) ?_; have Z37 := bz2_ BK117; (try go_wp2_with (first | ((with_reducible refine gate_builtin (b := .append) (xs := #[.tmp 51, .tmp 53]) rfl ?_); (try (refine gate_guard (by rfl) ?_; dsimp only)); at_builtin; refine Kd.R_append k86 (w0 := w) w.heap.size rfl (.tmp 51) (.tmp 53) 82 86 (.agg #[(.int .i64 0), (.int .i64 0)]) 16 rfl Try.underlying82 info86 rfl (by decide) (by omega) u5 x5_1 (⟨ji17, ji18⟩ : S86) [.int .i64 ji17, .int .i64 ji18] (fun k_ => k_ ≠ gb117) (fun _ => False) rfl (by first | (go_simp; done) | (go_simp; rfl)) ?aP (fun _ hk => hk.elim) ?aF ?aO ?aB ?aS ?aL ?_; (case aP => exact k86_mkM _ _ _ (⟨ji17, ji18⟩ : S86)); (case aB => exact hs_); (case aF => exact (fun k_ hk => fb_ BK117 k_ hk)); (case aO => exact (fpR_ HO_5.out)); (case aS => exact (below_size hs_)); (case aL => have := LMc20.out; omega); intro v119 w38 ho hb hg hat; rw [← Ny118.out] at ho; replace HO_0 := A_ (Kd.V_afterv (ok := (fun k_ => k_ ≠ gb117)) (fpV_ HO_0.out) hg hat); replace HO_1 := A_ (Kd.V_afterv (ok := (fun k_ => k_ ≠ gb117)) (fpV_ HO_1.out) hg hat); replace BK117 := A_ (blk_grown (g := gb117) (o := .cells #[.int .i64 ji17, .int .i64 ji18] 86 (0, 0)) (pb_ BK117.out) hg (Kd.R_away HO_5.out (fun _ hk => hk.2))); replace HB := A_ (hb); have HO120 := A_ (ho); clear HO_5; clear ho hb hg hat)))
             replace HO_0 := A_ (Kd.V_drew HO_0.out); replace HO_1 := A_ (Kd.V_drew HO_1.out); replace HO120 := A_ (Kd.R_drew HO120.out); replace BK117 := A_ (blk_drew BK117.out); replace HB := A_ (below_drew1 HB.out); have p121 : 0 ≤ (x6_1 : Int) := od_; have q121 : x6_1 < (t107.length : Int) := od_; obtain ⟨ad121, e121, hx121_0, hx121_1⟩ := at_T86 (Kd.V_reads' HO_0.out).2.2 x6_1 p121 q121; obtain rfl : ad113 = ad121 := (by injection e121); replace p121 := eq_true p121; replace q121 := eq_true q121; have p122 : 0 ≤ (x7_1 : Int) := od_; have q122 : x7_1 < (t110.length : Int) := od_; obtain ⟨ad122, e122, hx122_0, hx122_1⟩ := at_T86 (Kd.V_reads' HO_1.out).2.2 x7_1 p122 q122; obtain rfl : ad114 = ad122 := (by injection e122); replace p122 := eq_true p122; replace q122 := eq_true q122; refine start_ (n := 11) (S := fun w' => w'.cell? (ad113.add ((x6_1).toNat * 2)) = some (.int .i64 ((rd_T86 t107 x6_1).f0)) ∧ w'.cell? ⟨(ad113.add ((x6_1).toNat * 2)).block, (ad113.add ((x6_1).toNat * 2)).off + 1, none⟩ = some (.int .i64 ((rd_T86 t107 x6_1).f1)) ∧ w'.cell? (ad114.add ((x7_1).toNat * 2)) = some (.int .i64 ((rd_T86 t110 x7_1).f0)) ∧ w'.cell? ⟨(ad114.add ((x7_1).toNat * 2)).block, (ad114.add ((x7_1).toNat * 2)).off + 1, none⟩ = some (.int .i64 ((rd_T86 t110 x7_1).f1))) (ds := []) (ab 11 0) (by kernel_rfl) rfl rfl ⟨hx121_0, hx121_1, hx122_0, hx122_1⟩ (fun hHeld => ?_); refine with_tabW sets_Meet.tab8 sets_Meet.bits8 (fun HT_ HW_ => ?_); generalize w38.drew = w39 at HO_0 HO_1 HO120 BK117 HB hx121_0 hx121_1 hx122_0 hx122_1 hHeld ⊢; refine pA 0 55 11 1 ?_; refine pA 1 56 11 3 ?_; refine pA 2 57 11 7 ?_; refine pA 3 58 11 15 ?_; refine pA 5 60 11 47 ?_; refine pA 6 61 11 111 ?_; refine pA 7 62 11 239 ?_; refine pA 8 63 11 495 ?_; refine tB 4 59 11 511 ?_; refine tB 9 64 11 1023 ?_; refine pA 10 65 11 2047 ?_; refine done_ (done_of HT_.out (by kernel_rfl)) ?_; (try go_wp2); go_roundg kj6
             case measure => have := HK1.out; have := HJ6.out; omega
             case rel => exact ⟨(y118), (x6_1), (wrap64 (x7_1 + 1)), rf_, rf_, H', ⟨by have := HK1.out; have := HJ6.out; omega⟩, ⟨by (with_reducible repeat (first | apply Kd.V_alloc | apply Kd.V_drewN | apply Kd.V_drew)); exact Kd.V_mono HO_0.out (fun _ hk => hk.2)⟩, ⟨by (with_reducible repeat (first | apply Kd.V_alloc | apply Kd.V_drewN | apply Kd.V_drew)); exact Kd.V_mono HO_1.out (fun _ hk => hk.2)⟩, ⟨by (with_reducible repeat (first | apply Kd.R_alloc | apply Kd.R_drewN | apply Kd.R_drew)); exact Kd.R_mono HO120.out (fun _ hk => trivial)⟩, ⟨hs_⟩⟩
           ·rw [if_neg c20] at H
            exact absurd H (by simp)
          ·rw [if_neg c19] at H
           have c19b0 := decide_eq_false c19; clear c19
           by_cases c40 : ((rd_T86 t107 x6_1).f1) < ((rd_T86 t110 x7_1).f1)
           ·rw [if_pos c40] at H
            have c40b0 := decide_eq_true c40; clear c40; have H' := A_ H; clear H; (try go_wp2); replace HO_0 := A_ (Kd.V_drew HO_0.out); replace HO_1 := A_ (Kd.V_drew HO_1.out); replace HO_5 := A_ (Kd.R_drew HO_5.out); replace HB := A_ (below_drew1 HB.out); obtain ⟨Ao42, co42, eo42⟩ := Kd.V_slice HO_0.out; (first | subst eo42 | (injection eo42 with f1_ f2_ f3_; have f4_ := f1_.symm; have f5_ := f3_.symm; clear f1_ f2_ f3_; subst f4_; subst f5_)); have p113 : 0 ≤ (x6_1 : Int) := od_; have q113 : x6_1 < (t107.length : Int) := od_; obtain ⟨ad113, e113, hx113_0, hx113_1⟩ := at_T86 (Kd.V_reads' HO_0.out).2.2 x6_1 p113 q113
            cases e113
            replace p113 := eq_true p113; replace q113 := eq_true q113; obtain ⟨Ao43, co43, eo43⟩ := Kd.V_slice HO_1.out; (first | subst eo43 | (injection eo43 with f1_ f2_ f3_; have f4_ := f1_.symm; have f5_ := f3_.symm; clear f1_ f2_ f3_; subst f4_; subst f5_)); have p114 : 0 ≤ (x7_1 : Int) := od_; have q114 : x7_1 < (t110.length : Int) := od_; obtain ⟨ad114, e114, hx114_0, hx114_1⟩ := at_T86 (Kd.V_reads' HO_1.out).2.2 x7_1 p114 q114
            cases e114
            replace p114 := eq_true p114; replace q114 := eq_true q114; have p115 : 0 ≤ (x6_1 : Int) := od_; have q115 : x6_1 < (t107.length : Int) := od_; obtain ⟨ad115, e115, hx115_0, hx115_1⟩ := at_T86 (Kd.V_reads' HO_0.out).2.2 x6_1 p115 q115; obtain rfl : ad113 = ad115 := (by injection e115); replace p115 := eq_true p115; replace q115 := eq_true q115; have p116 : 0 ≤ (x7_1 : Int) := od_; have q116 : x7_1 < (t110.length : Int) := od_; obtain ⟨ad116, e116, hx116_0, hx116_1⟩ := at_T86 (Kd.V_reads' HO_1.out).2.2 x7_1 p116 q116; obtain rfl : ad114 = ad116 := (by injection e116); replace p116 := eq_true p116; replace q116 := eq_true q116; refine start_ (n := 25) (S := fun w' => w'.cell? (ad113.add ((x6_1).toNat * 2)) = some (.int .i64 ((rd_T86 t107 x6_1).f0)) ∧ w'.cell? ⟨(ad113.add ((x6_1).toNat * 2)).block, (ad113.add ((x6_1).toNat * 2)).off + 1, none⟩ = some (.int .i64 ((rd_T86 t107 x6_1).f1)) ∧ w'.cell? (ad114.add ((x7_1).toNat * 2)) = some (.int .i64 ((rd_T86 t110 x7_1).f0)) ∧ w'.cell? ⟨(ad114.add ((x7_1).toNat * 2)).block, (ad114.add ((x7_1).toNat * 2)).off + 1, none⟩ = some (.int .i64 ((rd_T86 t110 x7_1).f1)) ∧ w'.cell? (ad113.add ((x6_1).toNat * 2)) = some (.int .i64 ((rd_T86 t107 x6_1).f0)) ∧ w'.cell? ⟨(ad113.add ((x6_1).toNat * 2)).block, (ad113.add ((x6_1).toNat * 2)).off + 1, none⟩ = some (.int .i64 ((rd_T86 t107 x6_1).f1)) ∧ w'.cell? (ad114.add ((x7_1).toNat * 2)) = some (.int .i64 ((rd_T86 t110 x7_1).f0)) ∧ w'.cell? ⟨(ad114.add ((x7_1).toNat * 2)).block, (ad114.add ((x7_1).toNat * 2)).off + 1, none⟩ = some (.int .i64 ((rd_T86 t110 x7_1).f1))) (ds := []) (ab 25 0) (by kernel_rfl) rfl rfl ⟨hx113_0, hx113_1, hx114_0, hx114_1, hx115_0, hx115_1, hx116_0, hx116_1⟩ (fun hHeld => ?_); refine with_tabW sets_Meet.tab5 sets_Meet.bits5 (fun HT_ HW_ => ?_); generalize wc.drew = w41 at HO_0 HO_1 HO_5 HB hx113_0 hx113_1 hx114_0 hx114_1 hx115_0 hx115_1 hx116_0 hx116_1 hHeld ⊢; refine pA 0 23 25 1 ?_; refine pA 1 24 25 3 ?_; refine pA 2 25 25 7 ?_; refine pA 3 26 25 15 ?_; refine pA 5 28 25 47 ?_; refine pA 6 29 25 111 ?_; refine pA 7 30 25 239 ?_; refine pA 8 31 25 495 ?_; refine pA 11 34 25 2543 ?_; refine pA 12 35 25 6639 ?_; refine pA 13 36 25 14831 ?_; refine pA 14 37 25 31215 ?_; refine pA 16 39 25 96751 ?_; refine pA 17 40 25 227823 ?_; refine pA 18 41 25 489967 ?_; refine pA 19 42 25 1014255 ?_; refine tB 4 27 25 1014271 ?_; refine tB 9 32 25 1014783 ?_; refine pA 10 33 25 1015807 ?_; refine tB 15 38 25 1048575 ?_; refine tB 20 43 25 2097151 ?_; refine pA 21 44 25 4194303 ?_; refine pA 22 45 25 8388607 ?_; refine oA 23 (some 8) 25 16777215 fun K hK => ?_; refine bxs_ 8 #[.int .i64 0, .int .i64 0] 86 ?_; intro gb117 hg w44 hbox hb; have NE0_ : ad113.block ≠ gb117 := (by have h_ := World.block_lt_of_cell? _ _ hHeld.1; rw [add_block] at h_; omega); have NE1_ : ad114.block ≠ gb117 := (by have h_ := World.block_lt_of_cell? _ _ hHeld.2.2.1; rw [add_block] at h_; omega); have HS0_ := (hb.cell (World.block_lt_of_cell? _ _ (hHeld.1))).trans (hHeld.1); have HS1_ := (hb.cell (World.block_lt_of_cell? _ _ (hHeld.2.1))).trans (hHeld.2.1); have HS2_ := (hb.cell (World.block_lt_of_cell? _ _ (hHeld.2.2.1))).trans (hHeld.2.2.1); have HS3_ := (hb.cell (World.block_lt_of_cell? _ _ (hHeld.2.2.2.1))).trans (hHeld.2.2.2.1); have HS4_ := (hb.cell (World.block_lt_of_cell? _ _ (hHeld.2.2.2.2.1))).trans (hHeld.2.2.2.2.1); have HS5_ := (hb.cell (World.block_lt_of_cell? _ _ (hHeld.2.2.2.2.2.1))).trans (hHeld.2.2.2.2.2.1)
            have HS6_ := (hb.cell (World.block_lt_of_cell? _ _ (hHeld.2.2.2.2.2.2.1))).trans (hHeld.2.2.2.2.2.2.1); have HS7_ := (hb.cell (World.block_lt_of_cell? _ _ (hHeld.2.2.2.2.2.2.2))).trans (hHeld.2.2.2.2.2.2.2); replace HO_0 := eV_ HO_0 hg hb; replace HO_1 := eV_ HO_1 hg hb; replace HO_5 := A_ (Kd.R_below (Kd.R_elderB (hrR_ HO_5.out) gb117 (Nat.le_of_eq hg.symm)) hb); have BK117 := A_ (hbox); have GW117 := gs_ w hg; have GE117 := gs_ w hg; replace HB := bs_ hb; clear hb hbox hg; refine hK.out _ _ ⟨HS0_, HS1_, HS2_, HS3_, HS4_, HS5_, HS6_, HS7_⟩ (fun hHeld => ?_); clear hK K; refine nA ?_; refine oA 24 none 25 33554431 fun K hK => ?_; have hs45 : w44.cell? ⟨gb117, 0, none⟩ = some (.int .i64 0) := bq_ BK117 0; have hfs45 := blk_frozen BK117.out 0; have hs46 : w44.cell? ⟨gb117, 1, none⟩ = some (.int .i64 0) := bq_ BK117 1; have hfs46 := blk_frozen BK117.out 1; refine sA ?_; refine hK.out _ _ ⟨((cell_far (p := ⟨gb117, _, none⟩) (ne_ NE0_) _).trans (((cell_far (p := ⟨gb117, _, none⟩) (ne_ NE0_) _).trans (hHeld.1)))), ((cell_far (p := ⟨gb117, _, none⟩) (ne_ NE0_) _).trans (((cell_far (p := ⟨gb117, _, none⟩) (ne_ NE0_) _).trans (hHeld.2.1)))), ((cell_far (p := ⟨gb117, _, none⟩) (ne_ NE1_) _).trans (((cell_far (p := ⟨gb117, _, none⟩) (ne_ NE1_) _).trans (hHeld.2.2.1)))), ((cell_far (p := ⟨gb117, _, none⟩) (ne_ NE1_) _).trans (((cell_far (p := ⟨gb117, _, none⟩) (ne_ NE1_) _).trans (hHeld.2.2.2.1)))), ((cell_far (p := ⟨gb117, _, none⟩) (ne_ NE0_) _).trans (((cell_far (p := ⟨gb117, _, none⟩) (ne_ NE0_) _).trans (hHeld.2.2.2.2.1)))), ((cell_far (p := ⟨gb117, _, none⟩) (ne_ NE0_) _).trans (((cell_far (p := ⟨gb117, _, none⟩) (ne_ NE0_) _).trans (hHeld.2.2.2.2.2.1)))), ((cell_far (p := ⟨gb117, _, none⟩) (ne_ NE1_) _).trans (((cell_far (p := ⟨gb117, _, none⟩) (ne_ NE1_) _).trans (hHeld.2.2.2.2.2.2.1)))), ((cell_far (p := ⟨gb117, _, none⟩) (ne_ NE1_) _).trans (((cell_far (p := ⟨gb117, _, none⟩) (ne_ NE1_) _).trans (hHeld.2.2.2.2.2.2.2))))⟩ (fun hHeld => ?_)
            clear hK K; refine done_ (done_of HT_.out (by kernel_rfl)) ?_; have Z47 := bz2_ BK117; (try go_wp2); have n0_ : Aside0 (Kd.V k86 86 ((w44.setCell ⟨gb117, 0, none⟩ (.int .i64 ji17)).setCell ⟨gb117, 1, none⟩ (.int .i64 ji18)) w.heap.size (fun k_ => nv_ k_ u5 ∧ k_ ≠ gb117) (.slice (some ad113) t107.length co42) t107) := ⟨fpV_ HO_0.out⟩; have n1_ : Aside0 (Kd.V k86 86 ((w44.setCell ⟨gb117, 0, none⟩ (.int .i64 ji17)).setCell ⟨gb117, 1, none⟩ (.int .i64 ji18)) w.heap.size (fun k_ => nv_ k_ u5 ∧ k_ ≠ gb117) (.slice (some ad114) t110.length co43) t110) := ⟨fpV_ HO_1.out⟩; have n2_ : Aside0 (Kd.R k86 86 ((w44.setCell ⟨gb117, 0, none⟩ (.int .i64 ji17)).setCell ⟨gb117, 1, none⟩ (.int .i64 ji18)) w.heap.size (fun k_ => k_ ≠ gb117) u5 x5_1) := ⟨fpR_ HO_5.out⟩; have n3_ : Aside0 (((w44.setCell ⟨gb117, 0, none⟩ (.int .i64 ji17)).setCell ⟨gb117, 1, none⟩ (.int .i64 ji18)).heap[gb117]? = some (.cells #[.int .i64 ji17, .int .i64 ji18] 86 (0, 0))) := ⟨pb_ BK117.out⟩; have n4_ : Aside0 (Below w.heap.size w ((w44.setCell ⟨gb117, 0, none⟩ (.int .i64 ji17)).setCell ⟨gb117, 1, none⟩ (.int .i64 ji18))) := ⟨hs_⟩; (try clear HO_0); (try clear HO_1); (try clear HO_5); (try clear BK117); (try clear HB); generalize ((w44.setCell ⟨gb117, 0, none⟩ (.int .i64 ji17)).setCell ⟨gb117, 1, none⟩ (.int .i64 ji18)) = w48 at n0_ n1_ n2_ n3_ n4_ ⊢; have HO_0 := n0_; have HO_1 := n1_; have HO_5 := n2_; have BK117 := n3_; have HB := n4_; clear n0_ n1_ n2_ n3_ n4_; replace HO_0 := A_ (Kd.V_drew HO_0.out); replace HO_1 := A_ (Kd.V_drew HO_1.out); replace HO_5 := A_ (Kd.R_drew HO_5.out); replace BK117 := A_ (blk_drew BK117.out); replace HB := A_ (below_drew1 HB.out); have p123 : 0 ≤ (x6_1 : Int) := od_; have q123 : x6_1 < (t107.length : Int) := od_; obtain ⟨ad123, e123, hx123_0, hx123_1⟩ := at_T86 (Kd.V_reads' HO_0.out).2.2 x6_1 p123 q123; obtain rfl : ad113 = ad123 := (by injection e123); replace p123 := eq_true p123; replace q123 := eq_true q123; have p124 : 0 ≤ (x7_1 : Int) := od_; have q124 : x7_1 < (t110.length : Int) := od_; obtain ⟨ad124, e124, hx124_0, hx124_1⟩ := at_T86 (Kd.V_reads' HO_1.out).2.2 x7_1 p124 q124
            obtain rfl : ad114 = ad124 := (by injection e124); replace p124 := eq_true p124; replace q124 := eq_true q124; refine start_ (n := 11) (S := fun w' => w'.cell? (ad113.add ((x6_1).toNat * 2)) = some (.int .i64 ((rd_T86 t107 x6_1).f0)) ∧ w'.cell? ⟨(ad113.add ((x6_1).toNat * 2)).block, (ad113.add ((x6_1).toNat * 2)).off + 1, none⟩ = some (.int .i64 ((rd_T86 t107 x6_1).f1)) ∧ w'.cell? (ad114.add ((x7_1).toNat * 2)) = some (.int .i64 ((rd_T86 t110 x7_1).f0)) ∧ w'.cell? ⟨(ad114.add ((x7_1).toNat * 2)).block, (ad114.add ((x7_1).toNat * 2)).off + 1, none⟩ = some (.int .i64 ((rd_T86 t110 x7_1).f1))) (ds := []) (ab 11 0) (by kernel_rfl) rfl rfl ⟨hx123_0, hx123_1, hx124_0, hx124_1⟩ (fun hHeld => ?_); refine with_tabW sets_Meet.tab8 sets_Meet.bits8 (fun HT_ HW_ => ?_); generalize w48.drew = w49 at HO_0 HO_1 HO_5 BK117 HB hx123_0 hx123_1 hx124_0 hx124_1 hHeld ⊢; refine pA 0 55 11 1 ?_; refine pA 1 56 11 3 ?_; refine pA 2 57 11 7 ?_; refine pA 3 58 11 15 ?_; refine pA 5 60 11 47 ?_; refine pA 6 61 11 111 ?_; refine pA 7 62 11 239 ?_; refine pA 8 63 11 495 ?_; refine tB 4 59 11 511 ?_; refine tB 9 64 11 1023 ?_; refine pA 10 65 11 2047 ?_; refine done_ (done_of HT_.out (by kernel_rfl)) ?_; (try go_wp2); go_roundg kj6
            case measure => have := HK1.out; have := HJ6.out; omega
            case rel => exact ⟨(x5_1), (wrap64 (x6_1 + 1)), (x7_1), rf_, rf_, H', ⟨by have := HK1.out; have := HJ6.out; omega⟩, ⟨by (with_reducible repeat (first | apply Kd.V_alloc | apply Kd.V_drewN | apply Kd.V_drew)); exact Kd.V_mono HO_0.out (fun _ hk => hk.1)⟩, ⟨by (with_reducible repeat (first | apply Kd.V_alloc | apply Kd.V_drewN | apply Kd.V_drew)); exact Kd.V_mono HO_1.out (fun _ hk => hk.1)⟩, ⟨by (with_reducible repeat (first | apply Kd.R_alloc | apply Kd.R_drewN | apply Kd.R_drew)); exact Kd.R_mono HO_5.out (fun _ hk => trivial)⟩, ⟨hs_⟩⟩
           ·rw [if_neg c40] at H
            have c40b0 := decide_eq_false c40; clear c40; have H' := A_ H; clear H; (try go_wp2); replace HO_0 := A_ (Kd.V_drew HO_0.out); replace HO_1 := A_ (Kd.V_drew HO_1.out); replace HO_5 := A_ (Kd.R_drew HO_5.out); replace HB := A_ (below_drew1 HB.out); obtain ⟨Ao51, co51, eo51⟩ := Kd.V_slice HO_0.out; (first | subst eo51 | (injection eo51 with f1_ f2_ f3_; have f4_ := f1_.symm; have f5_ := f3_.symm; clear f1_ f2_ f3_; subst f4_; subst f5_)); have p113 : 0 ≤ (x6_1 : Int) := od_; have q113 : x6_1 < (t107.length : Int) := od_; obtain ⟨ad113, e113, hx113_0, hx113_1⟩ := at_T86 (Kd.V_reads' HO_0.out).2.2 x6_1 p113 q113
            cases e113
            replace p113 := eq_true p113; replace q113 := eq_true q113; obtain ⟨Ao52, co52, eo52⟩ := Kd.V_slice HO_1.out; (first | subst eo52 | (injection eo52 with f1_ f2_ f3_; have f4_ := f1_.symm; have f5_ := f3_.symm; clear f1_ f2_ f3_; subst f4_; subst f5_)); have p114 : 0 ≤ (x7_1 : Int) := od_; have q114 : x7_1 < (t110.length : Int) := od_; obtain ⟨ad114, e114, hx114_0, hx114_1⟩ := at_T86 (Kd.V_reads' HO_1.out).2.2 x7_1 p114 q114
            cases e114
            replace p114 := eq_true p114; replace q114 := eq_true q114; have p115 : 0 ≤ (x6_1 : Int) := od_; have q115 : x6_1 < (t107.length : Int) := od_; obtain ⟨ad115, e115, hx115_0, hx115_1⟩ := at_T86 (Kd.V_reads' HO_0.out).2.2 x6_1 p115 q115; obtain rfl : ad113 = ad115 := (by injection e115); replace p115 := eq_true p115; replace q115 := eq_true q115; have p116 : 0 ≤ (x7_1 : Int) := od_; have q116 : x7_1 < (t110.length : Int) := od_; obtain ⟨ad116, e116, hx116_0, hx116_1⟩ := at_T86 (Kd.V_reads' HO_1.out).2.2 x7_1 p116 q116; obtain rfl : ad114 = ad116 := (by injection e116); replace p116 := eq_true p116; replace q116 := eq_true q116; refine start_ (n := 25) (S := fun w' => w'.cell? (ad113.add ((x6_1).toNat * 2)) = some (.int .i64 ((rd_T86 t107 x6_1).f0)) ∧ w'.cell? ⟨(ad113.add ((x6_1).toNat * 2)).block, (ad113.add ((x6_1).toNat * 2)).off + 1, none⟩ = some (.int .i64 ((rd_T86 t107 x6_1).f1)) ∧ w'.cell? (ad114.add ((x7_1).toNat * 2)) = some (.int .i64 ((rd_T86 t110 x7_1).f0)) ∧ w'.cell? ⟨(ad114.add ((x7_1).toNat * 2)).block, (ad114.add ((x7_1).toNat * 2)).off + 1, none⟩ = some (.int .i64 ((rd_T86 t110 x7_1).f1)) ∧ w'.cell? (ad113.add ((x6_1).toNat * 2)) = some (.int .i64 ((rd_T86 t107 x6_1).f0)) ∧ w'.cell? ⟨(ad113.add ((x6_1).toNat * 2)).block, (ad113.add ((x6_1).toNat * 2)).off + 1, none⟩ = some (.int .i64 ((rd_T86 t107 x6_1).f1)) ∧ w'.cell? (ad114.add ((x7_1).toNat * 2)) = some (.int .i64 ((rd_T86 t110 x7_1).f0)) ∧ w'.cell? ⟨(ad114.add ((x7_1).toNat * 2)).block, (ad114.add ((x7_1).toNat * 2)).off + 1, none⟩ = some (.int .i64 ((rd_T86 t110 x7_1).f1))) (ds := []) (ab 25 0) (by kernel_rfl) rfl rfl ⟨hx113_0, hx113_1, hx114_0, hx114_1, hx115_0, hx115_1, hx116_0, hx116_1⟩ (fun hHeld => ?_); refine with_tabW sets_Meet.tab5 sets_Meet.bits5 (fun HT_ HW_ => ?_); generalize wc.drew = w50 at HO_0 HO_1 HO_5 HB hx113_0 hx113_1 hx114_0 hx114_1 hx115_0 hx115_1 hx116_0 hx116_1 hHeld ⊢; refine pA 0 23 25 1 ?_; refine pA 1 24 25 3 ?_; refine pA 2 25 25 7 ?_; refine pA 3 26 25 15 ?_; refine pA 5 28 25 47 ?_; refine pA 6 29 25 111 ?_; refine pA 7 30 25 239 ?_; refine pA 8 31 25 495 ?_; refine pA 11 34 25 2543 ?_; refine pA 12 35 25 6639 ?_; refine pA 13 36 25 14831 ?_; refine pA 14 37 25 31215 ?_; refine pA 16 39 25 96751 ?_; refine pA 17 40 25 227823 ?_; refine pA 18 41 25 489967 ?_; refine pA 19 42 25 1014255 ?_; refine tB 4 27 25 1014271 ?_; refine tB 9 32 25 1014783 ?_; refine pA 10 33 25 1015807 ?_; refine tB 15 38 25 1048575 ?_; refine tB 20 43 25 2097151 ?_; refine pA 21 44 25 4194303 ?_; refine pA 22 45 25 8388607 ?_; refine oA 23 (some 8) 25 16777215 fun K hK => ?_; refine bxs_ 8 #[.int .i64 0, .int .i64 0] 86 ?_; intro gb117 hg w53 hbox hb; have NE0_ : ad113.block ≠ gb117 := (by have h_ := World.block_lt_of_cell? _ _ hHeld.1; rw [add_block] at h_; omega); have NE1_ : ad114.block ≠ gb117 := (by have h_ := World.block_lt_of_cell? _ _ hHeld.2.2.1; rw [add_block] at h_; omega); have HS0_ := (hb.cell (World.block_lt_of_cell? _ _ (hHeld.1))).trans (hHeld.1); have HS1_ := (hb.cell (World.block_lt_of_cell? _ _ (hHeld.2.1))).trans (hHeld.2.1); have HS2_ := (hb.cell (World.block_lt_of_cell? _ _ (hHeld.2.2.1))).trans (hHeld.2.2.1); have HS3_ := (hb.cell (World.block_lt_of_cell? _ _ (hHeld.2.2.2.1))).trans (hHeld.2.2.2.1); have HS4_ := (hb.cell (World.block_lt_of_cell? _ _ (hHeld.2.2.2.2.1))).trans (hHeld.2.2.2.2.1); have HS5_ := (hb.cell (World.block_lt_of_cell? _ _ (hHeld.2.2.2.2.2.1))).trans (hHeld.2.2.2.2.2.1)
            have HS6_ := (hb.cell (World.block_lt_of_cell? _ _ (hHeld.2.2.2.2.2.2.1))).trans (hHeld.2.2.2.2.2.2.1); have HS7_ := (hb.cell (World.block_lt_of_cell? _ _ (hHeld.2.2.2.2.2.2.2))).trans (hHeld.2.2.2.2.2.2.2); replace HO_0 := eV_ HO_0 hg hb; replace HO_1 := eV_ HO_1 hg hb; replace HO_5 := A_ (Kd.R_below (Kd.R_elderB (hrR_ HO_5.out) gb117 (Nat.le_of_eq hg.symm)) hb); have BK117 := A_ (hbox); have GW117 := gs_ w hg; have GE117 := gs_ w hg; replace HB := bs_ hb; clear hb hbox hg; refine hK.out _ _ ⟨HS0_, HS1_, HS2_, HS3_, HS4_, HS5_, HS6_, HS7_⟩ (fun hHeld => ?_); clear hK K; refine nA ?_; refine oA 24 none 25 33554431 fun K hK => ?_; have hs54 : w53.cell? ⟨gb117, 0, none⟩ = some (.int .i64 0) := bq_ BK117 0; have hfs54 := blk_frozen BK117.out 0; have hs55 : w53.cell? ⟨gb117, 1, none⟩ = some (.int .i64 0) := bq_ BK117 1; have hfs55 := blk_frozen BK117.out 1; refine sA ?_; refine hK.out _ _ ⟨((cell_far (p := ⟨gb117, _, none⟩) (ne_ NE0_) _).trans (((cell_far (p := ⟨gb117, _, none⟩) (ne_ NE0_) _).trans (hHeld.1)))), ((cell_far (p := ⟨gb117, _, none⟩) (ne_ NE0_) _).trans (((cell_far (p := ⟨gb117, _, none⟩) (ne_ NE0_) _).trans (hHeld.2.1)))), ((cell_far (p := ⟨gb117, _, none⟩) (ne_ NE1_) _).trans (((cell_far (p := ⟨gb117, _, none⟩) (ne_ NE1_) _).trans (hHeld.2.2.1)))), ((cell_far (p := ⟨gb117, _, none⟩) (ne_ NE1_) _).trans (((cell_far (p := ⟨gb117, _, none⟩) (ne_ NE1_) _).trans (hHeld.2.2.2.1)))), ((cell_far (p := ⟨gb117, _, none⟩) (ne_ NE0_) _).trans (((cell_far (p := ⟨gb117, _, none⟩) (ne_ NE0_) _).trans (hHeld.2.2.2.2.1)))), ((cell_far (p := ⟨gb117, _, none⟩) (ne_ NE0_) _).trans (((cell_far (p := ⟨gb117, _, none⟩) (ne_ NE0_) _).trans (hHeld.2.2.2.2.2.1)))), ((cell_far (p := ⟨gb117, _, none⟩) (ne_ NE1_) _).trans (((cell_far (p := ⟨gb117, _, none⟩) (ne_ NE1_) _).trans (hHeld.2.2.2.2.2.2.1)))), ((cell_far (p := ⟨gb117, _, none⟩) (ne_ NE1_) _).trans (((cell_far (p := ⟨gb117, _, none⟩) (ne_ NE1_) _).trans (hHeld.2.2.2.2.2.2.2))))⟩ (fun hHeld => ?_)
            clear hK K; refine done_ (done_of HT_.out (by kernel_rfl)) ?_; have Z56 := bz2_ BK117; (try go_wp2); have n0_ : Aside0 (Kd.V k86 86 ((w53.setCell ⟨gb117, 0, none⟩ (.int .i64 ji17)).setCell ⟨gb117, 1, none⟩ (.int .i64 ji18)) w.heap.size (fun k_ => nv_ k_ u5 ∧ k_ ≠ gb117) (.slice (some ad113) t107.length co51) t107) := ⟨fpV_ HO_0.out⟩; have n1_ : Aside0 (Kd.V k86 86 ((w53.setCell ⟨gb117, 0, none⟩ (.int .i64 ji17)).setCell ⟨gb117, 1, none⟩ (.int .i64 ji18)) w.heap.size (fun k_ => nv_ k_ u5 ∧ k_ ≠ gb117) (.slice (some ad114) t110.length co52) t110) := ⟨fpV_ HO_1.out⟩; have n2_ : Aside0 (Kd.R k86 86 ((w53.setCell ⟨gb117, 0, none⟩ (.int .i64 ji17)).setCell ⟨gb117, 1, none⟩ (.int .i64 ji18)) w.heap.size (fun k_ => k_ ≠ gb117) u5 x5_1) := ⟨fpR_ HO_5.out⟩; have n3_ : Aside0 (((w53.setCell ⟨gb117, 0, none⟩ (.int .i64 ji17)).setCell ⟨gb117, 1, none⟩ (.int .i64 ji18)).heap[gb117]? = some (.cells #[.int .i64 ji17, .int .i64 ji18] 86 (0, 0))) := ⟨pb_ BK117.out⟩; have n4_ : Aside0 (Below w.heap.size w ((w53.setCell ⟨gb117, 0, none⟩ (.int .i64 ji17)).setCell ⟨gb117, 1, none⟩ (.int .i64 ji18))) := ⟨hs_⟩; (try clear HO_0); (try clear HO_1); (try clear HO_5); (try clear BK117); (try clear HB); generalize ((w53.setCell ⟨gb117, 0, none⟩ (.int .i64 ji17)).setCell ⟨gb117, 1, none⟩ (.int .i64 ji18)) = w57 at n0_ n1_ n2_ n3_ n4_ ⊢; have HO_0 := n0_; have HO_1 := n1_; have HO_5 := n2_; have BK117 := n3_; have HB := n4_; clear n0_ n1_ n2_ n3_ n4_; replace HO_0 := A_ (Kd.V_drew HO_0.out); replace HO_1 := A_ (Kd.V_drew HO_1.out); replace HO_5 := A_ (Kd.R_drew HO_5.out); replace BK117 := A_ (blk_drew BK117.out); replace HB := A_ (below_drew1 HB.out); have p123 : 0 ≤ (x6_1 : Int) := od_; have q123 : x6_1 < (t107.length : Int) := od_; obtain ⟨ad123, e123, hx123_0, hx123_1⟩ := at_T86 (Kd.V_reads' HO_0.out).2.2 x6_1 p123 q123; obtain rfl : ad113 = ad123 := (by injection e123); replace p123 := eq_true p123; replace q123 := eq_true q123; have p124 : 0 ≤ (x7_1 : Int) := od_; have q124 : x7_1 < (t110.length : Int) := od_; obtain ⟨ad124, e124, hx124_0, hx124_1⟩ := at_T86 (Kd.V_reads' HO_1.out).2.2 x7_1 p124 q124
            obtain rfl : ad114 = ad124 := (by injection e124); replace p124 := eq_true p124; replace q124 := eq_true q124; refine start_ (n := 11) (S := fun w' => w'.cell? (ad113.add ((x6_1).toNat * 2)) = some (.int .i64 ((rd_T86 t107 x6_1).f0)) ∧ w'.cell? ⟨(ad113.add ((x6_1).toNat * 2)).block, (ad113.add ((x6_1).toNat * 2)).off + 1, none⟩ = some (.int .i64 ((rd_T86 t107 x6_1).f1)) ∧ w'.cell? (ad114.add ((x7_1).toNat * 2)) = some (.int .i64 ((rd_T86 t110 x7_1).f0)) ∧ w'.cell? ⟨(ad114.add ((x7_1).toNat * 2)).block, (ad114.add ((x7_1).toNat * 2)).off + 1, none⟩ = some (.int .i64 ((rd_T86 t110 x7_1).f1))) (ds := []) (ab 11 0) (by kernel_rfl) rfl rfl ⟨hx123_0, hx123_1, hx124_0, hx124_1⟩ (fun hHeld => ?_); refine with_tabW sets_Meet.tab8 sets_Meet.bits8 (fun HT_ HW_ => ?_); generalize w57.drew = w58 at HO_0 HO_1 HO_5 BK117 HB hx123_0 hx123_1 hx124_0 hx124_1 hHeld ⊢; refine pA 0 55 11 1 ?_; refine pA 1 56 11 3 ?_; refine pA 2 57 11 7 ?_; refine pA 3 58 11 15 ?_; refine pA 5 60 11 47 ?_; refine pA 6 61 11 111 ?_; refine pA 7 62 11 239 ?_; refine pA 8 63 11 495 ?_; refine tB 4 59 11 511 ?_; refine tB 9 64 11 1023 ?_; refine pA 10 65 11 2047 ?_; refine done_ (done_of HT_.out (by kernel_rfl)) ?_; (try go_wp2); go_roundg kj6
            case measure => have := HK1.out; have := HJ6.out; omega
            case rel => exact ⟨(x5_1), (x6_1), (wrap64 (x7_1 + 1)), rf_, rf_, H', ⟨by have := HK1.out; have := HJ6.out; omega⟩, ⟨by (with_reducible repeat (first | apply Kd.V_alloc | apply Kd.V_drewN | apply Kd.V_drew)); exact Kd.V_mono HO_0.out (fun _ hk => hk.1)⟩, ⟨by (with_reducible repeat (first | apply Kd.V_alloc | apply Kd.V_drewN | apply Kd.V_drew)); exact Kd.V_mono HO_1.out (fun _ hk => hk.1)⟩, ⟨by (with_reducible repeat (first | apply Kd.R_alloc | apply Kd.R_drewN | apply Kd.R_drew)); exact Kd.R_mono HO_5.out (fun _ hk => trivial)⟩, ⟨hs_⟩⟩
         ·rw [if_neg c16] at H
          exact absurd H (by simp)
        ·rw [if_neg c15] at H
         exact absurd H (by simp)
       ·rw [if_neg c14] at H
        exact absurd H (by simp)
      ·rw [if_neg c13] at H
       exact absurd H (by simp)
     ·replace c12 := Bool.eq_false_iff.mpr c12
      subst c12; replace H := iN_ H; obtain rfl := Option.some.inj H; go_wp2; (try rw [Exit.noGoto_ret]); go_ret; exact ⟨_, by first | rfl | (simp [errW_none, errW_some] <;> rfl) | (simp [*, errW_none, errW_some] <;> rfl), fxR_ HO_5.out, hs_⟩
end Go.Proofs.Ytfehdlkklfcnpaa.A
namespace Go.Proofs.Ytfehdlkklfcnpaa.A
open Go.RowKit Go.Proofs.YtfehdlkklfcnpaaW.PrintWords Go.Proofs.YtfehdlkklfcnpaaW.PrintLast Go.Proofs.YtfehdlkklfcnpaaW.PrintMore
attribute [local go_sem] max2_int min2_int max_two min_two max_three min_three max_four min_four
attribute [local go_sem high] eqA23
set_option maxHeartbeats 8000000 in
set_option maxRecDepth 100000 in
theorem sets_Clip.calls (k : Nat) (A0 : Option Addr) (c0 : Nat) (l0 : List (S86)) (a1 a2 : Int) (r : List (S86)) (w : World) (hr0 : Kd.C k86 w A0 l0.length l0) (hc0 : l0.length ≤ c0) (h : sets_Clip.f k l0 a1 a2 = some r) :
  Calls Try.prog 82 #[.slice A0 l0.length c0, .int .i64 a1, .int .i64 a2] w fun e w' => ∃ v0_ : Value, e = .returned (v0_) ∧ Kd.R k86 86 w' w.heap.size (fun _ => True) v0_ r ∧ Below w.heap.size w w' := by
 have hu86 := Try.underlying86; have HR0 := A_ hr0; have HC0 := A_ hc0; clear hr0 hc0; have HB := A_ (Below.refl w.heap.size w); have H : ((sets_Meet.f k l0 (([(⟨a1, a2⟩ : S86)] : List (S86)))).bind fun t128 => (some t128)) = some r := h; clear h; obtain ⟨y125, hy125⟩ : ∃ y_ : List (S86), y_ = (([(⟨a1, a2⟩ : S86)] : List (S86))) := ⟨_, rfl⟩; (replace H : ((sets_Meet.f k l0 y125).bind fun t128 => (some t128)) = some r := hy_ hy125 H); have Ny125 := A_ hy125; clear hy125; obtain ⟨t128, A4, H⟩ := bi_ H; obtain rfl := Option.some.inj H; go_enter Try.func82, Try.ntmps82; go_wp2_with (first | (refine gD 11 ?_; refine Kd.R_lit k86 _ 86 ?hg (N := 11) ?hd (xs := ([(⟨a1, a2⟩ : S86)] : List (S86))) (inner := [.int .i64 a1, .int .i64 a2]) (ok := fun _ => True) (okp := fun _ => True) ?hr ?hp (fun _ hk => hk) trivial (Below.refl _ _) (Nat.le_refl _) (by simp) ?_; (case hd => rfl); (case hg => rfl); (case hr => first | (go_simp; done) | (go_simp; rfl)); (case hp => exact (Reps.c2 (show Kd.M k86 _ _ _ (⟨a1, a2⟩ : S86) [.int .i64 a1, .int .i64 a2] from (k86_mkM _ _ _ (⟨a1, a2⟩ : S86) )) (Reps.none _ _))); intro v126 w5 ho6 hb hg_ hnew_; clear hg_ hnew_; (first | rw [← Ny125.out] at ho6 | (simp only [Int.reduceToNat] at ho6; rw [← Ny125.out] at ho6)); have HO127 := A_ (Kd.R_lower ho6 (below_size hs_)); replace HB := bs_ hb; clear hb ho6; obtain ⟨Ao7, co7, eo7⟩ := Kd.R_slice HO127.out; subst eo7) | (refine gC 89 ?_; refine gL 12 Try.func89 #[.slice A0 l0.length c0, .slice Ao7 y125.length co7] ?_; (with_reducible refine (sets_Meet.calls k _ _ l0 _ _ y125 t128 _ ?side1 ?side2 ?side3 ?side4 A4.out).mono ?_); (case side1 => exact cb_ HR0); (case side2 => exact HC0.out); (case side3 => exact cr_ (Kd.R_reads' HO127.out).2.2); (case side4 => exact (Kd.R_reads' HO127.out).2.1); rintro e w8 ⟨v129, rfl, ho0, hb⟩; refine ⟨_, rfl, ?_⟩; have HO130 := A_ (Kd.R_lower (Kd.R_new' ho0 (Kd.R_lt (hrR_ HO127.out))) (below_size hs_)); replace HO127 := A_ (Kd.R_elder' (hrR_ HO127.out) (Kd.R_base ho0) hb); replace HB := bs_ hb; (try clear hb); (try clear ho0))); go_ret; exact ⟨_, by first | rfl | (simp [errW_none, errW_some] <;> rfl) | (simp [*, errW_none, errW_some] <;> rfl), by (with_reducible repeat (first | apply Kd.R_alloc | apply Kd.R_drewN | apply Kd.R_drew)); exact Kd.R_mono HO130.out (fun _ hk => trivial), hs_⟩
end Go.Proofs.Ytfehdlkklfcnpaa.A
namespace Go.Proofs.Ytfehdlkklfcnpaa.A
open Go.RowKit Go.Proofs.YtfehdlkklfcnpaaW.PrintWords Go.Proofs.YtfehdlkklfcnpaaW.PrintLast Go.Proofs.YtfehdlkklfcnpaaW.PrintMore
attribute [local go_sem] max2_int min2_int max_two min_two max_three min_three max_four min_four
attribute [local go_sem high] eqA23
attribute [local go_sem] isSome_setCell
set_option maxHeartbeats 8000000 in
set_option maxRecDepth 100000 in
theorem point_numbers.calls (k : Nat) (a0 : ByteArray) (a1 : Int) (r : List Int) (w : World) (h : point_numbers.f k a0 a1 = some r) :
  Calls Try.prog 72 #[.string a0, .int .i64 a1] w fun e w' => ∃ v0_ : Value, e = .returned (v0_) ∧ Kd.R (Kd.int .i64) 3 w' w.heap.size (fun _ => True) v0_ r ∧ Below w.heap.size w w' := by
 have hu86 := Try.underlying86; have HB := A_ (Below.refl w.heap.size w); have H : ((mask_Set.f a0).bind fun t131 => ((sets_Clip.f k t131 1 a1).bind fun t134 => (point_numbers.l0 k ([] : List Int) t134 (t134.length : Int) 0))) = some r := h; clear h; obtain ⟨t131, A3, H⟩ := bi_ H; obtain ⟨t134, A4, H⟩ := bi_ H; have H' := A_ H; clear H; go_enter Try.func72, Try.ntmps72; go_wp2_with (first | (refine gC 83 ?_; refine gL 10 Try.func83 #[.string a0] ?_; (with_reducible refine (mask_Set.calls a0 t131 _ A3.out).mono ?_); rintro e w5 ⟨v132, rfl, ho0, hb⟩; refine ⟨_, rfl, ?_⟩; have HO133 := A_ (Kd.R_lower ho0 (below_size hs_)); replace HB := bs_ hb; (try clear hb); (try clear ho0); obtain ⟨Ao6, co6, eo6⟩ := Kd.R_slice HO133.out; subst eo6) | (refine gC 82 ?_; refine gL 12 Try.func82 #[.slice Ao6 t131.length co6, .int .i64 1, .int .i64 a1] ?_; (with_reducible refine (sets_Clip.calls k _ _ t131 1 a1 t134 _ ?side1 ?side2 A4.out).mono ?_); (case side1 => exact cr_ (Kd.R_reads' HO133.out).2.2); (case side2 => exact (Kd.R_reads' HO133.out).2.1); rintro e w7 ⟨v135, rfl, ho0, hb⟩; refine ⟨_, rfl, ?_⟩; have HO136 := A_ (Kd.R_lower (Kd.R_new' ho0 (Kd.R_lt (hrR_ HO133.out))) (below_size hs_)); replace HO133 := A_ (Kd.R_elder' (hrR_ HO133.out) (Kd.R_base ho0) hb); replace HB := bs_ hb; (try clear hb); (try clear ho0); obtain ⟨Ao8, co8, eo8⟩ := Kd.R_slice HO136.out; subst eo8)); go_loopg [5, 14] k (fun kq v5 v14 w' => ∃ (x5_1 : List Int) (x14_1 : Int), v14 = .int .i64 x14_1 ∧ Aside0 (point_numbers.l0 kq x5_1 t134 (t134.length : Int) x14_1 = some r) ∧ Aside0 (kq ≤ k) ∧ Aside0 (Kd.R (Kd.int .i64) 3 w' w.heap.size (fun _ => True) v5 x5_1) ∧ Aside0 (Kd.R k86 86 w' w.heap.size (fun _ => True) (.slice Ao8 t134.length co8) t134) ∧ Aside0 (Below w.heap.size w w'))
 case atStart => exact ⟨(([] : List Int)), (0), rf_, H', ⟨Nat.le_refl _⟩, ⟨by first | exact Kd.R_nil _ _ _ _ _ | exact Kd.N_nil _ _ _ _ _ | exact Kd.V_nil _ _ _ _ _ | exact Kd.Q_nil _ _ _ _ _ | exact Kd.S_nil _ _ _ _ _⟩, ⟨by (with_reducible repeat (first | apply Kd.R_alloc | apply Kd.R_drewN | apply Kd.R_drew)); exact Kd.R_mono HO136.out (fun _ hk => trivial)⟩, ⟨hs_⟩⟩
 case round =>
  clear H'; (try clear p2); (try clear c7); (try clear c8); obtain ⟨x5_1, x14_1, rfl, HA, HK1, HO_5, HO_12, HB⟩ := hrel
  cases gk with
  | zero => exact absurd HA.out (by simp [point_numbers.l0])
  | succ k1 =>
   have H := HA.out; clear HA; simp only [point_numbers.l0] at H
   by_cases c9 : x14_1 < (t134.length : Int)
   ·rw [if_pos c9] at H
    have c9b0 := decide_eq_true c9; clear c9
    by_cases c10 : 0 ≤ x14_1
    ·rw [if_pos c10] at H
     have c10b0 := decide_eq_true c10; clear c10
     by_cases c11 : x14_1 < (t134.length : Int)
     ·rw [if_pos c11] at H
      have c11b0 := decide_eq_true c11; clear c11; have H' := A_ H; clear H; have p137 : 0 ≤ (x14_1 : Int) := od_; have q137 : x14_1 < (t134.length : Int) := od_; obtain ⟨ad137, e137, hx137_0, hx137_1⟩ := at_T86 (Kd.R_reads' HO_12.out).2.2 x14_1 p137 q137
      cases e137
      replace p137 := eq_true p137; replace q137 := eq_true q137; go_wp2_with (first | (refine gD 7 ?_; refine bxe_ 7 #[.int .i64 0, .int .i64 0] 86 ?_; intro gb138 hg w12 hbox hb; replace HO_5 := A_ (Kd.R_below (hrR_ HO_5.out) hb); replace HO_12 := A_ (Kd.R_below (Kd.R_elderB (hrR_ HO_12.out) gb138 (Nat.le_of_eq hg.symm)) hb); have BK138 := A_ (hbox); have GW138 := gs_ w hg; have GE138 := gs_ w hg; replace HB := bs_ hb; clear hb hbox hg; have Z13 := bz2_ BK138)); go_loopg [5, 8] k1 (fun kq v5 v8 w' => ∃ (x5_2 : List Int) (x8_2 : Int), v8 = .int .i64 x8_2 ∧ Aside0 (point_numbers.l1 kq x5_2 x8_2 t134 (t134.length : Int) x14_1 ((rd_T86 t134 x14_1).f0) ((rd_T86 t134 x14_1).f1) = some r) ∧ Aside0 (kq ≤ k1) ∧ Aside0 (Kd.R (Kd.int .i64) 3 w' w.heap.size (fun _ => True) v5 x5_2) ∧ Aside0 (Kd.R k86 86 w' w.heap.size (fun k_ => k_ ≠ gb138) (.slice (some ad137) t134.length co8) t134) ∧ Aside0 (w'.heap[gb138]? = some (.cells #[.int .i64 ((rd_T86 t134 x14_1).f0), .int .i64 ((rd_T86 t134 x14_1).f1)] 86 (0, 0))) ∧ Aside0 (Below w.heap.size w w'))
      case atStart => exact ⟨(x5_1), ((rd_T86 t134 x14_1).f0), rf_, H', ⟨Nat.le_refl _⟩, ⟨by (with_reducible repeat (first | apply Kd.R_alloc | apply Kd.R_drewN | apply Kd.R_drew)); exact Kd.R_mono (Kd.R_far (p := ⟨gb138, 1, none⟩) (Kd.R_far (p := ⟨gb138, 0, none⟩) (Kd.R_types HO_5.out BK138.out (by decide)) (fun _ hk => hk.2) (.int .i64 ((rd_T86 t134 x14_1).f0))) (fun _ hk => hk.2) (.int .i64 ((rd_T86 t134 x14_1).f1))) (fun _ hk => trivial)⟩, ⟨fpR_ HO_12.out⟩, ⟨pb_ BK138.out⟩, ⟨hs_⟩⟩
      case round =>
       clear H'; (try clear c1); (try clear p1); (try clear q1); (try clear hx1); (try clear p2); (try clear c7); (try clear c8); (try clear c9); (try clear c9b0); (try clear c10); (try clear c10b0); (try clear c11); (try clear c11b0); (try clear p13); (try clear q13); (try clear hx13); (try clear Z13); (try clear hx137_0); (try clear hx137_1); (try clear p137); (try clear p2); (try clear q137); obtain ⟨x5_2, x8_2, rfl, HA, HK2, HO_5, HO_12, BK138, HB⟩ := hrel
       cases gk with
       | zero => exact absurd HA.out (by simp [point_numbers.l1])
       | succ k2 =>
        have H := HA.out; clear HA; simp only [point_numbers.l1] at H
        by_cases c14 : x8_2 ≤ ((rd_T86 t134 x14_1).f1)
        ·rw [if_pos c14] at H
         have c14b0 := decide_eq_true c14; clear c14
         by_cases c15 : x5_2.length < 17592186044416
         ·rw [if_pos c15] at H
          have LMc15 := A_ c15; clear c15; obtain ⟨y139, hy139⟩ : ∃ y_ : List Int, y_ = (x5_2 ++ [x8_2]) := ⟨_, rfl⟩; (replace H : (point_numbers.l1 k2 y139 (wrap64 (x8_2 + 1)) t134 (t134.length : Int) x14_1 ((rd_T86 t134 x14_1).f0) ((rd_T86 t134 x14_1).f1)) = some r := hy_ hy139 H); have Ny139 := A_ hy139; clear hy139; have H' := A_ H; clear H; have Z16 := bz2_ BK138; go_wp2_with (first | ((with_reducible refine gate_builtin (b := .append) (xs := #[.tmp 26, .tmp 28]) rfl ?_); at_builtin; refine Kd.R_append (Kd.int .i64) (w0 := w) w.heap.size rfl (.tmp 26) (.tmp 28) 66 3 (.int .i64 0) 8 rfl Try.underlying66 info3 rfl (by decide) (by omega) u5 x5_2 x8_2 [.int .i64 x8_2] (fun _ => True) (fun _ => False) rfl rfl ?aP (fun _ hk => hk.elim) ?aF ?aO ?aB ?aS ?aL ?_; (case aP => exact rfl); (case aB => exact hs_); (case aF => exact (fun _ _ => trivial)); (case aO => exact (hrR_ HO_5.out)); (case aS => exact (below_size hs_)); (case aL => have := LMc15.out; omega); intro v140 w17 ho hb hg hat; rw [← Ny139.out] at ho; replace HO_12 := A_ (Kd.R_over' (hrR_ HO_12.out) (Kd.R_typed (hrR_ HO_5.out)) (by decide) hg); replace BK138 := A_ (blk_grown (g := gb138) (o := .cells #[.int .i64 ((rd_T86 t134 x14_1).f0), .int .i64 ((rd_T86 t134 x14_1).f1)] 86 (0, 0)) (bl_ BK138.out) hg (Kd.R_ne HO_5.out BK138.out (by decide))); replace HB := A_ (hb); have HO141 := A_ (ho); clear HO_5; clear ho hb hg hat)); go_roundg k2
          case measure => have := HK1.out; have := HK2.out; omega
          case rel => exact ⟨(y139), (wrap64 (x8_2 + 1)), rf_, H', ⟨by have := HK1.out; have := HK2.out; omega⟩, ⟨fxR_ HO141.out⟩, ⟨fxR_ HO_12.out⟩, ⟨bl_ BK138.out⟩, ⟨hs_⟩⟩
         ·rw [if_neg c15] at H
          exact absurd H (by simp)
        ·rw [if_neg c14] at H
         have c14b0 := decide_eq_false c14; clear c14; have H' := A_ H; clear H; have Z18 := bz2_ BK138; go_wp2; go_roundg k2
         case measure => have := HK1.out; have := HK2.out; omega
         case rel => exact ⟨(x5_2), (wrap64 (x14_1 + 1)), rf_, H', ⟨by have := HK1.out; have := HK2.out; omega⟩, ⟨fxR_ HO_5.out⟩, ⟨by (with_reducible repeat (first | apply Kd.R_alloc | apply Kd.R_drewN | apply Kd.R_drew)); exact Kd.R_mono HO_12.out (fun _ hk => trivial)⟩, ⟨hs_⟩⟩
     ·rw [if_neg c11] at H
      exact absurd H (by simp)
    ·rw [if_neg c10] at H
     exact absurd H (by simp)
   ·rw [if_neg c9] at H
    have c9b0 := decide_eq_false c9; clear c9; obtain rfl := Option.some.inj H; go_wp2; go_ret; exact ⟨_, by first | rfl | (simp [errW_none, errW_some] <;> rfl) | (simp [*, errW_none, errW_some] <;> rfl), fxR_ HO_5.out, hs_⟩
set_option maxHeartbeats 8000000 in
set_option maxRecDepth 100000 in
theorem point_some.calls (k : Nat) (a0 : ByteArray) (a1 a2 : Int) (r : Bool) (w : World) (h : point_some.f k a0 a1 a2 = some r) :
  Calls Try.prog 56 #[.string a0, .int .i64 a1, .int .i64 a2] w fun e w' => e = .returned (.bool r) ∧ Below w.heap.size w w' := by
 have HB := A_ (Below.refl w.heap.size w); have H : (if (a0.size : Int) = a1 then ((point_numbers.f k a0 a2).bind fun t142 => (some (decide ((t142.length : Int) > 0)))) else (some false)) = some r := h; clear h
 by_cases c4 : (a0.size : Int) = a1
 ·rw [if_pos c4] at H
  have c4b0 : ((a0.size : Int) == a1) = true := beq_iff_eq.mpr c4; have c4b1 : ((a0.size : Int) != a1) = false := bne_eq_false_iff_eq.mpr c4; clear c4; obtain ⟨t142, A5, H⟩ := bi_ H; obtain rfl := Option.some.inj H; go_enter Try.func56, Try.ntmps56; go_wp2_with (first | (go_at_call 72; (with_reducible refine (point_numbers.calls k a0 a2 t142 _ A5.out).mono ?_); rintro e w6 ⟨v143, rfl, ho0, hb⟩; have HO144 := A_ (Kd.R_lower ho0 (below_size hs_)); replace HB := bs_ hb; (try clear hb); (try clear ho0); obtain ⟨Ao7, co7, eo7⟩ := Kd.R_slice HO144.out; subst eo7)); go_ret; exact ⟨re_, hs_⟩
 ·rw [if_neg c4] at H
  have c4b0 : ((a0.size : Int) == a1) = false := beq_eq_false_iff_ne.mpr c4; have c4b1 : ((a0.size : Int) != a1) = true := bne_iff_ne.mpr c4; obtain rfl := Option.some.inj H; go_enter Try.func56, Try.ntmps56; go_wp2; go_ret; exact ⟨re_, hs_⟩
set_option maxHeartbeats 8000000 in
set_option maxRecDepth 100000 in
theorem point_Sane.calls (k : Nat) (a0_0 : Int) (a0_1 a0_2 a0_3 : ByteArray) (r : Bool) (w : World) (h : point_Sane.f k a0_0 a0_1 a0_2 a0_3 = some r) :
  Calls Try.prog 29 #[.agg #[.int .i64 a0_0, .string a0_1, .string a0_2, .string a0_3]] w fun e w' => e = .returned (.bool r) ∧ Below w.heap.size w w' := by
 have hu23 := Try.underlying23; have HB := A_ (Below.refl w.heap.size w); have H : ((mask_Sane.f a0_1).bind fun t146 => (if t146 = true then (if a0_2.toList = ([] : List UInt8) then (point_Sane.j0 k (a0_3.toList == ([] : List UInt8)) a0_0 a0_1 a0_2 a0_3) else (point_Sane.j0 k false a0_0 a0_1 a0_2 a0_3)) else (some false))) = some r := h; clear h; obtain ⟨t146, A2, H⟩ := bi_ H
 by_cases c3 : t146 = true
 ·subst c3
  replace H := iP_ H; have HC4 := A_ H; clear H; go_enter Try.func29, Try.ntmps29; go_upto_region 3 with (first | (refine gx_ w 1 (n4_ a0_0 a0_1 a0_2 a0_3) 23 ?_; clear HB; intro gb145 w5 BK145 GE145 HB; have GW145 := GE145; have Z6 := bz4_ BK145) | (refine gC 55 ?_; refine gL 6 Try.func55 #[.string a0_1] ?_; (with_reducible refine (mask_Sane.calls a0_1 true _ A2.out).mono ?_); rintro e w7 ⟨rfl, hb⟩; refine ⟨_, rfl, ?_⟩; replace BK145 := bb_ BK145 hb; replace HB := bs_ hb; (try clear hb))); (try simp only [Act.put, List.setIfInBounds_toArray, List.set_cons_zero, List.set_cons_succ]); go_cut [3] (fun v3 wc => ∃ (kq : Nat) (x3_3 : Bool), v3 = .bool x3_3 ∧ Aside0 (point_Sane.j0 kq x3_3 a0_0 a0_1 a0_2 a0_3 = some r) ∧ Aside0 (kq ≤ k) ∧ Aside0 (wc.heap[gb145]? = some (.cells (n4_ a0_0 a0_1 a0_2 a0_3) 23 (0, 0))) ∧ Aside0 (Below w.heap.size w wc))
  case first =>
   have H := HC4.out; clear HC4
   by_cases c8 : a0_2.toList = ([] : List UInt8)
   ·rw [if_pos c8] at H
    have c8b0 : (a0_2.toList == ([] : List UInt8)) = true := beq_iff_eq.mpr c8; have c8b1 : (a0_2.toList != ([] : List UInt8)) = false := bne_eq_false_iff_eq.mpr c8; clear c8; (first | rw [c8b0] | (simp only [i64_w, i32_w]; rw [c8b0]) | skip); have H' := A_ H; clear H; have Z9 := bz4_ BK145; go_wp2; go_meet
    case rel => exact ⟨_, ((a0_3.toList == ([] : List UInt8))), rf_, H', ⟨by first | omega | exact Nat.le_refl _⟩, ⟨bl_ BK145.out⟩, ⟨hs_⟩⟩
   ·rw [if_neg c8] at H
    have c8b0 : (a0_2.toList == ([] : List UInt8)) = false := beq_eq_false_iff_ne.mpr c8; have c8b1 : (a0_2.toList != ([] : List UInt8)) = true := bne_iff_ne.mpr c8; (first | rw [c8b0] | (simp only [i64_w, i32_w]; rw [c8b0]) | skip); have H' := A_ H; clear H; have Z10 := bz4_ BK145; go_wp2; go_meet
    case rel => exact ⟨_, (false), rf_, H', ⟨by first | omega | exact Nat.le_refl _⟩, ⟨bl_ BK145.out⟩, ⟨hs_⟩⟩
  case rest =>
   clear HC4; (try clear c2); (try clear p2); (try clear c3); (try clear c5); (try clear c8); (try clear c8b0); (try clear c8b1); (try clear Z10); (try clear Z6); (try clear Z9); obtain ⟨kq, x3_3, rfl, HA, HJ3, BK145, HB⟩ := hcut
   cases kq with
   | zero => exact absurd HA.out (by simp [point_Sane.j0])
   | succ kj3 =>
    have H := HA.out; clear HA; simp only [point_Sane.j0] at H
    by_cases c11 : a0_0 = 0
    ·rw [if_pos c11] at H
     have c11b0 : (a0_0 == 0) = true := beq_iff_eq.mpr c11; have c11b1 : (a0_0 != 0) = false := bne_eq_false_iff_eq.mpr c11; clear c11
     by_cases c12 : (a0_1.size : Int) = 4
     ·rw [if_pos c12] at H
      have c12b0 : ((a0_1.size : Int) == 4) = true := beq_iff_eq.mpr c12; have c12b1 : ((a0_1.size : Int) != 4) = false := bne_eq_false_iff_eq.mpr c12; clear c12; obtain ⟨t147, A13, H⟩ := bi_ H
      by_cases c14 : t147 = true
      ·subst c14
       replace H := iP_ H; obtain ⟨t148, A15, H⟩ := bi_ H; obtain rfl := Option.some.inj H; have Z16 := bz4_ BK145; go_wp2_with (first | (go_at_call 56; (with_reducible refine (point_some.calls kj3 a0_2 2 12 true _ A13.out).mono ?_); rintro e w17 ⟨rfl, hb⟩; replace BK145 := bb_ BK145 hb; replace HB := bs_ hb; (try clear hb); have Z18 := bz4_ BK145) | (go_at_call 56; (with_reducible refine (point_some.calls kj3 a0_3 2 31 t148 _ A15.out).mono ?_); rintro e w19 ⟨rfl, hb⟩; replace BK145 := bb_ BK145 hb; replace HB := bs_ hb; (try clear hb))); go_ret; exact ⟨re_, hs_⟩
      ·replace c14 := Bool.eq_false_iff.mpr c14
       subst c14; replace H := iN_ H; obtain rfl := Option.some.inj H; have Z20 := bz4_ BK145; go_wp2_with (first | (go_at_call 56; (with_reducible refine (point_some.calls kj3 a0_2 2 12 false _ A13.out).mono ?_); rintro e w21 ⟨rfl, hb⟩; replace BK145 := bb_ BK145 hb; replace HB := bs_ hb; (try clear hb))); go_ret; exact ⟨re_, hs_⟩
     ·rw [if_neg c12] at H
      have c12b0 : ((a0_1.size : Int) == 4) = false := beq_eq_false_iff_ne.mpr c12; have c12b1 : ((a0_1.size : Int) != 4) = true := bne_iff_ne.mpr c12; obtain rfl := Option.some.inj H; have Z22 := bz4_ BK145; go_wp2; go_ret; exact ⟨re_, hs_⟩
    ·rw [if_neg c11] at H
     have c11b0 : (a0_0 == 0) = false := beq_eq_false_iff_ne.mpr c11; have c11b1 : (a0_0 != 0) = true := bne_iff_ne.mpr c11
     by_cases c23 : a0_0 = 1
     ·rw [if_pos c23] at H
      have c23b0 : (a0_0 == 1) = true := beq_iff_eq.mpr c23; have c23b1 : (a0_0 != 1) = false := bne_eq_false_iff_eq.mpr c23; clear c23
      by_cases c24 : (a0_1.size : Int) = 4
      ·rw [if_pos c24] at H
       have c24b0 : ((a0_1.size : Int) == 4) = true := beq_iff_eq.mpr c24; have c24b1 : ((a0_1.size : Int) != 4) = false := bne_eq_false_iff_eq.mpr c24; clear c24; obtain ⟨t149, A25, H⟩ := bi_ H
       by_cases c26 : t149 = true
       ·subst c26
        replace H := iP_ H; obtain rfl := Option.some.inj H; have Z27 := bz4_ BK145; go_wp2_with (first | (go_at_call 56; (with_reducible refine (point_some.calls kj3 a0_2 2 12 true _ A25.out).mono ?_); rintro e w28 ⟨rfl, hb⟩; replace BK145 := bb_ BK145 hb; replace HB := bs_ hb; (try clear hb); have Z29 := bz4_ BK145)); go_ret; exact ⟨re_, hs_⟩
       ·replace c26 := Bool.eq_false_iff.mpr c26
        subst c26; replace H := iN_ H; obtain rfl := Option.some.inj H; have Z30 := bz4_ BK145; go_wp2_with (first | (go_at_call 56; (with_reducible refine (point_some.calls kj3 a0_2 2 12 false _ A25.out).mono ?_); rintro e w31 ⟨rfl, hb⟩; replace BK145 := bb_ BK145 hb; replace HB := bs_ hb; (try clear hb))); go_ret; exact ⟨re_, hs_⟩
      ·rw [if_neg c24] at H
       have c24b0 : ((a0_1.size : Int) == 4) = false := beq_eq_false_iff_ne.mpr c24; have c24b1 : ((a0_1.size : Int) != 4) = true := bne_iff_ne.mpr c24; obtain rfl := Option.some.inj H; have Z32 := bz4_ BK145; go_wp2; go_ret; exact ⟨re_, hs_⟩
     ·rw [if_neg c23] at H
      have c23b0 : (a0_0 == 1) = false := beq_eq_false_iff_ne.mpr c23; have c23b1 : (a0_0 != 1) = true := bne_iff_ne.mpr c23
      by_cases c33 : a0_0 = 2
      ·rw [if_pos c33] at H
       have c33b0 : (a0_0 == 2) = true := beq_iff_eq.mpr c33; have c33b1 : (a0_0 != 2) = false := bne_eq_false_iff_eq.mpr c33; clear c33
       by_cases c34 : (a0_1.size : Int) = 4
       ·rw [if_pos c34] at H
        have c34b0 : ((a0_1.size : Int) == 4) = true := beq_iff_eq.mpr c34; have c34b1 : ((a0_1.size : Int) != 4) = false := bne_eq_false_iff_eq.mpr c34; clear c34; obtain ⟨t150, A35, H⟩ := bi_ H
        by_cases c36 : t150 = true
        ·subst c36
         replace H := iP_ H; obtain rfl := Option.some.inj H; have Z37 := bz4_ BK145; go_wp2_with (first | (go_at_call 56; (with_reducible refine (point_some.calls kj3 a0_2 1 4 true _ A35.out).mono ?_); rintro e w38 ⟨rfl, hb⟩; replace BK145 := bb_ BK145 hb; replace HB := bs_ hb; (try clear hb); have Z39 := bz4_ BK145)); go_ret; exact ⟨re_, hs_⟩
        ·replace c36 := Bool.eq_false_iff.mpr c36
         subst c36; replace H := iN_ H; obtain rfl := Option.some.inj H; have Z40 := bz4_ BK145; go_wp2_with (first | (go_at_call 56; (with_reducible refine (point_some.calls kj3 a0_2 1 4 false _ A35.out).mono ?_); rintro e w41 ⟨rfl, hb⟩; replace BK145 := bb_ BK145 hb; replace HB := bs_ hb; (try clear hb))); go_ret; exact ⟨re_, hs_⟩
       ·rw [if_neg c34] at H
        have c34b0 : ((a0_1.size : Int) == 4) = false := beq_eq_false_iff_ne.mpr c34; have c34b1 : ((a0_1.size : Int) != 4) = true := bne_iff_ne.mpr c34; obtain rfl := Option.some.inj H; have Z42 := bz4_ BK145; go_wp2; go_ret; exact ⟨re_, hs_⟩
      ·rw [if_neg c33] at H
       have c33b0 : (a0_0 == 2) = false := beq_eq_false_iff_ne.mpr c33; have c33b1 : (a0_0 != 2) = true := bne_iff_ne.mpr c33
       by_cases c43 : a0_0 = 3
       ·rw [if_pos c43] at H
        have c43b0 : (a0_0 == 3) = true := beq_iff_eq.mpr c43; have c43b1 : (a0_0 != 3) = false := bne_eq_false_iff_eq.mpr c43; clear c43
        by_cases c44 : (a0_1.size : Int) = 4
        ·rw [if_pos c44] at H
         have c44b0 : ((a0_1.size : Int) == 4) = true := beq_iff_eq.mpr c44; have c44b1 : ((a0_1.size : Int) != 4) = false := bne_eq_false_iff_eq.mpr c44; clear c44; obtain rfl := Option.some.inj H; have Z45 := bz4_ BK145; go_wp2; go_ret; exact ⟨re_, hs_⟩
        ·rw [if_neg c44] at H
         have c44b0 : ((a0_1.size : Int) == 4) = false := beq_eq_false_iff_ne.mpr c44; have c44b1 : ((a0_1.size : Int) != 4) = true := bne_iff_ne.mpr c44; obtain rfl := Option.some.inj H; have Z46 := bz4_ BK145; go_wp2; go_ret; exact ⟨re_, hs_⟩
       ·rw [if_neg c43] at H
        have c43b0 : (a0_0 == 3) = false := beq_eq_false_iff_ne.mpr c43; have c43b1 : (a0_0 != 3) = true := bne_iff_ne.mpr c43
        by_cases c47 : a0_0 = 4
        ·rw [if_pos c47] at H
         have c47b0 : (a0_0 == 4) = true := beq_iff_eq.mpr c47; have c47b1 : (a0_0 != 4) = false := bne_eq_false_iff_eq.mpr c47; clear c47
         by_cases c48 : (a0_1.size : Int) = 3
         ·rw [if_pos c48] at H
          have c48b0 : ((a0_1.size : Int) == 3) = true := beq_iff_eq.mpr c48; have c48b1 : ((a0_1.size : Int) != 3) = false := bne_eq_false_iff_eq.mpr c48; clear c48; obtain rfl := Option.some.inj H; have Z49 := bz4_ BK145; go_wp2; go_ret; exact ⟨re_, hs_⟩
         ·rw [if_neg c48] at H
          have c48b0 : ((a0_1.size : Int) == 3) = false := beq_eq_false_iff_ne.mpr c48; have c48b1 : ((a0_1.size : Int) != 3) = true := bne_iff_ne.mpr c48; obtain rfl := Option.some.inj H; have Z50 := bz4_ BK145; go_wp2; go_ret; exact ⟨re_, hs_⟩
        ·rw [if_neg c47] at H
         have c47b0 : (a0_0 == 4) = false := beq_eq_false_iff_ne.mpr c47; have c47b1 : (a0_0 != 4) = true := bne_iff_ne.mpr c47
         by_cases c51 : a0_0 = 5
         ·rw [if_pos c51] at H
          have c51b0 : (a0_0 == 5) = true := beq_iff_eq.mpr c51; have c51b1 : (a0_0 != 5) = false := bne_eq_false_iff_eq.mpr c51; clear c51
          by_cases c52 : (a0_1.size : Int) = 2
          ·rw [if_pos c52] at H
           have c52b0 : ((a0_1.size : Int) == 2) = true := beq_iff_eq.mpr c52; have c52b1 : ((a0_1.size : Int) != 2) = false := bne_eq_false_iff_eq.mpr c52; clear c52; obtain rfl := Option.some.inj H; have Z53 := bz4_ BK145; go_wp2; go_ret; exact ⟨re_, hs_⟩
          ·rw [if_neg c52] at H
           have c52b0 : ((a0_1.size : Int) == 2) = false := beq_eq_false_iff_ne.mpr c52; have c52b1 : ((a0_1.size : Int) != 2) = true := bne_iff_ne.mpr c52; obtain rfl := Option.some.inj H; have Z54 := bz4_ BK145; go_wp2; go_ret; exact ⟨re_, hs_⟩
         ·rw [if_neg c51] at H
          have c51b0 : (a0_0 == 5) = false := beq_eq_false_iff_ne.mpr c51; have c51b1 : (a0_0 != 5) = true := bne_iff_ne.mpr c51; obtain rfl := Option.some.inj H; have Z55 := bz4_ BK145; go_wp2; go_ret; exact ⟨re_, hs_⟩
 ·replace c3 := Bool.eq_false_iff.mpr c3
  subst c3; replace H := iN_ H; obtain rfl := Option.some.inj H; go_enter Try.func29, Try.ntmps29; go_wp2_with (first | (refine gx_ w 1 (n4_ a0_0 a0_1 a0_2 a0_3) 23 ?_; clear HB; intro gb145 w56 BK145 GE145 HB; have GW145 := GE145; have Z57 := bz4_ BK145) | (refine gC 55 ?_; refine gL 6 Try.func55 #[.string a0_1] ?_; (with_reducible refine (mask_Sane.calls a0_1 false _ A2.out).mono ?_); rintro e w58 ⟨rfl, hb⟩; refine ⟨_, rfl, ?_⟩; replace BK145 := bb_ BK145 hb; replace HB := bs_ hb; (try clear hb))); go_ret; exact ⟨re_, hs_⟩
set_option maxHeartbeats 8000000 in
set_option maxRecDepth 100000 in
theorem tree_bare.calls (a0_0 a0_1 : Int) (a0_2 a0_3 a0_4 : ByteArray) (a0_5 a0_6 : Bool) (A0_7 : Option Addr) (c0_7 : Nat) (l0_7 : List (S26)) (r : Bool) (w : World) (hr0_7 : Kd.C k26 w A0_7 l0_7.length l0_7) (hc0_7 : l0_7.length ≤ c0_7) (h : tree_bare.f a0_0 a0_1 a0_2 a0_3 a0_4 a0_5 a0_6 l0_7 = some r) :
  Calls Try.prog 49 #[.agg #[.int .i64 a0_0, .int .i64 a0_1, .string a0_2, .string a0_3, .string a0_4, .bool a0_5, .bool a0_6, .slice A0_7 l0_7.length c0_7]] w fun e w' => e = .returned (.bool r) ∧ Below w.heap.size w w' := by
 have hu26 := Try.underlying26; have hu23 := Try.underlying23; have HR0_7 := A_ hr0_7; have HC0_7 := A_ hc0_7; clear hr0_7 hc0_7; have HB := A_ (Below.refl w.heap.size w); have H : (if (a0_1 == 0 && (a0_2.toList == ([] : List UInt8) && (a0_3.toList == ([] : List UInt8) && (a0_4.toList == ([] : List UInt8))))) = true then (if a0_5 = true then (some false) else (some (!a0_6))) else (some false)) = some r := h; clear h
 by_cases c2 : (a0_1 == 0 && (a0_2.toList == ([] : List UInt8) && (a0_3.toList == ([] : List UInt8) && (a0_4.toList == ([] : List UInt8))))) = true
 ·rw [if_pos c2] at H
  have c2b0 : (a0_1 == 0 && (a0_2.toList == ([] : List UInt8) && (a0_3.toList == ([] : List UInt8) && (a0_4.toList == ([] : List UInt8))))) = true := c2; (try (have c2b9 : (a0_1 == 0 && (a0_2.toList.isEmpty && (a0_3.toList.isEmpty && (a0_4.toList.isEmpty)))) = true := by simpa using c2b0)); (try (have c2b1 : decide (a0_1 = 0 && (a0_2.toList == ([] : List UInt8) && (a0_3.toList == ([] : List UInt8) && (a0_4.toList == ([] : List UInt8))))) = true := by simpa using c2)); (try (have c2b2 : (a0_1 == 0 && (a0_2.toList == ([] : List UInt8) && (a0_3.toList == ([] : List UInt8) && (a0_4.toList == ([] : List UInt8))))) = true := by simpa using c2)); clear c2
  by_cases c3 : a0_5 = true
  ·subst c3
   replace H := iP_ H; obtain rfl := Option.some.inj H; go_enter Try.func49, Try.ntmps49; go_wp2_with (first | (refine gx_ w 1 (n8_ a0_0 a0_1 a0_2 a0_3 a0_4 true a0_6 (.slice A0_7 l0_7.length c0_7)) 26 ?_; clear HB; intro gb151 w4 BK151 GE151 HB; have GW151 := GE151; have Z5 := bz8_ BK151)); go_ret; exact ⟨re_, hs_⟩
  ·replace c3 := Bool.eq_false_iff.mpr c3
   subst c3; replace H := iN_ H; obtain rfl := Option.some.inj H; go_enter Try.func49, Try.ntmps49; go_wp2_with (first | (refine gx_ w 1 (n8_ a0_0 a0_1 a0_2 a0_3 a0_4 false a0_6 (.slice A0_7 l0_7.length c0_7)) 26 ?_; clear HB; intro gb151 w6 BK151 GE151 HB; have GW151 := GE151; have Z7 := bz8_ BK151)); go_ret; exact ⟨re_, hs_⟩
 ·rw [if_neg c2] at H
  (have c2b0 : (a0_1 == 0 && (a0_2.toList == ([] : List UInt8) && (a0_3.toList == ([] : List UInt8) && (a0_4.toList == ([] : List UInt8))))) = false := by simpa using c2); (try (have c2b9 : (a0_1 == 0 && (a0_2.toList.isEmpty && (a0_3.toList.isEmpty && (a0_4.toList.isEmpty)))) = false := by simpa using c2b0)); (try (have c2b1 : decide (a0_1 = 0 && (a0_2.toList == ([] : List UInt8) && (a0_3.toList == ([] : List UInt8) && (a0_4.toList == ([] : List UInt8))))) = false := by simpa using c2)); (try (have c2b2 : (a0_1 == 0 && (a0_2.toList == ([] : List UInt8) && (a0_3.toList == ([] : List UInt8) && (a0_4.toList == ([] : List UInt8))))) = false := by simpa using c2)); (try (have c2b3 : ¬ (a0_1 = 0 && (a0_2.toList == ([] : List UInt8) && (a0_3.toList == ([] : List UInt8) && (a0_4.toList == ([] : List UInt8))))) := by simpa using c2)); clear c2; obtain rfl := Option.some.inj H; go_enter Try.func49, Try.ntmps49; go_wp2_with (first | (refine gx_ w 1 (n8_ a0_0 a0_1 a0_2 a0_3 a0_4 a0_5 a0_6 (.slice A0_7 l0_7.length c0_7)) 26 ?_; clear HB; intro gb151 w8 BK151 GE151 HB; have GW151 := GE151; have Z9 := bz8_ BK151)); go_ret; exact ⟨re_, hs_⟩
set_option maxHeartbeats 8000000 in
set_option maxRecDepth 100000 in
theorem tree_End.calls (k : Nat) (a0_0 a0_1 : Int) (a0_2 a0_3 a0_4 : ByteArray) (a0_5 a0_6 : Bool) (A0_7 : Option Addr) (c0_7 : Nat) (l0_7 : List (S26)) (r : Bool) (w : World) (hr0_7 : Kd.C k26 w A0_7 l0_7.length l0_7) (hc0_7 : l0_7.length ≤ c0_7) (h : tree_End.f k a0_0 a0_1 a0_2 a0_3 a0_4 a0_5 a0_6 l0_7 = some r) :
  Calls Try.prog 20 #[.agg #[.int .i64 a0_0, .int .i64 a0_1, .string a0_2, .string a0_3, .string a0_4, .bool a0_5, .bool a0_6, .slice A0_7 l0_7.length c0_7]] w fun e w' => e = .returned (.bool r) ∧ Below w.heap.size w w' := by
 have hu26 := Try.underlying26; have hu23 := Try.underlying23; have HR0_7 := A_ hr0_7; have HC0_7 := A_ hc0_7; clear hr0_7 hc0_7; have HB := A_ (Below.refl w.heap.size w); have H : (if a0_0 = 0 then (if (l0_7.length : Int) = 0 then ((point_Sane.f k a0_1 a0_2 a0_3 a0_4).bind fun t153 => (some t153)) else (some false)) else (if a0_0 = 3 then (if (l0_7.length : Int) = 0 then ((tree_bare.f a0_0 a0_1 a0_2 a0_3 a0_4 a0_5 a0_6 l0_7).bind fun t154 => (some t154)) else (some false)) else (if a0_0 = 4 then (if (l0_7.length : Int) = 0 then ((tree_bare.f a0_0 a0_1 a0_2 a0_3 a0_4 a0_5 a0_6 l0_7).bind fun t155 => (some t155)) else (some false)) else (some false)))) = some r := h; clear h
 by_cases c2 : a0_0 = 0
 ·rw [if_pos c2] at H
  have c2b0 : (a0_0 == 0) = true := beq_iff_eq.mpr c2; have c2b1 : (a0_0 != 0) = false := bne_eq_false_iff_eq.mpr c2; clear c2
  by_cases c3 : (l0_7.length : Int) = 0
  ·rw [if_pos c3] at H
   have c3b0 : ((l0_7.length : Int) == 0) = true := beq_iff_eq.mpr c3; have c3b1 : ((l0_7.length : Int) != 0) = false := bne_eq_false_iff_eq.mpr c3; clear c3; obtain ⟨t153, A4, H⟩ := bi_ H; obtain rfl := Option.some.inj H; go_enter Try.func20, Try.ntmps20; go_wp2_with (first | (refine gx_ w 1 (n8_ a0_0 a0_1 a0_2 a0_3 a0_4 a0_5 a0_6 (.slice A0_7 l0_7.length c0_7)) 26 ?_; clear HB; intro gb152 w5 BK152 GE152 HB; have GW152 := GE152; have Z6 := bz8_ BK152) | (go_at_call 29; (with_reducible refine (point_Sane.calls k a0_1 a0_2 a0_3 a0_4 t153 _ A4.out).mono ?_); rintro e w7 ⟨rfl, hb⟩; replace BK152 := bb_ BK152 hb; replace HB := bs_ hb; (try clear hb))); go_ret; exact ⟨re_, hs_⟩
  ·rw [if_neg c3] at H
   have c3b0 : ((l0_7.length : Int) == 0) = false := beq_eq_false_iff_ne.mpr c3; have c3b1 : ((l0_7.length : Int) != 0) = true := bne_iff_ne.mpr c3; (have c3b2 : ¬ (l0_7 = []) := fun h_ => c3 (by rw [h_]; rfl)); obtain rfl := Option.some.inj H; go_enter Try.func20, Try.ntmps20; go_wp2_with (first | (refine gx_ w 1 (n8_ a0_0 a0_1 a0_2 a0_3 a0_4 a0_5 a0_6 (.slice A0_7 l0_7.length c0_7)) 26 ?_; clear HB; intro gb152 w8 BK152 GE152 HB; have GW152 := GE152; have Z9 := bz8_ BK152)); go_ret; exact ⟨re_, hs_⟩
 ·rw [if_neg c2] at H
  have c2b0 : (a0_0 == 0) = false := beq_eq_false_iff_ne.mpr c2; have c2b1 : (a0_0 != 0) = true := bne_iff_ne.mpr c2
  by_cases c10 : a0_0 = 3
  ·rw [if_pos c10] at H
   have c10b0 : (a0_0 == 3) = true := beq_iff_eq.mpr c10; have c10b1 : (a0_0 != 3) = false := bne_eq_false_iff_eq.mpr c10; clear c10
   by_cases c11 : (l0_7.length : Int) = 0
   ·rw [if_pos c11] at H
    have c11b0 : ((l0_7.length : Int) == 0) = true := beq_iff_eq.mpr c11; have c11b1 : ((l0_7.length : Int) != 0) = false := bne_eq_false_iff_eq.mpr c11; clear c11; obtain ⟨t154, A12, H⟩ := bi_ H; obtain rfl := Option.some.inj H; go_enter Try.func20, Try.ntmps20; go_wp2_with (first | (refine gx_ w 1 (n8_ a0_0 a0_1 a0_2 a0_3 a0_4 a0_5 a0_6 (.slice A0_7 l0_7.length c0_7)) 26 ?_; clear HB; intro gb152 w13 BK152 GE152 HB; have GW152 := GE152; have Z14 := bz8_ BK152) | (go_at_call 49; (with_reducible refine (tree_bare.calls a0_0 a0_1 a0_2 a0_3 a0_4 a0_5 a0_6 _ _ l0_7 t154 _ ?side1 ?side2 A12.out).mono ?_); (case side1 => exact cb_ HR0_7); (case side2 => exact HC0_7.out); rintro e w15 ⟨rfl, hb⟩; replace BK152 := bb_ BK152 hb; replace HB := bs_ hb; (try clear hb))); go_ret; exact ⟨re_, hs_⟩
   ·rw [if_neg c11] at H
    have c11b0 : ((l0_7.length : Int) == 0) = false := beq_eq_false_iff_ne.mpr c11; have c11b1 : ((l0_7.length : Int) != 0) = true := bne_iff_ne.mpr c11; (have c11b2 : ¬ (l0_7 = []) := fun h_ => c11 (by rw [h_]; rfl)); obtain rfl := Option.some.inj H; go_enter Try.func20, Try.ntmps20; go_wp2_with (first | (refine gx_ w 1 (n8_ a0_0 a0_1 a0_2 a0_3 a0_4 a0_5 a0_6 (.slice A0_7 l0_7.length c0_7)) 26 ?_; clear HB; intro gb152 w16 BK152 GE152 HB; have GW152 := GE152; have Z17 := bz8_ BK152)); go_ret; exact ⟨re_, hs_⟩
  ·rw [if_neg c10] at H
   have c10b0 : (a0_0 == 3) = false := beq_eq_false_iff_ne.mpr c10; have c10b1 : (a0_0 != 3) = true := bne_iff_ne.mpr c10
   by_cases c18 : a0_0 = 4
   ·rw [if_pos c18] at H
    have c18b0 : (a0_0 == 4) = true := beq_iff_eq.mpr c18; have c18b1 : (a0_0 != 4) = false := bne_eq_false_iff_eq.mpr c18; clear c18
    by_cases c19 : (l0_7.length : Int) = 0
    ·rw [if_pos c19] at H
     have c19b0 : ((l0_7.length : Int) == 0) = true := beq_iff_eq.mpr c19; have c19b1 : ((l0_7.length : Int) != 0) = false := bne_eq_false_iff_eq.mpr c19; clear c19; obtain ⟨t155, A20, H⟩ := bi_ H; obtain rfl := Option.some.inj H; go_enter Try.func20, Try.ntmps20; go_wp2_with (first | (refine gx_ w 1 (n8_ a0_0 a0_1 a0_2 a0_3 a0_4 a0_5 a0_6 (.slice A0_7 l0_7.length c0_7)) 26 ?_; clear HB; intro gb152 w21 BK152 GE152 HB; have GW152 := GE152; have Z22 := bz8_ BK152) | (go_at_call 49; (with_reducible refine (tree_bare.calls a0_0 a0_1 a0_2 a0_3 a0_4 a0_5 a0_6 _ _ l0_7 t155 _ ?side1 ?side2 A20.out).mono ?_); (case side1 => exact cb_ HR0_7); (case side2 => exact HC0_7.out); rintro e w23 ⟨rfl, hb⟩; replace BK152 := bb_ BK152 hb; replace HB := bs_ hb; (try clear hb))); go_ret; exact ⟨re_, hs_⟩
    ·rw [if_neg c19] at H
     have c19b0 : ((l0_7.length : Int) == 0) = false := beq_eq_false_iff_ne.mpr c19; have c19b1 : ((l0_7.length : Int) != 0) = true := bne_iff_ne.mpr c19; (have c19b2 : ¬ (l0_7 = []) := fun h_ => c19 (by rw [h_]; rfl)); obtain rfl := Option.some.inj H; go_enter Try.func20, Try.ntmps20; go_wp2_with (first | (refine gx_ w 1 (n8_ a0_0 a0_1 a0_2 a0_3 a0_4 a0_5 a0_6 (.slice A0_7 l0_7.length c0_7)) 26 ?_; clear HB; intro gb152 w24 BK152 GE152 HB; have GW152 := GE152; have Z25 := bz8_ BK152)); go_ret; exact ⟨re_, hs_⟩
   ·rw [if_neg c18] at H
    have c18b0 : (a0_0 == 4) = false := beq_eq_false_iff_ne.mpr c18; have c18b1 : (a0_0 != 4) = true := bne_iff_ne.mpr c18; obtain rfl := Option.some.inj H; go_enter Try.func20, Try.ntmps20; go_wp2_with (first | (refine gx_ w 1 (n8_ a0_0 a0_1 a0_2 a0_3 a0_4 a0_5 a0_6 (.slice A0_7 l0_7.length c0_7)) 26 ?_; clear HB; intro gb152 w26 BK152 GE152 HB; have GW152 := GE152; have Z27 := bz8_ BK152)); go_ret; exact ⟨re_, hs_⟩
end Go.Proofs.Ytfehdlkklfcnpaa.A