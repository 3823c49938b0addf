/- Walks of functions, and plain facts about what they compute. No conditions. -/
import Derived.Test.YtjgjhekpiijniaaGreatPca
import Derived.Test.YtjgjhekpiijniaaGreatProg
import Derived.Deep.Slices
import Derived.SizedLaws
import Derived.ChangeArms
import Derived.Lib.ItoaNum
import Derived.Laws.RangeAny
import Derived.LoopTactic
import Derived.Test.YtjgjhekpiijniaaGreatRows
import Derived.ChangeSame
import Derived.Lib.Join
import Derived.Lib.Bytealg
import Derived.Shelf.Strings.Builder1
import Derived.Shelf.Strings.Builder2
import Derived.Shelf.Strings.OnBuilder
import Derived.Shelf.Small.Strs
import Derived.Shelf.Strings.Search1
import Derived.Shelf.Strings.Prefix
set_option linter.unusedVariables false
set_option linter.unusedSimpArgs false
namespace Go.Proofs.YtjgjhekpiijniaaGreat.A
open Go.RowKit Go.Proofs.YtjgjhekpiijniaaGreatW.PrintWords Go.Proofs.YtjgjhekpiijniaaGreatW.PrintLast Go.Proofs.YtjgjhekpiijniaaGreatW.PrintMore
attribute [local go_sem] max2_int min2_int max_two min_two max_three min_three max_four min_four
def errW : Option Int → Value
  | none => .nilIface
  | some c => .iface 0 (.int .i64 c)
theorem errW_none : errW none = .nilIface := rfl
theorem errW_some (c : Int) : errW (some c) = .iface 0 (.int .i64 c) := rfl
theorem info3 : (Tryz.prog.info? 3).map (fun i => (i.zero, i.size, i.bytes)) = some (some (.int .i64 0), 1, 8) := by kernel_rfl
theorem info27 : (Tryz.prog.info? 27).map (fun i => (i.zero, i.size, i.bytes)) = some (some (.agg #[(.int .i64 0), (.int .i64 0), (.string ⟨#[]⟩), (.string ⟨#[]⟩), (.string ⟨#[]⟩), (.bool false), (.bool false), (.slice none 0 0)]), 8, 96) := by kernel_rfl
theorem info120 : (Tryz.prog.info? 120).map (fun i => (i.zero, i.size, i.bytes)) = some (some (.agg #[(.int .i64 0), (.int .i64 0)]), 2, 16) := by kernel_rfl
structure S120 where
  f0 : Int
  f1 : Int
def z120 : S120 := ⟨(0 : Int), (0 : Int)⟩
def k120 : Kd S120 := Kd.iso (Kd.pair (Kd.int .i64) (Kd.int .i64)) (fun x : S120 => (x.f0, x.f1))
theorem k120_heap : Kd.Heap k120 := Kd.heap_iso _ (Kd.heap_pair (Kd.heap_int .i64) (Kd.heap_int .i64))
theorem k120_open {w : World} {x : S120} {cs : List Value} (h : k120.K w x cs) : cs = [.int .i64 x.f0, .int .i64 x.f1] := by
  obtain ⟨_, _, rfl, rfl, rfl⟩ := h
  exact rfl
theorem k120_mkM (w : World) (base : Nat) (ok : Nat → Prop) (x : S120)  : k120.M w base ok x [.int .i64 x.f0, .int .i64 x.f1] := ⟨[.int .i64 x.f0], [.int .i64 x.f1], rfl, rfl, rfl⟩
def rd_T120 (xs : List S120) (i : Int) : S120 := xs.getD i.toNat z120
theorem at_T120 {w : World} {A : Option Addr} {n : Nat} {xs : List S120} (h : Kd.C k120 w A n xs) (i : Int) (h0 : 0 ≤ i) (h1 : i < n) : ∃ ad , A = some ad ∧ w.cell? (ad.add (i.toNat * 2)) = some (.int .i64 (rd_T120 xs i).f0) ∧ w.cell? ⟨(ad.add (i.toNat * 2)).block, (ad.add (i.toNat * 2)).off + 1, none⟩ = some (.int .i64 (rd_T120 xs i).f1) := by
  obtain ⟨ad, c, e, _, hK, hc0⟩ := Kd.C_get h z120 i h0 h1
  have hc : ∀ j u, c[j]? = some u → w.cell? (ad.add (i.toNat * 2 + j)) = some u := hc0
  obtain rfl := k120_open hK
  exact ⟨ad, e, hc 0 _ rfl, by rw [← add_field _ _ 1 (by omega)]; exact hc 1 _ rfl⟩
structure S24 where
  f0 : Int
  f1 : ByteArray
  f2 : ByteArray
  f3 : ByteArray
def z24 : S24 := ⟨(0 : Int), (⟨#[]⟩ : ByteArray), (⟨#[]⟩ : ByteArray), (⟨#[]⟩ : ByteArray)⟩
def k24 : Kd S24 := Kd.iso (Kd.pair (Kd.int .i64) (Kd.pair Kd.string (Kd.pair Kd.string Kd.string))) (fun x : S24 => (x.f0, x.f1, x.f2, x.f3))
theorem k24_open {w : World} {x : S24} {cs : List Value} (h : k24.K w x cs) : cs = [.int .i64 x.f0, .string x.f1, .string x.f2, .string x.f3] := by
  obtain ⟨_, _, rfl, rfl, ⟨_, _, rfl, rfl, ⟨_, _, rfl, rfl, rfl⟩⟩⟩ := h
  exact rfl
theorem k24_mk (w : World) (x : S24)  : k24.K w x [.int .i64 x.f0, .string x.f1, .string x.f2, .string x.f3] := ⟨[.int .i64 x.f0], [.string x.f1, .string x.f2, .string x.f3], rfl, rfl, ⟨[.string x.f1], [.string x.f2, .string x.f3], rfl, rfl, ⟨[.string x.f2], [.string x.f3], rfl, rfl, rfl⟩⟩⟩
structure S27 where
  f0 : Int
  f1 : S24
  f2 : Bool
  f3 : Bool
  f4 : (List S27)
def z27 : S27 := ⟨(0 : Int), z24, false, false, ([] : List S27)⟩
def F26 (d : Kd S27) : Kd S27 := Kd.iso (Kd.pair (Kd.int .i64) (Kd.pair k24 (Kd.pair Kd.bool (Kd.pair Kd.bool (Kd.slice 26 d))))) (fun x : S27 => (x.f0, x.f1, x.f2, x.f3, x.f4))
theorem mono26 : Kd.Mono F26 := Kd.mono_iso _ (Kd.mono_pair (Kd.mono_const _) (Kd.mono_pair (Kd.mono_const _) (Kd.mono_pair (Kd.mono_const _) (Kd.mono_pair (Kd.mono_const _) (Kd.mono_slice 26 Kd.mono_id)))))
theorem sub26 : Kd.Sub F26 [26] := Kd.sub_iso _ (Kd.sub_pair (Kd.sub_const _ (by decide)) (Kd.sub_pair (Kd.sub_const _ (by decide)) (Kd.sub_pair (Kd.sub_const _ (by decide)) (Kd.sub_pair (Kd.sub_const _ (by decide)) (Kd.sub_slice 26 (by decide) Kd.sub_id)))))
theorem sz26 : ∀ n, (Kd.upto F26 8 [26] n).sz = 8 := Kd.upto_sz (fun _ => rfl)
def k27 : Kd S27 := Kd.fix F26 8 [26] sz26 (Kd.upto_E sub26)
theorem k27_open {w : World} {x : S27} {cs : List Value} (h : k27.K w x cs) : ∃ A7 c7, cs = [.int .i64 x.f0, .int .i64 x.f1.f0, .string x.f1.f1, .string x.f1.f2, .string x.f1.f3, .bool x.f2, .bool x.f3, .slice A7 x.f4.length c7] ∧ x.f4.length ≤ c7 ∧ k27.C w A7 x.f4.length x.f4 := by
  obtain ⟨n, h⟩ := h
  cases n with
  | zero => exact h.elim
  | succ n =>
    obtain ⟨_, _, rfl, rfl, ⟨_, _, rfl, s1, ⟨_, _, rfl, rfl, ⟨_, _, rfl, rfl, ⟨A7, c7, rfl, l7, g7⟩⟩⟩⟩⟩ := h
    obtain rfl := k24_open s1
    exact ⟨A7, c7, rfl, l7, Kd.fix_C g7⟩
theorem k27_mk (w : World) (x : S27) {A7 : Option Addr} {c7 : Nat} (l7 : x.f4.length ≤ c7) (g7 : k27.C w A7 x.f4.length x.f4) : k27.K w x [.int .i64 x.f0, .int .i64 x.f1.f0, .string x.f1.f1, .string x.f1.f2, .string x.f1.f3, .bool x.f2, .bool x.f3, .slice A7 x.f4.length c7] := by
  obtain ⟨n7, q7⟩ := Kd.fix_C_back mono26 g7
  have r7 := Kd.upto_C_le mono26 sz26 (show n7 ≤ n7 by omega) q7
  exact ⟨n7 + 1, ⟨[.int .i64 x.f0], [.int .i64 x.f1.f0, .string x.f1.f1, .string x.f1.f2, .string x.f1.f3, .bool x.f2, .bool x.f3, .slice A7 x.f4.length c7], rfl, rfl, ⟨[.int .i64 x.f1.f0, .string x.f1.f1, .string x.f1.f2, .string x.f1.f3], [.bool x.f2, .bool x.f3, .slice A7 x.f4.length c7], rfl, (k24_mk w x.f1 ), ⟨[.bool x.f2], [.bool x.f3, .slice A7 x.f4.length c7], rfl, rfl, ⟨[.bool x.f3], [.slice A7 x.f4.length c7], rfl, rfl, ⟨A7, c7, rfl, l7, r7⟩⟩⟩⟩⟩⟩
theorem k27_mkF (W : World) (ok : Nat → Prop) (x : S27) {A7 : Option Addr} {c7 : Nat} (l7 : x.f4.length ≤ c7) (g7 : Kd.F k27 W ok A7 x.f4.length x.f4) : Kd.FK k27 W ok x [.int .i64 x.f0, .int .i64 x.f1.f0, .string x.f1.f1, .string x.f1.f2, .string x.f1.f3, .bool x.f2, .bool x.f3, .slice A7 x.f4.length c7] := fun W2 hW => k27_mk W2 x l7 (g7 W2 hW)
def rd_T27 (xs : List S27) (i : Int) : S27 := xs.getD i.toNat z27
theorem at_T27 {w : World} {A : Option Addr} {n : Nat} {xs : List S27} (h : Kd.C k27 w A n xs) (i : Int) (h0 : 0 ≤ i) (h1 : i < n) : ∃ ad A7 c7, A = some ad ∧ w.cell? (ad.add (i.toNat * 8)) = some (.int .i64 (rd_T27 xs i).f0) ∧ w.cell? ⟨(ad.add (i.toNat * 8)).block, (ad.add (i.toNat * 8)).off + 1, none⟩ = some (.int .i64 (rd_T27 xs i).f1.f0) ∧ w.cell? ⟨(ad.add (i.toNat * 8)).block, (ad.add (i.toNat * 8)).off + 2, none⟩ = some (.string (rd_T27 xs i).f1.f1) ∧ w.cell? ⟨(ad.add (i.toNat * 8)).block, (ad.add (i.toNat * 8)).off + 3, none⟩ = some (.string (rd_T27 xs i).f1.f2) ∧ w.cell? ⟨(ad.add (i.toNat * 8)).block, (ad.add (i.toNat * 8)).off + 4, none⟩ = some (.string (rd_T27 xs i).f1.f3) ∧ w.cell? ⟨(ad.add (i.toNat * 8)).block, (ad.add (i.toNat * 8)).off + 5, none⟩ = some (.bool (rd_T27 xs i).f2) ∧ w.cell? ⟨(ad.add (i.toNat * 8)).block, (ad.add (i.toNat * 8)).off + 6, none⟩ = some (.bool (rd_T27 xs i).f3) ∧ w.cell? ⟨(ad.add (i.toNat * 8)).block, (ad.add (i.toNat * 8)).off + 7, none⟩ = some (.slice A7 (rd_T27 xs i).f4.length c7) ∧ (rd_T27 xs i).f4.length ≤ c7 ∧ k27.C w A7 (rd_T27 xs i).f4.length (rd_T27 xs i).f4 := by
  obtain ⟨ad, c, e, _, hK, hc0⟩ := Kd.C_get h z27 i h0 h1
  have hc : ∀ j u, c[j]? = some u → w.cell? (ad.add (i.toNat * 8 + j)) = some u := hc0
  obtain ⟨A7, c7, rfl, l7, g7⟩ := k27_open hK
  exact ⟨ad, A7, c7, e, hc 0 _ rfl, by rw [← add_field _ _ 1 (by omega)]; exact hc 1 _ rfl, by rw [← add_field _ _ 2 (by omega)]; exact hc 2 _ rfl, by rw [← add_field _ _ 3 (by omega)]; exact hc 3 _ rfl, by rw [← add_field _ _ 4 (by omega)]; exact hc 4 _ rfl, by rw [← add_field _ _ 5 (by omega)]; exact hc 5 _ rfl, by rw [← add_field _ _ 6 (by omega)]; exact hc 6 _ rfl, by rw [← add_field _ _ 7 (by omega)]; exact hc 7 _ rfl, l7, g7⟩
end Go.Proofs.YtjgjhekpiijniaaGreat.A
namespace Go.Proofs.YtjgjhekpiijniaaGreat.Rd
open Go.RowKit Go.Deep Go.Proofs.YtjgjhekpiijniaaGreatW.PrintWords
def RdF {α : Type} (P : Program) (t : TypeId) (d : Kd α) (wf : α → Prop) (f : Nat) : Prop :=
  ∀ {H : Type} (enc : TypeId × Value → H) (W : World) (cs : List Value) (x : DataW H × List MemPlace),
    DataW.trod enc P W 0 (fun _ => true) true f t cs = some x → (x.1.weights P t).all (· ≤ reachBytes) = true → ∃ a, d.K W a cs ∧ wf a
def Rd {α : Type} (P : Program) (t : TypeId) (d : Kd α) (wf : α → Prop) : Prop := ∀ f, RdF P t d wf f
section
variable {P : Program} {t e : TypeId} {α : Type} {d : Kd α} {wf : α → Prop}
theorem Rd.int {k : IntKind} (ht : P.underlying t = some (.int k)) : Rd P t (Kd.int k) (fun a => (Lit.int k a).wf = true) := by
  intro f H enc W cs x h _
  obtain ⟨n, rfl, _, hw⟩ := DataW.trod_int ht h
  exact ⟨n, rfl, hw⟩
theorem Rd.bool (ht : P.underlying t = some .bool) : Rd P t Kd.bool (fun _ => True) := by
  intro f H enc W cs x h _
  obtain ⟨b, rfl, _⟩ := DataW.trod_bool ht h
  exact ⟨b, rfl, trivial⟩
theorem Rd.string (ht : P.underlying t = some .string) : Rd P t Kd.string (fun s => s.size ≤ 140737488351232) := by
  intro f H enc W cs x h hw
  obtain ⟨s, rfl, rfl, _⟩ := DataW.trod_string ht h
  refine ⟨s, rfl, ?_⟩
  have h1 := of_decide_eq_true (List.all_eq_true.1 hw s.data.toList.length (by simp [DataW.weights]))
  rw [Array.length_toList] at h1
  exact h1
theorem all_weights {H : Type} {l : List (DataW H)} (h : (DataW.weightsAll P e l).all (· ≤ reachBytes) = true) : ∀ x, x ∈ l → (x.weights P e).all (· ≤ reachBytes) = true := by
  induction l with
  | nil => intro x hx; simp at hx
  | cons y l ih =>
    simp only [DataW.weightsAll, List.all_append, Bool.and_eq_true] at h
    intro x hx
    rcases List.mem_cons.1 hx with rfl | hx
    · exact h.1
    · exact ih h.2 x hx
theorem list_of {β : Type} (Q : Nat → β → Prop) : ∀ (n : Nat), (∀ i, i < n → ∃ b, Q i b) → ∃ l : List β, l.length = n ∧ ∀ i b, l[i]? = some b → Q i b
  | 0, _ => ⟨[], rfl, fun i b h => by simp at h⟩
  | n + 1, h => by
    obtain ⟨l, hl, hq⟩ := list_of Q n (fun i hi => h i (by omega))
    obtain ⟨b, hb⟩ := h n (by omega)
    refine ⟨l ++ [b], by simp [hl], fun i c hc => ?_⟩
    rcases Nat.lt_or_ge i l.length with hi | hi
    · rw [List.getElem?_append_left hi] at hc
      exact hq i c hc
    · have hlt := (List.getElem?_eq_some_iff.1 hc).1
      rw [List.length_append, List.length_singleton] at hlt
      have : i = n := by omega
      subst this
      rw [List.getElem?_append_right hi, hl, Nat.sub_self] at hc
      simp at hc
      subst hc
      exact hb
theorem RdF.slice (ht : P.underlying t = some (.slice e)) (hc : P.cellsOf e = d.sz) {f : Nat} (hd : ∀ g, g < f → RdF P e d wf g) : RdF P t (Kd.slice e d) (fun l => l.length * P.bytesOf e ≤ 140737488351232 ∧ ∀ x, x ∈ l → wf x) f := by
  intro H enc W cs x h hw
  rcases DataW.trod_slice ht h with ⟨rfl, rfl⟩ | ⟨a, len, cap, elems, rest, n, rfl, rfl, rfl, _, hlc, hm, hlen, hel, _, _⟩
  · exact ⟨[], ⟨none, 0, rfl, Nat.le_refl _, rfl, by simp, fun h => absurd h (by simp)⟩, by simp, fun x h => by simp at h⟩
  simp only [DataW.weights, ht, List.all_cons, List.all_append, Bool.and_eq_true, decide_eq_true_eq] at hw
  obtain ⟨hb, hw1, _⟩ := hw
  rw [List.length_map, List.length_map] at hb
  obtain ⟨l, hl, hq⟩ := list_of (fun i b => ∃ c, c.length = d.sz ∧ d.K W b c ∧ wf b ∧ ∀ j u, c[j]? = some u → W.cell? (a.add (i * d.sz + j)) = some u) len fun i hi => by
    have hi' : i < elems.length := by omega
    have h1 := hel i hi
    rw [List.getElem?_eq_getElem hi'] at h1
    obtain ⟨c, hc1, hc2⟩ := Option.bind_eq_some_iff.1 h1
    obtain ⟨_, hcl, hcell⟩ := World.cells?_some hc1
    obtain ⟨b, hk, hwf⟩ := hd n (Nat.lt_succ_self n) enc W c _ hc2 (all_weights hw1 _ (List.mem_map.2 ⟨_, List.getElem_mem hi', rfl⟩))
    refine ⟨b, c, by rw [hcl, hc], hk, hwf, fun j u hj => ?_⟩
    have hjl := (List.getElem?_eq_some_iff.1 hj).1
    have h2 := hcell j (by omega)
    rw [hj, hc] at h2
    rw [← h2]
    congr 1
    exact (Deep.add_add _ _ _).symm
  refine ⟨l, ⟨some a, cap, by rw [hl], by rw [hl]; exact hlc, hl ▸ rfl, by unfold maxLen at hm; omega, fun _ => ⟨a, rfl, fun j p hj => ?_⟩⟩, ?_, fun x hx => ?_⟩
  · obtain ⟨c, h1, h2, _, h4⟩ := hq j p hj
    exact ⟨c, h1, h2, h4⟩
  · have : l.length * P.bytesOf e ≤ (elems.length + rest.length) * P.bytesOf e := Nat.mul_le_mul_right _ (by omega)
    unfold reachBytes at hb
    omega
  · obtain ⟨i, hi⟩ := List.getElem?_of_mem hx
    obtain ⟨c, _, _, h3, _⟩ := hq i x hi
    exact h3
theorem Rd.slice (ht : P.underlying t = some (.slice e)) (hc : P.cellsOf e = d.sz) (hd : Rd P e d wf) : Rd P t (Kd.slice e d) (fun l => l.length * P.bytesOf e ≤ 140737488351232 ∧ ∀ x, x ∈ l → wf x) :=
  fun f => RdF.slice ht hc (fun g _ => hd g)
end
end Go.Proofs.YtjgjhekpiijniaaGreat.Rd
namespace Go.Proofs.YtjgjhekpiijniaaGreat.A
open Go.RowKit Go.Proofs.YtjgjhekpiijniaaGreatW.PrintWords Go.Proofs.YtjgjhekpiijniaaGreatW.PrintLast Go.Proofs.YtjgjhekpiijniaaGreatW.PrintMore
def okB (c : UInt8) : Bool := decide (48 ≤ c.toNat ∧ c.toNat ≤ 57 ∨ c.toNat = 88)
def saneL (l : List UInt8) : Bool := l.all okB && decide (l ≠ []) && decide (l.length ≤ 4)
def mask_Sane.f (s : ByteArray) : Option Bool := some (saneL s.data.toList)
def upto (lo : Int) : Nat → List Int
  | 0 => []
  | n + 1 => lo :: upto (lo + 1) n
def stepR (c : UInt8) (r : S120) : List S120 := if c.toNat = 88 then [⟨r.f0 * 10, r.f1 * 10 + 9⟩] else (upto r.f0 (r.f1 + 1 - r.f0).toNat).map fun n => ⟨n * 10 + ((c.toNat : Int) - 48), n * 10 + ((c.toNat : Int) - 48)⟩
def setL : List UInt8 → List S120 → List S120
  | [], out => out
  | c :: l, out => setL l (out.flatMap (stepR c))
def mask_Set.f (s : ByteArray) : Option (List S120) := some (if saneL s.data.toList = true then setL s.data.toList [⟨0, 0⟩] else [])
theorem width_pos (s : ByteArray) (pos : Nat) (h : pos < s.size) : 1 ≤ (Utf8.decode s pos).2 := by
  by_cases ha : (s[pos]'h).toNat < 128
  · rw [decode_ascii s pos h ha]
    exact Nat.le_refl _
  · exact (decode_high s pos h (by omega)).2
theorem at_list (s : ByteArray) (pos : Nat) (h : pos < s.size) : s.data.toList[pos]? = some (s[pos]'h) := by
  rw [List.getElem?_eq_getElem (by simpa using h)]
  simp [ByteArray.getElem_eq_getElem_data]
theorem drop_at (s : ByteArray) (pos : Nat) (h : pos < s.size) : s.data.toList.drop pos = (s[pos]'h) :: s.data.toList.drop (pos + 1) := by
  have h1 : pos < s.data.toList.length := by simpa using h
  rw [List.drop_eq_getElem_cons h1]
  congr 1
theorem below_iter (w : World) (s : ByteArray) (pos : Nat) : Below w.heap.size w (w.iter s pos) := below_alloc (Below.refl _ _) _
set_option maxHeartbeats 4000000 in
set_option maxRecDepth 1000000 in
theorem mask_Sane.calls (a0 : ByteArray) (r : Bool) (w : World) (h : mask_Sane.f a0 = some r) :
    Calls Tryz.prog 75 #[.string a0] w fun e w' => e = .returned (.bool r) ∧ Below w.heap.size w w' := by
  obtain rfl := Option.some.inj h
  clear h
  go_enter Tryz.func75, Tryz.ntmps75
  go_wp2
  go_loopw [] (fun w' => ∃ pos : Nat, w' = w.iter a0 pos ∧ saneL a0.data.toList = ((a0.data.toList.drop pos).all okB && decide (a0.data.toList ≠ []) && decide (a0.data.toList.length ≤ 4))) (fun w' => a0.size - w'.iterPos w.heap.size)
  case atStart => exact ⟨0, rfl, rfl⟩
  case round =>
    obtain ⟨pos, rfl, hs⟩ := hrel
    by_cases hp : pos < a0.size
    · have hnx : ∀ ty, (Instr.next (.pointer (some ⟨w.heap.size, 0, none⟩)) true ty).run Tryz.prog (w.iter a0 pos) = _ := fun ty => run_next_any w a0 pos ty hp
      have hwd := width_pos a0 pos hp
      rw [drop_at a0 pos hp, List.all_cons] at hs
      have hb : okB (a0[pos]'hp) = true → Utf8.decode a0 pos = ((a0[pos]'hp).toNat, 1) := fun h => decode_ascii a0 pos hp (by have := of_decide_eq_true h; omega)
      have hn : okB (a0[pos]'hp) = false → ((Utf8.decode a0 pos).1 < 48 ∨ 57 < (Utf8.decode a0 pos).1) ∧ (Utf8.decode a0 pos).1 ≠ 88 := fun h => by
        have h := of_decide_eq_false h
        by_cases ha : (a0[pos]'hp).toNat < 128
        · rw [decode_ascii a0 pos hp ha]; simp only; omega
        · have := (decode_high a0 pos hp (by omega)).1; omega
      generalize hc : ((Utf8.decode a0 pos).1 : Int) = c at hnx
      by_cases hk : okB (a0[pos]'hp) = true
      · have hd := hb hk
        have hk2 := of_decide_eq_true hk
        rw [hd] at hc
        simp only at hc
        have d1 : decide (c < 48) = false := decide_eq_false (by omega)
        rw [hk, Bool.true_and] at hs
        by_cases h88 : c = 88
        · have d2 : decide (57 < c) = true := decide_eq_true (by omega)
          have d3 : (c != 88) = false := by subst h88; rfl
          go_wp2
          go_roundw
          case rel => exact ⟨pos + 1, rfl, hs⟩
          case measure => simp; omega
        · have d2 : decide (57 < c) = false := decide_eq_false (by omega)
          go_wp2
          go_roundw
          case rel => exact ⟨pos + 1, rfl, hs⟩
          case measure => simp; omega
      · have hk := Bool.eq_false_iff.mpr hk
        have hf : saneL a0.data.toList = false := by rw [hs, hk]; rfl
        obtain ⟨h1, h2⟩ := hn hk
        have d3 : (c != 88) = true := by rw [bne_iff_ne]; omega
        by_cases h48 : c < 48
        · have d1 : decide (c < 48) = true := decide_eq_true h48
          go_wp2
          go_ret
          exact ⟨by first | rfl | (rw [hf]; rfl), below_iter _ _ _⟩
        · have d1 : decide (c < 48) = false := decide_eq_false h48
          have d2 : decide (57 < c) = true := decide_eq_true (by omega)
          go_wp2
          go_ret
          exact ⟨by first | rfl | (rw [hf]; rfl), below_iter _ _ _⟩
    · have hnx : ∀ ty, (Instr.next (.pointer (some ⟨w.heap.size, 0, none⟩)) true ty).run Tryz.prog (w.iter a0 pos) = _ := fun ty => run_next_end w a0 pos ty hp
      rw [List.drop_eq_nil_of_le (by simpa using hp)] at hs
      simp only [List.all_nil, Bool.true_and] at hs
      have HS := A_ hs
      clear hs
      go_wp2
      · rename_i he
        rw [ByteArray.toList_eq] at he
        have hf : saneL a0.data.toList = false := by rw [HS.out, he]; rfl
        go_ret
        exact ⟨by first | rfl | (rw [hf]; rfl), below_iter _ _ _⟩
      · rename_i he
        rw [ByteArray.toList_eq] at he
        have hsz : a0.size = a0.data.toList.length := by simp
        have he3 : a0.toList.isEmpty = false := by rw [ByteArray.toList_eq]; cases hl : a0.data.toList <;> simp_all
        have hf : saneL a0.data.toList = decide ((a0.size : Int) ≤ 4) := by
          rw [HS.out, decide_eq_true he, Bool.true_and, hsz]
          exact decide_eq_decide.2 (by omega)
        clear he hsz HS
        go_ret
        exact ⟨by first | rfl | (rw [hf]; rfl) | (rw [hf, he3]; rfl) | (rw [hf]; simp [he3]), below_iter _ _ _⟩
end Go.Proofs.YtjgjhekpiijniaaGreat.A
namespace Go.Proofs.YtjgjhekpiijniaaGreat.A.B
open Go.RowKit Go.Proofs.YtjgjhekpiijniaaGreatW.PrintWords Go.Proofs.YtjgjhekpiijniaaGreatW.PrintLast Go.Proofs.YtjgjhekpiijniaaGreatW.PrintMore
attribute [local go_sem] max2_int min2_int max_two min_two max_three min_three max_four min_four
mutual
def mask_Set.l0 : Nat → Int → List (S120) → List (S120) → Int → Int → Option ((List (S120)))
  | 0, _, _, _, _, _ => none
  | k + 1, x5, x6, x21, x22, x23 => if x23 < x22 then (if 0 ≤ x23 then (if x23 < (x21.length : Int) then (if x5 = 88 then (if x6.length < 8796093022208 then (mask_Set.l0 k x5 (x6 ++ [(⟨wrap64 (((rd_T120 x21 x23).f0) * 10), wrap64 ((wrap64 (((rd_T120 x21 x23).f1) * 10)) + 9)⟩ : S120)]) x21 x22 (wrap64 (x23 + 1))) else (none)) else (mask_Set.l1 k x5 x6 ((rd_T120 x21 x23).f0) x21 x22 x23 ((rd_T120 x21 x23).f0) ((rd_T120 x21 x23).f1))) else (none)) else (none)) else (some x6)
def mask_Set.l1 : Nat → Int → List (S120) → Int → List (S120) → Int → Int → Int → Int → Option ((List (S120)))
  | 0, _, _, _, _, _, _, _, _ => none
  | k + 1, x5, x6, x9, x21, x22, x23, x103000, x103001 => if x9 ≤ x103001 then (if x6.length < 8796093022208 then (mask_Set.l1 k x5 (x6 ++ [(⟨wrap64 ((wrap64 (x9 * 10)) + (wrap64 (wrap32 (x5 - 48)))), wrap64 ((wrap64 (x9 * 10)) + (wrap64 (wrap32 (x5 - 48))))⟩ : S120)]) (wrap64 (x9 + 1)) x21 x22 x23 x103000 x103001) else (none)) else (mask_Set.l0 k x5 x6 x21 x22 (wrap64 (x23 + 1)))
end
def mask_Set.f (k : Nat) (l0 : List (S120)) (a1 : Int) : Option ((List (S120))) := mask_Set.l0 k a1 ([] : List (S120)) l0 (l0.length : Int) 0
end Go.Proofs.YtjgjhekpiijniaaGreat.A.B
namespace Go.Proofs.YtjgjhekpiijniaaGreat.A
open Go.RowKit Go.Proofs.YtjgjhekpiijniaaGreatW.PrintWords Go.Proofs.YtjgjhekpiijniaaGreatW.PrintLast Go.Proofs.YtjgjhekpiijniaaGreatW.PrintMore
attribute [local go_sem] max2_int min2_int max_two min_two max_three min_three max_four min_four
def itset (w : World) (g : Nat) (s : ByteArray) (pos : Nat) : World := { w with heap := w.heap.setIfInBounds g (.stringIter s pos) }
theorem itset_size (w : World) (g : Nat) (s : ByteArray) (pos : Nat) : (itset w g s pos).heap.size = w.heap.size := by simp [itset]
theorem itset_at {w : World} {g : Nat} {s : ByteArray} {pos q : Nat} (h : w.heap[g]? = some (.stringIter s q)) : (itset w g s pos).heap[g]? = some (.stringIter s pos) := by
  have := (Array.getElem?_eq_some_iff.1 h).1
  simp [itset, this]
theorem itset_ne (w : World) (g : Nat) (s : ByteArray) (pos : Nat) {k : Nat} (h : k ≠ g) : (itset w g s pos).heap[k]? = w.heap[k]? := by
  simp [itset, Array.getElem?_setIfInBounds, Ne.symm h]
theorem itset_below {B : Nat} {w0 w : World} {g : Nat} {s : ByteArray} {pos : Nat} (h : Below B w0 w) (hg : B ≤ g) : Below B w0 (itset w g s pos) :=
  ⟨h.os, h.tape, h.output, by rw [itset_size]; exact h.size, fun k hk => (itset_ne w g s pos (by omega)).trans (h.block k hk)⟩
theorem itset_keep (w : World) (g : Nat) (s : ByteArray) (pos : Nat) : KeepBut w (itset w g s pos) g none := ⟨by rw [itset_size]; exact Nat.le_refl _, fun k _ hk _ => itset_ne w g s pos hk⟩
theorem run_next_at {P : Program} {w : World} {g : Nat} {s : ByteArray} {pos : Nat} (ty : TypeId) (hg : w.heap[g]? = some (.stringIter s pos)) (h : pos < s.size) (ha : (s[pos]'h).toNat < 128) :
    (Instr.next (.pointer (some ⟨g, 0, none⟩)) true ty).run P w = .ok (.tuple #[.bool true, .int .i64 pos, .int .i32 (s[pos]'h).toNat]) (itset w g s (pos + 1)) := by
  simp only [Instr.next, getObj, setObj, Sem.run_bind, Sem.run, hg, Result.andThen, h, if_true, decode_ascii s pos h ha]
  simp [goInt, Sem.run, hg, itset]
theorem run_next_done {P : Program} {w : World} {g : Nat} {s : ByteArray} {pos : Nat} (ty : TypeId) (hg : w.heap[g]? = some (.stringIter s pos)) (h : ¬ pos < s.size) :
    (Instr.next (.pointer (some ⟨g, 0, none⟩)) true ty).run P w = .ok (.tuple #[.bool false]) w := by
  simp [Instr.next, getObj, Sem.run, hg, h]
theorem k120_E : k120.E = [] := rfl
theorem ok_of {s : ByteArray} (h : mask_Sane.f s = some true) : ∀ (pos : Nat) (hp : pos < s.size), 48 ≤ (s[pos]'hp).toNat ∧ (s[pos]'hp).toNat ≤ 57 ∨ (s[pos]'hp).toNat = 88 := fun pos hp => by
  have h := Option.some.inj h
  unfold saneL at h
  simp only [Bool.and_eq_true] at h
  have h2 := List.all_eq_true.1 h.1.1 (s[pos]'hp) (List.mem_of_getElem? (at_list s pos hp))
  exact of_decide_eq_true h2
theorem w64 {x : Int} (h1 : -9223372036854775808 ≤ x) (h2 : x ≤ 9223372036854775807) : wrap64 x = x := by unfold wrap64; omega
theorem at_rd (p : List S120) (r : S120) (t : List S120) : rd_T120 (p ++ r :: t) (p.length : Int) = r := by simp [rd_T120]
theorem at_lt {α : Type} (p : List α) (r : α) (t : List α) : (p.length : Int) < ((p ++ r :: t).length : Int) := by simp; omega
theorem at_end {α : Type} (p : List α) : ¬ (p.length : Int) < ((p ++ []).length : Int) := by simp
theorem at_0 {α : Type} (p : List α) : 0 ≤ (p.length : Int) := Int.natCast_nonneg _
theorem at_next {α : Type} {p : List α} {r : α} {t : List α} (h : (p ++ r :: t).length ≤ 4611686018427387904) : wrap64 ((p.length : Int) + 1) = ((p ++ [r]).length : Int) := by
  simp at h
  rw [w64 (by omega) (by omega)]
  simp
theorem at_app {α : Type} (p : List α) (r : α) (t : List α) : p ++ r :: t = (p ++ [r]) ++ t := by simp
theorem Ev.eq {α : Type} {g : Nat → Option α} {r q : α} (h : Ev g r) (e : r = q) : Ev g q := e ▸ h
def one (c n : Int) : S120 := ⟨n * 10 + (c - 48), n * 10 + (c - 48)⟩
theorem upto_len (lo : Int) : ∀ n, (upto lo n).length = n
  | 0 => rfl
  | n + 1 => by rw [upto, List.length_cons, upto_len (lo + 1) n]
theorem set_l1 (c : Int) (hc : 48 ≤ c ∧ c ≤ 57) (x : List S120) (len i lo hi : Int) (hhi : hi < 1000) (z : List S120) : ∀ (m : Nat) (n : Int) (acc : List S120), 0 ≤ n → n + m = hi + 1 → acc.length + m < 8796093022208 →
    Ev (fun k => B.mask_Set.l0 k c (acc ++ (upto n m).map (one c)) x len (wrap64 (i + 1))) z → Ev (fun k => B.mask_Set.l1 k c acc n x len i lo hi) z
  | 0, n, acc, h0, hm, hl, h => by
    simp only [upto, List.map_nil, List.append_nil] at h
    refine Ev.step (fun k => ?_) h
    rw [B.mask_Set.l1, if_neg (by omega)]
  | m + 1, n, acc, h0, hm, hl, h => by
    have e : acc ++ (upto n (m + 1)).map (one c) = (acc ++ [one c n]) ++ (upto (n + 1) m).map (one c) := by rw [upto]; simp
    rw [e] at h
    have ih := set_l1 c hc x len i lo hi hhi z m (n + 1) (acc ++ [one c n]) (by omega) (by omega) (by rw [List.length_append, List.length_singleton]; omega) h
    refine Ev.step (fun k => ?_) ih
    have w1 : wrap32 (c - 48) = c - 48 := by unfold wrap32; omega
    rw [B.mask_Set.l1, if_pos (by omega), if_pos (by omega), w1, w64 (x := n * 10) (by omega) (by omega), w64 (x := c - 48) (by omega) (by omega), w64 (x := n * 10 + (c - 48)) (by omega) (by omega), w64 (x := n + 1) (by omega) (by omega)]
    rfl
def fine (out : List S120) (b : Int) : Prop := ∀ r, r ∈ out → 0 ≤ r.f0 ∧ r.f0 ≤ r.f1 ∧ r.f1 < b
theorem set_l0 (c : UInt8) (hc : 48 ≤ c.toNat ∧ c.toNat ≤ 57 ∨ c.toNat = 88) : ∀ (t p acc : List S120), fine t 1000 → (p ++ t).length < 1000000 → acc.length + t.length * 1000 < 100000000 →
    Ev (fun k => B.mask_Set.l0 k (c.toNat : Int) acc (p ++ t) ((p ++ t).length : Int) (p.length : Int)) (acc ++ t.flatMap (stepR c))
  | [], p, acc, _, _, _ => by
    refine Ev.step (f := fun _ => some (acc ++ [].flatMap (stepR c))) (fun k => ?_) (Ev.now _)
    rw [B.mask_Set.l0, if_neg (at_end p)]; simp
  | r :: t, p, acc, hf, hn, hl => by
    simp only [List.length_cons] at hl
    obtain ⟨f1, f2, f3⟩ := hf r List.mem_cons_self
    have hft : fine t 1000 := fun q hq => hf q (List.mem_cons_of_mem _ hq)
    by_cases h88 : c.toNat = 88
    · have ih := set_l0 c hc t (p ++ [r]) (acc ++ stepR c r) hft (by rw [← at_app]; exact hn) (by unfold stepR; rw [if_pos h88]; simp; omega)
      rw [← at_app] at ih
      refine Ev.eq (Ev.step (fun k => ?_) ih) (by simp)
      rw [B.mask_Set.l0, if_pos (at_lt p r t), if_pos (at_0 p), if_pos (at_lt p r t), if_pos (by omega), if_pos (by omega), at_rd, at_next (p := p) (r := r) (t := t) (by omega), w64 (x := r.f0 * 10) (by omega) (by omega), w64 (x := r.f1 * 10) (by omega) (by omega), w64 (x := r.f1 * 10 + 9) (by omega) (by omega)]
      unfold stepR
      rw [if_pos h88]
    · have hlen : (stepR c r).length = (r.f1 + 1 - r.f0).toNat := by unfold stepR; rw [if_neg h88, List.length_map, upto_len]
      have ih := set_l0 c hc t (p ++ [r]) (acc ++ stepR c r) hft (by rw [← at_app]; exact hn) (by rw [List.length_append, hlen]; omega)
      rw [← at_app] at ih
      have hgo := set_l1 (c.toNat : Int) (by omega) (p ++ r :: t) ((p ++ r :: t).length : Int) (p.length : Int) r.f0 r.f1 f3 (acc ++ stepR c r ++ t.flatMap (stepR c)) (r.f1 + 1 - r.f0).toNat r.f0 acc f1 (by omega) (by omega) (by
        rw [at_next (p := p) (r := r) (t := t) (by omega)]
        have e : (upto r.f0 (r.f1 + 1 - r.f0).toNat).map (one (c.toNat : Int)) = stepR c r := by unfold stepR; rw [if_neg h88]; rfl
        rw [e]
        exact ih)
      refine Ev.eq (Ev.step (fun k => ?_) hgo) (by simp)
      rw [B.mask_Set.l0, if_pos (at_lt p r t), if_pos (at_0 p), if_pos (at_lt p r t), if_neg (by omega), at_rd]
theorem set_body (c : UInt8) (hc : 48 ≤ c.toNat ∧ c.toNat ≤ 57 ∨ c.toNat = 88) (out : List S120) (hf : fine out 1000) (hl : out.length ≤ 1000) : Ev (fun k => B.mask_Set.f k out (c.toNat : Int)) (out.flatMap (stepR c)) := by
  have := set_l0 c hc out [] [] hf (by simp; omega) (by simp; omega)
  simp only [List.nil_append, List.length_nil] at this
  exact this
def lenB : Nat → Nat
  | 0 => 1
  | p + 1 => lenB p * 10 ^ p
theorem upto_mem (lo : Int) : ∀ (n : Nat) (x : Int), x ∈ upto lo n ↔ lo ≤ x ∧ x < lo + n
  | 0, x => by rw [upto]; constructor
               · intro h; cases h
               · intro h; omega
  | n + 1, x => by rw [upto, List.mem_cons, upto_mem (lo + 1) n x]; omega
theorem stepR_fine {c : UInt8} (hc : 48 ≤ c.toNat ∧ c.toNat ≤ 57 ∨ c.toNat = 88) {out : List S120} {b : Int} (h : fine out b) : fine (out.flatMap (stepR c)) (b * 10) := fun r hr => by
  obtain ⟨q, hq, hr⟩ := List.mem_flatMap.1 hr
  obtain ⟨h1, h2, h3⟩ := h q hq
  unfold stepR at hr
  by_cases h88 : c.toNat = 88
  · rw [if_pos h88] at hr
    obtain rfl := List.mem_singleton.1 hr
    simp only; omega
  · rw [if_neg h88] at hr
    obtain ⟨n, hn, rfl⟩ := List.mem_map.1 hr
    have hn := (upto_mem _ _ _).1 hn
    simp only; omega
theorem flat_len {α β : Type} (f : α → List β) (m : Nat) : ∀ l : List α, (∀ x, x ∈ l → (f x).length ≤ m) → (l.flatMap f).length ≤ l.length * m
  | [], _ => by simp
  | x :: l, h => by
    have h1 := h x List.mem_cons_self
    have h2 := flat_len f m l (fun y hy => h y (List.mem_cons_of_mem _ hy))
    rw [List.flatMap_cons, List.length_append, List.length_cons, Nat.succ_mul]
    omega
theorem stepR_len {c : UInt8} {out : List S120} {b : Nat} (hb : 1 ≤ b) (h : fine out b) : (out.flatMap (stepR c)).length ≤ out.length * b := flat_len _ _ _ fun q hq => by
  obtain ⟨h1, h2, h3⟩ := h q hq
  unfold stepR
  split
  · simp; exact hb
  · rw [List.length_map, upto_len]; omega
def setInv (s : ByteArray) (p : Nat) (out : List S120) : Prop := setL (s.data.toList.drop p) out = setL s.data.toList [⟨0, 0⟩] ∧ fine out (10 ^ p : Nat) ∧ out.length ≤ lenB p
theorem setInv_0 (s : ByteArray) : setInv s 0 [⟨0, 0⟩] := ⟨rfl, fun r hr => by obtain rfl := List.mem_singleton.1 hr; exact ⟨Int.le_refl _, Int.le_refl _, by decide⟩, by decide⟩
theorem setInv_step {s : ByteArray} {p : Nat} {out : List S120} (hp : p < s.size) (hok : 48 ≤ (s[p]'hp).toNat ∧ (s[p]'hp).toNat ≤ 57 ∨ (s[p]'hp).toNat = 88) (h : setInv s p out) : setInv s (p + 1) (out.flatMap (stepR (s[p]'hp))) := by
  obtain ⟨h1, h2, h3⟩ := h
  refine ⟨?_, ?_, ?_⟩
  · rw [← h1, drop_at s p hp]; rfl
  · have := stepR_fine hok h2
    rw [Nat.pow_succ]
    have e : (((10 ^ p * 10 : Nat)) : Int) = ((10 ^ p : Nat) : Int) * 10 := by push_cast; rfl
    rw [e]; exact this
  · have := stepR_len (c := s[p]'hp) (Nat.pow_pos (n := p) (by decide : 0 < 10)) h2
    rw [lenB]
    exact Nat.le_trans this (Nat.mul_le_mul_right _ h3)
theorem setInv_small {s : ByteArray} {p : Nat} {out : List S120} (hp : p ≤ 3) (h : setInv s p out) : fine out 1000 ∧ out.length ≤ 1000 := by
  obtain ⟨h1, h2, h3⟩ := h
  have h10 : (10 ^ p : Nat) ≤ 1000 := Nat.pow_le_pow_right (n := 10) (by decide) hp
  have hl : lenB p ≤ 1000 := by
    rcases (by omega : p = 0 ∨ p = 1 ∨ p = 2 ∨ p = 3) with rfl | rfl | rfl | rfl <;> decide
  refine ⟨fun r hr => ?_, by omega⟩
  obtain ⟨a, b, c⟩ := h2 r hr
  have : ((10 ^ p : Nat) : Int) ≤ 1000 := Int.ofNat_le.2 h10
  exact ⟨a, b, by omega⟩
theorem iterPos_of {w : World} {g : Nat} {s : ByteArray} {p : Nat} (h : w.heap[g]? = some (.stringIter s p)) : w.iterPos g = p := by unfold World.iterPos; rw [h]
set_option maxHeartbeats 8000000 in
set_option maxRecDepth 1000000 in
theorem mask_Set.calls (a0 : ByteArray) (rr : List S120) (w00 : World) (h : mask_Set.f a0 = some rr) :
    Calls Tryz.prog 91 #[.string a0] w00 fun e w' => ∃ v0_ : Value, e = .returned (v0_) ∧ Kd.R k120 120 w' w00.heap.size (fun _ => True) v0_ rr ∧ Below w00.heap.size w00 w' := by
  have hu36 := Tryz.underlying120
  obtain rfl := Option.some.inj h
  clear h
  have HB := A_ (Below.refl w00.heap.size w00)
  by_cases hs : saneL a0.data.toList = true
  rotate_left
  · have hs := Bool.eq_false_iff.mpr hs
    have AS := A_ (show mask_Sane.f a0 = some false from congrArg some hs)
    rw [hs]
    clear hs
    go_enter Tryz.func91, Tryz.ntmps91
    go_wp2_with (first | (refine gC 75 ?_; refine gL 12 Tryz.func75 #[.string a0] ?_; (with_reducible refine (mask_Sane.calls a0 false _ AS.out).mono ?_); rintro e w5 ⟨rfl, hb⟩; refine ⟨_, rfl, ?_⟩; have HB2 := bs_ hb; clear HB hb; have HB := HB2; clear HB2))
    go_ret
    exact ⟨_, rfl, Kd.R_nil _ _ _ _ _, HB.out⟩
  have AS := A_ (show mask_Sane.f a0 = some true from congrArg some hs)
  rw [if_pos hs]
  have hsz : a0.size = a0.data.toList.length := by simp
  have h4 : a0.size ≤ 4 := by rw [hsz]; unfold saneL at hs; simp only [Bool.and_eq_true, decide_eq_true_eq] at hs; exact hs.2
  have HOK := A_ (ok_of AS.out)
  have H4 := A_ h4
  clear hs hsz h4
  go_enter Tryz.func91, Tryz.ntmps91
  go_wp2_with (first | (refine gC 75 ?_; refine gL 12 Tryz.func75 #[.string a0] ?_; (with_reducible refine (mask_Sane.calls a0 true _ AS.out).mono ?_); rintro e w5 ⟨rfl, hb⟩; refine ⟨_, rfl, ?_⟩; have HB2 := bs_ hb; clear HB hb; have HB := HB2; clear HB2) | (refine gD 15 ?_; refine Kd.R_lit k120 _ 120 ?hg (N := 15) ?hd (xs := ([(⟨0, 0⟩ : S120)] : List S120)) (inner := [.int .i64 0, .int .i64 0]) (ok := fun _ => True) (okp := fun _ => True) ?hr ?hp (fun _ hk => hk) trivial (Below.refl _ _) (Nat.le_refl _) (by simp) ?_; (case hd => rfl); (case hg => rfl); (case hr => first | (go_simp; done) | (go_simp; rfl)); (case hp => exact (Reps.c2 (show Kd.M k120 _ _ _ (⟨0, 0⟩ : S120) [.int .i64 0, .int .i64 0] from (k120_mkM _ _ _ (⟨0, 0⟩ : S120) )) (Reps.none _ _))); intro v3 w13 ho14 hb hg_ hnew_; clear hg_ hnew_; have HO := A_ (Kd.R_lower ho14 (below_size hs_)); have HB2 := bs_ hb; clear HB hb ho14; have HB := HB2; clear HB2))
  obtain ⟨gi, hgi⟩ : ∃ g : Nat, g = w13.heap.size := ⟨_, rfl⟩
  have HI0 := A_ (show (w13.iter a0 0).heap[gi]? = some (.stringIter a0 0) by rw [hgi]; exact World.iter_heap w13 a0 0)
  have HO0 := A_ (show Kd.R k120 120 (w13.iter a0 0) w00.heap.size (fun k => k ≠ gi) v3 [(⟨0, 0⟩ : S120)] from Kd.R_alloc (Kd.R_reok k120_E HO.out (fun k hk => by
    have := Kd.R_lt HO.out
    have h := this k hk
    omega)) _)
  have HB0 := A_ (show Below w00.heap.size w00 (w13.iter a0 0) from below_alloc HB.out _)
  have HG0 := A_ (show w00.heap.size ≤ gi by rw [hgi]; exact HB.out.size)
  rw [← hgi]
  clear HO HB hgi
  go_loopw [3] (fun v3 w' => ∃ (p : Nat) (out : List S120), Aside0 (w'.heap[gi]? = some (.stringIter a0 p)) ∧ Aside0 (Kd.R k120 120 w' w00.heap.size (fun k => k ≠ gi) v3 out) ∧ Aside0 (Below w00.heap.size w00 w') ∧ Aside0 (setInv a0 p out)) (fun _ w' => a0.size - w'.iterPos gi)
  case atStart => exact ⟨0, _, HI0, HO0, HB0, ⟨setInv_0 a0⟩⟩
  case round =>
    clear HI0 HO0 HB0
    obtain ⟨p, l0, HI, HO, HBB, HD⟩ := hrel
    by_cases hp : p < a0.size
    · have hok := HOK.out p hp
      have hnx : ∀ ty, (Instr.next (.pointer (some ⟨gi, 0, none⟩)) true ty).run Tryz.prog wr = _ := fun ty => run_next_at ty HI.out hp (by omega)
      obtain ⟨hf, hl⟩ := setInv_small (by have := H4.out; omega) HD.out
      obtain ⟨k, hk⟩ := (set_body (a0[p]'hp) hok l0 hf hl).rounds
      have HD2 := A_ (setInv_step hp hok HD.out)
      obtain ⟨r, hr⟩ : ∃ r, r = l0.flatMap (stepR (a0[p]'hp)) := ⟨_, rfl⟩
      rw [← hr] at hk HD2
      obtain ⟨w, hw⟩ : ∃ w, w = itset wr gi a0 (p + 1) := ⟨_, rfl⟩
      rw [← hw] at hnx
      have HIw := A_ (show w.heap[gi]? = some (.stringIter a0 (p + 1)) by rw [hw]; exact itset_at HI.out)
      have HOw := A_ (show Kd.R k120 120 w w00.heap.size (fun k => k ≠ gi) u3 l0 by rw [hw]; exact Kd.R_keep HO.out (itset_keep _ _ _ _) (fun _ h => h))
      have HBw := A_ (show Below w00.heap.size w00 w by rw [hw]; exact itset_below HBB.out HG0.out)
      have hpos := A_ (iterPos_of HI.out)
      have hp2 := A_ hp
      obtain ⟨A0, c0, rfl⟩ := Kd.R_slice HOw.out
      have HR0 := A_ (Kd.R_reads' HOw.out).2.2
      have HC0 := A_ (Kd.R_reads' HOw.out).2.1
      have hend : ∀ (v : Value) (w' : World), Kd.R k120 120 w' w.heap.size (fun _ => True) v r → Below w.heap.size w w' → ∃ (p : Nat) (out : List S120), Aside0 (w'.heap[gi]? = some (.stringIter a0 p)) ∧ Aside0 (Kd.R k120 120 w' w00.heap.size (fun k => k ≠ gi) v out) ∧ Aside0 (Below w00.heap.size w00 w') ∧ Aside0 (setInv a0 p out) := fun v w' h1 h2 =>
        ⟨p + 1, r, ⟨blk_below HIw.out h2⟩, ⟨Kd.R_lower (Kd.R_reok k120_E h1 (fun k hk => by have h3 := Kd.R_base h1 k hk; have h4 := blk_lt HIw.out; omega)) HBw.out.size⟩, ⟨below_step HBw.out h2⟩, HD2⟩
      have hmeas : ∀ (w' : World), Below w.heap.size w w' → a0.size - w'.iterPos gi < a0.size - wr.iterPos gi := fun w' h2 => by
        rw [iterPos_of (blk_below HIw.out h2), hpos.out]; have := hp2.out; omega
      have HEND := A_ hend
      have HMEAS := A_ hmeas
      generalize ((a0[p]'hp).toNat : Int) = a1 at hnx hk
      have H' := A_ (show B.mask_Set.l0 k a1 ([] : List S120) l0 (l0.length : Int) 0 = some r from hk)
      have HB := A_ (Below.refl w.heap.size w)
      clear hk hr hw hf hl hok hend hmeas HD HI HO HBB HOw HIw HBw HD2 hpos hp2 hp
      go_wp2
      go_loopg [6, 23] k (fun kq v6 v23 w' => ∃ (x6_1 : List (S120)) (x23_1 : Int), v23 = .int .i64 x23_1 ∧ Aside0 (B.mask_Set.l0 kq a1 x6_1 l0 (l0.length : Int) x23_1 = some r) ∧ Aside0 (kq ≤ k) ∧ Aside0 (Kd.R k120 120 w' w.heap.size (fun _ => True) v6 x6_1) ∧ Aside0 (Below w.heap.size w w'))
      case atStart => exact ⟨(([] : List (S120))), (0), (by first | rfl | (simp; done) | (simp [*]; done)), H', ⟨Nat.le_refl _⟩, ⟨by first | exact Kd.R_nil _ _ _ _ _ | exact Kd.N_nil _ _ _ _ _ | exact Kd.V_nil _ _ _ _ _ | exact Kd.Q_nil _ _ _ _ _ | exact Kd.S_nil _ _ _ _ _⟩, ⟨hs_⟩⟩
      case round =>
        clear H'
        try clear p2
        obtain ⟨x6_1, x23_1, rfl, HA, HK1, HO_6, HB⟩ := hrel
        cases gk with
        | zero => exact absurd HA.out (by simp [B.mask_Set.l0])
        | succ k1 =>
          have H := HA.out
          clear HA
          simp only [B.mask_Set.l0] at H
          by_cases c3 : x23_1 < (l0.length : Int)
          · rw [if_pos c3] at H
            have c3b0 := decide_eq_true c3
            clear c3
            by_cases c4 : 0 ≤ x23_1
            · rw [if_pos c4] at H
              have c4b0 := decide_eq_true c4
              clear c4
              by_cases c5 : x23_1 < (l0.length : Int)
              · rw [if_pos c5] at H
                have c5b0 := decide_eq_true c5
                clear c5
                by_cases c6 : a1 = 88
                · rw [if_pos c6] at H
                  have c6b0 : (a1 == 88) = true := beq_iff_eq.mpr c6
                  have c6b1 : (a1 != 88) = false := bne_eq_false_iff_eq.mpr c6
                  clear c6
                  by_cases c7 : x6_1.length < 8796093022208
                  · rw [if_pos c7] at H
                    have LMc7 := A_ c7
                    clear c7
                    obtain ⟨y103, hy103⟩ : ∃ y_ : List (S120), y_ = (x6_1 ++ [(⟨wrap64 (((rd_T120 l0 x23_1).f0) * 10), wrap64 ((wrap64 (((rd_T120 l0 x23_1).f1) * 10)) + 9)⟩ : S120)]) := ⟨_, rfl⟩
                    replace H : (B.mask_Set.l0 k1 a1 y103 l0 (l0.length : Int) (wrap64 (x23_1 + 1))) = some r := by first | (rw [hy103]; with_reducible exact H) | (have H2_ := (Option.bind_some _ _).symm.trans H; rw [hy103]; with_reducible exact H2_) | (have H2_ := (Option.bind_some _ _).symm.trans H; with_reducible exact H2_) | with_reducible exact H | (rw [hy103]; exact H) | exact H
                    have Ny103 := A_ hy103
                    clear hy103
                    have H' := A_ H
                    clear H
                    have p101 : 0 ≤ (x23_1 : Int) := of_decide_eq_true (by first | (with_reducible assumption) | assumption)
                    have q101 : x23_1 < (l0.length : Int) := of_decide_eq_true (by first | (with_reducible assumption) | assumption)
                    obtain ⟨ad101, e101, hx101_0, hx101_1⟩ := at_T120 HR0.out x23_1 p101 q101
                    cases e101
                    replace hx101_0 := cl_ HB hx101_0
                    replace hx101_1 := cl_ HB hx101_1
                    replace p101 := eq_true p101
                    replace q101 := eq_true q101
                    go_wp2_with (first | (refine gD 8 ?_; refine bxe_ 8 #[.int .i64 0, .int .i64 0] 120 ?_; intro gb102 hg w8 hbox hb; replace HO_6 := A_ (Kd.R_below (Kd.R_elderB (fxR_ HO_6.out) gb102 (Nat.le_of_eq hg.symm)) hb); have BK102 := A_ (hbox); have GW102 := gs_ w hg; have GE102 := gs_ w hg; replace HB := bs_ hb; clear hb hbox hg; have hcz9_0 : w8.cell? ⟨gb102, 0, none⟩ = some (.int .i64 0) := bq_ BK102 0; have hcz9_1 : w8.cell? ⟨gb102, 1, none⟩ = some (.int .i64 0) := bq_ BK102 1; have hfz9_0 := blk_frozen BK102.out 0; have hfz9_1 := blk_frozen BK102.out 1) | ((with_reducible refine gate_builtin (b := .append) (xs := #[.tmp 29, .tmp 38]) rfl ?_); at_builtin; refine Kd.R_append k120 (w0 := w) w.heap.size rfl (.tmp 29) (.tmp 38) 116 120 (.agg #[(.int .i64 0), (.int .i64 0)]) 16 rfl Tryz.underlying116 info120 rfl (by decide) (by omega) u6 x6_1 (⟨wrap64 (((rd_T120 l0 x23_1).f0) * 10), wrap64 ((wrap64 (((rd_T120 l0 x23_1).f1) * 10)) + 9)⟩ : S120) [.int .i64 (wrap64 (((rd_T120 l0 x23_1).f0) * 10)), .int .i64 (wrap64 ((wrap64 (((rd_T120 l0 x23_1).f1) * 10)) + 9))] (fun k_ => k_ ≠ gb102) (fun _ => False) rfl (by first | (go_simp; done) | (go_simp; rfl)) ?aP (fun _ hk => hk.elim) ?aF ?aO ?aB ?aS ?aL ?_; (case aP => exact k120_mkM _ _ _ (⟨wrap64 (((rd_T120 l0 x23_1).f0) * 10), wrap64 ((wrap64 (((rd_T120 l0 x23_1).f1) * 10)) + 9)⟩ : S120)); (case aB => exact hs_); (case aF => exact (fun k_ hk => fb_ BK102 k_ hk)); (case aO => exact (fpR_ HO_6.out)); (case aS => exact (below_size hs_)); (case aL => have := LMc7.out; omega); intro v104 w10 ho hb hg hat; rw [← Ny103.out] at ho; replace BK102 := A_ (blk_grown (g := gb102) (o := .cells #[.int .i64 ((rd_T120 l0 x23_1).f0), .int .i64 ((rd_T120 l0 x23_1).f1)] 120 (0, 0)) (pb_ BK102.out) hg (Kd.R_away HO_6.out (fun _ hk => hk.2))); replace HB := A_ (hb); have HO105 := A_ (ho); clear HO_6; clear ho hb hg hat))
                    go_roundg k1
                    case measure => have := HK1.out; omega
                    case rel => exact ⟨(y103), (wrap64 (x23_1 + 1)), (by first | rfl | (simp; done) | (simp [*]; done)), H', ⟨by have := HK1.out; omega⟩, ⟨by (with_reducible repeat (first | apply Kd.R_alloc | apply Kd.R_drewN | apply Kd.R_drew)); exact Kd.R_mono HO105.out (fun _ hk => trivial)⟩, ⟨hs_⟩⟩
                  · rw [if_neg c7] at H
                    exact absurd H (by simp)
                · rw [if_neg c6] at H
                  have c6b0 : (a1 == 88) = false := beq_eq_false_iff_ne.mpr c6
                  have c6b1 : (a1 != 88) = true := bne_iff_ne.mpr c6
                  have H' := A_ H
                  clear H
                  have p101 : 0 ≤ (x23_1 : Int) := of_decide_eq_true (by first | (with_reducible assumption) | assumption)
                  have q101 : x23_1 < (l0.length : Int) := of_decide_eq_true (by first | (with_reducible assumption) | assumption)
                  obtain ⟨ad101, e101, hx101_0, hx101_1⟩ := at_T120 HR0.out x23_1 p101 q101
                  cases e101
                  replace hx101_0 := cl_ HB hx101_0
                  replace hx101_1 := cl_ HB hx101_1
                  replace p101 := eq_true p101
                  replace q101 := eq_true q101
                  go_wp2_with (first | (refine gD 8 ?_; refine bxe_ 8 #[.int .i64 0, .int .i64 0] 120 ?_; intro gb102 hg w11 hbox hb; replace HO_6 := A_ (Kd.R_below (Kd.R_elderB (fxR_ HO_6.out) gb102 (Nat.le_of_eq hg.symm)) hb); have BK102 := A_ (hbox); have GW102 := gs_ w hg; have GE102 := gs_ w hg; replace HB := bs_ hb; clear hb hbox hg; have hcz12_0 : w11.cell? ⟨gb102, 0, none⟩ = some (.int .i64 0) := bq_ BK102 0; have hcz12_1 : w11.cell? ⟨gb102, 1, none⟩ = some (.int .i64 0) := bq_ BK102 1; have hfz12_0 := blk_frozen BK102.out 0; have hfz12_1 := blk_frozen BK102.out 1))
                  go_loopg [6, 9] k1 (fun kq v6 v9 w' => ∃ (x6_2 : List (S120)) (x9_2 : Int), v9 = .int .i64 x9_2 ∧ Aside0 (B.mask_Set.l1 kq a1 x6_2 x9_2 l0 (l0.length : Int) x23_1 ((rd_T120 l0 x23_1).f0) ((rd_T120 l0 x23_1).f1) = some r) ∧ Aside0 (kq ≤ k1) ∧ Aside0 (Kd.R k120 120 w' w.heap.size (fun k_ => k_ ≠ gb102) v6 x6_2) ∧ Aside0 (w'.heap[gb102]? = some (.cells #[.int .i64 ((rd_T120 l0 x23_1).f0), .int .i64 ((rd_T120 l0 x23_1).f1)] 120 (0, 0))) ∧ Aside0 (Below w.heap.size w w'))
                  case atStart => exact ⟨(x6_1), ((rd_T120 l0 x23_1).f0), (by first | rfl | (simp; done) | (simp [*]; done)), H', ⟨Nat.le_refl _⟩, ⟨fpR_ HO_6.out⟩, ⟨pb_ BK102.out⟩, ⟨hs_⟩⟩
                  case round =>
                    clear H'
                    try clear p1
                    try clear q1
                    try clear hx1
                    try clear p2
                    try clear c3
                    try clear c3b0
                    try clear c4
                    try clear c4b0
                    try clear c5
                    try clear c5b0
                    try clear c6
                    try clear c6b0
                    try clear c6b1
                    try clear p6
                    try clear c7
                    try clear c8
                    try clear p10
                    try clear q10
                    try clear hx10
                    try clear hcz12_0
                    try clear hcz12_1
                    try clear hcz9_0
                    try clear hcz9_1
                    try clear hfz12_0
                    try clear hfz12_1
                    try clear hfz9_0
                    try clear hfz9_1
                    try clear hx101_0
                    try clear hx101_1
                    try clear p101
                    try clear p2
                    try clear q101
                    obtain ⟨x6_2, x9_2, rfl, HA, HK2, HO_6, BK102, HB⟩ := hrel
                    cases gk with
                    | zero => exact absurd HA.out (by simp [B.mask_Set.l1])
                    | succ k2 =>
                      have H := HA.out
                      clear HA
                      simp only [B.mask_Set.l1] at H
                      by_cases c13 : x9_2 ≤ ((rd_T120 l0 x23_1).f1)
                      · rw [if_pos c13] at H
                        have c13b0 := decide_eq_true c13
                        clear c13
                        by_cases c14 : x6_2.length < 8796093022208
                        · rw [if_pos c14] at H
                          have LMc14 := A_ c14
                          clear c14
                          obtain ⟨y106, hy106⟩ : ∃ y_ : List (S120), y_ = (x6_2 ++ [(⟨wrap64 ((wrap64 (x9_2 * 10)) + (wrap64 (wrap32 (a1 - 48)))), wrap64 ((wrap64 (x9_2 * 10)) + (wrap64 (wrap32 (a1 - 48))))⟩ : S120)]) := ⟨_, rfl⟩
                          replace H : (B.mask_Set.l1 k2 a1 y106 (wrap64 (x9_2 + 1)) l0 (l0.length : Int) x23_1 ((rd_T120 l0 x23_1).f0) ((rd_T120 l0 x23_1).f1)) = some r := by first | (rw [hy106]; with_reducible exact H) | (have H2_ := (Option.bind_some _ _).symm.trans H; rw [hy106]; with_reducible exact H2_) | (have H2_ := (Option.bind_some _ _).symm.trans H; with_reducible exact H2_) | with_reducible exact H | (rw [hy106]; exact H) | exact H
                          have Ny106 := A_ hy106
                          clear hy106
                          have H' := A_ H
                          clear H
                          have hcz15_0 : wr.cell? ⟨gb102, 0, none⟩ = some (.int .i64 ((rd_T120 l0 x23_1).f0)) := bq_ BK102 0
                          have hcz15_1 : wr.cell? ⟨gb102, 1, none⟩ = some (.int .i64 ((rd_T120 l0 x23_1).f1)) := bq_ BK102 1
                          have hfz15_0 := blk_frozen BK102.out 0
                          have hfz15_1 := blk_frozen BK102.out 1
                          go_wp2_with (first | ((with_reducible refine gate_builtin (b := .append) (xs := #[.tmp 54, .tmp 58]) rfl ?_); at_builtin; refine Kd.R_append k120 (w0 := w) w.heap.size rfl (.tmp 54) (.tmp 58) 116 120 (.agg #[(.int .i64 0), (.int .i64 0)]) 16 rfl Tryz.underlying116 info120 rfl (by decide) (by omega) u6 x6_2 (⟨wrap64 ((wrap64 (x9_2 * 10)) + (wrap64 (wrap32 (a1 - 48)))), wrap64 ((wrap64 (x9_2 * 10)) + (wrap64 (wrap32 (a1 - 48))))⟩ : S120) [.int .i64 (wrap64 ((wrap64 (x9_2 * 10)) + (wrap64 (wrap32 (a1 - 48))))), .int .i64 (wrap64 ((wrap64 (x9_2 * 10)) + (wrap64 (wrap32 (a1 - 48)))))] (fun k_ => k_ ≠ gb102) (fun _ => False) rfl rfl ?aP (fun _ hk => hk.elim) ?aF ?aO ?aB ?aS ?aL ?_; (case aP => exact k120_mkM _ _ _ (⟨wrap64 ((wrap64 (x9_2 * 10)) + (wrap64 (wrap32 (a1 - 48)))), wrap64 ((wrap64 (x9_2 * 10)) + (wrap64 (wrap32 (a1 - 48))))⟩ : S120)); (case aB => exact hs_); (case aF => exact (fun k_ hk => fb_ BK102 k_ hk)); (case aO => exact (fxR_ HO_6.out)); (case aS => exact (below_size hs_)); (case aL => have := LMc14.out; omega); intro v107 w16 ho hb hg hat; rw [← Ny106.out] at ho; replace BK102 := A_ (blk_grown (g := gb102) (o := .cells #[.int .i64 ((rd_T120 l0 x23_1).f0), .int .i64 ((rd_T120 l0 x23_1).f1)] 120 (0, 0)) (bl_ BK102.out) hg (Kd.R_away HO_6.out (fun _ hk => hk))); replace HB := A_ (hb); have HO108 := A_ (ho); clear HO_6; clear ho hb hg hat))
                          go_roundg k2
                          case measure => have := HK1.out; have := HK2.out; omega
                          case rel => exact ⟨(y106), (wrap64 (x9_2 + 1)), (by first | rfl | (simp; done) | (simp [*]; done)), H', ⟨by have := HK1.out; have := HK2.out; omega⟩, ⟨fxR_ HO108.out⟩, ⟨bl_ BK102.out⟩, ⟨hs_⟩⟩
                        · rw [if_neg c14] at H
                          exact absurd H (by simp)
                      · rw [if_neg c13] at H
                        have c13b0 := decide_eq_false c13
                        clear c13
                        have H' := A_ H
                        clear H
                        have hcz17_0 : wr.cell? ⟨gb102, 0, none⟩ = some (.int .i64 ((rd_T120 l0 x23_1).f0)) := bq_ BK102 0
                        have hcz17_1 : wr.cell? ⟨gb102, 1, none⟩ = some (.int .i64 ((rd_T120 l0 x23_1).f1)) := bq_ BK102 1
                        have hfz17_0 := blk_frozen BK102.out 0
                        have hfz17_1 := blk_frozen BK102.out 1
                        go_wp2
                        go_roundg k2
                        case measure => have := HK1.out; have := HK2.out; omega
                        case rel => exact ⟨(x6_2), (wrap64 (x23_1 + 1)), (by first | rfl | (simp; done) | (simp [*]; done)), H', ⟨by have := HK1.out; have := HK2.out; omega⟩, ⟨by (with_reducible repeat (first | apply Kd.R_alloc | apply Kd.R_drewN | apply Kd.R_drew)); exact Kd.R_mono HO_6.out (fun _ hk => trivial)⟩, ⟨hs_⟩⟩
              · rw [if_neg c5] at H
                exact absurd H (by simp)
            · rw [if_neg c4] at H
              exact absurd H (by simp)
          · rw [if_neg c3] at H
            have c3b0 := decide_eq_false c3
            clear c3
            obtain rfl := Option.some.inj H
            go_wp2
            go_roundw
            case rel => exact HEND.out _ _ HO_6.out HB.out
            case measure => exact HMEAS.out _ HB.out
    · have hnx : ∀ ty, (Instr.next (.pointer (some ⟨gi, 0, none⟩)) true ty).run Tryz.prog wr = _ := fun ty => run_next_done ty HI.out hp
      have hf : l0 = setL a0.data.toList [⟨0, 0⟩] := by rw [← HD.out.1, List.drop_eq_nil_of_le (by simpa using hp)]; rfl
      have HF := A_ hf
      clear hf hp
      go_wp2
      go_ret
      exact ⟨_, rfl, by rw [← HF.out]; exact Kd.R_mono HO.out (fun _ _ => trivial), HBB.out⟩
def runs_Sane.l0 : Nat → Int → List (S120) → Int → Int → Option (Bool)
  | 0, _, _, _, _ => none
  | k + 1, x3, x6, x7, x8 => if x8 < x7 then (if 0 ≤ x8 then (if x8 < (x6.length : Int) then (if ((rd_T120 x6 x8).f0) > ((rd_T120 x6 x8).f1) then (some false) else (if ((rd_T120 x6 x8).f0) < (wrap64 (x3 + 2)) then (some false) else (if ((rd_T120 x6 x8).f1) > 1099511627776 then (some false) else (runs_Sane.l0 k ((rd_T120 x6 x8).f1) x6 x7 (wrap64 (x8 + 1)))))) else (none)) else (none)) else (some true)
def runs_Sane.f (k : Nat) (l0 : List (S120)) : Option (Bool) := runs_Sane.l0 k (-1099511627778) l0 (l0.length : Int) 0
theorem runs_Sane.mono_l : ∀ k, (∀ y0 y1 y2 y3, LeO (runs_Sane.l0 k y0 y1 y2 y3) (runs_Sane.l0 (k + 1) y0 y1 y2 y3))
  | 0 => fun _ _ _ _ r h => by simp [runs_Sane.l0] at h
  | k + 1 => by
    have ih0 := runs_Sane.mono_l k
    · intro y0 y1 y2 y3
      unfold runs_Sane.l0
      repeat' (with_reducible first | apply ih0 | exact LeO.refl _ | exact LeO.none _ | refine LeO.ite ?_ ?_ | refine LeO.bind ?_ fun _ => ?_)
theorem runs_Sane.mono : ∀ a0 k, LeO (runs_Sane.f k a0) (runs_Sane.f (k + 1) a0) := by
  intro a0 k
  have ih0 := runs_Sane.mono_l k
  unfold runs_Sane.f
  repeat' (with_reducible first | apply ih0 | exact LeO.refl _ | exact LeO.none _ | refine LeO.ite ?_ ?_ | refine LeO.bind ?_ fun _ => ?_)
def runs_Make.f (_ : List S120) : Option (List S120) := none
def sets_known.f (k : Nat) (l0 : List (S120)) : Option ((List (S120))) := (runs_Sane.f k l0).bind fun t103 => (if t103 = true then (some l0) else ((runs_Make.f l0).bind fun t104 => (some t104)))
theorem sets_known.mono : ∀ a0 k, LeO (sets_known.f k a0) (sets_known.f (k + 1) a0) := by
  intro a0 k
  unfold sets_known.f
  repeat' (with_reducible first | apply runs_Sane.mono | exact LeO.refl _ | exact LeO.none _ | refine LeO.ite ?_ ?_ | refine LeO.bind ?_ fun _ => ?_)
mutual
def sets_Meet.l0 : Nat → List (S120) → List (S120) → List (S120) → Int → Int → Option ((List (S120)))
  | 0, _, _, _, _, _ => none
  | k + 1, x0, x1, x5, x6, x7 => if x6 < (x0.length : Int) then (sets_Meet.j1 k x0 x1 x5 x6 x7 (decide (x7 < (x1.length : Int)))) else (sets_Meet.j1 k x0 x1 x5 x6 x7 false)
def sets_Meet.j1 : Nat → List (S120) → List (S120) → List (S120) → Int → Int → Bool → Option ((List (S120)))
  | 0, _, _, _, _, _, _ => none
  | k + 1, x0, x1, x5, x6, x7, x22 => if x22 = true then (if 0 ≤ x6 then (if x6 < (x0.length : Int) then (if 0 ≤ x7 then (if x7 < (x1.length : Int) then (if (mx ((rd_T120 x0 x6).f0) ((rd_T120 x1 x7).f0)) ≤ (mn ((rd_T120 x0 x6).f1) ((rd_T120 x1 x7).f1)) then (if x5.length < 8796093022208 then ((some (x5 ++ [(⟨mx ((rd_T120 x0 x6).f0) ((rd_T120 x1 x7).f0), mn ((rd_T120 x0 x6).f1) ((rd_T120 x1 x7).f1)⟩ : S120)] : List (S120))).bind fun y118 => (if ((rd_T120 x0 x6).f1) < ((rd_T120 x1 x7).f1) then (sets_Meet.l0 k x0 x1 y118 (wrap64 (x6 + 1)) x7) else (sets_Meet.l0 k x0 x1 y118 x6 (wrap64 (x7 + 1))))) else (none)) else (if ((rd_T120 x0 x6).f1) < ((rd_T120 x1 x7).f1) then (sets_Meet.l0 k x0 x1 x5 (wrap64 (x6 + 1)) x7) else (sets_Meet.l0 k x0 x1 x5 x6 (wrap64 (x7 + 1))))) else (none)) else (none)) else (none)) else (none)) else (some x5)
end
def sets_Meet.f (k : Nat) (l0 : List (S120)) (l1 : List (S120)) : Option ((List (S120))) := (sets_known.f k l0).bind fun t107 => ((sets_known.f k l1).bind fun t110 => (sets_Meet.l0 k t107 t110 ([] : List (S120)) 0 0))
theorem sets_Meet.mono_l : ∀ k, (∀ y0 y1 y2 y3 y4, LeO (sets_Meet.l0 k y0 y1 y2 y3 y4) (sets_Meet.l0 (k + 1) y0 y1 y2 y3 y4)) ∧ (∀ y0 y1 y2 y3 y4 y5, LeO (sets_Meet.j1 k y0 y1 y2 y3 y4 y5) (sets_Meet.j1 (k + 1) y0 y1 y2 y3 y4 y5))
  | 0 => ⟨fun _ _ _ _ _ r h => by simp [sets_Meet.l0] at h, fun _ _ _ _ _ _ r h => by simp [sets_Meet.j1] at h⟩
  | k + 1 => by
    obtain ⟨ih0, ih1⟩ := sets_Meet.mono_l k
    refine ⟨?_, ?_⟩
    · intro y0 y1 y2 y3 y4
      unfold sets_Meet.l0
      repeat' (with_reducible first | apply ih0 | apply ih1 | apply sets_known.mono | exact LeO.refl _ | exact LeO.none _ | refine LeO.ite ?_ ?_ | refine LeO.bind ?_ fun _ => ?_)
    · intro y0 y1 y2 y3 y4 y5
      unfold sets_Meet.j1
      repeat' (with_reducible first | apply ih0 | apply ih1 | apply sets_known.mono | exact LeO.refl _ | exact LeO.none _ | refine LeO.ite ?_ ?_ | refine LeO.bind ?_ fun _ => ?_)
theorem sets_Meet.mono : ∀ a0 a1 k, LeO (sets_Meet.f k a0 a1) (sets_Meet.f (k + 1) a0 a1) := by
  intro a0 a1 k
  obtain ⟨ih0, ih1⟩ := sets_Meet.mono_l k
  unfold sets_Meet.f
  repeat' (with_reducible first | apply ih0 | apply ih1 | apply sets_known.mono | exact LeO.refl _ | exact LeO.none _ | refine LeO.ite ?_ ?_ | refine LeO.bind ?_ fun _ => ?_)
def lim : Int := 1099511627776
def mem (l : List S120) (n : Int) : Prop := ∃ r, r ∈ l ∧ r.f0 ≤ n ∧ n ≤ r.f1
def saneF : Int → List S120 → Prop
  | _, [] => True
  | a, r :: t => a + 2 ≤ r.f0 ∧ r.f0 ≤ r.f1 ∧ r.f1 ≤ lim ∧ saneF r.f1 t
def sane (l : List S120) : Prop := saneF (-lim - 2) l
theorem mem_nil (n : Int) : ¬ mem [] n := fun ⟨_, h, _⟩ => by simp at h
theorem mem_cons (r : S120) (t : List S120) (n : Int) : mem (r :: t) n ↔ (r.f0 ≤ n ∧ n ≤ r.f1) ∨ mem t n := by
  constructor
  · rintro ⟨q, hq, h⟩
    rcases List.mem_cons.1 hq with rfl | hq
    · exact .inl h
    · exact .inr ⟨q, hq, h⟩
  · rintro (h | ⟨q, hq, h⟩)
    · exact ⟨r, List.mem_cons_self, h⟩
    · exact ⟨q, List.mem_cons_of_mem _ hq, h⟩
theorem mem_append (s t : List S120) (n : Int) : mem (s ++ t) n ↔ mem s n ∨ mem t n := by
  induction s with
  | nil => simp [mem_nil]
  | cons r s ih => rw [List.cons_append, mem_cons, mem_cons, ih, or_assoc]
theorem saneF_mem : ∀ {a : Int} {l : List S120}, saneF a l → ∀ {n : Int}, mem l n → a + 2 ≤ n ∧ n ≤ lim
  | _, [], _, _, h => absurd h (mem_nil _)
  | a, r :: t, ⟨h1, h2, h3, h4⟩, n, h => by
    rcases (mem_cons _ _ _).1 h with h | h
    · omega
    · have := saneF_mem h4 h
      omega
theorem saneF_le {a b : Int} {l : List S120} (h : saneF a l) (hb : b ≤ a) : saneF b l := by
  cases l with
  | nil => trivial
  | cons r t =>
    obtain ⟨h1, h2, h3, h4⟩ := h
    exact ⟨by omega, h2, h3, h4⟩
def ins (x : S120) : List S120 → List S120
  | [] => [x]
  | q :: t => if q.f1 < x.f0 - 1 then q :: ins x t else if x.f1 + 1 < q.f0 then x :: q :: t else ins ⟨min x.f0 q.f0, max x.f1 q.f1⟩ t
def clamp (r : S120) : S120 := ⟨max r.f0 (-lim), min r.f1 lim⟩
def step (s : List S120) (r : S120) : List S120 := if (clamp r).f0 ≤ (clamp r).f1 then ins (clamp r) s else s
theorem Ev.ift {α : Type} {c : Prop} [Decidable c] {g f : Nat → Option α} {r : α} (hc : c) (h : Ev g r) : Ev (fun k => if c then g k else f k) r := Ev.congr (fun k => if_pos hc) h
theorem Ev.iff_ {α : Type} {c : Prop} [Decidable c] {g f : Nat → Option α} {r : α} (hc : ¬ c) (h : Ev f r) : Ev (fun k => if c then g k else f k) r := Ev.congr (fun k => if_neg hc) h
theorem Ev.bnow {α β : Type} {a : Option α} {f : Nat → α → Option β} {x : α} {r : β} (h : a = some x) (k : Ev (fun n => f n x) r) : Ev (fun n => a.bind (f n)) r := Ev.congr (fun n => by rw [h]; rfl) k
theorem u8eq {x y : UInt8} (h : x.toNat = y.toNat) : x = y := UInt8.toNat_inj.1 h
theorem sane_all {l : List UInt8} (h : saneL l = true) : l.all okB = true ∧ l ≠ [] ∧ l.length ≤ 4 := by
  unfold saneL at h
  simp only [Bool.and_eq_true, decide_eq_true_eq] at h
  exact ⟨h.1.1, h.1.2, h.2⟩
theorem bsize (s : ByteArray) : s.size = s.data.toList.length := by simp
theorem Sane_l0 : ∀ (t p : List S120) (last : Int), (p ++ t).length ≤ 4611686018427387904 → -lim - 2 ≤ last → last ≤ lim →
    ∃ b, Ev (fun k => runs_Sane.l0 k last (p ++ t) ((p ++ t).length : Int) (p.length : Int)) b ∧ (b = true ↔ saneF last t)
  | [], p, last, _, _, _ => ⟨true, Ev.step (f := fun _ => some true) (fun k => by simp only [runs_Sane.l0]; rw [if_neg (at_end p)]) (Ev.now true), by simp [saneF]⟩
  | r :: t, p, last, hn, h1, h2 => by
    have e : ∀ k, runs_Sane.l0 (k + 1) last (p ++ r :: t) ((p ++ r :: t).length : Int) (p.length : Int) = (if r.f0 > r.f1 then some false else if r.f0 < last + 2 then some false else if r.f1 > 1099511627776 then some false else runs_Sane.l0 k r.f1 (p ++ r :: t) ((p ++ r :: t).length : Int) ((p ++ [r]).length : Int)) := fun k => by
      simp only [runs_Sane.l0]
      rw [if_pos (at_lt p r t), if_pos (at_0 p), if_pos (at_lt p r t), at_rd, at_next hn, w64 (by unfold lim at h1; omega) (by unfold lim at h2; omega)]
    by_cases c1 : r.f0 > r.f1
    · exact ⟨false, Ev.step (f := fun _ => some false) (fun k => by rw [e, if_pos c1]) (Ev.now _), by simp [saneF]; omega⟩
    by_cases c2 : r.f0 < last + 2
    · exact ⟨false, Ev.step (f := fun _ => some false) (fun k => by rw [e, if_neg c1, if_pos c2]) (Ev.now _), by simp [saneF]; omega⟩
    by_cases c3 : r.f1 > 1099511627776
    · exact ⟨false, Ev.step (f := fun _ => some false) (fun k => by rw [e, if_neg c1, if_neg c2, if_pos c3]) (Ev.now _), by simp [saneF, lim]; omega⟩
    obtain ⟨b, hb, hs⟩ := Sane_l0 t (p ++ [r]) r.f1 (by rw [← at_app]; exact hn) (by omega) (by unfold lim; omega)
    rw [← at_app] at hb
    refine ⟨b, Ev.step (fun k => by rw [e, if_neg c1, if_neg c2, if_neg c3]) hb, ?_⟩
    rw [hs, saneF]
    unfold lim
    exact ⟨fun h => ⟨by omega, by omega, by omega, h⟩, fun h => h.2.2.2⟩
theorem Sane_f (l : List S120) (hn : l.length ≤ 4611686018427387904) : ∃ b, Ev (fun k => runs_Sane.f k l) b ∧ (b = true ↔ sane l) := by
  obtain ⟨b, hb, hs⟩ := Sane_l0 l [] (-lim - 2) (by simpa using hn) (by omega) (by unfold lim; omega)
  exact ⟨b, hb, hs⟩
theorem mx_max (a b : Int) : mx a b = max a b := by unfold mx; omega
theorem mn_min (a b : Int) : mn a b = min a b := by unfold mn; omega
theorem sknown_s {l : List S120} (hs : sane l) (hn : l.length < 4398046511104) : Ev (fun k => sets_known.f k l) l := by
  obtain ⟨b, hb, h⟩ := Sane_f l (by omega)
  obtain rfl := h.2 hs
  exact Ev.bind hb (Ev.ift rfl (Ev.now _))
theorem mem_one (r : S120) (n : Int) : mem [r] n ↔ r.f0 ≤ n ∧ n ≤ r.f1 := by rw [mem_cons]; simp [mem_nil]
def both (r q : S120) : S120 := ⟨max r.f0 q.f0, min r.f1 q.f1⟩
def meet2 : List S120 → List S120 → List S120
  | [], _ => []
  | _ :: _, [] => []
  | r :: s, q :: t => (if (both r q).f0 ≤ (both r q).f1 then [both r q] else []) ++ (if r.f1 < q.f1 then meet2 s (q :: t) else meet2 (r :: s) t)
termination_by s t => s.length + t.length
theorem meet2_nil (s : List S120) : meet2 s [] = [] := by cases s <;> simp [meet2]
theorem meet2_cons (r : S120) (s : List S120) (q : S120) (t : List S120) : meet2 (r :: s) (q :: t) = (if (both r q).f0 ≤ (both r q).f1 then [both r q] else []) ++ (if r.f1 < q.f1 then meet2 s (q :: t) else meet2 (r :: s) t) := by rw [meet2]
theorem meet2_len : ∀ (m : Nat) (s t : List S120), s.length + t.length = m → (meet2 s t).length ≤ s.length + t.length
  | _, [], t, _ => by simp [meet2]
  | _, s, [], _ => by simp [meet2_nil]
  | m + 1, r :: s, q :: t, e => by
    simp only [List.length_cons] at e
    rw [meet2_cons, List.length_append]
    have h1 : (if (both r q).f0 ≤ (both r q).f1 then [both r q] else []).length ≤ 1 := by split <;> simp
    by_cases c : r.f1 < q.f1
    · rw [if_pos c]
      have := meet2_len m s (q :: t) (by simp only [List.length_cons]; omega)
      simp only [List.length_cons] at this ⊢
      omega
    · rw [if_neg c]
      have := meet2_len m (r :: s) t (by simp only [List.length_cons]; omega)
      simp only [List.length_cons] at this ⊢
      omega
theorem meet2_sane : ∀ (m : Nat) (s t : List S120) (a b : Int), s.length + t.length = m → saneF a s → saneF b t → saneF (max a b) (meet2 s t)
  | _, [], t, _, _, _, _, _ => by simp [meet2, saneF]
  | _, s, [], _, _, _, _, _ => by simp [meet2_nil, saneF]
  | m + 1, r :: s, q :: t, a, b, e, hs, ht => by
    simp only [List.length_cons] at e
    obtain ⟨r1, r2, r3, r4⟩ := hs
    obtain ⟨q1, q2, q3, q4⟩ := ht
    have ht : saneF (if r.f1 < q.f1 then max r.f1 b else max a q.f1) (if r.f1 < q.f1 then meet2 s (q :: t) else meet2 (r :: s) t) := by
      split
      · exact meet2_sane m s (q :: t) _ _ (by simp only [List.length_cons]; omega) r4 ⟨q1, q2, q3, q4⟩
      · exact meet2_sane m (r :: s) t _ _ (by simp only [List.length_cons]; omega) ⟨r1, r2, r3, r4⟩ q4
    rw [meet2_cons]
    by_cases c : (both r q).f0 ≤ (both r q).f1
    · rw [if_pos c]
      simp only [both] at c
      refine ⟨by simp only [both]; omega, by simp only [both]; exact c, by simp only [both]; omega, saneF_le ht ?_⟩
      simp only [both]
      split <;> omega
    · rw [if_neg c, List.nil_append]
      refine saneF_le ht ?_
      split <;> omega
theorem meet2_mem : ∀ (m : Nat) (s t : List S120) (a b : Int), s.length + t.length = m → saneF a s → saneF b t → ∀ n, mem (meet2 s t) n ↔ mem s n ∧ mem t n
  | _, [], t, _, _, _, _, _, n => by simp [meet2, mem_nil]
  | _, s, [], _, _, _, _, _, n => by simp [meet2_nil, mem_nil]
  | m + 1, r :: s, q :: t, a, b, e, hs, ht, n => by
    simp only [List.length_cons] at e
    have hs0 := hs; have ht0 := ht
    obtain ⟨r1, r2, r3, r4⟩ := hs
    obtain ⟨q1, q2, q3, q4⟩ := ht
    have ho : mem (if (both r q).f0 ≤ (both r q).f1 then [both r q] else []) n ↔ (r.f0 ≤ n ∧ n ≤ r.f1) ∧ q.f0 ≤ n ∧ n ≤ q.f1 := by
      by_cases c : (both r q).f0 ≤ (both r q).f1
      · rw [if_pos c, mem_one]; simp only [both]; omega
      · rw [if_neg c]; simp only [both] at c; constructor
        · exact fun h => absurd h (mem_nil _)
        · intro h; omega
    rw [meet2_cons, mem_append, ho]
    by_cases c : r.f1 < q.f1
    · rw [if_pos c, meet2_mem m s (q :: t) _ _ (by simp only [List.length_cons]; omega) r4 ht0 n, mem_cons, mem_cons]
      have h1 : mem t n → q.f1 + 2 ≤ n := fun h => (saneF_mem q4 h).1
      constructor
      · rintro (h | h)
        · exact ⟨.inl h.1, .inl h.2⟩
        · exact ⟨.inr h.1, h.2⟩
      · rintro ⟨h | h, h'⟩
        · rcases h' with h' | h'
          · exact .inl ⟨h, h'⟩
          · have := h1 h'; omega
        · exact .inr ⟨h, h'⟩
    · rw [if_neg c, meet2_mem m (r :: s) t _ _ (by simp only [List.length_cons]; omega) hs0 q4 n, mem_cons, mem_cons]
      have h1 : mem s n → r.f1 + 2 ≤ n := fun h => (saneF_mem r4 h).1
      constructor
      · rintro (h | h)
        · exact ⟨.inl h.1, .inl h.2⟩
        · exact ⟨h.1, .inr h.2⟩
      · rintro ⟨h, h' | h'⟩
        · rcases h with h | h
          · exact .inl ⟨h, h'⟩
          · have := h1 h; omega
        · exact .inr ⟨h, h'⟩
theorem Meet_l0 : ∀ (m : Nat) (s t p q acc : List S120), s.length + t.length = m → (p ++ s).length < 4398046511104 → (q ++ t).length < 4398046511104 → acc.length + s.length + t.length < 8796093022208 →
    Ev (fun k => sets_Meet.l0 k (p ++ s) (q ++ t) acc (p.length : Int) (q.length : Int)) (acc ++ meet2 s t)
  | _, [], t, p, q, acc, _, _, _, _ => by
    refine Ev.step (f := fun k => sets_Meet.j1 k (p ++ []) (q ++ t) acc (p.length : Int) (q.length : Int) false) (fun k => by rw [sets_Meet.l0, if_neg (at_end p)]) ?_
    refine Ev.step (f := fun _ => some (acc ++ meet2 [] t)) (fun k => by rw [sets_Meet.j1, if_neg (by simp)]; simp [meet2]) (Ev.now _)
  | _, r :: s, [], p, q, acc, _, _, _, _ => by
    refine Ev.step (f := fun k => sets_Meet.j1 k (p ++ r :: s) (q ++ []) acc (p.length : Int) (q.length : Int) false) (fun k => by rw [sets_Meet.l0, if_pos (at_lt p r s), decide_eq_false (at_end q)]) ?_
    refine Ev.step (f := fun _ => some (acc ++ meet2 (r :: s) [])) (fun k => by rw [sets_Meet.j1, if_neg (by simp)]; simp [meet2_nil]) (Ev.now _)
  | m + 1, r :: s, x :: t, p, q, acc, e, h1, h2, h3 => by
    simp only [List.length_cons] at e h3
    refine Ev.step (f := fun k => sets_Meet.j1 k (p ++ r :: s) (q ++ x :: t) acc (p.length : Int) (q.length : Int) true) (fun k => by rw [sets_Meet.l0, if_pos (at_lt p r s), decide_eq_true (at_lt q x t)]) ?_
    have hn1 := at_next (p := p) (r := r) (t := s) (by omega)
    have hn2 := at_next (p := q) (r := x) (t := t) (by omega)
    have hgo : ∀ acc' : List S120, acc'.length + (s.length + 1) + (t.length + 1) ≤ acc.length + (s.length + 1) + (t.length + 1) + 1 →
        Ev (fun k => if (r.f1) < (x.f1) then sets_Meet.l0 k (p ++ r :: s) (q ++ x :: t) acc' (wrap64 ((p.length : Int) + 1)) (q.length : Int) else sets_Meet.l0 k (p ++ r :: s) (q ++ x :: t) acc' (p.length : Int) (wrap64 ((q.length : Int) + 1)))
          (acc' ++ (if r.f1 < x.f1 then meet2 s (x :: t) else meet2 (r :: s) t)) := fun acc' ha => by
      by_cases c : r.f1 < x.f1
      · rw [if_pos c]
        refine Ev.ift c ?_
        rw [hn1]
        have := Meet_l0 m s (x :: t) (p ++ [r]) q acc' (by simp only [List.length_cons]; omega) (by rw [← at_app]; exact h1) h2 (by simp only [List.length_cons]; omega)
        rw [← at_app] at this
        exact this
      · rw [if_neg c]
        refine Ev.iff_ c ?_
        rw [hn2]
        have := Meet_l0 m (r :: s) t p (q ++ [x]) acc' (by simp only [List.length_cons]; omega) h1 (by rw [← at_app]; exact h2) (by simp only [List.length_cons]; omega)
        rw [← at_app] at this
        exact this
    rw [meet2_cons]
    by_cases c : (both r x).f0 ≤ (both r x).f1
    · rw [if_pos c, ← List.append_assoc]
      refine Ev.step (fun k => ?_) (hgo (acc ++ [both r x]) (by rw [List.length_append, List.length_singleton]; omega))
      rw [sets_Meet.j1, if_pos rfl, if_pos (at_0 p), if_pos (at_lt p r s), if_pos (at_0 q), if_pos (at_lt q x t), at_rd, at_rd, mx_max, mn_min, if_pos (show max r.f0 x.f0 ≤ min r.f1 x.f1 from c), if_pos (by omega)]
      rfl
    · rw [if_neg c, List.nil_append]
      refine Ev.step (fun k => ?_) (hgo acc (by omega))
      rw [sets_Meet.j1, if_pos rfl, if_pos (at_0 p), if_pos (at_lt p r s), if_pos (at_0 q), if_pos (at_lt q x t), at_rd, at_rd, mx_max, mn_min, if_neg (show ¬ max r.f0 x.f0 ≤ min r.f1 x.f1 from c)]
theorem Meet_s {a b : List S120} (ha : sane a) (hb : sane b) (h : a.length + b.length < 4398046511104) : Ev (fun k => sets_Meet.f k a b) (meet2 a b) ∧ (∀ n, mem (meet2 a b) n ↔ mem a n ∧ mem b n) ∧ sane (meet2 a b) ∧ (meet2 a b).length ≤ a.length + b.length := by
  refine ⟨Ev.bind (sknown_s ha (by omega)) (Ev.bind (sknown_s hb (by omega)) ?_), fun n => ?_, ?_, ?_⟩
  · have := Meet_l0 _ a b [] [] [] rfl (by simp; omega) (by simp; omega) (by simp; omega)
    simpa using this
  · exact meet2_mem _ a b _ _ rfl ha hb n
  · have := meet2_sane _ a b _ _ rfl ha hb
    rw [Int.max_self] at this
    exact this
  · exact meet2_len _ a b rfl
theorem setL_snoc (c : UInt8) : ∀ (l : List UInt8) (out : List S120), setL (l ++ [c]) out = (setL l out).flatMap (stepR c)
  | [], out => rfl
  | x :: l, out => by simp only [List.cons_append, setL]; exact setL_snoc c l _
theorem setL_fine (s : ByteArray) (h : saneL s.data.toList = true) : fine (setL s.data.toList [⟨0, 0⟩]) 10000 := by
  have ho := ok_of (s := s) (congrArg some h)
  have step : ∀ p, p ≤ s.size → ∃ out, setInv s p out := fun p => by
    induction p with
    | zero => exact fun _ => ⟨_, setInv_0 s⟩
    | succ p ih =>
      intro hp
      obtain ⟨out, hi⟩ := ih (by omega)
      exact ⟨_, setInv_step (by omega) (ho p (by omega)) hi⟩
  obtain ⟨out, h1, h2, h3⟩ := step s.size (Nat.le_refl _)
  have hd : setL (s.data.toList.drop s.size) out = out := by rw [List.drop_eq_nil_of_le (by rw [bsize]; exact Nat.le_refl _)]; rfl
  rw [hd] at h1
  rw [← h1]
  have h4 : s.size ≤ 4 := by rw [bsize]; exact (sane_all h).2.2
  have h10 : (10 ^ s.size : Nat) ≤ 10000 := Nat.pow_le_pow_right (n := 10) (by decide) h4
  have : ((10 ^ s.size : Nat) : Int) ≤ 10000 := Int.ofNat_le.2 h10
  exact fun q hq => by obtain ⟨a, b, c⟩ := h2 q hq; exact ⟨a, b, by omega⟩
theorem bt_list (s : ByteArray) (i : Nat) (h : i < s.data.toList.length) : bt s (i : Int) = ((s.data.toList[i]).toNat : Int) := by
  unfold bt
  rw [Int.toNat_natCast, dif_pos (by rw [bsize]; exact h)]
  simp [ByteArray.getElem_eq_getElem_data]
theorem pow_small {m n : Nat} (h : m ≤ n) (hn : n ≤ 4) : (10 ^ m : Nat) ≤ 10000 := Nat.pow_le_pow_right (n := 10) (by decide) (Nat.le_trans h hn)
def refR : List UInt8 → Nat → Bool
  | [], _ => true
  | c :: r, u => (decide (c.toNat = 88) || decide (c.toNat = 48 + u % 10)) && refR r (u / 10)
def refV (s : List UInt8) (n : Int) : Bool := saneL s && decide (0 ≤ n) && decide (n < ((10 ^ s.length : Nat) : Int)) && refR s.reverse n.toNat
def gap : Int → List S120 → Prop
  | _, [] => True
  | a, r :: t => a + 2 ≤ r.f0 ∧ r.f0 ≤ r.f1 ∧ gap r.f1 t
theorem gap_le {a b : Int} {l : List S120} (h : gap a l) (hb : b ≤ a) : gap b l := by
  cases l with
  | nil => trivial
  | cons r t => exact ⟨by have := h.1; omega, h.2.1, h.2.2⟩
theorem gap_app : ∀ {u : List S120} {a c : Int} {v : List S120}, gap a u → (∀ x, x ∈ u → x.f1 ≤ c) → a ≤ c → gap c v → gap a (u ++ v)
  | [], a, c, v, _, _, hc, hv => gap_le hv hc
  | x :: u, a, c, v, ⟨h1, h2, h3⟩, hu, hc, hv => ⟨h1, h2, gap_app h3 (fun y hy => hu y (List.mem_cons_of_mem _ hy)) (hu x List.mem_cons_self) hv⟩
theorem gap_sane : ∀ {l : List S120} {a : Int}, gap a l → (∀ x, x ∈ l → x.f1 ≤ lim) → saneF a l
  | [], _, _, _ => trivial
  | x :: l, a, ⟨h1, h2, h3⟩, h => ⟨h1, h2, h x List.mem_cons_self, gap_sane h3 (fun y hy => h y (List.mem_cons_of_mem _ hy))⟩
theorem gap_ones (c : Int) : ∀ (m : Nat) (lo a : Int), a + 2 ≤ lo * 10 + (c - 48) → gap a ((upto lo m).map (one c))
  | 0, _, _, _ => trivial
  | m + 1, lo, a, h => ⟨h, Int.le_refl _, gap_ones c m (lo + 1) _ (by simp only [one]; omega)⟩
theorem gap_step (c : UInt8) (hc : 48 ≤ c.toNat ∧ c.toNat ≤ 57 ∨ c.toNat = 88) : ∀ (l : List S120) (a : Int), gap a l → gap (10 * a + 9) (l.flatMap (stepR c))
  | [], _, _ => trivial
  | q :: l, a, ⟨h1, h2, h3⟩ => by
    rw [List.flatMap_cons]
    refine gap_app (c := 10 * q.f1 + 9) ?_ ?_ (by omega) (gap_step c hc l q.f1 h3)
    · unfold stepR
      split
      · exact ⟨by simp only; omega, by simp only; omega, trivial⟩
      · exact gap_ones (c.toNat : Int) _ q.f0 _ (by omega)
    · intro x hx
      unfold stepR at hx
      split at hx
      · obtain rfl := List.mem_singleton.1 hx
        simp only; omega
      · obtain ⟨n, hn, rfl⟩ := List.mem_map.1 hx
        have := (upto_mem _ _ _).1 hn
        simp only; omega
theorem gap_set : ∀ (r : List UInt8), (∀ c, c ∈ r → 48 ≤ c.toNat ∧ c.toNat ≤ 57 ∨ c.toNat = 88) → gap (-((10 ^ r.length : Nat) : Int) - 1) (setL r.reverse [(⟨0, 0⟩ : S120)])
  | [], _ => ⟨by decide, Int.le_refl _, trivial⟩
  | c :: r, h => by
    have ih := gap_step c (h c List.mem_cons_self) _ _ (gap_set r (fun x hx => h x (List.mem_cons_of_mem _ hx)))
    rw [List.reverse_cons, setL_snoc, List.length_cons, Nat.pow_succ]
    refine gap_le ih ?_
    rw [Int.natCast_mul]
    generalize ((10 ^ r.length : Nat) : Int) = q
    omega
theorem mem_step (c : UInt8) (hc : 48 ≤ c.toNat ∧ c.toNat ≤ 57 ∨ c.toNat = 88) (l : List S120) (n : Int) : mem (l.flatMap (stepR c)) n ↔ mem l (n / 10) ∧ (c.toNat = 88 ∨ (c.toNat : Int) = 48 + n % 10) := by
  constructor
  · rintro ⟨x, hx, h1, h2⟩
    obtain ⟨q, hq, hx⟩ := List.mem_flatMap.1 hx
    unfold stepR at hx
    by_cases h : c.toNat = 88
    · rw [if_pos h] at hx
      obtain rfl := List.mem_singleton.1 hx
      simp only at h1 h2
      exact ⟨⟨q, hq, by omega, by omega⟩, .inl h⟩
    · rw [if_neg h] at hx
      obtain ⟨m, hm, rfl⟩ := List.mem_map.1 hx
      have hm := (upto_mem _ _ _).1 hm
      simp only at h1 h2
      exact ⟨⟨q, hq, by omega, by omega⟩, .inr (by omega)⟩
  · rintro ⟨⟨q, hq, h1, h2⟩, h⟩
    by_cases h8 : c.toNat = 88
    · exact ⟨⟨q.f0 * 10, q.f1 * 10 + 9⟩, List.mem_flatMap.2 ⟨q, hq, by unfold stepR; rw [if_pos h8]; exact List.mem_singleton.2 rfl⟩, by simp only; omega, by simp only; omega⟩
    · have h9 := h.resolve_left h8
      refine ⟨⟨(n / 10) * 10 + ((c.toNat : Int) - 48), (n / 10) * 10 + ((c.toNat : Int) - 48)⟩, List.mem_flatMap.2 ⟨q, hq, ?_⟩, by simp only; omega, by simp only; omega⟩
      unfold stepR
      rw [if_neg h8]
      exact List.mem_map.2 ⟨n / 10, (upto_mem _ _ _).2 ⟨h1, by omega⟩, rfl⟩
theorem mem_set : ∀ (r : List UInt8), (∀ c, c ∈ r → 48 ≤ c.toNat ∧ c.toNat ≤ 57 ∨ c.toNat = 88) → ∀ n : Int, mem (setL r.reverse [(⟨0, 0⟩ : S120)]) n ↔ 0 ≤ n ∧ n < ((10 ^ r.length : Nat) : Int) ∧ refR r n.toNat = true
  | [], _, n => by
    rw [List.reverse_nil, setL, mem_cons]
    simp [mem_nil, refR]; omega
  | c :: r, h, n => by
    have ih := mem_set r (fun x hx => h x (List.mem_cons_of_mem _ hx)) (n / 10)
    rw [List.reverse_cons, setL_snoc, mem_step c (h c List.mem_cons_self), ih, List.length_cons, Nat.pow_succ, Int.natCast_mul, refR, Bool.and_eq_true, Bool.or_eq_true, decide_eq_true_eq, decide_eq_true_eq]
    generalize ((10 ^ r.length : Nat) : Int) = q
    constructor
    · rintro ⟨⟨h1, h2, h3⟩, h4⟩
      have e : (n / 10).toNat = n.toNat / 10 := by omega
      rw [e] at h3
      exact ⟨by omega, by show n < q * 10; omega, by omega, h3⟩
    · rintro ⟨h1, h2, h4, h3⟩
      have e : (n / 10).toNat = n.toNat / 10 := by omega
      have h2 : n < q * 10 := h2
      rw [e]
      exact ⟨⟨by omega, by omega, h3⟩, by omega⟩
theorem sane_ok {l : List UInt8} (hs : saneL l = true) : ∀ c, c ∈ l.reverse → 48 ≤ c.toNat ∧ c.toNat ≤ 57 ∨ c.toNat = 88 := fun c hc => of_decide_eq_true (List.all_eq_true.1 (sane_all hs).1 c (List.mem_reverse.1 hc))
theorem set_is (s : ByteArray) (hs : saneL s.data.toList = true) : sane (setL s.data.toList [⟨0, 0⟩]) ∧ ∀ n, mem (setL s.data.toList [⟨0, 0⟩]) n ↔ refV s.data.toList n = true := by
  have h1 := gap_set s.data.toList.reverse (sane_ok hs)
  have h2 := mem_set s.data.toList.reverse (sane_ok hs)
  have hf := setL_fine s hs
  rw [List.reverse_reverse, List.length_reverse] at h1 h2
  have hp := pow_small (m := s.data.toList.length) (n := 4) (sane_all hs).2.2 (by omega)
  refine ⟨saneF_le (gap_sane h1 (fun x hx => by have := (hf x hx).2.2; unfold lim; omega)) (by unfold lim; omega), fun n => ?_⟩
  rw [h2 n]
  unfold refV
  rw [hs, Bool.true_and, Bool.and_eq_true, Bool.and_eq_true, decide_eq_true_eq, decide_eq_true_eq, and_assoc]
def sets_Clip.f (k : Nat) (l0 : List (S120)) (a1 : Int) (a2 : Int) : Option ((List (S120))) := (sets_Meet.f k l0 (([(⟨a1, a2⟩ : S120)] : List (S120)))).bind fun t128 => (some t128)
theorem sets_Clip.mono : ∀ a0 a1 a2 k, LeO (sets_Clip.f k a0 a1 a2) (sets_Clip.f (k + 1) a0 a1 a2) := by
  intro a0 a1 a2 k
  unfold sets_Clip.f
  repeat' (with_reducible first | apply sets_Meet.mono | exact LeO.refl _ | exact LeO.none _ | refine LeO.ite ?_ ?_ | refine LeO.bind ?_ fun _ => ?_)
mutual
def point_numbers.l0 : Nat → List Int → List (S120) → Int → Int → Option (List Int)
  | 0, _, _, _, _ => none
  | k + 1, x5, x12, x13, x14 => if x14 < x13 then (if 0 ≤ x14 then (if x14 < (x12.length : Int) then (point_numbers.l1 k x5 ((rd_T120 x12 x14).f0) x12 x13 x14 ((rd_T120 x12 x14).f0) ((rd_T120 x12 x14).f1)) else (none)) else (none)) else (some x5)
def point_numbers.l1 : Nat → List Int → Int → List (S120) → Int → Int → Int → Int → Option (List Int)
  | 0, _, _, _, _, _, _, _ => none
  | k + 1, x5, x8, x12, x13, x14, x139000, x139001 => if x8 ≤ x139001 then (if x5.length < 17592186044416 then (point_numbers.l1 k (x5 ++ [x8]) (wrap64 (x8 + 1)) x12 x13 x14 x139000 x139001) else (none)) else (point_numbers.l0 k x5 x12 x13 (wrap64 (x14 + 1)))
end
def point_numbers.f (k : Nat) (a0 : ByteArray) (a1 : Int) : Option (List Int) := (mask_Set.f a0).bind fun t131 => ((sets_Clip.f k t131 1 a1).bind fun t134 => (point_numbers.l0 k ([] : List Int) t134 (t134.length : Int) 0))
theorem point_numbers.mono_l : ∀ k, (∀ y0 y1 y2 y3, LeO (point_numbers.l0 k y0 y1 y2 y3) (point_numbers.l0 (k + 1) y0 y1 y2 y3)) ∧ (∀ y0 y1 y2 y3 y4 y5 y6, LeO (point_numbers.l1 k y0 y1 y2 y3 y4 y5 y6) (point_numbers.l1 (k + 1) y0 y1 y2 y3 y4 y5 y6))
  | 0 => ⟨fun _ _ _ _ r h => by simp [point_numbers.l0] at h, fun _ _ _ _ _ _ _ r h => by simp [point_numbers.l1] at h⟩
  | k + 1 => by
    obtain ⟨ih0, ih1⟩ := point_numbers.mono_l k
    refine ⟨?_, ?_⟩
    · intro y0 y1 y2 y3
      unfold point_numbers.l0
      repeat' (with_reducible first | apply ih0 | apply ih1 | apply sets_Clip.mono | exact LeO.refl _ | exact LeO.none _ | refine LeO.ite ?_ ?_ | refine LeO.bind ?_ fun _ => ?_)
    · intro y0 y1 y2 y3 y4 y5 y6
      unfold point_numbers.l1
      repeat' (with_reducible first | apply ih0 | apply ih1 | apply sets_Clip.mono | exact LeO.refl _ | exact LeO.none _ | refine LeO.ite ?_ ?_ | refine LeO.bind ?_ fun _ => ?_)
theorem point_numbers.mono : ∀ a0 a1 k, LeO (point_numbers.f k a0 a1) (point_numbers.f (k + 1) a0 a1) := by
  intro a0 a1 k
  obtain ⟨ih0, ih1⟩ := point_numbers.mono_l k
  unfold point_numbers.f
  repeat' (with_reducible first | apply ih0 | apply ih1 | apply sets_Clip.mono | exact LeO.refl _ | exact LeO.none _ | refine LeO.ite ?_ ?_ | refine LeO.bind ?_ fun _ => ?_)
def point_some.f (k : Nat) (a0 : ByteArray) (a1 : Int) (a2 : Int) : Option (Bool) := if (a0.size : Int) = a1 then ((point_numbers.f k a0 a2).bind fun t142 => (some (decide ((t142.length : Int) > 0)))) else (some false)
theorem point_some.mono : ∀ a0 a1 a2 k, LeO (point_some.f k a0 a1 a2) (point_some.f (k + 1) a0 a1 a2) := by
  intro a0 a1 a2 k
  unfold point_some.f
  repeat' (with_reducible first | apply point_numbers.mono | exact LeO.refl _ | exact LeO.none _ | refine LeO.ite ?_ ?_ | refine LeO.bind ?_ fun _ => ?_)
def point_Sane.j0 : Nat → Bool → Int → ByteArray → ByteArray → ByteArray → Option (Bool)
  | 0, _, _, _, _, _ => none
  | k + 1, x3, x146000, x146001, x146002, x146003 => if x146000 = 0 then (if (x146001.size : Int) = 4 then ((point_some.f k x146002 2 12).bind fun t147 => (if t147 = true then ((point_some.f k x146003 2 31).bind fun t148 => (some t148)) else (some false))) else (some false)) else (if x146000 = 1 then (if (x146001.size : Int) = 4 then ((point_some.f k x146002 2 12).bind fun t149 => (if t149 = true then (some (x146003.toList == ([] : List UInt8))) else (some false))) else (some false)) else (if x146000 = 2 then (if (x146001.size : Int) = 4 then ((point_some.f k x146002 1 4).bind fun t150 => (if t150 = true then (some (x146003.toList == ([] : List UInt8))) else (some false))) else (some false)) else (if x146000 = 3 then (if (x146001.size : Int) = 4 then (some x3) else (some false)) else (if x146000 = 4 then (if (x146001.size : Int) = 3 then (some x3) else (some false)) else (if x146000 = 5 then (if (x146001.size : Int) = 2 then (some x3) else (some false)) else (some false))))))
def point_Sane.f (k : Nat) (a0_0 : Int) (a0_1 : ByteArray) (a0_2 : ByteArray) (a0_3 : ByteArray) : Option (Bool) := (mask_Sane.f a0_1).bind fun t146 => (if t146 = true then (if a0_2.toList = ([] : List UInt8) then (point_Sane.j0 k (a0_3.toList == ([] : List UInt8)) a0_0 a0_1 a0_2 a0_3) else (point_Sane.j0 k false a0_0 a0_1 a0_2 a0_3)) else (some false))
theorem point_Sane.mono_l : ∀ k, (∀ y0 y1 y2 y3 y4, LeO (point_Sane.j0 k y0 y1 y2 y3 y4) (point_Sane.j0 (k + 1) y0 y1 y2 y3 y4))
  | 0 => fun _ _ _ _ _ r h => by simp [point_Sane.j0] at h
  | k + 1 => by
    have ih0 := point_Sane.mono_l k
    · intro y0 y1 y2 y3 y4
      unfold point_Sane.j0
      repeat' (with_reducible first | apply ih0 | apply point_some.mono | exact LeO.refl _ | exact LeO.none _ | refine LeO.ite ?_ ?_ | refine LeO.bind ?_ fun _ => ?_)
theorem point_Sane.mono : ∀ a0 a1 a2 a3 k, LeO (point_Sane.f k a0 a1 a2 a3) (point_Sane.f (k + 1) a0 a1 a2 a3) := by
  intro a0 a1 a2 a3 k
  have ih0 := point_Sane.mono_l k
  unfold point_Sane.f
  repeat' (with_reducible first | apply ih0 | apply point_some.mono | exact LeO.refl _ | exact LeO.none _ | refine LeO.ite ?_ ?_ | refine LeO.bind ?_ fun _ => ?_)
def setV (s : ByteArray) : List S120 := if saneL s.data.toList = true then setL s.data.toList [⟨0, 0⟩] else []
theorem setL_len (s : ByteArray) (h : saneL s.data.toList = true) : (setL s.data.toList [⟨0, 0⟩]).length ≤ 1000000 := by
  have ho := ok_of (s := s) (congrArg some h)
  have step : ∀ p, p ≤ s.size → ∃ out, setInv s p out := fun p => by
    induction p with
    | zero => exact fun _ => ⟨_, setInv_0 s⟩
    | succ p ih =>
      intro hp
      obtain ⟨out, hi⟩ := ih (by omega)
      exact ⟨_, setInv_step (by omega) (ho p (by omega)) hi⟩
  obtain ⟨out, h1, h2, h3⟩ := step s.size (Nat.le_refl _)
  have hd : setL (s.data.toList.drop s.size) out = out := by rw [List.drop_eq_nil_of_le (by rw [bsize]; exact Nat.le_refl _)]; rfl
  rw [hd] at h1
  rw [← h1]
  have h4 : s.size ≤ 4 := by rw [bsize]; exact (sane_all h).2.2
  have hl : lenB s.size ≤ 1000000 := by
    rcases (by omega : s.size = 0 ∨ s.size = 1 ∨ s.size = 2 ∨ s.size = 3 ∨ s.size = 4) with e | e | e | e | e <;> rw [e] <;> decide
  omega
theorem refV_sane {l : List UInt8} {n : Int} (h : saneL l = false) : refV l n = false := by unfold refV; rw [h]; rfl
theorem setV_is (s : ByteArray) : sane (setV s) ∧ (setV s).length ≤ 1000000 ∧ ∀ n, mem (setV s) n ↔ refV s.data.toList n = true := by
  unfold setV
  by_cases h : saneL s.data.toList = true
  · rw [if_pos h]
    exact ⟨(set_is s h).1, setL_len s h, (set_is s h).2⟩
  · rw [if_neg h]
    refine ⟨trivial, by simp, fun n => ?_⟩
    rw [refV_sane (Bool.eq_false_iff.2 h)]
    simp [mem_nil]
def numsR (r : S120) : List Int := upto r.f0 (r.f1 + 1 - r.f0).toNat
theorem nums_l1 (s : List S120) (i lo hi R' : Int) (hh : hi ≤ 1000) {R : List Int} : ∀ (m : Nat) (x : Int) (acc : List Int), 0 ≤ x → x + m = hi + 1 ∨ (m = 0 ∧ hi < x) → acc.length + m < 17592186044416 →
    Ev (fun k => point_numbers.l0 k (acc ++ upto x m) s (s.length : Int) (wrap64 (i + 1))) R → Ev (fun k => point_numbers.l1 k acc x s (s.length : Int) i lo hi) R
  | 0, x, acc, h0, hx, hl, h => by
    refine Ev.step (f := fun k => point_numbers.l0 k acc s (s.length : Int) (wrap64 (i + 1))) (fun k => by rw [point_numbers.l1, if_neg (by omega)]) ?_
    simpa [upto] using h
  | m + 1, x, acc, h0, hx, hl, h => by
    refine Ev.step (f := fun k => point_numbers.l1 k (acc ++ [x]) (x + 1) s (s.length : Int) i lo hi) (fun k => by rw [point_numbers.l1, if_pos (by omega), if_pos (by omega), w64 (by omega) (by omega)]) ?_
    refine nums_l1 s i lo hi R' hh m (x + 1) (acc ++ [x]) (by omega) (by omega) (by rw [List.length_append, List.length_singleton]; omega) ?_
    rw [List.append_assoc, List.singleton_append]
    exact h
theorem nums_l0 : ∀ (t p : List S120) (acc : List Int), (∀ r, r ∈ t → 1 ≤ r.f0 ∧ r.f1 ≤ 31) → acc.length + 32 * t.length < 17592186044416 → (p ++ t).length ≤ 4611686018427387904 →
    Ev (fun k => point_numbers.l0 k acc (p ++ t) ((p ++ t).length : Int) (p.length : Int)) (acc ++ t.flatMap numsR)
  | [], p, acc, _, _, _ => Ev.step (f := fun _ => some (acc ++ [])) (fun k => by rw [point_numbers.l0, if_neg (at_end p), List.append_nil]) (Ev.now _)
  | r :: t, p, acc, hr, hl, hp => by
    have h1 := hr r List.mem_cons_self
    refine Ev.step (f := fun k => point_numbers.l1 k acc r.f0 (p ++ r :: t) ((p ++ r :: t).length : Int) (p.length : Int) r.f0 r.f1) (fun k => by rw [point_numbers.l0, if_pos (at_lt p r t), if_pos (at_0 p), if_pos (at_lt p r t), at_rd]) ?_
    have hm : (r.f1 + 1 - r.f0).toNat ≤ 31 := by omega
    rw [List.length_cons] at hl
    refine nums_l1 (p ++ r :: t) (p.length : Int) r.f0 r.f1 0 (by omega) (r.f1 + 1 - r.f0).toNat r.f0 acc (by omega) (by omega) (by omega) ?_
    rw [at_next hp]
    have := nums_l0 t (p ++ [r]) (acc ++ numsR r) (fun q hq => hr q (List.mem_cons_of_mem _ hq)) (by rw [List.length_append]; unfold numsR; rw [upto_len]; omega) (by rw [← at_app]; exact hp)
    rw [← at_app] at this
    rw [List.flatMap_cons, ← List.append_assoc]
    exact this
def anyV (l : List UInt8) (i : Int) : Nat → Bool
  | 0 => false
  | m + 1 => refV l i || anyV l (i + 1) m
theorem anyV_iff (l : List UInt8) : ∀ (m : Nat) (i : Int), anyV l i m = true ↔ ∃ n, i ≤ n ∧ n < i + m ∧ refV l n = true
  | 0, i => by
    simp only [anyV]
    exact ⟨fun h => absurd h (by simp), fun ⟨n, h1, h2, _⟩ => by omega⟩
  | m + 1, i => by
    rw [anyV, Bool.or_eq_true, anyV_iff l m (i + 1)]
    constructor
    · rintro (h | ⟨n, h1, h2, h3⟩)
      · exact ⟨i, by omega, by omega, h⟩
      · exact ⟨n, by omega, by omega, h3⟩
    · rintro ⟨n, h1, h2, h3⟩
      rcases (by omega : n = i ∨ i + 1 ≤ n) with rfl | h
      · exact .inl h3
      · exact .inr ⟨n, h, by omega, h3⟩
theorem numbers_f (s : ByteArray) (m : Nat) (hm : 1 ≤ m ∧ m ≤ 31) : ∃ L : List Int, Ev (fun k => point_numbers.f k s (m : Int)) L ∧ (L ≠ [] ↔ anyV s.data.toList 1 m = true) := by
  obtain ⟨h1, h2, h3⟩ := setV_is s
  have hb : sane [(⟨1, (m : Int)⟩ : S120)] := ⟨by show -lim - 2 + 2 ≤ (1 : Int); unfold lim; omega, by show (1 : Int) ≤ (m : Int); omega, by show (m : Int) ≤ lim; unfold lim; omega, trivial⟩
  obtain ⟨e1, e2, e3, e4⟩ := Meet_s h1 hb (by simp; omega)
  have hin : ∀ r, r ∈ meet2 (setV s) [(⟨1, (m : Int)⟩ : S120)] → r.f0 ≤ r.f1 ∧ 1 ≤ r.f0 ∧ r.f1 ≤ (m : Int) := fun r hr => by
    have hle : r.f0 ≤ r.f1 := by
      have : ∀ {a : Int} {l : List S120}, saneF a l → ∀ q, q ∈ l → q.f0 ≤ q.f1 := by
        intro a l
        induction l generalizing a with
        | nil => intro _ q hq; cases hq
        | cons x t ih =>
          intro h q hq
          rcases List.mem_cons.1 hq with rfl | hq
          · exact h.2.1
          · exact ih h.2.2.2 q hq
      exact this e3 r hr
    have ha := (e2 r.f0).1 ⟨r, hr, Int.le_refl _, hle⟩
    have hc := (e2 r.f1).1 ⟨r, hr, hle, Int.le_refl _⟩
    have ha := (mem_one _ _).1 ha.2
    have hc := (mem_one _ _).1 hc.2
    simp only at ha hc
    exact ⟨hle, ha.1, hc.2⟩
  refine ⟨(meet2 (setV s) [(⟨1, (m : Int)⟩ : S120)]).flatMap numsR, ?_, ?_⟩
  · refine Ev.bnow (x := setV s) rfl ?_
    refine Ev.bind (Ev.bind e1 (Ev.now _)) ?_
    have := nums_l0 (meet2 (setV s) [(⟨1, (m : Int)⟩ : S120)]) [] [] (fun r hr => ⟨(hin r hr).2.1, by have := (hin r hr).2.2; omega⟩) (by simp at e4 ⊢; omega) (by simp at e4 ⊢; omega)
    simpa using this
  · rw [anyV_iff]
    constructor
    · intro h
      obtain ⟨n, hn⟩ := List.exists_mem_of_ne_nil _ h
      obtain ⟨r, hr, hn⟩ := List.mem_flatMap.1 hn
      have hn := (upto_mem _ _ _).1 hn
      obtain ⟨a, b, c⟩ := hin r hr
      have hmem := (e2 n).1 ⟨r, hr, hn.1, by omega⟩
      exact ⟨n, by omega, by omega, (h3 n).1 hmem.1⟩
    · rintro ⟨n, ha, hc, hv⟩
      obtain ⟨r, hr, hn1, hn2⟩ := (e2 n).2 ⟨(h3 n).2 hv, (mem_one _ _).2 ⟨by simp only; omega, by simp only; omega⟩⟩
      intro he
      have : n ∈ (meet2 (setV s) [(⟨1, (m : Int)⟩ : S120)]).flatMap numsR := List.mem_flatMap.2 ⟨r, hr, (upto_mem _ _ _).2 ⟨hn1, by omega⟩⟩
      rw [he] at this
      cases this
def someV (s : ByteArray) (n : Int) (m : Nat) : Bool := decide ((s.size : Int) = n) && anyV s.data.toList 1 m
theorem some_f (s : ByteArray) (n : Int) (m : Nat) (hm : 1 ≤ m ∧ m ≤ 31) : Ev (fun k => point_some.f k s n (m : Int)) (someV s n m) := by
  unfold someV
  by_cases h : (s.size : Int) = n
  · rw [decide_eq_true h, Bool.true_and]
    refine Ev.ift h ?_
    obtain ⟨L, h1, h2⟩ := numbers_f s m hm
    refine Ev.bind h1 (Ev.eq (Ev.now _) ?_)
    cases hv : anyV s.data.toList 1 m with
    | true =>
      have := h2.2 hv
      cases L with
      | nil => exact absurd rfl this
      | cons x t => exact decide_eq_true (by simp)
    | false =>
      cases L with
      | nil => rfl
      | cons x t => exact absurd (h2.1 (by simp)) (by rw [hv]; simp)
  · rw [decide_eq_false h, Bool.false_and]
    exact Ev.iff_ h (Ev.now _)
def emptyV (s : ByteArray) : Bool := s.toList == ([] : List UInt8)
def ptV (p : S24) : Bool := saneL p.f1.data.toList && (
  if p.f0 = 0 then decide ((p.f1.size : Int) = 4) && (someV p.f2 2 12 && someV p.f3 2 31)
  else if p.f0 = 1 then decide ((p.f1.size : Int) = 4) && (someV p.f2 2 12 && emptyV p.f3)
  else if p.f0 = 2 then decide ((p.f1.size : Int) = 4) && (someV p.f2 1 4 && emptyV p.f3)
  else if p.f0 = 3 then decide ((p.f1.size : Int) = 4) && (emptyV p.f2 && emptyV p.f3)
  else if p.f0 = 4 then decide ((p.f1.size : Int) = 3) && (emptyV p.f2 && emptyV p.f3)
  else if p.f0 = 5 then decide ((p.f1.size : Int) = 2) && (emptyV p.f2 && emptyV p.f3)
  else false)
theorem Ev.cond {c : Prop} [Decidable c] {g : Nat → Option Bool} {r : Bool} (h : c → Ev g r) : Ev (fun k => if c then g k else some false) (decide c && r) := by
  by_cases hc : c
  · rw [decide_eq_true hc, Bool.true_and]; exact Ev.ift hc (h hc)
  · rw [decide_eq_false hc, Bool.false_and]; exact Ev.iff_ hc (Ev.now _)
theorem Ev.andb {a : Nat → Option Bool} {g : Nat → Option Bool} {x r : Bool} (h1 : Ev a x) (h2 : Ev g r) : Ev (fun k => (a k).bind fun t => if t = true then g k else some false) (x && r) := by
  refine Ev.bind h1 ?_
  cases x with
  | true => rw [Bool.true_and]; exact Ev.ift rfl h2
  | false => exact Ev.iff_ (by simp) (Ev.now _)
theorem Ev.pick {c : Prop} [Decidable c] {g f : Nat → Option Bool} {r q : Bool} (h1 : Ev g r) (h2 : Ev f q) : Ev (fun k => if c then g k else f k) (if c then r else q) := by
  by_cases hc : c
  · rw [if_pos hc]; exact Ev.ift hc h1
  · rw [if_neg hc]; exact Ev.iff_ hc h2
theorem Ev.self {a : Nat → Option Bool} {x : Bool} (h : Ev a x) : Ev (fun k => (a k).bind fun t => some t) x := Ev.bind h (Ev.now _)
theorem bare_and (a b : ByteArray) : (if a.toList = ([] : List UInt8) then emptyV b else false) = (emptyV a && emptyV b) := by
  unfold emptyV
  by_cases h : a.toList = []
  · rw [if_pos h, h]; rfl
  · rw [if_neg h]
    have : (a.toList == ([] : List UInt8)) = false := by cases hl : a.toList with
      | nil => exact absurd hl h
      | cons x t => rfl
    rw [this]; rfl
theorem ptSane_f (p : S24) : Ev (fun k => point_Sane.f k p.f0 p.f1 p.f2 p.f3) (ptV p) := by
  unfold ptV
  refine Ev.bnow (x := saneL p.f1.data.toList) rfl ?_
  have hj : ∀ b : Bool, b = (emptyV p.f2 && emptyV p.f3) → Ev (fun k => point_Sane.j0 k b p.f0 p.f1 p.f2 p.f3) (
      if p.f0 = 0 then decide ((p.f1.size : Int) = 4) && (someV p.f2 2 12 && someV p.f3 2 31)
      else if p.f0 = 1 then decide ((p.f1.size : Int) = 4) && (someV p.f2 2 12 && emptyV p.f3)
      else if p.f0 = 2 then decide ((p.f1.size : Int) = 4) && (someV p.f2 1 4 && emptyV p.f3)
      else if p.f0 = 3 then decide ((p.f1.size : Int) = 4) && (emptyV p.f2 && emptyV p.f3)
      else if p.f0 = 4 then decide ((p.f1.size : Int) = 3) && (emptyV p.f2 && emptyV p.f3)
      else if p.f0 = 5 then decide ((p.f1.size : Int) = 2) && (emptyV p.f2 && emptyV p.f3)
      else false) := fun b hb => by
    subst hb
    refine Ev.step (fun k => by rw [point_Sane.j0]) ?_
    refine Ev.pick (Ev.cond fun _ => Ev.andb (some_f p.f2 2 12 (by omega)) (Ev.self (some_f p.f3 2 31 (by omega)))) ?_
    refine Ev.pick (Ev.cond fun _ => Ev.andb (some_f p.f2 2 12 (by omega)) (Ev.now _)) ?_
    refine Ev.pick (Ev.cond fun _ => Ev.andb (some_f p.f2 1 4 (by omega)) (Ev.now _)) ?_
    refine Ev.pick (Ev.cond fun _ => Ev.now _) ?_
    refine Ev.pick (Ev.cond fun _ => Ev.now _) ?_
    exact Ev.pick (Ev.cond fun _ => Ev.now _) (Ev.now _)
  cases hs : saneL p.f1.data.toList with
  | false => exact Ev.iff_ (by simp) (Ev.now _)
  | true =>
    rw [Bool.true_and]
    refine Ev.ift rfl ?_
    have hb := bare_and p.f2 p.f3
    by_cases h : p.f2.toList = ([] : List UInt8)
    · rw [if_pos h] at hb
      exact Ev.ift h (hj _ hb)
    · rw [if_neg h] at hb
      exact Ev.iff_ h (hj _ hb)
mutual
def slices_EqualFunc.l0 : Nat → List (S27) → List (S27) → Int → Int → Option (Bool)
  | 0, _, _, _, _ => none
  | k + 1, x1, x15, x16, x17 => if x17 < x16 then (if 0 ≤ x17 then (if x17 < (x15.length : Int) then (if x17 < (x1.length : Int) then ((tree_Same.f k ((rd_T27 x15 x17).f0) ((rd_T27 x15 x17).f1.f0) ((rd_T27 x15 x17).f1.f1) ((rd_T27 x15 x17).f1.f2) ((rd_T27 x15 x17).f1.f3) ((rd_T27 x15 x17).f2) ((rd_T27 x15 x17).f3) ((rd_T27 x15 x17).f4) ((rd_T27 x1 x17).f0) ((rd_T27 x1 x17).f1.f0) ((rd_T27 x1 x17).f1.f1) ((rd_T27 x1 x17).f1.f2) ((rd_T27 x1 x17).f1.f3) ((rd_T27 x1 x17).f2) ((rd_T27 x1 x17).f3) ((rd_T27 x1 x17).f4)).bind fun t105 => (if t105 = true then (slices_EqualFunc.l0 k x1 x15 x16 (wrap64 (x17 + 1))) else (some false))) else (none)) else (none)) else (none)) else (some true)
def tree_Same.f : Nat → Int → Int → ByteArray → ByteArray → ByteArray → Bool → Bool → List (S27) → Int → Int → ByteArray → ByteArray → ByteArray → Bool → Bool → List (S27) → Option (Bool)
  | 0, _, _, _, _, _, _, _, _, _, _, _, _, _, _, _, _ => none
  | k + 1, a0_0, a0_1, a0_2, a0_3, a0_4, a0_5, a0_6, l0_7, a1_0, a1_1, a1_2, a1_3, a1_4, a1_5, a1_6, l1_7 => if a0_0 = a1_0 then (if (a0_1 == a1_1 && (a0_2.toList == a1_2.toList && (a0_3.toList == a1_3.toList && (a0_4.toList == a1_4.toList)))) = true then (if (a0_5 == a1_5) = true then (if (a0_6 == a1_6) = true then ((if (l0_7.length : Int) = (l1_7.length : Int) then (slices_EqualFunc.l0 k l1_7 l0_7 (l0_7.length : Int) 0) else (some false)).bind fun t103 => (some t103)) else (some false)) else (some false)) else (some false)) else (some false)
end
def slices_EqualFunc.f (k : Nat) (l0 : List (S27)) (l1 : List (S27))  : Option (Bool) := if (l0.length : Int) = (l1.length : Int) then (slices_EqualFunc.l0 k l1 l0 (l0.length : Int) 0) else (some false)
theorem tree_Same.f_succ (k : Nat) (a0_0 : Int) (a0_1 : Int) (a0_2 : ByteArray) (a0_3 : ByteArray) (a0_4 : ByteArray) (a0_5 : Bool) (a0_6 : Bool) (l0_7 : List (S27)) (a1_0 : Int) (a1_1 : Int) (a1_2 : ByteArray) (a1_3 : ByteArray) (a1_4 : ByteArray) (a1_5 : Bool) (a1_6 : Bool) (l1_7 : List (S27)) : tree_Same.f (k + 1) a0_0 a0_1 a0_2 a0_3 a0_4 a0_5 a0_6 l0_7 a1_0 a1_1 a1_2 a1_3 a1_4 a1_5 a1_6 l1_7 = if a0_0 = a1_0 then (if (a0_1 == a1_1 && (a0_2.toList == a1_2.toList && (a0_3.toList == a1_3.toList && (a0_4.toList == a1_4.toList)))) = true then (if (a0_5 == a1_5) = true then (if (a0_6 == a1_6) = true then ((slices_EqualFunc.f k l0_7 l1_7).bind fun t103 => (some t103)) else (some false)) else (some false)) else (some false)) else (some false) := by
  rw [tree_Same.f]
  rfl
def tree_bare.f (a0_0 : Int) (a0_1 : Int) (a0_2 : ByteArray) (a0_3 : ByteArray) (a0_4 : ByteArray) (a0_5 : Bool) (a0_6 : Bool) (l0_7 : List (S27)) : Option (Bool) := if (a0_1 == 0 && (a0_2.toList == ([] : List UInt8) && (a0_3.toList == ([] : List UInt8) && (a0_4.toList == ([] : List UInt8))))) = true then (if a0_5 = true then (some false) else (some (!a0_6))) else (some false)
def tree_End.f (k : Nat) (a0_0 : Int) (a0_1 : Int) (a0_2 : ByteArray) (a0_3 : ByteArray) (a0_4 : ByteArray) (a0_5 : Bool) (a0_6 : Bool) (l0_7 : List (S27)) : Option (Bool) := if a0_0 = 0 then (if (l0_7.length : Int) = 0 then ((point_Sane.f k a0_1 a0_2 a0_3 a0_4).bind fun t153 => (some t153)) else (some false)) else (if a0_0 = 3 then (if (l0_7.length : Int) = 0 then ((tree_bare.f a0_0 a0_1 a0_2 a0_3 a0_4 a0_5 a0_6 l0_7).bind fun t154 => (some t154)) else (some false)) else (if a0_0 = 4 then (if (l0_7.length : Int) = 0 then ((tree_bare.f a0_0 a0_1 a0_2 a0_3 a0_4 a0_5 a0_6 l0_7).bind fun t155 => (some t155)) else (some false)) else (some false)))
theorem tree_End.mono : ∀ a0 a1 a2 a3 a4 a5 a6 a7 k, LeO (tree_End.f k a0 a1 a2 a3 a4 a5 a6 a7) (tree_End.f (k + 1) a0 a1 a2 a3 a4 a5 a6 a7) := by
  intro a0 a1 a2 a3 a4 a5 a6 a7 k
  unfold tree_End.f
  repeat' (with_reducible first | apply point_Sane.mono | exact LeO.refl _ | exact LeO.none _ | refine LeO.ite ?_ ?_ | refine LeO.bind ?_ fun _ => ?_)
mutual
def slices_IndexFunc.l0 : Nat → List (S27) → Int → Int → Option (Int)
  | 0, _, _, _ => none
  | k + 1, x0, x7, x8 => if x8 < x7 then (if 0 ≤ x8 then (if x8 < (x0.length : Int) then (((tree_right.f k ((rd_T27 x0 x8).f0) ((rd_T27 x0 x8).f1.f0) ((rd_T27 x0 x8).f1.f1) ((rd_T27 x0 x8).f1.f2) ((rd_T27 x0 x8).f1.f3) ((rd_T27 x0 x8).f2) ((rd_T27 x0 x8).f3) ((rd_T27 x0 x8).f4)).bind fun t102_ => (some (!t102_))).bind fun t102 => (if t102 = true then (some x8) else (slices_IndexFunc.l0 k x0 x7 (wrap64 (x8 + 1))))) else (none)) else (none)) else (some (-1))
def tree_right.f : Nat → Int → Int → ByteArray → ByteArray → ByteArray → Bool → Bool → List (S27) → Option (Bool)
  | 0, _, _, _, _, _, _, _, _ => none
  | k + 1, a0_0, a0_1, a0_2, a0_3, a0_4, a0_5, a0_6, l0_7 => if a0_0 = 0 then ((tree_End.f k a0_0 a0_1 a0_2 a0_3 a0_4 a0_5 a0_6 l0_7).bind fun t105 => (some t105)) else (if a0_0 = 1 then ((tree_bare.f a0_0 a0_1 a0_2 a0_3 a0_4 a0_5 a0_6 l0_7).bind fun t106 => (if t106 = true then (if (l0_7.length : Int) = 2 then (if 0 < (l0_7.length : Int) then ((tree_End.f k ((rd_T27 l0_7 0).f0) ((rd_T27 l0_7 0).f1.f0) ((rd_T27 l0_7 0).f1.f1) ((rd_T27 l0_7 0).f1.f2) ((rd_T27 l0_7 0).f1.f3) ((rd_T27 l0_7 0).f2) ((rd_T27 l0_7 0).f3) ((rd_T27 l0_7 0).f4)).bind fun t108 => (if t108 = true then (if 1 < (l0_7.length : Int) then ((tree_End.f k ((rd_T27 l0_7 1).f0) ((rd_T27 l0_7 1).f1.f0) ((rd_T27 l0_7 1).f1.f1) ((rd_T27 l0_7 1).f1.f2) ((rd_T27 l0_7 1).f1.f3) ((rd_T27 l0_7 1).f2) ((rd_T27 l0_7 1).f3) ((rd_T27 l0_7 1).f4)).bind fun t110 => (some t110)) else (none)) else (some false))) else (none)) else (some false)) else (some false))) else (if a0_0 = 2 then ((tree_bare.f a0_0 a0_1 a0_2 a0_3 a0_4 a0_5 a0_6 l0_7).bind fun t111 => (if t111 = true then (if (l0_7.length : Int) > 0 then (((slices_IndexFunc.l0 k l0_7 (l0_7.length : Int) 0).bind fun t103 => (some (decide (t103 ≥ 0)))).bind fun t112 => (some (!t112))) else (some false)) else (some false))) else (some false)))
end
def tree_right_1.f (k : Nat) (a0_0 : Int) (a0_1 : Int) (a0_2 : ByteArray) (a0_3 : ByteArray) (a0_4 : ByteArray) (a0_5 : Bool) (a0_6 : Bool) (l0_7 : List (S27)) : Option (Bool) := (tree_right.f k a0_0 a0_1 a0_2 a0_3 a0_4 a0_5 a0_6 l0_7).bind fun t102 => (some (!t102))
def slices_IndexFunc.f (k : Nat) (l0 : List (S27))  : Option (Int) := slices_IndexFunc.l0 k l0 (l0.length : Int) 0
def slices_ContainsFunc.f (k : Nat) (l0 : List (S27))  : Option (Bool) := (slices_IndexFunc.f k l0).bind fun t103 => (some (decide (t103 ≥ 0)))
def tree_rightR.f (k : Nat) (a0_0 : Int) (a0_1 : Int) (a0_2 : ByteArray) (a0_3 : ByteArray) (a0_4 : ByteArray) (a0_5 : Bool) (a0_6 : Bool) (l0_7 : List (S27)) : Option (Bool) := if a0_0 = 0 then ((tree_End.f k a0_0 a0_1 a0_2 a0_3 a0_4 a0_5 a0_6 l0_7).bind fun t105 => (some t105)) else (if a0_0 = 1 then ((tree_bare.f a0_0 a0_1 a0_2 a0_3 a0_4 a0_5 a0_6 l0_7).bind fun t106 => (if t106 = true then (if (l0_7.length : Int) = 2 then (if 0 < (l0_7.length : Int) then ((tree_End.f k ((rd_T27 l0_7 0).f0) ((rd_T27 l0_7 0).f1.f0) ((rd_T27 l0_7 0).f1.f1) ((rd_T27 l0_7 0).f1.f2) ((rd_T27 l0_7 0).f1.f3) ((rd_T27 l0_7 0).f2) ((rd_T27 l0_7 0).f3) ((rd_T27 l0_7 0).f4)).bind fun t108 => (if t108 = true then (if 1 < (l0_7.length : Int) then ((tree_End.f k ((rd_T27 l0_7 1).f0) ((rd_T27 l0_7 1).f1.f0) ((rd_T27 l0_7 1).f1.f1) ((rd_T27 l0_7 1).f1.f2) ((rd_T27 l0_7 1).f1.f3) ((rd_T27 l0_7 1).f2) ((rd_T27 l0_7 1).f3) ((rd_T27 l0_7 1).f4)).bind fun t110 => (some t110)) else (none)) else (some false))) else (none)) else (some false)) else (some false))) else (if a0_0 = 2 then ((tree_bare.f a0_0 a0_1 a0_2 a0_3 a0_4 a0_5 a0_6 l0_7).bind fun t111 => (if t111 = true then (if (l0_7.length : Int) > 0 then ((slices_ContainsFunc.f k l0_7).bind fun t112 => (some (!t112))) else (some false)) else (some false))) else (some false)))
theorem slices_IndexFunc.l0_succ (k : Nat) (x0 : List S27) (x7 x8 : Int) : slices_IndexFunc.l0 (k + 1) x0 x7 x8 = if x8 < x7 then (if 0 ≤ x8 then (if x8 < (x0.length : Int) then ((tree_right_1.f k ((rd_T27 x0 x8).f0) ((rd_T27 x0 x8).f1.f0) ((rd_T27 x0 x8).f1.f1) ((rd_T27 x0 x8).f1.f2) ((rd_T27 x0 x8).f1.f3) ((rd_T27 x0 x8).f2) ((rd_T27 x0 x8).f3) ((rd_T27 x0 x8).f4)).bind fun t102 => (if t102 = true then (some x8) else (slices_IndexFunc.l0 k x0 x7 (wrap64 (x8 + 1))))) else (none)) else (none)) else (some (-1)) := by
  rw [slices_IndexFunc.l0]
  rfl
theorem tree_right.f_succ (k : Nat) (a0_0 : Int) (a0_1 : Int) (a0_2 : ByteArray) (a0_3 : ByteArray) (a0_4 : ByteArray) (a0_5 : Bool) (a0_6 : Bool) (l0_7 : List (S27)) : tree_right.f (k + 1) a0_0 a0_1 a0_2 a0_3 a0_4 a0_5 a0_6 l0_7 = tree_rightR.f k a0_0 a0_1 a0_2 a0_3 a0_4 a0_5 a0_6 l0_7 := by
  rw [tree_right.f]
  rfl
theorem tree_right.mono_l : ∀ k, (∀ y0 y1 y2 y3 y4 y5 y6 y7, LeO (tree_right.f k y0 y1 y2 y3 y4 y5 y6 y7) (tree_right.f (k + 1) y0 y1 y2 y3 y4 y5 y6 y7)) ∧ (∀ y0 y1 y2, LeO (slices_IndexFunc.l0 k y0 y1 y2) (slices_IndexFunc.l0 (k + 1) y0 y1 y2))
  | 0 => ⟨fun _ _ _ _ _ _ _ _ r h => by simp [tree_right.f] at h, fun _ _ _ r h => by simp [slices_IndexFunc.l0] at h⟩
  | k + 1 => by
    obtain ⟨ih0, ih1⟩ := tree_right.mono_l k
    refine ⟨?_, ?_⟩
    · intro y0 y1 y2 y3 y4 y5 y6 y7
      unfold tree_right.f
      repeat' (with_reducible first | apply ih0 | apply ih1 | apply tree_End.mono | exact LeO.refl _ | exact LeO.none _ | refine LeO.ite ?_ ?_ | refine LeO.bind ?_ fun _ => ?_)
    · intro y0 y1 y2
      unfold slices_IndexFunc.l0
      repeat' (with_reducible first | apply ih0 | apply ih1 | apply tree_End.mono | exact LeO.refl _ | exact LeO.none _ | refine LeO.ite ?_ ?_ | refine LeO.bind ?_ fun _ => ?_)
theorem tree_right.mono : ∀ a0 a1 a2 a3 a4 a5 a6 a7 k, LeO (tree_right.f k a0 a1 a2 a3 a4 a5 a6 a7) (tree_right.f (k + 1) a0 a1 a2 a3 a4 a5 a6 a7) := fun a0 a1 a2 a3 a4 a5 a6 a7 k => (tree_right.mono_l k).1 a0 a1 a2 a3 a4 a5 a6 a7
mutual
def tree_Count_1.l0 : Nat → Int → List (S27) → Int → Int → Option (Int)
  | 0, _, _, _, _ => none
  | k + 1, x1, x9, x10, x11 => if x11 < x10 then (if 0 ≤ x11 then (if x11 < (x9.length : Int) then ((tree_Count_1.f k ((rd_T27 x9 x11).f0) ((rd_T27 x9 x11).f1.f0) ((rd_T27 x9 x11).f1.f1) ((rd_T27 x9 x11).f1.f2) ((rd_T27 x9 x11).f1.f3) ((rd_T27 x9 x11).f2) ((rd_T27 x9 x11).f3) ((rd_T27 x9 x11).f4) x1).bind fun t104 => (tree_Count_1.l0 k t104 x9 x10 (wrap64 (x11 + 1)))) else (none)) else (none)) else (some x1)
def tree_Count_1.f : Nat → Int → Int → ByteArray → ByteArray → ByteArray → Bool → Bool → List (S27) → Int → Option (Int)
  | 0, _, _, _, _, _, _, _, _, _ => none
  | k + 1, a0_0, a0_1, a0_2, a0_3, a0_4, a0_5, a0_6, l0_7, a1 => tree_Count_1.l0 k (wrap64 (a1 + 1)) l0_7 (l0_7.length : Int) 0
end
theorem tree_Count_1.mono_l : ∀ k, (∀ y0 y1 y2 y3 y4 y5 y6 y7 y8, LeO (tree_Count_1.f k y0 y1 y2 y3 y4 y5 y6 y7 y8) (tree_Count_1.f (k + 1) y0 y1 y2 y3 y4 y5 y6 y7 y8)) ∧ (∀ y0 y1 y2 y3, LeO (tree_Count_1.l0 k y0 y1 y2 y3) (tree_Count_1.l0 (k + 1) y0 y1 y2 y3))
  | 0 => ⟨fun _ _ _ _ _ _ _ _ _ r h => by simp [tree_Count_1.f] at h, fun _ _ _ _ r h => by simp [tree_Count_1.l0] at h⟩
  | k + 1 => by
    obtain ⟨ih0, ih1⟩ := tree_Count_1.mono_l k
    refine ⟨?_, ?_⟩
    · intro y0 y1 y2 y3 y4 y5 y6 y7 y8
      unfold tree_Count_1.f
      repeat' (with_reducible first | apply ih0 | apply ih1 | exact LeO.refl _ | exact LeO.none _ | refine LeO.ite ?_ ?_ | refine LeO.bind ?_ fun _ => ?_)
    · intro y0 y1 y2 y3
      unfold tree_Count_1.l0
      repeat' (with_reducible first | apply ih0 | apply ih1 | exact LeO.refl _ | exact LeO.none _ | refine LeO.ite ?_ ?_ | refine LeO.bind ?_ fun _ => ?_)
theorem tree_Count_1.mono : ∀ a0 a1 a2 a3 a4 a5 a6 a7 a8 k, LeO (tree_Count_1.f k a0 a1 a2 a3 a4 a5 a6 a7 a8) (tree_Count_1.f (k + 1) a0 a1 a2 a3 a4 a5 a6 a7 a8) := by
  intro a0 a1 a2 a3 a4 a5 a6 a7 a8 k
  obtain ⟨ih0, ih1⟩ := tree_Count_1.mono_l k
  exact ih0 a0 a1 a2 a3 a4 a5 a6 a7 a8
mutual
def tree_Deep_1.j0 : Nat → Int → Int → Int → Int → ByteArray → ByteArray → ByteArray → Bool → Bool → List (S27) → Option (Int)
  | 0, _, _, _, _, _, _, _, _, _, _ => none
  | k + 1, x1, x2, x106000, x106001, x106002, x106003, x106004, x106005, x106006, x106007 => tree_Deep_1.l0 k x1 (mx x2 x1) x106007 (x106007.length : Int) 0
def tree_Deep_1.l0 : Nat → Int → Int → List (S27) → Int → Int → Option (Int)
  | 0, _, _, _, _, _ => none
  | k + 1, x1, x2, x17, x18, x19 => if x19 < x18 then (if 0 ≤ x19 then (if x19 < (x17.length : Int) then ((tree_Deep_1.f k ((rd_T27 x17 x19).f0) ((rd_T27 x17 x19).f1.f0) ((rd_T27 x17 x19).f1.f1) ((rd_T27 x17 x19).f1.f2) ((rd_T27 x17 x19).f1.f3) ((rd_T27 x17 x19).f2) ((rd_T27 x17 x19).f3) ((rd_T27 x17 x19).f4) x1 x2).bind fun t108 => (tree_Deep_1.l0 k x1 t108 x17 x18 (wrap64 (x19 + 1)))) else (none)) else (none)) else (some x2)
def tree_Deep_1.f : Nat → Int → Int → ByteArray → ByteArray → ByteArray → Bool → Bool → List (S27) → Int → Int → Option (Int)
  | 0, _, _, _, _, _, _, _, _, _, _ => none
  | k + 1, a0_0, a0_1, a0_2, a0_3, a0_4, a0_5, a0_6, l0_7, a1, a2 => if a0_0 = 2 then (tree_Deep_1.j0 k (wrap64 (a1 + 1)) a2 a0_0 a0_1 a0_2 a0_3 a0_4 a0_5 a0_6 l0_7) else (tree_Deep_1.j0 k a1 a2 a0_0 a0_1 a0_2 a0_3 a0_4 a0_5 a0_6 l0_7)
end
theorem tree_Deep_1.mono_l : ∀ k, (∀ y0 y1 y2 y3 y4 y5 y6 y7 y8 y9, LeO (tree_Deep_1.f k y0 y1 y2 y3 y4 y5 y6 y7 y8 y9) (tree_Deep_1.f (k + 1) y0 y1 y2 y3 y4 y5 y6 y7 y8 y9)) ∧ (∀ y0 y1 y2 y3 y4 y5 y6 y7 y8 y9, LeO (tree_Deep_1.j0 k y0 y1 y2 y3 y4 y5 y6 y7 y8 y9) (tree_Deep_1.j0 (k + 1) y0 y1 y2 y3 y4 y5 y6 y7 y8 y9)) ∧ (∀ y0 y1 y2 y3 y4, LeO (tree_Deep_1.l0 k y0 y1 y2 y3 y4) (tree_Deep_1.l0 (k + 1) y0 y1 y2 y3 y4))
  | 0 => ⟨fun _ _ _ _ _ _ _ _ _ _ r h => by simp [tree_Deep_1.f] at h, fun _ _ _ _ _ _ _ _ _ _ r h => by simp [tree_Deep_1.j0] at h, fun _ _ _ _ _ r h => by simp [tree_Deep_1.l0] at h⟩
  | k + 1 => by
    obtain ⟨ih0, ih1, ih2⟩ := tree_Deep_1.mono_l k
    refine ⟨?_, ?_, ?_⟩
    · intro y0 y1 y2 y3 y4 y5 y6 y7 y8 y9
      unfold tree_Deep_1.f
      repeat' (with_reducible first | apply ih0 | apply ih1 | apply ih2 | exact LeO.refl _ | exact LeO.none _ | refine LeO.ite ?_ ?_ | refine LeO.bind ?_ fun _ => ?_)
    · intro y0 y1 y2 y3 y4 y5 y6 y7 y8 y9
      unfold tree_Deep_1.j0
      repeat' (with_reducible first | apply ih0 | apply ih1 | apply ih2 | exact LeO.refl _ | exact LeO.none _ | refine LeO.ite ?_ ?_ | refine LeO.bind ?_ fun _ => ?_)
    · intro y0 y1 y2 y3 y4
      unfold tree_Deep_1.l0
      repeat' (with_reducible first | apply ih0 | apply ih1 | apply ih2 | exact LeO.refl _ | exact LeO.none _ | refine LeO.ite ?_ ?_ | refine LeO.bind ?_ fun _ => ?_)
theorem tree_Deep_1.mono : ∀ a0 a1 a2 a3 a4 a5 a6 a7 a8 a9 k, LeO (tree_Deep_1.f k a0 a1 a2 a3 a4 a5 a6 a7 a8 a9) (tree_Deep_1.f (k + 1) a0 a1 a2 a3 a4 a5 a6 a7 a8 a9) := by
  intro a0 a1 a2 a3 a4 a5 a6 a7 a8 a9 k
  obtain ⟨ih0, ih1, ih2⟩ := tree_Deep_1.mono_l k
  exact ih0 a0 a1 a2 a3 a4 a5 a6 a7 a8 a9
def tree_Count.f (k : Nat) (a0_0 : Int) (a0_1 : Int) (a0_2 : ByteArray) (a0_3 : ByteArray) (a0_4 : ByteArray) (a0_5 : Bool) (a0_6 : Bool) (l0_7 : List (S27)) : Option (Int) := tree_Count_1.f k a0_0 a0_1 a0_2 a0_3 a0_4 a0_5 a0_6 l0_7 0
theorem tree_Count.mono : ∀ a0 a1 a2 a3 a4 a5 a6 a7 k, LeO (tree_Count.f k a0 a1 a2 a3 a4 a5 a6 a7) (tree_Count.f (k + 1) a0 a1 a2 a3 a4 a5 a6 a7) := fun a0 a1 a2 a3 a4 a5 a6 a7 k => tree_Count_1.mono a0 a1 a2 a3 a4 a5 a6 a7 0 k
def tree_Deep.f (k : Nat) (a0_0 : Int) (a0_1 : Int) (a0_2 : ByteArray) (a0_3 : ByteArray) (a0_4 : ByteArray) (a0_5 : Bool) (a0_6 : Bool) (l0_7 : List (S27)) : Option (Int) := tree_Deep_1.f k a0_0 a0_1 a0_2 a0_3 a0_4 a0_5 a0_6 l0_7 0 0
theorem tree_Deep.mono : ∀ a0 a1 a2 a3 a4 a5 a6 a7 k, LeO (tree_Deep.f k a0 a1 a2 a3 a4 a5 a6 a7) (tree_Deep.f (k + 1) a0 a1 a2 a3 a4 a5 a6 a7) := fun a0 a1 a2 a3 a4 a5 a6 a7 k => tree_Deep_1.mono a0 a1 a2 a3 a4 a5 a6 a7 0 0 k
def tree_Sane.f (k : Nat) (a0_0 : Int) (a0_1 : Int) (a0_2 : ByteArray) (a0_3 : ByteArray) (a0_4 : ByteArray) (a0_5 : Bool) (a0_6 : Bool) (l0_7 : List (S27)) : Option (Bool) := (tree_Count.f k a0_0 a0_1 a0_2 a0_3 a0_4 a0_5 a0_6 l0_7).bind fun t157 => (if t157 ≤ 64 then ((tree_Deep.f k a0_0 a0_1 a0_2 a0_3 a0_4 a0_5 a0_6 l0_7).bind fun t158 => (if t158 ≤ 8 then ((tree_right.f k a0_0 a0_1 a0_2 a0_3 a0_4 a0_5 a0_6 l0_7).bind fun t159 => (some t159)) else (some false))) else (some false))
theorem tree_Sane.mono : ∀ a0 a1 a2 a3 a4 a5 a6 a7 k, LeO (tree_Sane.f k a0 a1 a2 a3 a4 a5 a6 a7) (tree_Sane.f (k + 1) a0 a1 a2 a3 a4 a5 a6 a7) := by
  intro a0 a1 a2 a3 a4 a5 a6 a7 k
  unfold tree_Sane.f
  repeat' (with_reducible first | apply tree_Count.mono | apply tree_Deep.mono | apply tree_right.mono | exact LeO.refl _ | exact LeO.none _ | refine LeO.ite ?_ ?_ | refine LeO.bind ?_ fun _ => ?_)
mutual
def lustrumref10_Count.l0 : Nat → Int → Int → Int → Int → ByteArray → ByteArray → ByteArray → Bool → Bool → List (S27) → Option (Int)
  | 0, _, _, _, _, _, _, _, _, _, _ => none
  | k + 1, x3, x4, x230000, x230001, x230002, x230003, x230004, x230005, x230006, x230007 => if x4 < (x230007.length : Int) then (if 0 ≤ x4 then ((lustrumref10_Count.f k ((rd_T27 x230007 x4).f0) ((rd_T27 x230007 x4).f1.f0) ((rd_T27 x230007 x4).f1.f1) ((rd_T27 x230007 x4).f1.f2) ((rd_T27 x230007 x4).f1.f3) ((rd_T27 x230007 x4).f2) ((rd_T27 x230007 x4).f3) ((rd_T27 x230007 x4).f4)).bind fun t231 => (lustrumref10_Count.l0 k (wrap64 (x3 + t231)) (wrap64 (x4 + 1)) x230000 x230001 x230002 x230003 x230004 x230005 x230006 x230007)) else (none)) else (some x3)
def lustrumref10_Count.f : Nat → Int → Int → ByteArray → ByteArray → ByteArray → Bool → Bool → List (S27) → Option (Int)
  | 0, _, _, _, _, _, _, _, _ => none
  | k + 1, a0_0, a0_1, a0_2, a0_3, a0_4, a0_5, a0_6, l0_7 => lustrumref10_Count.l0 k 1 0 a0_0 a0_1 a0_2 a0_3 a0_4 a0_5 a0_6 l0_7
end
mutual
def lustrumref10_short.j0 : Nat → Bool → Int → Int → ByteArray → ByteArray → ByteArray → Bool → Bool → List (S27) → Option (Bool)
  | 0, _, _, _, _, _, _, _, _, _ => none
  | k + 1, x22, x233000, x233001, x233002, x233003, x233004, x233005, x233006, x233007 => if x22 = true then (some false) else (lustrumref10_short.l0 k 0 x233000 x233001 x233002 x233003 x233004 x233005 x233006 x233007)
def lustrumref10_short.l0 : Nat → Int → Int → Int → ByteArray → ByteArray → ByteArray → Bool → Bool → List (S27) → Option (Bool)
  | 0, _, _, _, _, _, _, _, _, _ => none
  | k + 1, x3, x233000, x233001, x233002, x233003, x233004, x233005, x233006, x233007 => if x3 < (x233007.length : Int) then (if 0 ≤ x3 then ((lustrumref10_short.f k ((rd_T27 x233007 x3).f0) ((rd_T27 x233007 x3).f1.f0) ((rd_T27 x233007 x3).f1.f1) ((rd_T27 x233007 x3).f1.f2) ((rd_T27 x233007 x3).f1.f3) ((rd_T27 x233007 x3).f2) ((rd_T27 x233007 x3).f3) ((rd_T27 x233007 x3).f4)).bind fun t234 => (if t234 = true then (lustrumref10_short.l0 k (wrap64 (x3 + 1)) x233000 x233001 x233002 x233003 x233004 x233005 x233006 x233007) else (some false))) else (none)) else (some true)
def lustrumref10_short.f : Nat → Int → Int → ByteArray → ByteArray → ByteArray → Bool → Bool → List (S27) → Option (Bool)
  | 0, _, _, _, _, _, _, _, _ => none
  | k + 1, a0_0, a0_1, a0_2, a0_3, a0_4, a0_5, a0_6, l0_7 => if (a0_2.size : Int) > 10 then (lustrumref10_short.j0 k true a0_0 a0_1 a0_2 a0_3 a0_4 a0_5 a0_6 l0_7) else (if (a0_3.size : Int) > 10 then (lustrumref10_short.j0 k true a0_0 a0_1 a0_2 a0_3 a0_4 a0_5 a0_6 l0_7) else (lustrumref10_short.j0 k (decide ((a0_4.size : Int) > 10)) a0_0 a0_1 a0_2 a0_3 a0_4 a0_5 a0_6 l0_7))
end
def lustrumref10_Few.f (k : Nat) (a0_0 : Int) (a0_1 : Int) (a0_2 : ByteArray) (a0_3 : ByteArray) (a0_4 : ByteArray) (a0_5 : Bool) (a0_6 : Bool) (l0_7 : List (S27)) : Option (Bool) := (lustrumref10_Count.f k a0_0 a0_1 a0_2 a0_3 a0_4 a0_5 a0_6 l0_7).bind fun t236 => (if t236 ≤ 120 then ((lustrumref10_short.f k a0_0 a0_1 a0_2 a0_3 a0_4 a0_5 a0_6 l0_7).bind fun t237 => (some t237)) else (some false))
mutual
def nd : S27 → Nat
  | ⟨_, _, _, _, l⟩ => ndL l + 1
def ndL : List S27 → Nat
  | [] => 0
  | x :: l => nd x + ndL l
end
mutual
def dp : S27 → Nat
  | ⟨k, _, _, _, l⟩ => if k = 2 then dpL l + 1 else dpL l
def dpL : List S27 → Nat
  | [] => 0
  | x :: l => max (dp x) (dpL l)
end
mutual
def sm : S27 → S27 → Bool
  | ⟨k, p, a, t, l⟩, n => decide (k = n.f0) && (decide (p.f0 = n.f1.f0) && (decide (p.f1.toList = n.f1.f1.toList) && (decide (p.f2.toList = n.f1.f2.toList) && decide (p.f3.toList = n.f1.f3.toList)))) && (a == n.f2) && (t == n.f3) && smL l n.f4
def smL : List S27 → List S27 → Bool
  | [], [] => true
  | x :: l, y :: m => sm x y && smL l m
  | _, _ => false
end
def bareV (n : S27) : Bool := decide (n.f1.f0 = 0) && (emptyV n.f1.f1 && (emptyV n.f1.f2 && emptyV n.f1.f3)) && !n.f2 && !n.f3
def endV (n : S27) : Bool := decide (n.f4 = []) && (if n.f0 = 0 then ptV n.f1 else if n.f0 = 3 ∨ n.f0 = 4 then bareV n else false)
def two : List S27 → Bool
  | [x, y] => endV x && endV y
  | _ => false
mutual
def rt : S27 → Bool
  | ⟨k, p, a, t, l⟩ => if k = 0 then endV ⟨k, p, a, t, l⟩ else if k = 1 then bareV ⟨k, p, a, t, l⟩ && two l else if k = 2 then bareV ⟨k, p, a, t, l⟩ && (decide (l ≠ []) && rtL l) else false
def rtL : List S27 → Bool
  | [] => true
  | x :: l => rt x && rtL l
end
mutual
def sh : S27 → Bool
  | ⟨_, p, _, _, l⟩ => decide (p.f1.size ≤ 10) && (decide (p.f2.size ≤ 10) && decide (p.f3.size ≤ 10)) && shL l
def shL : List S27 → Bool
  | [] => true
  | x :: l => sh x && shL l
end
theorem nd_eq (n : S27) : nd n = ndL n.f4 + 1 := by cases n; rw [nd]
theorem dp_eq (n : S27) : dp n = if n.f0 = 2 then dpL n.f4 + 1 else dpL n.f4 := by cases n; rw [dp]
theorem sm_eq (a n : S27) : sm a n = (decide (a.f0 = n.f0) && (decide (a.f1.f0 = n.f1.f0) && (decide (a.f1.f1.toList = n.f1.f1.toList) && (decide (a.f1.f2.toList = n.f1.f2.toList) && decide (a.f1.f3.toList = n.f1.f3.toList)))) && (a.f2 == n.f2) && (a.f3 == n.f3) && smL a.f4 n.f4) := by cases a; rw [sm]
theorem rt_eq (n : S27) : rt n = if n.f0 = 0 then endV n else if n.f0 = 1 then bareV n && two n.f4 else if n.f0 = 2 then bareV n && (decide (n.f4 ≠ []) && rtL n.f4) else false := by cases n; rw [rt]
theorem sh_eq (n : S27) : sh n = (decide (n.f1.f1.size ≤ 10) && (decide (n.f1.f2.size ≤ 10) && decide (n.f1.f3.size ≤ 10)) && shL n.f4) := by cases n; rw [sh]
theorem nd_pos (n : S27) : 1 ≤ nd n := by rw [nd_eq]; omega
theorem len_nd : ∀ l : List S27, l.length ≤ ndL l
  | [] => Nat.le_refl _
  | x :: l => by have h1 := nd_pos x; have h2 := len_nd l; rw [ndL, List.length_cons]; omega
inductive wfN : S27 → Prop
  | mk (n : S27) (h1 : n.f1.f1.size ≤ 140737488351232) (h2 : n.f1.f2.size ≤ 140737488351232) (h3 : n.f1.f3.size ≤ 140737488351232) (hl : n.f4.length ≤ 1466015503711) (hc : ∀ x, x ∈ n.f4 → wfN x) : wfN n
theorem wfN.s1 {n : S27} (h : wfN n) : n.f1.f1.size ≤ 140737488351232 := by cases h; assumption
theorem wfN.s2 {n : S27} (h : wfN n) : n.f1.f2.size ≤ 140737488351232 := by cases h; assumption
theorem wfN.s3 {n : S27} (h : wfN n) : n.f1.f3.size ≤ 140737488351232 := by cases h; assumption
theorem wfN.len {n : S27} (h : wfN n) : n.f4.length ≤ 1466015503711 := by cases h; assumption
theorem wfN.all {n : S27} (h : wfN n) : ∀ x, x ∈ n.f4 → wfN x := by cases h; assumption
theorem at_rd26 (p : List S27) (r : S27) (t : List S27) : rd_T27 (p ++ r :: t) (p.length : Int) = r := by simp [rd_T27]
abbrev cn1 (k : Nat) (n : S27) (c : Int) : Option Int := tree_Count_1.f k n.f0 n.f1.f0 n.f1.f1 n.f1.f2 n.f1.f3 n.f2 n.f3 n.f4 c
abbrev dp1 (k : Nat) (n : S27) (i c : Int) : Option Int := tree_Deep_1.f k n.f0 n.f1.f0 n.f1.f1 n.f1.f2 n.f1.f3 n.f2 n.f3 n.f4 i c
abbrev tCount (k : Nat) (n : S27) : Option Int := tree_Count.f k n.f0 n.f1.f0 n.f1.f1 n.f1.f2 n.f1.f3 n.f2 n.f3 n.f4
abbrev tDeep (k : Nat) (n : S27) : Option Int := tree_Deep.f k n.f0 n.f1.f0 n.f1.f1 n.f1.f2 n.f1.f3 n.f2 n.f3 n.f4
abbrev tEnd (k : Nat) (n : S27) : Option Bool := tree_End.f k n.f0 n.f1.f0 n.f1.f1 n.f1.f2 n.f1.f3 n.f2 n.f3 n.f4
abbrev tBare (n : S27) : Option Bool := tree_bare.f n.f0 n.f1.f0 n.f1.f1 n.f1.f2 n.f1.f3 n.f2 n.f3 n.f4
abbrev tRight (k : Nat) (n : S27) : Option Bool := tree_right.f k n.f0 n.f1.f0 n.f1.f1 n.f1.f2 n.f1.f3 n.f2 n.f3 n.f4
abbrev tSane (k : Nat) (n : S27) : Option Bool := tree_Sane.f k n.f0 n.f1.f0 n.f1.f1 n.f1.f2 n.f1.f3 n.f2 n.f3 n.f4
abbrev tSame (k : Nat) (n m : S27) : Option Bool := tree_Same.f k n.f0 n.f1.f0 n.f1.f1 n.f1.f2 n.f1.f3 n.f2 n.f3 n.f4 m.f0 m.f1.f0 m.f1.f1 m.f1.f2 m.f1.f3 m.f2 m.f3 m.f4
abbrev rCount (k : Nat) (n : S27) : Option Int := lustrumref10_Count.f k n.f0 n.f1.f0 n.f1.f1 n.f1.f2 n.f1.f3 n.f2 n.f3 n.f4
abbrev rShort (k : Nat) (n : S27) : Option Bool := lustrumref10_short.f k n.f0 n.f1.f0 n.f1.f1 n.f1.f2 n.f1.f3 n.f2 n.f3 n.f4
abbrev rFew (k : Nat) (n : S27) : Option Bool := lustrumref10_Few.f k n.f0 n.f1.f0 n.f1.f1 n.f1.f2 n.f1.f3 n.f2 n.f3 n.f4
theorem cn_f : ∀ (m : Nat) (n : S27) (c : Int), nd n ≤ m → 0 ≤ c → c + nd n ≤ 4611686018427387904 → Ev (fun k => cn1 k n c) (c + nd n)
  | 0, n, c, h, _, _ => by have := nd_pos n; omega
  | m + 1, n, c, h, h0, hb => by
    have loop : ∀ (t p : List S27) (c : Int), ndL t ≤ m → 0 ≤ c → c + ndL t ≤ 4611686018427387904 → (p ++ t).length ≤ 4611686018427387904 → Ev (fun k => tree_Count_1.l0 k c (p ++ t) ((p ++ t).length : Int) (p.length : Int)) (c + ndL t) := fun t => by
      induction t with
      | nil => exact fun p c _ _ _ _ => Ev.step (f := fun _ => some c) (fun k => by rw [tree_Count_1.l0, if_neg (at_end p)]) (Ev.eq (Ev.now _) (by simp [ndL]))
      | cons x t ih =>
        intro p c hm hc hb hp
        rw [ndL] at hm hb ⊢
        refine Ev.step (f := fun k => (cn1 k x c).bind fun t' => tree_Count_1.l0 k t' (p ++ x :: t) ((p ++ x :: t).length : Int) ((p ++ [x]).length : Int)) (fun k => by rw [tree_Count_1.l0, if_pos (at_lt p x t), if_pos (at_0 p), if_pos (at_lt p x t), at_rd26, at_next hp]) ?_
        refine Ev.bind (cn_f m x c (by omega) hc (by omega)) ?_
        have := ih (p ++ [x]) (c + nd x) (by omega) (by omega) (by omega) (by rw [← at_app]; exact hp)
        rw [← at_app] at this
        exact Ev.eq this (by omega)
    have hn := nd_eq n
    have hl := len_nd n.f4
    refine Ev.step (f := fun k => tree_Count_1.l0 k (c + 1) n.f4 (n.f4.length : Int) 0) (fun k => by show tree_Count_1.f (k + 1) _ _ _ _ _ _ _ _ _ = _; rw [tree_Count_1.f, w64 (by omega) (by omega)]) ?_
    have := loop n.f4 [] (c + 1) (by omega) (by omega) (by omega) (by simp; omega)
    exact Ev.eq this (by omega)
theorem tCount_f (n : S27) (h : nd n ≤ 4611686018427387904) : Ev (fun k => tCount k n) (nd n : Int) := Ev.eq (cn_f _ n 0 (Nat.le_refl _) (Int.le_refl _) (by omega)) (by omega)
theorem rCount_some : ∀ (m : Nat) (n : S27), nd n ≤ m → wfN n → ∃ v, Ev (fun k => rCount k n) v
  | 0, n, h, _ => by have := nd_pos n; omega
  | m + 1, n, h, hw => by
    have loop : ∀ (t p : List S27) (c : Int), ndL t ≤ m → (∀ x, x ∈ t → wfN x) → (p ++ t).length ≤ 4611686018427387904 → ∃ v, Ev (fun k => lustrumref10_Count.l0 k c (p.length : Int) n.f0 n.f1.f0 n.f1.f1 n.f1.f2 n.f1.f3 n.f2 n.f3 (p ++ t)) v := fun t => by
      induction t with
      | nil => exact fun p c _ _ _ => ⟨c, Ev.step (f := fun _ => some c) (fun k => by rw [lustrumref10_Count.l0, if_neg (at_end p)]) (Ev.now _)⟩
      | cons x t ih =>
        intro p c hm hx hp
        rw [ndL] at hm
        obtain ⟨v, hv⟩ := rCount_some m x (by omega) (hx x List.mem_cons_self)
        obtain ⟨u, hu⟩ := ih (p ++ [x]) (wrap64 (c + v)) (by have := nd_pos x; omega) (fun y hy => hx y (List.mem_cons_of_mem _ hy)) (by rw [← at_app]; exact hp)
        rw [← at_app] at hu
        exact ⟨u, Ev.step (f := fun k => (rCount k x).bind fun t' => lustrumref10_Count.l0 k (wrap64 (c + t')) ((p ++ [x]).length : Int) n.f0 n.f1.f0 n.f1.f1 n.f1.f2 n.f1.f3 n.f2 n.f3 (p ++ x :: t)) (fun k => by rw [lustrumref10_Count.l0, if_pos (at_lt p x t), if_pos (at_0 p), at_rd26, at_next hp]) (Ev.bind hv hu)⟩
    have hn := nd_eq n
    have hl := hw.len
    obtain ⟨v, hv⟩ := loop n.f4 [] 1 (by omega) hw.all (by simp; omega)
    exact ⟨v, Ev.step (f := fun k => lustrumref10_Count.l0 k 1 0 n.f0 n.f1.f0 n.f1.f1 n.f1.f2 n.f1.f3 n.f2 n.f3 n.f4) (fun k => by show lustrumref10_Count.f (k + 1) _ _ _ _ _ _ _ _ = _; rw [lustrumref10_Count.f]) hv⟩
theorem dp_f : ∀ (m : Nat) (n : S27) (i c : Int), nd n ≤ m → 0 ≤ i → 0 ≤ c → i + nd n ≤ 4611686018427387904 → Ev (fun k => dp1 k n i c) (max c (i + dp n))
  | 0, n, i, c, h, _, _, _ => by have := nd_pos n; omega
  | m + 1, n, i, c, h, h0, hc, hb => by
    have loop : ∀ (t p : List S27) (i c : Int), ndL t ≤ m → 0 ≤ i → i ≤ c → i + ndL t ≤ 4611686018427387904 → (p ++ t).length ≤ 4611686018427387904 → Ev (fun k => tree_Deep_1.l0 k i c (p ++ t) ((p ++ t).length : Int) (p.length : Int)) (max c (i + dpL t)) := fun t => by
      induction t with
      | nil => exact fun p i c _ _ h _ _ => Ev.step (f := fun _ => some c) (fun k => by rw [tree_Deep_1.l0, if_neg (at_end p)]) (Ev.eq (Ev.now _) (by simp only [dpL]; omega))
      | cons x t ih =>
        intro p i c hm hi hc hb hp
        rw [ndL] at hm hb
        rw [dpL]
        refine Ev.step (f := fun k => (dp1 k x i c).bind fun t' => tree_Deep_1.l0 k i t' (p ++ x :: t) ((p ++ x :: t).length : Int) ((p ++ [x]).length : Int)) (fun k => by rw [tree_Deep_1.l0, if_pos (at_lt p x t), if_pos (at_0 p), if_pos (at_lt p x t), at_rd26, at_next hp]) ?_
        refine Ev.bind (dp_f m x i c (by omega) hi (by omega) (by omega)) ?_
        have := ih (p ++ [x]) i (max c (i + dp x)) (by have := nd_pos x; omega) hi (by omega) (by omega) (by rw [← at_app]; exact hp)
        rw [← at_app] at this
        exact Ev.eq this (by omega)
    have hn := nd_eq n
    have hl := len_nd n.f4
    have hj : ∀ x1 : Int, 0 ≤ x1 → x1 ≤ i + 1 → Ev (fun k => tree_Deep_1.j0 k x1 c n.f0 n.f1.f0 n.f1.f1 n.f1.f2 n.f1.f3 n.f2 n.f3 n.f4) (max c (x1 + dpL n.f4)) := fun x1 h1 h2 => by
      refine Ev.step (f := fun k => tree_Deep_1.l0 k x1 (mx c x1) n.f4 (n.f4.length : Int) 0) (fun k => by rw [tree_Deep_1.j0]) ?_
      have := loop n.f4 [] x1 (mx c x1) (by omega) h1 (by rw [mx_max]; omega) (by omega) (by simp; omega)
      rw [mx_max] at this ⊢
      exact Ev.eq this (by omega)
    rw [dp_eq]
    by_cases h2 : n.f0 = 2
    · rw [if_pos h2]
      refine Ev.step (f := fun k => tree_Deep_1.j0 k (i + 1) c n.f0 n.f1.f0 n.f1.f1 n.f1.f2 n.f1.f3 n.f2 n.f3 n.f4) (fun k => by show tree_Deep_1.f (k + 1) _ _ _ _ _ _ _ _ _ _ = _; rw [tree_Deep_1.f, if_pos h2, w64 (by omega) (by omega)]) ?_
      exact Ev.eq (hj (i + 1) (by omega) (by omega)) (by omega)
    · rw [if_neg h2]
      refine Ev.step (f := fun k => tree_Deep_1.j0 k i c n.f0 n.f1.f0 n.f1.f1 n.f1.f2 n.f1.f3 n.f2 n.f3 n.f4) (fun k => by show tree_Deep_1.f (k + 1) _ _ _ _ _ _ _ _ _ _ = _; rw [tree_Deep_1.f, if_neg h2]) ?_
      exact hj i (by omega) (by omega)
theorem tDeep_f (n : S27) (h : nd n ≤ 4611686018427387904) : Ev (fun k => tDeep k n) (dp n : Int) := Ev.eq (dp_f _ n 0 0 (Nat.le_refl _) (Int.le_refl _) (Int.le_refl _) (by omega)) (by omega)
end Go.Proofs.YtjgjhekpiijniaaGreat.A
namespace Go.Proofs.YtjgjhekpiijniaaGreat.Rd
open Go.RowKit Go.Deep Go.Proofs.YtjgjhekpiijniaaGreatW.PrintWords Go.Proofs.YtjgjhekpiijniaaGreat.A
def wfI (n : Int) : Prop := -9223372036854775808 ≤ n ∧ n ≤ 9223372036854775807
theorem wfI_of {n : Int} (h : (Lit.int .i64 n).wf = true) : wfI n := by
  have h1 := of_decide_eq_true (p := _ ∧ _) (by simpa [Lit.wf, IntKind.signed, IntKind.bits, Bool.and_eq_true, decide_eq_true_eq] using h)
  exact h1
theorem len4 {α : Type} {l : List α} (h : l.length = 4) : ∃ a b c d, l = [a, b, c, d] := by
  match l, h with
  | [a, b, c, d], _ => exact ⟨a, b, c, d, rfl⟩
theorem len5 {α : Type} {l : List α} (h : l.length = 5) : ∃ a b c d e, l = [a, b, c, d, e] := by
  match l, h with
  | [a, b, c, d, e], _ => exact ⟨a, b, c, d, e, rfl⟩
theorem len8 {α : Type} {l : List α} (h : l.length = 8) : ∃ a b c d e f g i, l = [a, b, c, d, e, f, g, i] := by
  match l, h with
  | [a, b, c, d, e, f, g, i], _ => exact ⟨a, b, c, d, e, f, g, i, rfl⟩
theorem pt_read (f : Nat) {H : Type} (enc : TypeId × Value → H) (W : World) (cs : List Value) (x : DataW H × List MemPlace)
    (h : DataW.trod enc Tryz.prog W 0 (fun _ => true) true f 24 cs = some x) (hw : (x.1.weights Tryz.prog 24).all (· ≤ reachBytes) = true) :
    ∃ p : S24, cs = [.int .i64 p.f0, .string p.f1, .string p.f2, .string p.f3] ∧ wfI p.f0 ∧ p.f1.size ≤ 140737488351232 ∧ p.f2.size ≤ 140737488351232 ∧ p.f3.size ≤ 140737488351232 := by
  obtain ⟨xs, m, rfl, rfl, hl, hlen, hf⟩ := DataW.trod_struct Tryz.underlying24 h
  have e1 : Tryz.prog.cellsOf 24 = 4 := by kernel_rfl
  have e2 : Tryz.prog.cellsOf 3 = 1 := by kernel_rfl
  have e3 : Tryz.prog.cellsOf 9 = 1 := by kernel_rfl
  rw [e1] at hl
  have hlen : xs.length = 4 := hlen
  obtain ⟨y0, y1, y2, y3, rfl⟩ := len4 hlen
  obtain ⟨c0, c1, c2, c3, rfl⟩ := len4 hl
  · skip
    have h0 : DataW.trod enc Tryz.prog W 0 (fun _ => true) true m 3 (([c0, c1, c2, c3].drop 0).take (Tryz.prog.cellsOf 3)) = some y0 := hf 0 _ rfl
    have h1 : DataW.trod enc Tryz.prog W 0 (fun _ => true) true m 9 (([c0, c1, c2, c3].drop 1).take (Tryz.prog.cellsOf 9)) = some y1 := hf 1 _ rfl
    have h2 : DataW.trod enc Tryz.prog W 0 (fun _ => true) true m 9 (([c0, c1, c2, c3].drop 2).take (Tryz.prog.cellsOf 9)) = some y2 := hf 2 _ rfl
    have h3 : DataW.trod enc Tryz.prog W 0 (fun _ => true) true m 9 (([c0, c1, c2, c3].drop 3).take (Tryz.prog.cellsOf 9)) = some y3 := hf 3 _ rfl
    rw [e2] at h0
    rw [e3] at h1 h2 h3
    simp only [DataW.weights, Tryz.underlying24, List.map_cons, List.map_nil, DataW.weightsEach, List.all_append, Bool.and_eq_true] at hw
    obtain ⟨_, w1, w2, w3, _⟩ := hw
    obtain ⟨a, ha, _, wa⟩ := DataW.trod_int Tryz.underlying3 h0
    obtain ⟨s1, hs1, z1⟩ := Rd.string Tryz.underlying9 m enc W _ _ h1 w1
    obtain ⟨s2, hs2, z2⟩ := Rd.string Tryz.underlying9 m enc W _ _ h2 w2
    obtain ⟨s3, hs3, z3⟩ := Rd.string Tryz.underlying9 m enc W _ _ h3 w3
    replace ha : [c0] = [.int .i64 a] := ha
    replace hs1 : [c1] = [.string s1] := hs1
    replace hs2 : [c2] = [.string s2] := hs2
    replace hs3 : [c3] = [.string s3] := hs3
    simp only [List.cons.injEq, and_true] at ha hs1 hs2 hs3
    subst ha hs1 hs2 hs3
    exact ⟨⟨a, s1, s2, s3⟩, rfl, wfI_of wa, z1, z2, z3⟩
theorem ndL_le {H : Type} : ∀ (l : List S27) (ds : List (DataW H)), l.length = ds.length → (∀ (i : Nat) (b : S27), l[i]? = some b → ∃ d, ds[i]? = some d ∧ nd b ≤ Rows.uptoBulk d) → ndL l ≤ Rows.uptoBulkAll ds
  | [], [], _, _ => by rw [ndL]; exact Nat.zero_le _
  | b :: l, d :: ds, e, h => by
    obtain ⟨d', h1, h2⟩ := h 0 b rfl
    obtain rfl : d = d' := by simpa using h1
    have := ndL_le l ds (by simpa using e) (fun (i : Nat) (b : S27) hb => by have := h (i + 1) b (by simpa using hb); simpa using this)
    rw [ndL, Rows.uptoBulkAll]
    omega
  | [], _ :: _, e, _ => by simp at e
  | _ :: _, [], e, _ => by simp at e
theorem node_read : ∀ (f : Nat) {H : Type} (enc : TypeId × Value → H) (W : World) (cs : List Value) (x : DataW H × List MemPlace),
    DataW.trod enc Tryz.prog W 0 (fun _ => true) true f 27 cs = some x → (x.1.weights Tryz.prog 27).all (· ≤ reachBytes) = true → ∃ n : S27, k27.K W n cs ∧ wfN n ∧ wfI n.f0 ∧ nd n ≤ Rows.uptoBulk x.1 := by
  intro f
  induction f using Nat.strongRecOn with
  | _ f ih =>
  intro H enc W cs x h hw
  obtain ⟨xs, m, rfl, rfl, hl, hlen, hf⟩ := DataW.trod_struct Tryz.underlying27 h
  have e1 : Tryz.prog.cellsOf 27 = 8 := by kernel_rfl
  have e2 : Tryz.prog.cellsOf 3 = 1 := by kernel_rfl
  have e3 : Tryz.prog.cellsOf 24 = 4 := by kernel_rfl
  have e4 : Tryz.prog.cellsOf 4 = 1 := by kernel_rfl
  have e5 : Tryz.prog.cellsOf 25 = 1 := by kernel_rfl
  rw [e1] at hl
  have hlen : xs.length = 5 := hlen
  obtain ⟨y0, y1, y2, y3, y4, rfl⟩ := len5 hlen
  obtain ⟨c0, c1, c2, c3, c4, c5, c6, c7, rfl⟩ := len8 hl
  · skip
    have h0 : DataW.trod enc Tryz.prog W 0 (fun _ => true) true m 3 (([c0, c1, c2, c3, c4, c5, c6, c7].drop 0).take (Tryz.prog.cellsOf 3)) = some y0 := hf 0 _ rfl
    have h1 : DataW.trod enc Tryz.prog W 0 (fun _ => true) true m 24 (([c0, c1, c2, c3, c4, c5, c6, c7].drop 1).take (Tryz.prog.cellsOf 24)) = some y1 := hf 1 _ rfl
    have h2 : DataW.trod enc Tryz.prog W 0 (fun _ => true) true m 4 (([c0, c1, c2, c3, c4, c5, c6, c7].drop 5).take (Tryz.prog.cellsOf 4)) = some y2 := hf 2 _ rfl
    have h3 : DataW.trod enc Tryz.prog W 0 (fun _ => true) true m 4 (([c0, c1, c2, c3, c4, c5, c6, c7].drop 6).take (Tryz.prog.cellsOf 4)) = some y3 := hf 3 _ rfl
    have h4 : DataW.trod enc Tryz.prog W 0 (fun _ => true) true m 25 (([c0, c1, c2, c3, c4, c5, c6, c7].drop 7).take (Tryz.prog.cellsOf 25)) = some y4 := hf 4 _ rfl
    rw [e2] at h0
    rw [e3] at h1
    rw [e4] at h2 h3
    rw [e5] at h4
    simp only [DataW.weights, Tryz.underlying27, List.map_cons, List.map_nil, DataW.weightsEach, List.all_append, Bool.and_eq_true] at hw
    obtain ⟨_, w1, _, _, w4, _⟩ := hw
    obtain ⟨a, ha, _, wa⟩ := DataW.trod_int Tryz.underlying3 h0
    obtain ⟨p, hp, wp, z1, z2, z3⟩ := pt_read m enc W _ _ h1 w1
    obtain ⟨b2, hb2, _⟩ := DataW.trod_bool Tryz.underlying4 h2
    obtain ⟨b3, hb3, _⟩ := DataW.trod_bool Tryz.underlying4 h3
    replace ha : [c0] = [.int .i64 a] := ha
    replace hp : [c1, c2, c3, c4] = [.int .i64 p.f0, .string p.f1, .string p.f2, .string p.f3] := hp
    replace hb2 : [c5] = [.bool b2] := hb2
    replace hb3 : [c6] = [.bool b3] := hb3
    replace h4 : DataW.trod enc Tryz.prog W 0 (fun _ => true) true m 25 [c7] = some y4 := h4
    simp only [List.cons.injEq, and_true] at ha hp hb2 hb3
    obtain ⟨rfl, rfl, rfl, rfl⟩ := hp
    subst ha hb2 hb3
    have hL : ∃ l : List S27, (Kd.slice 26 k27).K W l [c7] ∧ l.length ≤ 1466015503711 ∧ (∀ x, x ∈ l → wfN x) ∧ ndL l + 1 ≤ Rows.uptoBulk y4.1 := by
      rcases DataW.trod_slice Tryz.underlying25 h4 with ⟨e, rfl⟩ | ⟨ad, len, cap, elems, rest, g, rfl, e, rfl, _, hlc, hm, hle, hel, _, _⟩
      · simp only [List.cons.injEq, and_true] at e
        subst e
        exact ⟨[], ⟨none, 0, rfl, Nat.le_refl _, rfl, by simp, fun h => absurd h (by simp)⟩, by simp, fun x h => (by cases h), by rw [ndL, Rows.uptoBulk]; omega⟩
      · simp only [List.cons.injEq, and_true] at e
        subst e
        simp only [DataW.weights, Tryz.underlying25, List.all_cons, List.all_append, Bool.and_eq_true, decide_eq_true_eq] at w4
        obtain ⟨hb, hw1, _⟩ := w4
        rw [List.length_map, List.length_map] at hb
        have eb : Tryz.prog.bytesOf 27 = 96 := by kernel_rfl
        rw [eb] at hb
        obtain ⟨l, hl, hq⟩ := list_of (fun i b => ∃ c, c.length = k27.sz ∧ k27.K W b c ∧ wfN b ∧ (∃ d, (elems.map (·.1))[i]? = some d ∧ nd b ≤ Rows.uptoBulk d) ∧ ∀ j u, c[j]? = some u → W.cell? (ad.add (i * k27.sz + j)) = some u) len fun i hi => by
          have hi' : i < elems.length := by omega
          have h1 := hel i hi
          rw [List.getElem?_eq_getElem hi'] at h1
          obtain ⟨c, hc1, hc2⟩ := Option.bind_eq_some_iff.1 h1
          obtain ⟨_, hcl, hcell⟩ := World.cells?_some hc1
          obtain ⟨b, hk, hwf, _, hbk⟩ := ih g (by omega) enc W c _ hc2 (all_weights hw1 _ (List.mem_map.2 ⟨_, List.getElem_mem hi', rfl⟩))
          have esz : k27.sz = 8 := rfl
          refine ⟨b, c, by rw [hcl, e1, esz], hk, hwf, ⟨_, by rw [List.getElem?_map, List.getElem?_eq_getElem hi']; rfl, hbk⟩, fun j u hj => ?_⟩
          have hjl := (List.getElem?_eq_some_iff.1 hj).1
          have h2 := hcell j (by omega)
          rw [hj, e1] at h2
          rw [← h2, esz]
          exact congrArg W.cell? (Deep.add_add _ _ _).symm
        refine ⟨l, ⟨some ad, cap, by rw [hl], by rw [hl]; exact hlc, hl ▸ rfl, by unfold maxLen at hm; omega, fun _ => ⟨ad, rfl, fun j p hj => ?_⟩⟩, by unfold reachBytes at hb; omega, fun x hx => ?_, ?_⟩
        · obtain ⟨c, h1, h2, _, _, h4⟩ := hq j p hj
          exact ⟨c, h1, h2, h4⟩
        · obtain ⟨i, hi⟩ := List.getElem?_of_mem hx
          obtain ⟨c, _, _, h3, _, _⟩ := hq i x hi
          exact h3
        · have := ndL_le l (elems.map (·.1)) (by rw [List.length_map]; omega) (fun i b hb => by obtain ⟨c, _, _, _, h5, _⟩ := hq i b hb; exact h5)
          clear hb hm hw1 hlc
          rw [Rows.uptoBulk]
          omega
    obtain ⟨l, ⟨A, c, e, hlc, hC⟩, hlen, hwl, hbl⟩ := hL
    simp only [List.cons.injEq, and_true] at e
    subst e
    refine ⟨⟨a, p, b2, b3, l⟩, k27_mk W ⟨a, p, b2, b3, l⟩ hlc hC, .mk _ z1 z2 z3 hlen hwl, wfI_of wa, ?_⟩
    rw [nd_eq]
    simp only [List.map_cons, List.map_nil, Rows.uptoBulk, Rows.uptoBulkAll]
    omega
theorem node_arg {H : Type} {enc : TypeId × Value → H} {W : World} {ts : List TypeId} {ds : List (DataW H)} {j : Nat} {v : Value} {x : DataW H} {ps : List MemPlace} (hsz : (DataW.weightsEach Tryz.prog ts ds).all (· ≤ reachBytes) = true) (ht : ts[j]? = some 27) (hd : ds[j]? = some x)
    (h : DataW.Trod enc Tryz.prog W 0 (fun _ => true) true 27 v x ps) (hv : ∃ cs, v = .agg cs) :
    ∃ (n : S27) (A : Option Addr) (c : Nat), v = .agg #[.int .i64 n.f0, .int .i64 n.f1.f0, .string n.f1.f1, .string n.f1.f2, .string n.f1.f3, .bool n.f2, .bool n.f3, .slice A n.f4.length c] ∧ n.f4.length ≤ c ∧ Kd.C k27 W A n.f4.length n.f4 ∧ wfN n ∧ wfI n.f0 ∧ nd n ≤ Rows.uptoBulk x := by
  obtain ⟨f, hf⟩ := h
  obtain ⟨n, hk, hw, hi, hb⟩ := node_read f enc W _ _ hf (by
    rw [List.all_eq_true] at hsz ⊢
    exact fun n hn => hsz n (DataW.weights_mem_each ht hd n hn))
  obtain ⟨cs, rfl⟩ := hv
  obtain ⟨A, c, e, hl, hC⟩ := k27_open hk
  have e : cs.toList = _ := e
  obtain ⟨l⟩ := cs
  simp only at e
  exact ⟨n, A, c, by rw [show l = _ from e], hl, hC, hw, hi, hb⟩
end Go.Proofs.YtjgjhekpiijniaaGreat.Rd
namespace Go.Proofs.YtjgjhekpiijniaaGreat.A
open Go.RowKit Go.Proofs.YtjgjhekpiijniaaGreatW.PrintWords Go.Proofs.YtjgjhekpiijniaaGreatW.PrintLast Go.Proofs.YtjgjhekpiijniaaGreatW.PrintMore
attribute [local go_sem] max2_int min2_int max_two min_two max_three min_three max_four min_four
theorem info46 : (Tryz.prog.info? 46).map (fun i => (i.zero, i.size, i.bytes)) = some (some (.agg #[(.int .i64 0), (.int .i64 0), (.string ⟨#[]⟩)]), 3, 32) := by kernel_rfl
structure S46 where
  f0 : Int
  f1 : Int
  f2 : ByteArray
def z46 : S46 := ⟨(0 : Int), (0 : Int), (⟨#[]⟩ : ByteArray)⟩
def k46 : Kd S46 := Kd.iso (Kd.pair (Kd.int .i64) (Kd.pair (Kd.int .i64) Kd.string)) (fun x : S46 => (x.f0, x.f1, x.f2))
theorem k46_open {w : World} {x : S46} {cs : List Value} (h : k46.K w x cs) : cs = [.int .i64 x.f0, .int .i64 x.f1, .string x.f2] := by
  obtain ⟨_, _, rfl, rfl, ⟨_, _, rfl, rfl, rfl⟩⟩ := h
  exact rfl
theorem k46_mkM (w : World) (base : Nat) (ok : Nat → Prop) (x : S46)  : k46.M w base ok x [.int .i64 x.f0, .int .i64 x.f1, .string x.f2] := ⟨[.int .i64 x.f0], [.int .i64 x.f1, .string x.f2], rfl, rfl, ⟨[.int .i64 x.f1], [.string x.f2], rfl, rfl, rfl⟩⟩
def rd_T46 (xs : List S46) (i : Int) : S46 := xs.getD i.toNat z46
theorem at_T46 {w : World} {A : Option Addr} {n : Nat} {xs : List S46} (h : Kd.C k46 w A n xs) (i : Int) (h0 : 0 ≤ i) (h1 : i < n) : ∃ ad , A = some ad ∧ w.cell? (ad.add (i.toNat * 3)) = some (.int .i64 (rd_T46 xs i).f0) ∧ w.cell? ⟨(ad.add (i.toNat * 3)).block, (ad.add (i.toNat * 3)).off + 1, none⟩ = some (.int .i64 (rd_T46 xs i).f1) ∧ w.cell? ⟨(ad.add (i.toNat * 3)).block, (ad.add (i.toNat * 3)).off + 2, none⟩ = some (.string (rd_T46 xs i).f2) := by
  obtain ⟨ad, c, e, _, hK, hc0⟩ := Kd.C_get h z46 i h0 h1
  have hc : ∀ j u, c[j]? = some u → w.cell? (ad.add (i.toNat * 3 + j)) = some u := hc0
  obtain rfl := k46_open hK
  exact ⟨ad, e, hc 0 _ rfl, by rw [← add_field _ _ 1 (by omega)]; exact hc 1 _ rfl, by rw [← add_field _ _ 2 (by omega)]; exact hc 2 _ rfl⟩
def point_Text.f (k : Nat) (a0_0 : Int) (a0_1 : ByteArray) (a0_2 : ByteArray) (a0_3 : ByteArray) : Option (ByteArray) := (point_Sane.f k a0_0 a0_1 a0_2 a0_3).bind fun t188 => (if t188 = true then (if a0_0 = 0 then (if 1 + a0_3.size ≤ 9223372036854775807 then (if 1 + a0_2.size ≤ 9223372036854775807 then (if ((⟨#[45]⟩ : ByteArray) ++ a0_2).size + ((⟨#[45]⟩ : ByteArray) ++ a0_3).size ≤ 9223372036854775807 then (if a0_1.size + (((⟨#[45]⟩ : ByteArray) ++ a0_2) ++ ((⟨#[45]⟩ : ByteArray) ++ a0_3)).size ≤ 9223372036854775807 then (some (a0_1 ++ (((⟨#[45]⟩ : ByteArray) ++ a0_2) ++ ((⟨#[45]⟩ : ByteArray) ++ a0_3)))) else (none)) else (none)) else (none)) else (none)) else (if a0_0 = 1 then (if 1 + a0_2.size ≤ 9223372036854775807 then (if ((⟨#[45]⟩ : ByteArray) ++ a0_2).size + 0 ≤ 9223372036854775807 then (if a0_1.size + (((⟨#[45]⟩ : ByteArray) ++ a0_2) ++ (⟨#[]⟩ : ByteArray)).size ≤ 9223372036854775807 then (some (a0_1 ++ (((⟨#[45]⟩ : ByteArray) ++ a0_2) ++ (⟨#[]⟩ : ByteArray)))) else (none)) else (none)) else (none)) else (if a0_0 = 2 then (if 1 + a0_2.size ≤ 9223372036854775807 then (if a0_1.size + ((⟨#[115]⟩ : ByteArray) ++ a0_2).size ≤ 9223372036854775807 then (some (a0_1 ++ ((⟨#[115]⟩ : ByteArray) ++ a0_2))) else (none)) else (none)) else (if a0_0 = 4 then (if a0_1.size + 1 ≤ 9223372036854775807 then (some (a0_1 ++ (⟨#[100]⟩ : ByteArray))) else (none)) else (if a0_0 = 5 then (if a0_1.size + 1 ≤ 9223372036854775807 then (some (a0_1 ++ (⟨#[99]⟩ : ByteArray))) else (none)) else (if a0_1.size + 0 ≤ 9223372036854775807 then (some (a0_1 ++ (⟨#[]⟩ : ByteArray))) else (none))))))) else (some (⟨#[]⟩ : ByteArray)))
theorem point_Text.mono : ∀ a0 a1 a2 a3 k, LeO (point_Text.f k a0 a1 a2 a3) (point_Text.f (k + 1) a0 a1 a2 a3) := by
  intro a0 a1 a2 a3 k
  unfold point_Text.f
  repeat' (with_reducible first | apply point_Sane.mono | exact LeO.refl _ | exact LeO.none _ | refine LeO.ite ?_ ?_ | refine LeO.bind ?_ fun _ => ?_)
def strings_Join.f (l : List ByteArray) (sep : ByteArray) : Option ByteArray :=
  if l.length ≤ 140737488355328 then (if (Lib.join (l.map (·.data.toList)) sep.data.toList).length ≤ 140737488355328 then some ⟨(Lib.join (l.map (·.data.toList)) sep.data.toList).toArray⟩ else none) else none
def print_join.f (l0 : List ByteArray) : Option (ByteArray) := (strings_Join.f l0 (⟨#[]⟩ : ByteArray)).bind fun t189 => (some t189)
def print_mark.f (a0 : Bool) (a1 : ByteArray) : Option (ByteArray) := if a0 = true then (some a1) else (some (⟨#[]⟩ : ByteArray))
mutual
def print_text.l0 : Nat → List ByteArray → List (S27) → Int → Int → Option (ByteArray)
  | 0, _, _, _, _ => none
  | k + 1, x3, x25, x26, x27 => if x27 < x26 then (if 0 ≤ x27 then (if x27 < (x25.length : Int) then ((print_text.f k ((rd_T27 x25 x27).f0) ((rd_T27 x25 x27).f1.f0) ((rd_T27 x25 x27).f1.f1) ((rd_T27 x25 x27).f1.f2) ((rd_T27 x25 x27).f1.f3) ((rd_T27 x25 x27).f2) ((rd_T27 x25 x27).f3) ((rd_T27 x25 x27).f4)).bind fun t201 => (if x3.length < 8796093022208 then (print_text.l0 k (x3 ++ [t201]) x25 x26 (wrap64 (x27 + 1))) else (none))) else (none)) else (none)) else ((strings_Join.f x3 (⟨#[44, 32]⟩ : ByteArray)).bind fun t205 => ((print_join.f (([(⟨#[91]⟩ : ByteArray), t205, (⟨#[93]⟩ : ByteArray)] : List ByteArray))).bind fun t209 => (some t209)))
def print_text.f : Nat → Int → Int → ByteArray → ByteArray → ByteArray → Bool → Bool → List (S27) → Option (ByteArray)
  | 0, _, _, _, _, _, _, _, _ => none
  | k + 1, a0_0, a0_1, a0_2, a0_3, a0_4, a0_5, a0_6, l0_7 => if a0_0 = 1 then (if 0 < (l0_7.length : Int) then ((print_text.f k ((rd_T27 l0_7 0).f0) ((rd_T27 l0_7 0).f1.f0) ((rd_T27 l0_7 0).f1.f1) ((rd_T27 l0_7 0).f1.f2) ((rd_T27 l0_7 0).f1.f3) ((rd_T27 l0_7 0).f2) ((rd_T27 l0_7 0).f3) ((rd_T27 l0_7 0).f4)).bind fun t192 => (if 1 < (l0_7.length : Int) then ((print_text.f k ((rd_T27 l0_7 1).f0) ((rd_T27 l0_7 1).f1.f0) ((rd_T27 l0_7 1).f1.f1) ((rd_T27 l0_7 1).f1.f2) ((rd_T27 l0_7 1).f1.f3) ((rd_T27 l0_7 1).f2) ((rd_T27 l0_7 1).f3) ((rd_T27 l0_7 1).f4)).bind fun t194 => ((print_join.f (([t192, (⟨#[47]⟩ : ByteArray), t194] : List ByteArray))).bind fun t198 => (some t198))) else (none))) else (none)) else (if a0_0 = 2 then (print_text.l0 k ([] : List ByteArray) l0_7 (l0_7.length : Int) 0) else (if a0_0 = 3 then (some (⟨#[46, 46]⟩ : ByteArray)) else (if a0_0 = 4 then (some (⟨#[42]⟩ : ByteArray)) else ((point_Text.f k a0_1 a0_2 a0_3 a0_4).bind fun t210 => ((print_mark.f a0_5 (⟨#[63]⟩ : ByteArray)).bind fun t211 => ((print_mark.f a0_6 (⟨#[126]⟩ : ByteArray)).bind fun t212 => ((print_join.f (([t210, t211, t212] : List ByteArray))).bind fun t216 => (some t216))))))))
end
theorem print_text.mono_l : ∀ k, (∀ y0 y1 y2 y3 y4 y5 y6 y7, LeO (print_text.f k y0 y1 y2 y3 y4 y5 y6 y7) (print_text.f (k + 1) y0 y1 y2 y3 y4 y5 y6 y7)) ∧ (∀ y0 y1 y2 y3, LeO (print_text.l0 k y0 y1 y2 y3) (print_text.l0 (k + 1) y0 y1 y2 y3))
  | 0 => ⟨fun _ _ _ _ _ _ _ _ r h => by simp [print_text.f] at h, fun _ _ _ _ r h => by simp [print_text.l0] at h⟩
  | k + 1 => by
    obtain ⟨ih0, ih1⟩ := print_text.mono_l k
    refine ⟨?_, ?_⟩
    · intro y0 y1 y2 y3 y4 y5 y6 y7
      unfold print_text.f
      repeat' (with_reducible first | apply ih0 | apply ih1 | apply point_Text.mono | exact LeO.refl _ | exact LeO.none _ | refine LeO.ite ?_ ?_ | refine LeO.bind ?_ fun _ => ?_)
    · intro y0 y1 y2 y3
      unfold print_text.l0
      repeat' (with_reducible first | apply ih0 | apply ih1 | apply point_Text.mono | exact LeO.refl _ | exact LeO.none _ | refine LeO.ite ?_ ?_ | refine LeO.bind ?_ fun _ => ?_)
theorem print_text.mono : ∀ a0 a1 a2 a3 a4 a5 a6 a7 k, LeO (print_text.f k a0 a1 a2 a3 a4 a5 a6 a7) (print_text.f (k + 1) a0 a1 a2 a3 a4 a5 a6 a7) := by
  intro a0 a1 a2 a3 a4 a5 a6 a7 k
  obtain ⟨ih0, ih1⟩ := print_text.mono_l k
  exact ih0 a0 a1 a2 a3 a4 a5 a6 a7
def print_Text.f (k : Nat) (a0_0 : Int) (a0_1 : Int) (a0_2 : ByteArray) (a0_3 : ByteArray) (a0_4 : ByteArray) (a0_5 : Bool) (a0_6 : Bool) (l0_7 : List (S27)) : Option (ByteArray) := (tree_Sane.f k a0_0 a0_1 a0_2 a0_3 a0_4 a0_5 a0_6 l0_7).bind fun t218 => (if t218 = true then ((print_text.f k a0_0 a0_1 a0_2 a0_3 a0_4 a0_5 a0_6 l0_7).bind fun t219 => (some t219)) else (some (⟨#[]⟩ : ByteArray)))
theorem print_Text.mono : ∀ a0 a1 a2 a3 a4 a5 a6 a7 k, LeO (print_Text.f k a0 a1 a2 a3 a4 a5 a6 a7) (print_Text.f (k + 1) a0 a1 a2 a3 a4 a5 a6 a7) := by
  intro a0 a1 a2 a3 a4 a5 a6 a7 k
  unfold print_Text.f
  repeat' (with_reducible first | apply print_text.mono | apply tree_Sane.mono | exact LeO.refl _ | exact LeO.none _ | refine LeO.ite ?_ ?_ | refine LeO.bind ?_ fun _ => ?_)
def stringslite_HasSuffix.f (a0 : ByteArray) (a1 : ByteArray) : Option (Bool) := if (a0.size : Int) ≥ (a1.size : Int) then (if 0 ≤ (wrap64 ((a0.size : Int) - (a1.size : Int))) then (if (wrap64 ((a0.size : Int) - (a1.size : Int))) ≤ (a0.size : Int) then (some ((a0.extract ((wrap64 ((a0.size : Int) - (a1.size : Int))) : Int).toNat a0.size).toList == a1.toList)) else (none)) else (none)) else (some false)
def stringslite_CutSuffix.f (a0 : ByteArray) (a1 : ByteArray) : Option (ByteArray × Bool) := (stringslite_HasSuffix.f a0 a1).bind fun t101 => (if t101 = true then (if 0 ≤ (wrap64 ((a0.size : Int) - (a1.size : Int))) then (if (wrap64 ((a0.size : Int) - (a1.size : Int))) ≤ (a0.size : Int) then (some (a0.extract 0 ((wrap64 ((a0.size : Int) - (a1.size : Int))) : Int).toNat, true)) else (none)) else (none)) else (some (a0, false)))
def strings_CutSuffix.f (a0 : ByteArray) (a1 : ByteArray) : Option (ByteArray × Bool) := (stringslite_CutSuffix.f a0 a1).bind fun bt102 => (some (bt102.1, bt102.2))
def signK (c : Int) : Int := if c = 47 then 1 else if c = 42 then 3 else if c = 91 then 4 else if c = 93 then 5 else if c = 44 then 6 else if c = 63 then 7 else if c = 126 then 8 else 0
def signB (c : Int) : Bool := decide (c = 47 ∨ c = 42 ∨ c = 91 ∨ c = 93 ∨ c = 44 ∨ c = 63 ∨ c = 126)
def lex_signs.f (c : Int) : Option (Int × Bool) := some (signK c, signB c)
def strings_IndexByte.f (s : ByteArray) (c : Int) : Option Int := some (Lib.indexByte s.data.toList c.toNat.toUInt8)
end Go.Proofs.YtjgjhekpiijniaaGreat.A
namespace Go.Proofs
open Go.Shelf
def Tryz.lays156_ren : Go.Shelf.Ren := ⟨fun | 156 => 50 | 165 => 66 | 166 => 67 | 169 => 68 | 240 => 77 | 241 => 78 | 276 => 86 | 277 => 87 | n => n, fun | 31 => 77 | 9 => 9 | 3 => 3 | 4 => 4 | 0 => 0 | 20 => 20 | 72 => 97 | 76 => 101 | 70 => 94 | 37 => 95 | 75 => 100 | 127 => 107 | 164 => 112 | 5 => 5 | 80 => 84 | n => n, fun | n => n⟩
theorem Tryz.lays156 : Go.Proofs.Lays.n156 Tryz.prog Tryz.lays156_ren := {
  mixed := by kernel_rfl
  f156 := Tryz.func50.trans (congrArg some (by kernel_rfl))
  f165 := Tryz.func66.trans (congrArg some (by kernel_rfl))
  f166 := Tryz.func67.trans (congrArg some (by kernel_rfl))
  f169 := Tryz.func68.trans (congrArg some (by kernel_rfl))
  f240 := Tryz.func77.trans (congrArg some (by kernel_rfl))
  f241 := Tryz.func78.trans (congrArg some (by kernel_rfl))
  f276 := Tryz.func86.trans (congrArg some (by kernel_rfl))
  f277 := Tryz.func87.trans (congrArg some (by kernel_rfl))
  t0 := Tryz.underlying0
  a0 := Tryz.isAgg0
  z0 := Tryz.sizeOf0
  v0 := Tryz.zeroValue0
  t3 := Tryz.underlying3
  a3 := Tryz.isAgg3
  z3 := Tryz.sizeOf3
  v3 := Tryz.zeroValue3
  t4 := Tryz.underlying4
  a4 := Tryz.isAgg4
  z4 := Tryz.sizeOf4
  v4 := Tryz.zeroValue4
  t9 := Tryz.underlying9
  a9 := Tryz.isAgg9
  z9 := Tryz.sizeOf9
  v9 := Tryz.zeroValue9
  t20 := Tryz.underlying20
  a20 := Tryz.isAgg20
  z20 := Tryz.sizeOf20
  v20 := Tryz.zeroValue20
  t31 := Tryz.underlying77
  a31 := Tryz.isAgg77
  z31 := Tryz.sizeOf77
  v31 := Tryz.zeroValue77
  t37 := Tryz.underlying95
  a37 := Tryz.isAgg95
  z37 := Tryz.sizeOf95
  v37 := Tryz.zeroValue95
  t70 := Tryz.underlying94
  a70 := Tryz.isAgg94
  z70 := Tryz.sizeOf94
  v70 := Tryz.zeroValue94
  t72 := Tryz.underlying97
  a72 := Tryz.isAgg97
  z72 := Tryz.sizeOf97
  v72 := Tryz.zeroValue97
  t75 := Tryz.underlying100
  a75 := Tryz.isAgg100
  z75 := Tryz.sizeOf100
  v75 := Tryz.zeroValue100
  t76 := Tryz.underlying101
  a76 := Tryz.isAgg101
  z76 := Tryz.sizeOf101
  v76 := Tryz.zeroValue101
  t127 := Tryz.underlying107
  a127 := Tryz.isAgg107
  z127 := Tryz.sizeOf107
  v127 := Tryz.zeroValue107
  t164 := Tryz.underlying112
  a164 := Tryz.isAgg112
  z164 := Tryz.sizeOf112
  v164 := Tryz.zeroValue112 }
theorem Tryz.Builder_Extra_156 : Builder.Extra Tryz.prog Tryz.lays156_ren := {
  sizeBuilder := by kernel_rfl
  liesBuilder := by kernel_rfl
  t5 := Tryz.underlying5
  a5 := Tryz.isAgg5
  z5 := Tryz.sizeOf5
  v5 := Tryz.zeroValue5
  infoByte := by kernel_rfl
  cellsByte := by kernel_rfl
  sizeByte := by kernel_rfl
  neB5 := by decide }
open Go.RowKit in
theorem Tryz.strings_Join_none (a : Option Addr) (c : Nat) (sep : ByteArray) (w : World) :
    Calls Tryz.prog 50 #[.slice a 0 c, .string sep] w fun e w' => e = .returned (.string ⟨#[]⟩) ∧ w' = w := Any.strings_Join_none Tryz.lays156 Tryz.Builder_Extra_156 a c sep w
open Go.RowKit in
theorem Tryz.strings_Join (bk o c : Nat) (xs : List ByteArray) (sep : ByteArray) (w : World) (hcells : ∀ (j : Nat) x, xs[j]? = some x → w.cell? ⟨bk, o + j, none⟩ = some (.string x)) (hbk : bk < w.heap.size) (hN : xs.length ≤ 140737488355328) (hcap : xs.length ≤ c) (hlen : (Lib.join (xs.map (·.data.toList)) sep.data.toList).length ≤ 140737488355328) :
    Calls Tryz.prog 50 #[.slice (some ⟨bk, o, none⟩) xs.length c, .string sep] w fun e w' => e = .returned (.string ⟨(Lib.join (xs.map (·.data.toList)) sep.data.toList).toArray⟩) ∧ Below w.heap.size w w' := Any.strings_Join Tryz.lays156 Tryz.Builder_Extra_156 bk o c xs sep w hcells hbk hN hcap hlen
def Tryz.lays137_ren : Go.Shelf.Ren := ⟨fun | 137 => 54 | 217 => 69 | 266 => 79 | n => n, fun | 9 => 9 | 5 => 5 | 3 => 3 | n => n, fun | n => n⟩
theorem Tryz.lays137 : Go.Proofs.Lays.n137 Tryz.prog Tryz.lays137_ren := {
  mixed := by kernel_rfl
  f137 := Tryz.func54.trans (congrArg some (by kernel_rfl))
  f217 := Tryz.func69.trans (congrArg some (by kernel_rfl))
  f266 := Tryz.func79.trans (congrArg some (by kernel_rfl))
  t3 := Tryz.underlying3
  a3 := Tryz.isAgg3
  z3 := Tryz.sizeOf3
  v3 := Tryz.zeroValue3
  t5 := Tryz.underlying5
  a5 := Tryz.isAgg5
  z5 := Tryz.sizeOf5
  v5 := Tryz.zeroValue5
  t9 := Tryz.underlying9
  a9 := Tryz.isAgg9
  z9 := Tryz.sizeOf9
  v9 := Tryz.zeroValue9 }
open Go.RowKit in
theorem Tryz.strings_IndexByte (s : ByteArray) (c : Int) (w : World) :
    Calls Tryz.prog 54 #[.string s, .int .u8 c] w fun e w' => e = .returned (.int .i64 (Lib.indexByte s.data.toList c.toNat.toUInt8)) ∧ w' = w := Any.strings_IndexByte Tryz.lays137 s c w
def Tryz.lays217_ren : Go.Shelf.Ren := ⟨fun | 217 => 69 | 266 => 79 | n => n, fun | 9 => 9 | 5 => 5 | 3 => 3 | n => n, fun | n => n⟩
theorem Tryz.lays217 : Go.Proofs.Lays.n217 Tryz.prog Tryz.lays217_ren := {
  mixed := by kernel_rfl
  f217 := Tryz.func69.trans (congrArg some (by kernel_rfl))
  f266 := Tryz.func79.trans (congrArg some (by kernel_rfl))
  t3 := Tryz.underlying3
  a3 := Tryz.isAgg3
  z3 := Tryz.sizeOf3
  v3 := Tryz.zeroValue3
  t5 := Tryz.underlying5
  a5 := Tryz.isAgg5
  z5 := Tryz.sizeOf5
  v5 := Tryz.zeroValue5
  t9 := Tryz.underlying9
  a9 := Tryz.isAgg9
  z9 := Tryz.sizeOf9
  v9 := Tryz.zeroValue9 }
open Go.RowKit Go.Lib in
theorem Tryz.stringslite_IndexByte (s : ByteArray) (c : Int) (w : World) :
    Calls Tryz.prog 69 #[.string s, .int .u8 c] w fun e w' => e = .returned (.int .i64 (Lib.indexByte s.data.toList c.toNat.toUInt8)) ∧ w' = w := Any.stringslite_IndexByte Tryz.lays217 s c w
def Tryz.lays206_ren : Go.Shelf.Ren := ⟨fun | 206 => 55 | n => n, fun | 9 => 9 | 4 => 4 | 3 => 3 | n => n, fun | n => n⟩
theorem Tryz.lays206 : Go.Proofs.Lays.n206 Tryz.prog Tryz.lays206_ren := {
  mixed := by kernel_rfl
  f206 := Tryz.func55.trans (congrArg some (by kernel_rfl))
  t3 := Tryz.underlying3
  a3 := Tryz.isAgg3
  z3 := Tryz.sizeOf3
  v3 := Tryz.zeroValue3
  t4 := Tryz.underlying4
  a4 := Tryz.isAgg4
  z4 := Tryz.sizeOf4
  v4 := Tryz.zeroValue4
  t9 := Tryz.underlying9
  a9 := Tryz.isAgg9
  z9 := Tryz.sizeOf9
  v9 := Tryz.zeroValue9 }
open Go.RowKit Go.Lib in
theorem Tryz.stringslite_HasPrefix (s p : ByteArray) (w : World) :
    Calls Tryz.prog 55 #[.string s, .string p] w fun e w' => e = .returned (.bool (Lib.hasPrefix s.data.toList p.data.toList)) ∧ w' = w := Any.stringslite_HasPrefix Tryz.lays206 s p w
def Tryz.lays99_ren : Go.Shelf.Ren := ⟨fun | 99 => 37 | 206 => 55 | n => n, fun | 9 => 9 | 4 => 4 | 3 => 3 | n => n, fun | n => n⟩
theorem Tryz.lays99 : Go.Proofs.Lays.n99 Tryz.prog Tryz.lays99_ren := {
  mixed := by kernel_rfl
  f99 := Tryz.func37.trans (congrArg some (by kernel_rfl))
  f206 := Tryz.func55.trans (congrArg some (by kernel_rfl))
  t3 := Tryz.underlying3
  a3 := Tryz.isAgg3
  z3 := Tryz.sizeOf3
  v3 := Tryz.zeroValue3
  t4 := Tryz.underlying4
  a4 := Tryz.isAgg4
  z4 := Tryz.sizeOf4
  v4 := Tryz.zeroValue4
  t9 := Tryz.underlying9
  a9 := Tryz.isAgg9
  z9 := Tryz.sizeOf9
  v9 := Tryz.zeroValue9 }
open Go.RowKit Go.Lib in
theorem Tryz.strings_HasPrefix (s p : ByteArray) (w : World) :
    Calls Tryz.prog 37 #[.string s, .string p] w fun e w' => e = .returned (.bool (Lib.hasPrefix s.data.toList p.data.toList)) ∧ w' = w := Any.strings_HasPrefix Tryz.lays99 s p w
end Go.Proofs
namespace Go.Proofs.YtjgjhekpiijniaaGreat.A
open Go.RowKit Go.Proofs.YtjgjhekpiijniaaGreatW.PrintWords Go.Proofs.YtjgjhekpiijniaaGreatW.PrintLast Go.Proofs.YtjgjhekpiijniaaGreatW.PrintMore
def stringslite_Index.f (s u : ByteArray) : Option Int := if u.size = 1 then some (Lib.indexByte s.data.toList (bt u 0).toNat.toUInt8) else none
set_option maxHeartbeats 8000000 in
set_option maxRecDepth 100000 in
theorem stringslite_Index.calls (a0 a1 : ByteArray) (r : Int) (w : World) (h : stringslite_Index.f a0 a1 = some r) :
    Calls Tryz.prog 102 #[.string a0, .string a1] w fun e w' => e = .returned (.int .i64 r) ∧ Drawn0 w w' := by
  unfold stringslite_Index.f at h
  by_cases c : a1.size = 1
  · rw [if_pos c] at h
    obtain rfl := Option.some.inj h
    have c1 : ((a1.size : Int) == 0) = false := by rw [c]; rfl
    have c2 : ((a1.size : Int) == 1) = true := by rw [c]; rfl
    have q1 : (0 < a1.size) = True := eq_true (by omega)
    have hx := bt_at a1 0
    have C := A_ c
    clear h c
    by_cases e : (a1.toList == a0.toList) = true
    · have hr : Lib.indexByte a0.data.toList (bt a1 0).toNat.toUInt8 = 0 := by
        have e1 : a1.data.toList = a0.data.toList := by rw [← ByteArray.toList_eq, ← ByteArray.toList_eq]; exact beq_iff_eq.1 e
        have l1 : a1.data.toList.length = 1 := by rw [data_length]; exact C.out
        rw [← e1]
        obtain ⟨d, hd⟩ := List.length_eq_one_iff.1 l1
        have hb : (bt a1 0).toNat.toUInt8 = d := by
          have := hx (by have := C.out; simp; omega)
          have h2 : (a1[(0 : Int).toNat]'(by have := C.out; simp; omega)) = d := by
            show a1.data[0]'_ = d
            have : a1.data.toList[0]'(by omega) = d := by simp [hd]
            rw [← this]; simp
          rw [← this, h2]
          simp
        rw [hb, hd]
        simp [Lib.indexByte]
      rw [hr]
      have HR := A_ hr
      clear hr hx
      go_enter Tryz.func102, Tryz.ntmps102
      go_wp2
      go_ret
      exact ⟨rfl, Drawn0.refl _⟩
    · have e0 := Bool.eq_false_iff.2 e
      clear e
      have hy : ∀ h : 0 < a1.size, ((a1[0]'h).toNat : Int) = bt a1 0 := hx
      clear hx
      go_enter Tryz.func102, Tryz.ntmps102
      go_wp2_with (first | (go_at_call 69; (with_reducible refine (Tryz.stringslite_IndexByte a0 (bt a1 0) _).mono ?_); rintro e w' ⟨rfl, rfl⟩))
      go_ret
      exact ⟨rfl, Drawn0.refl _⟩
  · rw [if_neg c] at h
    cases h
end Go.Proofs.YtjgjhekpiijniaaGreat.A
namespace Go.Proofs.YtjgjhekpiijniaaGreat.A
open Go.RowKit Go.Proofs.YtjgjhekpiijniaaGreatW.PrintWords Go.Proofs.YtjgjhekpiijniaaGreatW.PrintLast Go.Proofs.YtjgjhekpiijniaaGreatW.PrintMore
attribute [local go_sem] max2_int min2_int max_two min_two max_three min_three max_four min_four
def stringslite_Cut.f (a0 : ByteArray) (a1 : ByteArray) : Option (ByteArray × ByteArray × Bool) := (stringslite_Index.f a0 a1).bind fun t104 => (if t104 ≥ 0 then (if 0 ≤ t104 then (if t104 ≤ (a0.size : Int) then (if 0 ≤ (wrap64 (t104 + (a1.size : Int))) then (if (wrap64 (t104 + (a1.size : Int))) ≤ (a0.size : Int) then (some (a0.extract 0 (t104 : Int).toNat, a0.extract ((wrap64 (t104 + (a1.size : Int))) : Int).toNat a0.size, true)) else (none)) else (none)) else (none)) else (none)) else (some (a0, (⟨#[]⟩ : ByteArray), false)))
def strings_Cut.f (a0 : ByteArray) (a1 : ByteArray) : Option (ByteArray × ByteArray × Bool) := (stringslite_Cut.f a0 a1).bind fun bt105 => (some (bt105.1, bt105.2.1, bt105.2.2))
def point_guess.f (a0 : ByteArray) : Option (Int × ByteArray × ByteArray × ByteArray) := (strings_CutSuffix.f a0 (⟨#[100]⟩ : ByteArray)).bind fun bt109 => (if bt109.2 = true then (some (4, bt109.1, (⟨#[]⟩ : ByteArray), (⟨#[]⟩ : ByteArray))) else ((strings_CutSuffix.f a0 (⟨#[99]⟩ : ByteArray)).bind fun bt111 => (if bt111.2 = true then (some (5, bt111.1, (⟨#[]⟩ : ByteArray), (⟨#[]⟩ : ByteArray))) else ((strings_Cut.f a0 (⟨#[115]⟩ : ByteArray)).bind fun bt113 => (if bt113.2.2 = true then (some (2, bt113.1, bt113.2.1, (⟨#[]⟩ : ByteArray))) else ((strings_Cut.f a0 (⟨#[45]⟩ : ByteArray)).bind fun bt116 => (if bt116.2.2 = true then ((strings_Cut.f bt116.2.1 (⟨#[45]⟩ : ByteArray)).bind fun bt119 => (if bt119.2.2 = true then (some (0, bt116.1, bt119.1, bt119.2.1)) else (some (1, bt116.1, bt116.2.1, (⟨#[]⟩ : ByteArray))))) else (some (3, a0, (⟨#[]⟩ : ByteArray), (⟨#[]⟩ : ByteArray))))))))))
def point_Read.f (k : Nat) (a0 : ByteArray) : Option (Int × ByteArray × ByteArray × ByteArray × Bool) := (point_guess.f a0).bind fun bt123 => ((point_Sane.f k bt123.1 bt123.2.1 bt123.2.2.1 bt123.2.2.2).bind fun t128 => (if t128 = true then (some (bt123.1, bt123.2.1, bt123.2.2.1, bt123.2.2.2, true)) else (some (0, (⟨#[]⟩ : ByteArray), (⟨#[]⟩ : ByteArray), (⟨#[]⟩ : ByteArray), false))))
theorem point_Read.mono : ∀ a0 k, LeO (point_Read.f k a0) (point_Read.f (k + 1) a0) := by
  intro a0 k
  unfold point_Read.f
  repeat' first
      | (with_reducible exact point_Sane.mono _ _ _ _ _)
      | (with_reducible exact LeO.refl _)
      | (with_reducible exact LeO.none _)
      | (with_reducible refine LeO.ite ?_ ?_)
      | (with_reducible refine LeO.bind ?_ (fun _ => ?_))
      | exact point_Sane.mono _ _ _ _ _
      | exact LeO.none _
      | refine LeO.ite ?_ ?_
      | refine LeO.bind ?_ (fun _ => ?_)
def slices_Clone.f (l0 : List (S27)) : Option (List (S27)) := if l0.length < 1466015503701 then some l0 else none
def tree_OneOf.f (l0 : List (S27)) : Option (Int × Int × ByteArray × ByteArray × ByteArray × Bool × Bool × (List (S27))) := (slices_Clone.f l0).bind fun t169 => (some (2, 0, (⟨#[]⟩ : ByteArray), (⟨#[]⟩ : ByteArray), (⟨#[]⟩ : ByteArray), false, false, t169))
def lex_word.l0 : Nat → ByteArray → Int → Option (Int)
  | 0, _, _ => none
  | k + 1, x0, x3 => if x3 < (x0.size : Int) then (if 0 ≤ x3 then ((strings_IndexByte.f (⟨#[48, 49, 50, 51, 52, 53, 54, 55, 56, 57, 88, 45, 115, 100, 99]⟩ : ByteArray) (bt x0 x3)).bind fun t267 => (if t267 ≥ 0 then (lex_word.l0 k x0 (wrap64 (x3 + 1))) else (some x3))) else (none)) else (some x3)
def lex_word.f (k : Nat) (a0 : ByteArray) : Option (Int) := lex_word.l0 k a0 0
theorem lex_word.mono_l : ∀ k, (∀ y0 y1, LeO (lex_word.l0 k y0 y1) (lex_word.l0 (k + 1) y0 y1))
  | 0 => fun _ _ r h => by simp [lex_word.l0] at h
  | k + 1 => by
    have ih0 := lex_word.mono_l k
    · intro y0 y1
      unfold lex_word.l0
      repeat' (with_reducible first | apply ih0 | exact LeO.refl _ | exact LeO.none _ | refine LeO.ite ?_ ?_ | refine LeO.bind ?_ fun _ => ?_)
theorem lex_word.mono : ∀ a0 k, LeO (lex_word.f k a0) (lex_word.f (k + 1) a0) := by
  intro a0 k
  have ih0 := lex_word.mono_l k
  unfold lex_word.f
  repeat' (with_reducible first | apply ih0 | exact LeO.refl _ | exact LeO.none _ | refine LeO.ite ?_ ?_ | refine LeO.bind ?_ fun _ => ?_)
def stringslite_HasPrefix.f (a0 : ByteArray) (a1 : ByteArray) : Option (Bool) := if (a0.size : Int) ≥ (a1.size : Int) then (if 0 ≤ (a1.size : Int) then (if (a1.size : Int) ≤ (a0.size : Int) then (some ((a0.extract 0 ((a1.size : Int) : Int).toNat).toList == a1.toList)) else (none)) else (none)) else (some false)
def strings_HasPrefix.f (a0 : ByteArray) (a1 : ByteArray) : Option (Bool) := (stringslite_HasPrefix.f a0 a1).bind fun t268 => (some t268)
def lex_All.l0 : Nat → ByteArray → List (S46) → Int → Option ((List (S46)) × Int × Int)
  | 0, _, _, _ => none
  | k + 1, x0, x6, x7 => if x7 < (x0.size : Int) then (if 0 ≤ x7 then ((lex_signs.f (bt x0 x7)).bind fun bt272 => (if x7 ≤ (x0.size : Int) then ((lex_word.f k (x0.extract (x7 : Int).toNat x0.size)).bind fun t274 => (if t274 > 0 then (if x7 ≤ (wrap64 (x7 + t274)) then (if (wrap64 (x7 + t274)) ≤ (x0.size : Int) then (if x6.length < 4398046511104 then (lex_All.l0 k x0 (x6 ++ [(⟨0, x7, x0.extract (x7 : Int).toNat ((wrap64 (x7 + t274)) : Int).toNat⟩ : S46)]) (wrap64 (x7 + t274))) else (none)) else (none)) else (none)) else (if bt272.2 = true then (if x6.length < 4398046511104 then (lex_All.l0 k x0 (x6 ++ [(⟨bt272.1, x7, (⟨#[]⟩ : ByteArray)⟩ : S46)]) (wrap64 (x7 + 1))) else (none)) else ((strings_HasPrefix.f (x0.extract (x7 : Int).toNat x0.size) (⟨#[46, 46]⟩ : ByteArray)).bind fun t281 => (if t281 = true then (if x6.length < 4398046511104 then (lex_All.l0 k x0 (x6 ++ [(⟨2, x7, (⟨#[]⟩ : ByteArray)⟩ : S46)]) (wrap64 (x7 + 2))) else (none)) else (if (bt x0 x7) = 32 then (lex_All.l0 k x0 x6 (wrap64 (x7 + 1))) else (some (([] : List (S46)), x7, 1)))))))) else (none))) else (none)) else (if x6.length < 4398046511104 then (some ((x6 ++ [(⟨9, (x0.size : Int), (⟨#[]⟩ : ByteArray)⟩ : S46)]), (x0.size : Int), 0)) else (none))
def lex_All.f (k : Nat) (a0 : ByteArray) : Option ((List (S46)) × Int × Int) := if (a0.size : Int) > 2000 then (some (([] : List (S46)), 2000, 7)) else (lex_All.l0 k a0 ([] : List (S46)) 0)
theorem lex_All.mono_l : ∀ k, (∀ y0 y1 y2, LeO (lex_All.l0 k y0 y1 y2) (lex_All.l0 (k + 1) y0 y1 y2))
  | 0 => fun _ _ _ r h => by simp [lex_All.l0] at h
  | k + 1 => by
    have ih0 := lex_All.mono_l k
    · intro y0 y1 y2
      unfold lex_All.l0
      repeat' (with_reducible first | apply ih0 | apply lex_word.mono | exact LeO.refl _ | exact LeO.none _ | refine LeO.ite ?_ ?_ | refine LeO.bind ?_ fun _ => ?_)
theorem lex_All.mono : ∀ a0 k, LeO (lex_All.f k a0) (lex_All.f (k + 1) a0) := by
  intro a0 k
  have ih0 := lex_All.mono_l k
  unfold lex_All.f
  repeat' (with_reducible first | apply ih0 | apply lex_word.mono | exact LeO.refl _ | exact LeO.none _ | refine LeO.ite ?_ ?_ | refine LeO.bind ?_ fun _ => ?_)
abbrev Wr := Option (Int × Int)
structure PR where
  n : S27
  x : Wr
  t : List S46
  m : Int
  d : Int
def pz : S27 := ⟨0, ⟨0, ⟨#[]⟩, ⟨#[]⟩, ⟨#[]⟩⟩, false, false, []⟩
def kz (k : Int) : S27 := ⟨k, ⟨0, ⟨#[]⟩, ⟨#[]⟩, ⟨#[]⟩⟩, false, false, []⟩
def eNot (x : S46) (e : Int) : Int := if x.f0 = 9 then 4 else e
def pMarked : List S46 → S24 → Bool → Bool → Option (S27 × List S46)
  | [], _, _, _ => none
  | x :: t, p, a, b =>
    if x.f0 = 7 then (if a = false then pMarked t p true b else some (⟨0, p, a, b, []⟩, x :: t))
    else if x.f0 = 8 then (if b = false then pMarked t p a true else some (⟨0, p, a, b, []⟩, x :: t))
    else some (⟨0, p, a, b, []⟩, x :: t)
def pWord (k : Nat) (x : S46) (t : List S46) (m d : Int) : Option PR :=
  (point_Read.f k x.f2).bind fun p => if p.2.2.2.2 = true then (pMarked t ⟨p.1, p.2.1, p.2.2.1, p.2.2.2.1⟩ false false).bind fun r => some ⟨r.1, none, r.2, m, d⟩ else some ⟨pz, some (x.f1, eNot x 2), x :: t, m, d⟩
def pEnd (k : Nat) (m d : Int) : List S46 → Option PR
  | [] => none
  | x :: t =>
    if x.f0 = 0 then (if m = 64 then some ⟨pz, some (x.f1, eNot x 6), x :: t, m, d⟩ else pWord k x t (wrap64 (m + 1)) d)
    else if x.f0 = 2 then (if m = 64 then some ⟨pz, some (x.f1, eNot x 6), x :: t, m, d⟩ else some ⟨kz 3, none, t, wrap64 (m + 1), d⟩)
    else if x.f0 = 3 then (if m = 64 then some ⟨pz, some (x.f1, eNot x 6), x :: t, m, d⟩ else some ⟨kz 4, none, t, wrap64 (m + 1), d⟩)
    else some ⟨pz, some (x.f1, eNot x 3), x :: t, m, d⟩
def pSpan (k : Nat) (m d : Int) (t : List S46) : Option PR :=
  (pEnd k m d t).bind fun r => match r.x with
    | some _ => some r
    | none => match r.t with
      | [] => none
      | y :: u =>
        if y.f0 = 1 then (if r.m = 64 then some ⟨r.n, some (y.f1, eNot y 6), y :: u, r.m, r.d⟩ else (pEnd k (wrap64 (r.m + 1)) r.d u).bind fun s => some ⟨⟨1, ⟨0, ⟨#[]⟩, ⟨#[]⟩, ⟨#[]⟩⟩, false, false, [r.n, s.n]⟩, s.x, s.t, s.m, s.d⟩)
        else if r.n.f0 = 0 then some ⟨r.n, none, y :: u, r.m, r.d⟩ else some ⟨r.n, some (y.f1, eNot y 3), y :: u, r.m, r.d⟩
mutual
def pExpr : Nat → Int → Int → List S46 → Option PR
  | 0, _, _, _ => none
  | _ + 1, _, _, [] => none
  | k + 1, m, d, x :: t => if x.f0 = 4 then pList k m d x t else pSpan k m d (x :: t)
def pList : Nat → Int → Int → S46 → List S46 → Option PR
  | 0, _, _, _, _ => none
  | k + 1, m, d, x, t => if d = 8 then some ⟨pz, some (x.f1, eNot x 5), x :: t, m, d⟩ else if m = 64 then some ⟨pz, some (x.f1, eNot x 6), x :: t, m, d⟩ else pItems k (wrap64 (m + 1)) (wrap64 (d + 1)) (x :: t) []
def pItems : Nat → Int → Int → List S46 → List S27 → Option PR
  | 0, _, _, _, _ => none
  | _ + 1, _, _, [], _ => none
  | k + 1, m, d, _ :: t, l => (pExpr k m d t).bind fun r => match r.x with
    | some _ => some r
    | none => if l.length < 1466015503701 then (match r.t with
      | [] => none
      | y :: u =>
        if y.f0 = 6 then pItems k r.m r.d (y :: u) (l ++ [r.n])
        else if y.f0 = 5 then (tree_OneOf.f (l ++ [r.n])).bind fun o => some ⟨⟨o.1, ⟨o.2.1, o.2.2.1, o.2.2.2.1, o.2.2.2.2.1⟩, o.2.2.2.2.2.1, o.2.2.2.2.2.2.1, o.2.2.2.2.2.2.2⟩, none, u, r.m, wrap64 (r.d - 1)⟩
        else some ⟨r.n, some (y.f1, eNot y 3), y :: u, r.m, r.d⟩) else none
end
def parse_Parse.f (k : Nat) (s : ByteArray) : Option (Int × Int × ByteArray × ByteArray × ByteArray × Bool × Bool × List S27 × Int × Int) :=
  (lex_All.f k s).bind fun L => if L.2.2 = 0 then (pExpr k 0 0 L.1).bind fun r => match r.x with
      | some x => some (0, 0, ⟨#[]⟩, ⟨#[]⟩, ⟨#[]⟩, false, false, [], x.1, x.2)
      | none => match r.t with
        | [] => none
        | y :: _ => if y.f0 = 9 then some (r.n.f0, r.n.f1.f0, r.n.f1.f1, r.n.f1.f2, r.n.f1.f3, r.n.f2, r.n.f3, r.n.f4, L.2.1, 0) else some (0, 0, ⟨#[]⟩, ⟨#[]⟩, ⟨#[]⟩, false, false, [], y.f1, 3)
    else some (0, 0, ⟨#[]⟩, ⟨#[]⟩, ⟨#[]⟩, false, false, [], L.2.1, L.2.2)
theorem pWord.mono (k : Nat) (x : S46) (t : List S46) (m d : Int) : LeO (pWord k x t m d) (pWord (k + 1) x t m d) := LeO.bind (point_Read.mono _ _) (fun _ => LeO.refl _)
theorem pEnd.mono (k : Nat) (m d : Int) : ∀ t, LeO (pEnd k m d t) (pEnd (k + 1) m d t)
  | [] => LeO.refl _
  | x :: t => LeO.ite (LeO.ite (LeO.refl _) (pWord.mono _ _ _ _ _)) (LeO.refl _)
theorem pSpan.mono (k : Nat) (m d : Int) (t : List S46) : LeO (pSpan k m d t) (pSpan (k + 1) m d t) := by
  refine LeO.bind (pEnd.mono _ _ _ _) (fun r => ?_)
  obtain ⟨n, x, t, m', d'⟩ := r
  cases x with
  | some _ => exact LeO.refl _
  | none => cases t with
    | nil => exact LeO.refl _
    | cons y u => exact LeO.ite (LeO.ite (LeO.refl _) (LeO.bind (pEnd.mono _ _ _ _) (fun _ => LeO.refl _))) (LeO.refl _)
theorem pExpr.mono_l : ∀ k, (∀ m d t, LeO (pExpr k m d t) (pExpr (k + 1) m d t)) ∧ (∀ m d x t, LeO (pList k m d x t) (pList (k + 1) m d x t)) ∧ (∀ m d t l, LeO (pItems k m d t l) (pItems (k + 1) m d t l))
  | 0 => ⟨fun _ _ _ r h => by simp [pExpr] at h, fun _ _ _ _ r h => by simp [pList] at h, fun _ _ _ _ r h => by simp [pItems] at h⟩
  | k + 1 => by
    obtain ⟨i1, i2, i3⟩ := pExpr.mono_l k
    refine ⟨fun m d t => ?_, fun m d x t => ?_, fun m d t l => ?_⟩
    · cases t with
      | nil => intro r h; simp [pExpr] at h
      | cons x t => rw [pExpr, pExpr]; exact LeO.ite (i2 _ _ _ _) (pSpan.mono _ _ _ _)
    · rw [pList, pList]; exact LeO.ite (LeO.refl _) (LeO.ite (LeO.refl _) (i3 _ _ _ _))
    · cases t with
      | nil => intro r h; simp [pItems] at h
      | cons x t =>
        rw [pItems, pItems]
        refine LeO.bind (i1 _ _ _) (fun r => ?_)
        obtain ⟨n, x, t, m', d'⟩ := r
        cases x with
        | some _ => exact LeO.refl _
        | none => cases t with
          | nil => exact LeO.refl _
          | cons y u => exact LeO.ite (LeO.ite (i3 _ _ _ _) (LeO.refl _)) (LeO.refl _)
theorem pExpr.mono (k : Nat) (m d : Int) (t : List S46) : LeO (pExpr k m d t) (pExpr (k + 1) m d t) := (pExpr.mono_l k).1 m d t
theorem parse_Parse.mono : ∀ a0 k, LeO (parse_Parse.f k a0) (parse_Parse.f (k + 1) a0) := fun _ _ =>
  LeO.bind (lex_All.mono _ _) (fun _ => LeO.ite (LeO.bind (pExpr.mono _ _ _ _) (fun _ => LeO.refl _)) (LeO.refl _))
def lustrumlaw13_awake.f (k : Nat)  : Option (Bool) := (parse_Parse.f k (⟨#[91, 49, 57, 56, 52, 126, 63, 44, 32, 46, 46, 47, 49, 57, 88, 52, 93]⟩ : ByteArray)).bind fun bt101 => ((parse_Parse.f k (⟨#[49, 57, 56, 52, 47, 91]⟩ : ByteArray)).bind fun bt114 => ((parse_Parse.f k (⟨#[91, 49, 57, 56, 52]⟩ : ByteArray)).bind fun bt127 => (if bt101.2.2.2.2.2.2.2.2.2 = 0 then (if bt101.2.2.2.2.2.2.2.2.1 = 17 then ((print_Text.f k bt101.1 bt101.2.1 bt101.2.2.1 bt101.2.2.2.1 bt101.2.2.2.2.1 bt101.2.2.2.2.2.1 bt101.2.2.2.2.2.2.1 bt101.2.2.2.2.2.2.2.1).bind fun t140 => (if t140.toList = ([91, 49, 57, 56, 52, 63, 126, 44, 32, 46, 46, 47, 49, 57, 88, 52, 93] : List UInt8) then (if bt114.2.2.2.2.2.2.2.2.1 = 5 then (if bt114.2.2.2.2.2.2.2.2.2 = 3 then (if bt127.2.2.2.2.2.2.2.2.1 = 5 then (some (bt127.2.2.2.2.2.2.2.2.2 == 4)) else (some false)) else (some false)) else (some false)) else (some false))) else (some false)) else (some false))))
theorem lustrumlaw13_awake.mono : ∀ k, LeO (lustrumlaw13_awake.f k ) (lustrumlaw13_awake.f (k + 1) ) := by
  intro  k
  unfold lustrumlaw13_awake.f
  repeat' first
      | (with_reducible exact parse_Parse.mono _ _)
      | (with_reducible exact print_Text.mono _ _ _ _ _ _ _ _ _)
      | (with_reducible exact LeO.refl _)
      | (with_reducible exact LeO.none _)
      | (with_reducible refine LeO.ite ?_ ?_)
      | (with_reducible refine LeO.bind ?_ (fun _ => ?_))
      | exact parse_Parse.mono _ _
      | exact print_Text.mono _ _ _ _ _ _ _ _ _
      | exact LeO.none _
      | refine LeO.ite ?_ ?_
      | refine LeO.bind ?_ (fun _ => ?_)
def lustrumlaw13_ParseCut.j0 : Nat → Bool → Bool → Int → Int → ByteArray → ByteArray → ByteArray → Bool → Bool → List (S27) → Option (Bool)
  | 0, _, _, _, _, _, _, _, _, _, _ => none
  | k + 1, x3, x17, x161000, x161001, x161002, x161003, x161004, x161005, x161006, x161007 => if x17 = true then (some x3) else ((print_Text.f k x161000 x161001 x161002 x161003 x161004 x161005 x161006 x161007).bind fun t164 => (if 0 ≤ (mx 0 (wrap64 ((t164.size : Int) - 1))) then (if (mx 0 (wrap64 ((t164.size : Int) - 1))) ≤ (t164.size : Int) then ((parse_Parse.f k (t164.extract 0 ((mx 0 (wrap64 ((t164.size : Int) - 1))) : Int).toNat)).bind fun bt165 => (if bt165.2.2.2.2.2.2.2.2.2 = 0 then (if x3 = true then ((tree_Same.f k bt165.1 bt165.2.1 bt165.2.2.1 bt165.2.2.2.1 bt165.2.2.2.2.1 bt165.2.2.2.2.2.1 bt165.2.2.2.2.2.2.1 bt165.2.2.2.2.2.2.2.1 x161000 x161001 x161002 x161003 x161004 x161005 x161006 x161007).bind fun t178 => (if t178 = true then (some false) else (if bt165.2.2.2.2.2.2.2.2.1 = ((t164.extract 0 ((mx 0 (wrap64 ((t164.size : Int) - 1))) : Int).toNat).size : Int) then (some (x161000 != 2)) else (some false)))) else (some false)) else (if x3 = true then (if bt165.2.2.2.2.2.2.2.2.1 ≥ 0 then (if bt165.2.2.2.2.2.2.2.2.1 ≤ ((t164.extract 0 ((mx 0 (wrap64 ((t164.size : Int) - 1))) : Int).toNat).size : Int) then (if x161000 = 2 then (if bt165.2.2.2.2.2.2.2.2.2 = 4 then (some (bt165.2.2.2.2.2.2.2.2.1 == ((t164.extract 0 ((mx 0 (wrap64 ((t164.size : Int) - 1))) : Int).toNat).size : Int))) else (some false)) else (some true)) else (some false)) else (some false)) else (some false)))) else (none)) else (none)))
def lustrumlaw13_ParseCut.f (k : Nat) (a0_0 : Int) (a0_1 : Int) (a0_2 : ByteArray) (a0_3 : ByteArray) (a0_4 : ByteArray) (a0_5 : Bool) (a0_6 : Bool) (l0_7 : List (S27)) : Option (Bool) := (lustrumlaw13_awake.f k).bind fun t161 => ((lustrumref10_Few.f k a0_0 a0_1 a0_2 a0_3 a0_4 a0_5 a0_6 l0_7).bind fun t162 => (if t162 = true then ((tree_Sane.f k a0_0 a0_1 a0_2 a0_3 a0_4 a0_5 a0_6 l0_7).bind fun t163 => (lustrumlaw13_ParseCut.j0 k t161 (!t163) a0_0 a0_1 a0_2 a0_3 a0_4 a0_5 a0_6 l0_7)) else (lustrumlaw13_ParseCut.j0 k t161 true a0_0 a0_1 a0_2 a0_3 a0_4 a0_5 a0_6 l0_7)))
def tree_Between.f (a0_0 : Int) (a0_1 : Int) (a0_2 : ByteArray) (a0_3 : ByteArray) (a0_4 : ByteArray) (a0_5 : Bool) (a0_6 : Bool) (l0_7 : List (S27)) (a1_0 : Int) (a1_1 : Int) (a1_2 : ByteArray) (a1_3 : ByteArray) (a1_4 : ByteArray) (a1_5 : Bool) (a1_6 : Bool) (l1_7 : List (S27)) : Option (Int × Int × ByteArray × ByteArray × ByteArray × Bool × Bool × (List (S27))) := some (1, 0, (⟨#[]⟩ : ByteArray), (⟨#[]⟩ : ByteArray), (⟨#[]⟩ : ByteArray), false, false, (([(⟨a0_0, (⟨a0_1, a0_2, a0_3, a0_4⟩ : S24), a0_5, a0_6, l0_7⟩ : S27), (⟨a1_0, (⟨a1_1, a1_2, a1_3, a1_4⟩ : S24), a1_5, a1_6, l1_7⟩ : S27)] : List (S27))))
theorem smL_len : ∀ (l u : List S27), smL l u = true → l.length = u.length
  | [], [], _ => rfl
  | [], y :: u, h => by rw [smL] at h; · cases h
                        all_goals simp
  | x :: l, [], h => by rw [smL] at h; · cases h
                        all_goals simp
  | x :: l, y :: u, h => by
    rw [smL, Bool.and_eq_true] at h
    rw [List.length_cons, List.length_cons, smL_len l u h.2]
theorem at_rd26' (p q : List S27) (r : S27) (t : List S27) (e : p.length = q.length) : rd_T27 (q ++ r :: t) (p.length : Int) = r := by rw [e, at_rd26]
theorem at_lt' (p q : List S27) (r : S27) (t : List S27) (e : p.length = q.length) : (p.length : Int) < ((q ++ r :: t).length : Int) := by rw [e]; exact at_lt q r t
theorem tSame_f : ∀ (m : Nat) (a b : S27), nd a ≤ m → wfN a → Ev (fun k => tSame k a b) (sm a b)
  | 0, a, _, h, _ => by have := nd_pos a; omega
  | m + 1, a, b, h, hw => by
    have loop : ∀ (t u p q : List S27), ndL t ≤ m → (∀ x, x ∈ t → wfN x) → p.length = q.length → t.length = u.length → (p ++ t).length ≤ 4611686018427387904 → Ev (fun k => slices_EqualFunc.l0 k (q ++ u) (p ++ t) ((p ++ t).length : Int) (p.length : Int)) (smL t u) := fun t => by
      induction t with
      | nil =>
        intro u p q _ _ _ hu _
        cases u with
        | nil => exact Ev.step (f := fun _ => some true) (fun k => by rw [slices_EqualFunc.l0, if_neg (at_end p)]) (Ev.eq (Ev.now _) (by rw [smL]))
        | cons y u => simp at hu
      | cons x t ih =>
        intro u p q hm hx hpq hu hp
        cases u with
        | nil => simp at hu
        | cons y u =>
          rw [ndL] at hm
          rw [smL]
          refine Ev.step (f := fun k => (tSame k x y).bind fun t' => if t' = true then slices_EqualFunc.l0 k (q ++ y :: u) (p ++ x :: t) ((p ++ x :: t).length : Int) ((p ++ [x]).length : Int) else some false) (fun k => by rw [slices_EqualFunc.l0, if_pos (at_lt p x t), if_pos (at_0 p), if_pos (at_lt p x t), if_pos (at_lt' p q y u hpq), at_rd26, at_rd26' p q y u hpq, at_next hp]) ?_
          refine Ev.andb (tSame_f m x y (by omega) (hx x List.mem_cons_self)) ?_
          have := ih u (p ++ [x]) (q ++ [y]) (by have := nd_pos x; omega) (fun z hz => hx z (List.mem_cons_of_mem _ hz)) (by simp [hpq]) (by simpa using hu) (by rw [← at_app]; exact hp)
          rw [← at_app, ← at_app] at this
          exact this
    have hn := nd_eq a
    have hl := hw.len
    refine Ev.step (fun k => by show tree_Same.f (k + 1) _ _ _ _ _ _ _ _ _ _ _ _ _ _ _ _ = _; rw [tree_Same.f_succ]) ?_
    have hE : Ev (fun k => slices_EqualFunc.f k a.f4 b.f4) (smL a.f4 b.f4) := by
      by_cases c : (a.f4.length : Int) = (b.f4.length : Int)
      · have := loop a.f4 b.f4 [] [] (by omega) hw.all rfl (by omega) (by simp; omega)
        exact Ev.ift c this
      · refine Ev.iff_ c (Ev.eq (Ev.now _) ?_)
        cases hs : smL a.f4 b.f4 with
        | false => rfl
        | true => exact absurd (smL_len _ _ hs) (by omega)
    refine Ev.eq (Ev.cond fun _ => Ev.cond fun _ => Ev.cond fun _ => Ev.cond fun _ => Ev.self hE) ?_
    rw [sm_eq, Bool.eq_iff_iff]
    simp [and_assoc]
theorem shj_true (a : S27) : Ev (fun k => lustrumref10_short.j0 k true a.f0 a.f1.f0 a.f1.f1 a.f1.f2 a.f1.f3 a.f2 a.f3 a.f4) false := Ev.step (f := fun _ => some false) (fun k => by rw [lustrumref10_short.j0, if_pos rfl]) (Ev.now _)
theorem rShort_f : ∀ (m : Nat) (n : S27), nd n ≤ m → wfN n → Ev (fun k => rShort k n) (sh n)
  | 0, a, h, _ => by have := nd_pos a; omega
  | m + 1, n, h, hw => by
    have loop : ∀ (t p : List S27), ndL t ≤ m → (∀ x, x ∈ t → wfN x) → (p ++ t).length ≤ 4611686018427387904 → Ev (fun k => lustrumref10_short.l0 k (p.length : Int) n.f0 n.f1.f0 n.f1.f1 n.f1.f2 n.f1.f3 n.f2 n.f3 (p ++ t)) (shL t) := fun t => by
      induction t with
      | nil => exact fun p _ _ _ => Ev.step (f := fun _ => some true) (fun k => by rw [lustrumref10_short.l0, if_neg (at_end p)]) (Ev.eq (Ev.now _) (by rw [shL]))
      | cons x t ih =>
        intro p hm hx hp
        rw [ndL] at hm
        rw [shL]
        refine Ev.step (f := fun k => (rShort k x).bind fun t' => if t' = true then lustrumref10_short.l0 k ((p ++ [x]).length : Int) n.f0 n.f1.f0 n.f1.f1 n.f1.f2 n.f1.f3 n.f2 n.f3 (p ++ x :: t) else some false) (fun k => by rw [lustrumref10_short.l0, if_pos (at_lt p x t), if_pos (at_0 p), at_rd26, at_next hp]) ?_
        refine Ev.andb (rShort_f m x (by omega) (hx x List.mem_cons_self)) ?_
        have := ih (p ++ [x]) (by have := nd_pos x; omega) (fun z hz => hx z (List.mem_cons_of_mem _ hz)) (by rw [← at_app]; exact hp)
        rw [← at_app] at this
        exact this
    have hn := nd_eq n
    have hl := hw.len
    have hL := loop n.f4 [] (by omega) hw.all (by simp; omega)
    refine Ev.step (fun k => by show lustrumref10_short.f (k + 1) _ _ _ _ _ _ _ _ = _; rw [lustrumref10_short.f]) ?_
    have hs := sh_eq n
    by_cases c1 : (n.f1.f1.size : Int) > 10
    · refine Ev.ift c1 (Ev.eq (shj_true n) ?_)
      rw [hs, decide_eq_false (show ¬ n.f1.f1.size ≤ 10 by omega)]; simp
    · refine Ev.iff_ c1 ?_
      by_cases c2 : (n.f1.f2.size : Int) > 10
      · refine Ev.ift c2 (Ev.eq (shj_true n) ?_)
        rw [hs, decide_eq_false (show ¬ n.f1.f2.size ≤ 10 by omega)]; simp
      · refine Ev.iff_ c2 ?_
        by_cases c3 : (n.f1.f3.size : Int) > 10
        · rw [decide_eq_true c3]
          refine Ev.eq (shj_true n) ?_
          rw [hs, decide_eq_false (show ¬ n.f1.f3.size ≤ 10 by omega)]; simp
        · rw [decide_eq_false c3]
          refine Ev.step (f := fun k => lustrumref10_short.l0 k 0 n.f0 n.f1.f0 n.f1.f1 n.f1.f2 n.f1.f3 n.f2 n.f3 n.f4) (fun k => by rw [lustrumref10_short.j0, if_neg (by simp)]) ?_
          refine Ev.eq hL ?_
          rw [hs, decide_eq_true (show n.f1.f1.size ≤ 10 by omega), decide_eq_true (show n.f1.f2.size ≤ 10 by omega), decide_eq_true (show n.f1.f3.size ≤ 10 by omega)]
          simp
theorem rFew_f (n : S27) (hw : wfN n) : ∃ b, Ev (fun k => rFew k n) b ∧ (b = true → sh n = true) := by
  obtain ⟨v, hv⟩ := rCount_some _ n (Nat.le_refl _) hw
  refine ⟨decide (v ≤ 120) && sh n, Ev.bind hv (Ev.cond fun _ => Ev.self (rShort_f _ n (Nat.le_refl _) hw)), fun h => ?_⟩
  rw [Bool.and_eq_true] at h
  exact h.2
theorem tBare_f (n : S27) : tBare n = some (bareV n) := by
  show tree_bare.f _ _ _ _ _ _ _ _ = _
  unfold tree_bare.f bareV emptyV
  cases h : (n.f1.f0 == 0 && (n.f1.f1.toList == ([] : List UInt8) && (n.f1.f2.toList == ([] : List UInt8) && (n.f1.f3.toList == ([] : List UInt8))))) with
  | true =>
    rw [if_pos rfl]
    cases n.f2 <;> cases n.f3 <;> rfl
  | false =>
    rw [if_neg (by simp)]
    simp
theorem tEnd_f (n : S27) : Ev (fun k => tEnd k n) (endV n) := by
  refine Ev.eq (Ev.pick (Ev.cond fun _ => Ev.self (ptSane_f n.f1)) (Ev.pick (Ev.cond fun _ => Ev.bnow (tBare_f n) (Ev.now _)) (Ev.pick (Ev.cond fun _ => Ev.bnow (tBare_f n) (Ev.now _)) (Ev.now false)))) ?_
  unfold endV
  have e : decide ((n.f4.length : Int) = 0) = decide (n.f4 = []) := by rw [Bool.eq_iff_iff]; simp
  rw [e]
  by_cases c0 : n.f0 = 0
  · rw [if_pos c0, if_pos c0]
  · by_cases c3 : n.f0 = 3
    · rw [if_neg c0, if_pos c3, if_neg c0, if_pos (.inl c3)]
    · by_cases c4 : n.f0 = 4
      · rw [if_neg c0, if_neg c3, if_pos c4, if_neg c0, if_pos (.inr c4)]
      · rw [if_neg c0, if_neg c3, if_neg c4, if_neg c0, if_neg (by rintro (h | h) <;> contradiction)]; simp
theorem two_f (E : Nat → S27 → Option Bool) (l : List S27) (hE : ∀ x, x ∈ l → Ev (fun k => E k x) (endV x)) :
    Ev (fun k => if (l.length : Int) = 2 then (if 0 < (l.length : Int) then ((E k (rd_T27 l 0)).bind fun t108 => (if t108 = true then (if 1 < (l.length : Int) then ((E k (rd_T27 l 1)).bind fun t110 => (some t110)) else (none)) else (some false))) else (none)) else (some false)) (two l) := by
  match l, hE with
  | [], _ => exact Ev.iff_ (by simp) (Ev.now _)
  | [x], _ => exact Ev.iff_ (by simp) (Ev.now _)
  | [x, y], hE =>
    refine Ev.ift (by simp) (Ev.ift (by simp) ?_)
    refine Ev.andb (hE x (by simp)) (Ev.ift (by simp) (Ev.self (hE y (by simp))))
  | x :: y :: z :: l, _ => exact Ev.iff_ (by simp; omega) (Ev.now _)
theorem tRight_f : ∀ (m : Nat) (n : S27), nd n ≤ m → wfN n → Ev (fun k => tRight k n) (rt n)
  | 0, a, h, _ => by have := nd_pos a; omega
  | m + 1, n, h, hw => by
    have loop : ∀ (t p : List S27), ndL t ≤ m → (∀ x, x ∈ t → wfN x) → (p ++ t).length ≤ 4611686018427387904 → ∃ v, Ev (fun k => slices_IndexFunc.l0 k (p ++ t) ((p ++ t).length : Int) (p.length : Int)) v ∧ decide (v ≥ 0) = !rtL t := fun t => by
      induction t with
      | nil => exact fun p _ _ _ => ⟨-1, Ev.step (f := fun _ => some (-1)) (fun k => by rw [slices_IndexFunc.l0_succ, if_neg (at_end p)]) (Ev.now _), by rw [rtL]; rfl⟩
      | cons x t ih =>
        intro p hm hx hp
        rw [ndL] at hm
        rw [rtL]
        have hstep : ∀ k, slices_IndexFunc.l0 (k + 1) (p ++ x :: t) ((p ++ x :: t).length : Int) (p.length : Int) = ((tRight k x).bind fun t_ => some (!t_)).bind fun t' => if t' = true then some (p.length : Int) else slices_IndexFunc.l0 k (p ++ x :: t) ((p ++ x :: t).length : Int) ((p ++ [x]).length : Int) := fun k => by
          rw [slices_IndexFunc.l0_succ, if_pos (at_lt p x t), if_pos (at_0 p), if_pos (at_lt p x t), at_rd26, at_next hp]
          rfl
        have hR := tRight_f m x (by omega) (hx x List.mem_cons_self)
        cases hv : rt x with
        | false =>
          rw [hv] at hR
          exact ⟨(p.length : Int), Ev.step hstep (Ev.bind (Ev.bind hR (Ev.now _)) (Ev.ift rfl (Ev.now _))), by simp⟩
        | true =>
          rw [hv] at hR
          obtain ⟨v, h1, h2⟩ := ih (p ++ [x]) (by have := nd_pos x; omega) (fun z hz => hx z (List.mem_cons_of_mem _ hz)) (by rw [← at_app]; exact hp)
          rw [← at_app] at h1
          exact ⟨v, Ev.step hstep (Ev.bind (Ev.bind hR (Ev.now _)) (Ev.iff_ (by simp) h1)), by rw [h2, Bool.true_and]⟩
    have hn := nd_eq n
    have hl := hw.len
    refine Ev.step (f := fun k => tree_rightR.f k n.f0 n.f1.f0 n.f1.f1 n.f1.f2 n.f1.f3 n.f2 n.f3 n.f4) (fun k => by show tree_right.f (k + 1) _ _ _ _ _ _ _ _ = _; rw [tree_right.f_succ]) ?_
    have h2 := two_f (fun k x => tEnd k x) n.f4 (fun x _ => tEnd_f x)
    have hc : Ev (fun k => (slices_ContainsFunc.f k n.f4).bind fun t112 => some (!t112)) (rtL n.f4) := by
      obtain ⟨v, h1, h3⟩ := loop n.f4 [] (by omega) hw.all (by simp; omega)
      refine Ev.bind (Ev.bind (show Ev (fun k => slices_IndexFunc.f k n.f4) v from h1) (Ev.now _)) (Ev.eq (Ev.now _) ?_)
      rw [h3, Bool.not_not]
    refine Ev.eq (Ev.pick (Ev.self (tEnd_f n)) (Ev.pick (Ev.bnow (tBare_f n) (Ev.cond fun _ => h2)) (Ev.pick (Ev.bnow (tBare_f n) (Ev.cond fun _ => Ev.cond fun _ => hc)) (Ev.now false)))) ?_
    rw [rt_eq]
    have e : decide ((n.f4.length : Int) > 0) = decide (n.f4 ≠ []) := by
      rw [Bool.eq_iff_iff]
      simp only [decide_eq_true_eq]
      cases n.f4 <;> simp
    rw [e, Bool.decide_eq_true]
def saneV (n : S27) : Bool := decide (nd n ≤ 64) && (decide (dp n ≤ 8) && rt n)
theorem le_dec (a b : Nat) : decide ((a : Int) ≤ (b : Int)) = decide (a ≤ b) := by rw [Bool.eq_iff_iff]; simp
theorem tSane_f (n : S27) (hw : wfN n) (h : nd n ≤ 4611686018427387904) : Ev (fun k => tSane k n) (saneV n) := by
  refine Ev.eq (Ev.bind (tCount_f n h) (Ev.cond fun _ => Ev.bind (tDeep_f n h) (Ev.cond fun _ => Ev.self (tRight_f _ n (Nat.le_refl _) hw)))) ?_
  unfold saneV
  rw [← le_dec, ← le_dec]; rfl
def eP : S24 := ⟨0, ⟨#[]⟩, ⟨#[]⟩, ⟨#[]⟩⟩
def oN : S27 := ⟨3, eP, false, false, []⟩
def lN (l : List S27) : S27 := ⟨2, eP, false, false, l⟩
theorem wf_leaf (k : Int) (p : S24) (a t : Bool) (h1 : p.f1.size ≤ 140737488351232) (h2 : p.f2.size ≤ 140737488351232) (h3 : p.f3.size ≤ 140737488351232) : wfN ⟨k, p, a, t, []⟩ := .mk _ h1 h2 h3 (by simp) (fun x hx => by cases hx)
theorem wf_oN : wfN oN := wf_leaf _ _ _ _ (by decide) (by decide) (by decide)
theorem emptyV_nil : emptyV ⟨#[]⟩ = true := by unfold emptyV; rw [ByteArray.toList_eq]; rfl
theorem endV_o : endV oN = true := by
  show (true && (true && (emptyV ⟨#[]⟩ && (emptyV ⟨#[]⟩ && emptyV ⟨#[]⟩)) && !false && !false)) = true
  rw [emptyV_nil]; decide
theorem ndL_app : ∀ (l u : List S27), ndL (l ++ u) = ndL l + ndL u
  | [], u => by rw [List.nil_append, ndL, Nat.zero_add]
  | x :: l, u => by rw [List.cons_append, ndL, ndL, ndL_app l u]; omega
theorem dpL_app : ∀ (l u : List S27), dpL (l ++ u) = max (dpL l) (dpL u)
  | [], u => by rw [List.nil_append, dpL]; omega
  | x :: l, u => by rw [List.cons_append, dpL, dpL, dpL_app l u]; omega
def bA (l : List UInt8) : ByteArray := ⟨l.toArray⟩
theorem bA_data (l : List UInt8) : (bA l).data.toList = l := rfl
theorem bA_size (l : List UInt8) : (bA l).size = l.length := by rw [bsize, bA_data]
theorem ba_eq {a b : ByteArray} (h : a.data.toList = b.data.toList) : a = b := by
  cases a; cases b
  simp only at h
  rw [Array.toList_inj] at h
  rw [h]
theorem bA_mk (s : ByteArray) : bA s.data.toList = s := ba_eq rfl
theorem ba_app (a b : ByteArray) : (a ++ b).data.toList = a.data.toList ++ b.data.toList := by rw [ByteArray.data_append, Array.toList_append]
theorem bA_toList (l : List UInt8) : (bA l).toList = l := by rw [ByteArray.toList_eq]; rfl
theorem ba_toList (s : ByteArray) : s.toList = s.data.toList := ByteArray.toList_eq s
theorem empty_size {s : ByteArray} (h : emptyV s = true) : s.size = 0 := by
  unfold emptyV at h
  rw [ba_toList] at h
  rw [bsize, beq_iff_eq.1 h]; rfl
def ptRaw (p : S24) : List UInt8 :=
  if p.f0 = 0 then p.f1.data.toList ++ 45 :: (p.f2.data.toList ++ 45 :: p.f3.data.toList)
  else if p.f0 = 1 then p.f1.data.toList ++ 45 :: p.f2.data.toList
  else if p.f0 = 2 then p.f1.data.toList ++ 115 :: p.f2.data.toList
  else if p.f0 = 4 then p.f1.data.toList ++ [100]
  else if p.f0 = 5 then p.f1.data.toList ++ [99]
  else p.f1.data.toList
def ptTxt (p : S24) : List UInt8 := if ptV p = true then ptRaw p else []
theorem pt_sizes {p : S24} (h : ptV p = true) : p.f1.size ≤ 4 ∧ p.f2.size ≤ 2 ∧ p.f3.size ≤ 2 := by
  unfold ptV at h
  rw [Bool.and_eq_true] at h
  obtain ⟨h1, h2⟩ := h
  have hy : p.f1.size ≤ 4 := by rw [bsize]; exact (sane_all h1).2.2
  refine ⟨hy, ?_⟩
  by_cases c0 : p.f0 = 0
  · rw [if_pos c0] at h2
    simp only [someV, Bool.and_eq_true, decide_eq_true_eq] at h2
    omega
  rw [if_neg c0] at h2
  by_cases c1 : p.f0 = 1
  · rw [if_pos c1] at h2
    simp only [someV, Bool.and_eq_true, decide_eq_true_eq] at h2
    have := empty_size h2.2.2
    omega
  rw [if_neg c1] at h2
  by_cases c2 : p.f0 = 2
  · rw [if_pos c2] at h2
    simp only [someV, Bool.and_eq_true, decide_eq_true_eq] at h2
    have := empty_size h2.2.2
    omega
  rw [if_neg c2] at h2
  have fin : ∀ n : Int, (decide ((p.f1.size : Int) = n) && (emptyV p.f2 && emptyV p.f3)) = true → p.f2.size ≤ 2 ∧ p.f3.size ≤ 2 := fun n h => by
    simp only [Bool.and_eq_true] at h
    have a := empty_size h.2.1
    have b := empty_size h.2.2
    omega
  by_cases c3 : p.f0 = 3
  · rw [if_pos c3] at h2; exact fin _ h2
  rw [if_neg c3] at h2
  by_cases c4 : p.f0 = 4
  · rw [if_pos c4] at h2; exact fin _ h2
  rw [if_neg c4] at h2
  by_cases c5 : p.f0 = 5
  · rw [if_pos c5] at h2; exact fin _ h2
  rw [if_neg c5] at h2
  cases h2
theorem ptTxt_len (p : S24) : (ptTxt p).length ≤ 10 := by
  unfold ptTxt
  split
  · rename_i h
    obtain ⟨h1, h2, h3⟩ := pt_sizes h
    rw [bsize] at h1 h2 h3
    unfold ptRaw
    repeat' split
    all_goals (first | (simp only [List.length_append, List.length_cons, List.length_nil]; omega) | omega)
  · simp
theorem ptText_f (p : S24) : Ev (fun k => point_Text.f k p.f0 p.f1 p.f2 p.f3) (bA (ptTxt p)) := by
  refine Ev.bind (ptSane_f p) ?_
  unfold ptTxt
  cases hv : ptV p with
  | false => exact Ev.iff_ (by simp) (Ev.eq (Ev.now _) rfl)
  | true =>
    obtain ⟨h1, h2, h3⟩ := pt_sizes hv
    have e1 : (⟨#[45]⟩ : ByteArray).size = 1 := rfl
    have e2 : (⟨#[115]⟩ : ByteArray).size = 1 := rfl
    have e3 : (⟨#[]⟩ : ByteArray).size = 0 := rfl
    refine Ev.ift rfl ?_
    rw [if_pos rfl]
    unfold ptRaw
    by_cases c0 : p.f0 = 0
    · refine Ev.ift c0 ?_
      rw [if_pos c0]
      refine Ev.ift (by omega) (Ev.ift (by omega) (Ev.ift (by simp only [ByteArray.size_append]; omega) (Ev.ift (by simp only [ByteArray.size_append]; omega) (Ev.eq (Ev.now _) (ba_eq ?_)))))
      simp only [ba_app, bA_data]; rfl
    refine Ev.iff_ c0 ?_
    rw [if_neg c0]
    by_cases c1 : p.f0 = 1
    · refine Ev.ift c1 ?_
      rw [if_pos c1]
      refine Ev.ift (by omega) (Ev.ift (by simp only [ByteArray.size_append]; omega) (Ev.ift (by simp only [ByteArray.size_append]; omega) (Ev.eq (Ev.now _) (ba_eq ?_))))
      simp only [ba_app, bA_data, List.append_nil]; rfl
    refine Ev.iff_ c1 ?_
    rw [if_neg c1]
    by_cases c2 : p.f0 = 2
    · refine Ev.ift c2 ?_
      rw [if_pos c2]
      refine Ev.ift (by omega) (Ev.ift (by simp only [ByteArray.size_append]; omega) (Ev.eq (Ev.now _) (ba_eq ?_)))
      simp only [ba_app, bA_data]; rfl
    refine Ev.iff_ c2 ?_
    rw [if_neg c2]
    by_cases c4 : p.f0 = 4
    · refine Ev.ift c4 ?_
      rw [if_pos c4]
      exact Ev.ift (by omega) (Ev.eq (Ev.now _) (ba_eq (by simp only [ba_app, bA_data])))
    refine Ev.iff_ c4 ?_
    rw [if_neg c4]
    by_cases c5 : p.f0 = 5
    · refine Ev.ift c5 ?_
      rw [if_pos c5]
      exact Ev.ift (by omega) (Ev.eq (Ev.now _) (ba_eq (by simp only [ba_app, bA_data])))
    refine Ev.iff_ c5 ?_
    rw [if_neg c5]
    exact Ev.ift (by omega) (Ev.eq (Ev.now _) (ba_eq (by simp only [ba_app, bA_data, List.append_nil])))
def span2 : List (List UInt8) → List UInt8
  | x :: y :: _ => x ++ 47 :: y
  | _ => []
def markV (a : Bool) (c : UInt8) : List UInt8 := if a = true then [c] else []
mutual
def tx : S27 → List UInt8
  | ⟨k, p, a, t, l⟩ => if k = 1 then span2 (txL l) else if k = 2 then 91 :: (Lib.join (txL l) [44, 32] ++ [93]) else if k = 3 then [46, 46] else if k = 4 then [42] else ptTxt p ++ (markV a 63 ++ markV t 126)
def txL : List S27 → List (List UInt8)
  | [] => []
  | x :: l => tx x :: txL l
end
theorem tx_eq (n : S27) : tx n = if n.f0 = 1 then span2 (txL n.f4) else if n.f0 = 2 then 91 :: (Lib.join (txL n.f4) [44, 32] ++ [93]) else if n.f0 = 3 then [46, 46] else if n.f0 = 4 then [42] else ptTxt n.f1 ++ (markV n.f2 63 ++ markV n.f3 126) := by cases n; rw [tx]
theorem txL_app : ∀ (l u : List S27), txL (l ++ u) = txL l ++ txL u
  | [], u => by rw [List.nil_append, txL, List.nil_append]
  | x :: l, u => by rw [List.cons_append, txL, txL, txL_app l u, List.cons_append]
theorem txL_len : ∀ l : List S27, (txL l).length = l.length
  | [] => by rw [txL]; rfl
  | x :: l => by rw [txL, List.length_cons, List.length_cons, txL_len l]
theorem markV_len (a : Bool) (c : UInt8) : (markV a c).length ≤ 1 := by unfold markV; split <;> simp
theorem join_len : ∀ xs : List (List UInt8), (Lib.join xs [44, 32]).length ≤ Lib.lens xs + 2 * xs.length
  | [] => by rw [Lib.join_nil]; simp
  | x :: r => by
    rw [Lib.join_cons, List.length_append, Lib.joinTail_length]
    simp only [Lib.lens, List.map_cons, List.sum_cons, List.length_cons, List.length_nil]
    omega
theorem lens_cons (x : List UInt8) (l : List (List UInt8)) : Lib.lens (x :: l) = x.length + Lib.lens l := by simp [Lib.lens]
theorem tx_len : ∀ (m : Nat) (n : S27), nd n ≤ m → (tx n).length + 2 ≤ 31 * nd n
  | 0, n, h => by have := nd_pos n; omega
  | m + 1, n, h => by
    have hl : ∀ l : List S27, ndL l ≤ m → Lib.lens (txL l) + 2 * l.length ≤ 31 * ndL l := fun l => by
      induction l with
      | nil => intro _; rw [txL]; simp [Lib.lens, ndL]
      | cons x t ih =>
        intro hh
        rw [ndL] at hh ⊢
        rw [txL, lens_cons, List.length_cons]
        have h1 := tx_len m x (by omega)
        have h2 := ih (by omega)
        omega
    have hn := nd_eq n
    have hL := hl n.f4 (by omega)
    have hS : (span2 (txL n.f4)).length ≤ Lib.lens (txL n.f4) + 1 := by
      cases txL n.f4 with
      | nil => simp [span2]
      | cons x t =>
        cases t with
        | nil => simp [span2]
        | cons y t => rw [lens_cons, lens_cons]; simp only [span2, List.length_append, List.length_cons]; omega
    have hJ := join_len (txL n.f4)
    rw [txL_len] at hJ
    have hp := ptTxt_len n.f1
    have ha := markV_len n.f2 63
    have ht := markV_len n.f3 126
    rw [tx_eq]
    repeat' split
    all_goals (first | (simp only [List.length_append, List.length_cons, List.length_nil]; omega) | omega)
theorem join_le (l : List S27) : (Lib.join (txL l) [44, 32]).length ≤ 31 * ndL l := by
  have h1 := join_len (txL l)
  rw [txL_len] at h1
  have hl : ∀ l : List S27, Lib.lens (txL l) + 2 * l.length ≤ 31 * ndL l := fun l => by
    induction l with
    | nil => rw [txL]; simp [Lib.lens, ndL]
    | cons x t ih =>
      rw [ndL, txL, lens_cons, List.length_cons]
      have h1 := tx_len _ x (Nat.le_refl _)
      omega
  have := hl l
  omega
theorem Join_f (l : List ByteArray) (sep : ByteArray) (h1 : l.length ≤ 140737488355328) (h2 : (Lib.join (l.map (·.data.toList)) sep.data.toList).length ≤ 140737488355328) : strings_Join.f l sep = some (bA (Lib.join (l.map (·.data.toList)) sep.data.toList)) := by
  unfold strings_Join.f
  rw [if_pos h1, if_pos h2]; rfl
theorem join3_f (a b c : List UInt8) (h : a.length + b.length + c.length ≤ 140737488355328) : print_join.f [bA a, bA b, bA c] = some (bA (a ++ (b ++ c))) := by
  have e : Lib.join (([bA a, bA b, bA c] : List ByteArray).map (·.data.toList)) ((⟨#[]⟩ : ByteArray).data.toList) = a ++ (b ++ c) := by
    simp only [List.map_cons, List.map_nil, bA_data]
    rw [Lib.join_cons]
    simp [Lib.joinTail]
  unfold print_join.f
  rw [Join_f _ _ (by simp) (by rw [e]; simp only [List.length_append]; omega), e]; rfl
theorem mark_f (a : Bool) (c : ByteArray) (u : UInt8) (hc : c = bA [u]) : print_mark.f a c = some (bA (markV a u)) := by
  subst hc
  unfold print_mark.f markV
  cases a <;> rfl
abbrev pText (k : Nat) (n : S27) : Option ByteArray := print_text.f k n.f0 n.f1.f0 n.f1.f1 n.f1.f2 n.f1.f3 n.f2 n.f3 n.f4
abbrev pTx (k : Nat) (n : S27) : Option ByteArray := print_Text.f k n.f0 n.f1.f0 n.f1.f1 n.f1.f2 n.f1.f3 n.f2 n.f3 n.f4
theorem two_inv {l : List S27} (h : two l = true) : ∃ x y, l = [x, y] ∧ endV x = true ∧ endV y = true := by
  match l, h with
  | [x, y], h => rw [two, Bool.and_eq_true] at h; exact ⟨x, y, rfl, h.1, h.2⟩
def rte (n : S27) : Prop := rt n = true ∨ endV n = true
theorem rte_one {n : S27} (h : rte n) (c : n.f0 = 1) : ∃ x y, n.f4 = [x, y] ∧ endV x = true ∧ endV y = true := by
  rcases h with h | h
  · rw [rt_eq, if_neg (by omega), if_pos c, Bool.and_eq_true] at h
    exact two_inv h.2
  · unfold endV at h
    rw [if_neg (by omega), if_neg (by omega)] at h
    simp at h
theorem rte_two {n : S27} (h : rte n) (c : n.f0 = 2) : rtL n.f4 = true := by
  rcases h with h | h
  · rw [rt_eq, if_neg (by omega), if_neg (by omega), if_pos c] at h
    simp only [Bool.and_eq_true] at h
    exact h.2.2
  · unfold endV at h
    rw [if_neg (by omega), if_neg (by omega)] at h
    simp at h
theorem pText_f : ∀ (m : Nat) (n : S27), nd n ≤ m → nd n ≤ 1048576 → rte n → Ev (fun k => pText k n) (bA (tx n))
  | 0, n, h, _, _ => by have := nd_pos n; omega
  | m + 1, n, h, hb, hr => by
    have hn := nd_eq n
    have hl := len_nd n.f4
    rw [tx_eq]
    by_cases c1 : n.f0 = 1
    · rw [if_pos c1]
      obtain ⟨x, y, e, hx, hy⟩ := rte_one hr c1
      have hxy : ndL n.f4 = nd x + nd y := by rw [e, ndL, ndL, ndL]; omega
      have ht : txL n.f4 = [tx x, tx y] := by rw [e, txL, txL, txL]
      have hX := pText_f m x (by omega) (by omega) (.inr hx)
      have hY := pText_f m y (by omega) (by omega) (.inr hy)
      have lx := tx_len _ x (Nat.le_refl _)
      have ly := tx_len _ y (Nat.le_refl _)
      have hj := join3_f (tx x) [47] (tx y) (by simp only [List.length_cons, List.length_nil]; omega)
      rw [ht]
      refine Ev.step (fun k => by show print_text.f (k + 1) _ _ _ _ _ _ _ _ = _; rw [print_text.f, if_pos c1, e]) ?_
      exact Ev.ift (by simp) (Ev.bind hX (Ev.ift (by simp) (Ev.bind hY (Ev.bnow hj (Ev.now _)))))
    rw [if_neg c1]
    by_cases c2 : n.f0 = 2
    · rw [if_pos c2]
      have hL := rte_two hr c2
      have loop : ∀ (t p : List S27), p ++ t = n.f4 → rtL t = true → Ev (fun k => print_text.l0 k ((txL p).map bA) (p ++ t) ((p ++ t).length : Int) (p.length : Int)) (bA (91 :: (Lib.join (txL n.f4) [44, 32] ++ [93]))) := fun t => by
        induction t with
        | nil =>
          intro p he _
          rw [List.append_nil] at he ⊢
          subst he
          have hj := join_le n.f4
          have em : ((txL n.f4).map bA).map (·.data.toList) = txL n.f4 := by rw [List.map_map]; conv => rhs; rw [← List.map_id (txL n.f4)]
                                                                             rfl
          have h1 := Join_f ((txL n.f4).map bA) ⟨#[44, 32]⟩ (by rw [List.length_map, txL_len]; omega) (by rw [em]; show (Lib.join (txL n.f4) [44, 32]).length ≤ _; omega)
          rw [em] at h1
          have h2 := join3_f [91] (Lib.join (txL n.f4) [44, 32]) [93] (by simp only [List.length_cons, List.length_nil]; omega)
          refine Ev.step (fun k => by rw [print_text.l0, if_neg (by omega)]) ?_
          exact Ev.bnow h1 (Ev.bnow h2 (Ev.now _))
        | cons x t ih =>
          intro p he hrt
          rw [rtL, Bool.and_eq_true] at hrt
          have hxl : nd x + ndL p ≤ ndL n.f4 := by rw [← he, ndL_app, ndL]; omega
          have hp : (p ++ x :: t).length ≤ 4611686018427387904 := by rw [he]; omega
          have hlp : p.length ≤ n.f4.length := by rw [← he]; simp
          refine Ev.step (f := fun k => (pText k x).bind fun t' => if ((txL p).map bA).length < 8796093022208 then print_text.l0 k ((txL p).map bA ++ [t']) (p ++ x :: t) ((p ++ x :: t).length : Int) ((p ++ [x]).length : Int) else none) (fun k => by rw [print_text.l0, if_pos (at_lt p x t), if_pos (at_0 p), if_pos (at_lt p x t), at_rd26, at_next hp]) ?_
          refine Ev.bind (pText_f m x (by omega) (by omega) (.inl hrt.1)) (Ev.ift (by rw [List.length_map, txL_len]; omega) ?_)
          have := ih (p ++ [x]) (by rw [← at_app]; exact he) hrt.2
          rw [← at_app, txL_app, List.map_append] at this
          have e1 : (txL [x]).map bA = [bA (tx x)] := by rw [txL, txL]; rfl
          rw [e1] at this
          exact this
      refine Ev.step (f := fun k => print_text.l0 k [] n.f4 (n.f4.length : Int) 0) (fun k => by show print_text.f (k + 1) _ _ _ _ _ _ _ _ = _; rw [print_text.f, if_neg c1, if_pos c2]) ?_
      have := loop n.f4 [] rfl hL
      rw [txL] at this
      exact this
    rw [if_neg c2]
    by_cases c3 : n.f0 = 3
    · rw [if_pos c3]
      exact Ev.step (f := fun _ => some (bA [46, 46])) (fun k => by show print_text.f (k + 1) _ _ _ _ _ _ _ _ = _; rw [print_text.f, if_neg c1, if_neg c2, if_pos c3]; rfl) (Ev.now _)
    rw [if_neg c3]
    by_cases c4 : n.f0 = 4
    · rw [if_pos c4]
      exact Ev.step (f := fun _ => some (bA [42])) (fun k => by show print_text.f (k + 1) _ _ _ _ _ _ _ _ = _; rw [print_text.f, if_neg c1, if_neg c2, if_neg c3, if_pos c4]; rfl) (Ev.now _)
    rw [if_neg c4]
    have hp := ptTxt_len n.f1
    have ha := markV_len n.f2 63
    have ht := markV_len n.f3 126
    refine Ev.step (fun k => by show print_text.f (k + 1) _ _ _ _ _ _ _ _ = _; rw [print_text.f, if_neg c1, if_neg c2, if_neg c3, if_neg c4]) ?_
    exact Ev.bind (ptText_f n.f1) (Ev.bnow (mark_f _ _ 63 rfl) (Ev.bnow (mark_f _ _ 126 rfl) (Ev.bnow (join3_f _ _ _ (by omega)) (Ev.now _))))
def txV (n : S27) : List UInt8 := if saneV n = true then tx n else []
theorem sane_rt {n : S27} (h : saneV n = true) : nd n ≤ 64 ∧ dp n ≤ 8 ∧ rt n = true := by
  unfold saneV at h
  simp only [Bool.and_eq_true, decide_eq_true_eq] at h
  exact h
theorem pTx_f (n : S27) (hw : wfN n) (hb : nd n ≤ 1048576) : Ev (fun k => pTx k n) (bA (txV n)) := by
  refine Ev.bind (tSane_f n hw (by omega)) ?_
  unfold txV
  cases hv : saneV n with
  | false => exact Ev.iff_ (by simp) (Ev.eq (Ev.now _) rfl)
  | true =>
    refine Ev.ift rfl ?_
    rw [if_pos rfl]
    exact Ev.bind (pText_f _ n (Nat.le_refl _) hb (.inl (sane_rt hv).2.2)) (Ev.now _)
def p11 : S27 := ⟨0, ⟨3, ⟨#[49, 57, 56, 52]⟩, ⟨#[]⟩, ⟨#[]⟩⟩, true, true, []⟩
theorem pv_p11 : ptV p11.f1 = true := by
  show (saneL [49, 57, 56, 52] && (true && (emptyV ⟨#[]⟩ && emptyV ⟨#[]⟩))) = true
  rw [emptyV_nil]; decide
theorem wf_p11 : wfN p11 := wf_leaf _ _ _ _ (by decide) (by decide) (by decide)
theorem endV_p11 : endV p11 = true := by show (true && ptV p11.f1) = true; rw [pv_p11]; rfl
theorem bare_e (k : Int) (l : List S27) : bareV ⟨k, eP, false, false, l⟩ = true := by
  show (true && (emptyV ⟨#[]⟩ && (emptyV ⟨#[]⟩ && emptyV ⟨#[]⟩)) && !false && !false) = true
  rw [emptyV_nil]; decide
theorem ptTxt_pos {p : S24} (h : ptV p = true) : 0 < (ptTxt p).length := by
  have hs : p.f1.data.toList ≠ [] := by
    unfold ptV at h
    rw [Bool.and_eq_true] at h
    exact (sane_all h.1).2.1
  have hl := List.length_pos_iff.2 hs
  unfold ptTxt
  rw [if_pos h]
  unfold ptRaw
  repeat' split
  all_goals (first | (simp only [List.length_append, List.length_cons, List.length_nil]; omega) | omega)
theorem tx_pos {n : S27} (h : rt n = true) : 0 < (tx n).length := by
  rw [rt_eq] at h
  rw [tx_eq]
  by_cases c0 : n.f0 = 0
  · rw [if_pos c0] at h
    unfold endV at h
    rw [if_pos c0, Bool.and_eq_true] at h
    have := ptTxt_pos h.2
    rw [if_neg (by omega), if_neg (by omega), if_neg (by omega), if_neg (by omega), List.length_append]
    omega
  rw [if_neg c0] at h
  by_cases c1 : n.f0 = 1
  · rw [if_pos c1, Bool.and_eq_true] at h
    obtain ⟨x, y, e, _, _⟩ := two_inv h.2
    rw [if_pos c1, e, txL, txL, txL]
    simp only [span2, List.length_append, List.length_cons]; omega
  rw [if_neg c1] at h
  by_cases c2 : n.f0 = 2
  · rw [if_neg c1, if_pos c2]; simp
  rw [if_neg c2] at h
  cases h
theorem ndL_mem {x : S27} : ∀ {l : List S27}, x ∈ l → nd x ≤ ndL l
  | [], h => by cases h
  | y :: l, h => by
    rw [ndL]
    rcases List.mem_cons.1 h with rfl | h
    · omega
    · have := ndL_mem h; omega
def isW (c : UInt8) : Bool := okB c || (c == 45 || (c == 115 || (c == 100 || c == 99)))
def noW : List UInt8 → Prop
  | [] => True
  | c :: _ => isW c = false
theorem ok_W {l : List UInt8} (h : l.all okB = true) : l.all isW = true := by
  rw [List.all_eq_true] at h ⊢
  intro x hx
  unfold isW
  rw [h x hx]; rfl
theorem any_sane {l : List UInt8} {m : Nat} {i : Int} (h : anyV l i m = true) : l.all okB = true := by
  obtain ⟨n, _, _, hn⟩ := (anyV_iff l m i).1 h
  cases hs : saneL l with
  | true => exact (sane_all hs).1
  | false => rw [refV_sane hs] at hn; cases hn
theorem pt_kinds {p : S24} (h : ptV p = true) : p.f1.data.toList.all okB = true ∧
    (p.f0 = 0 ∧ p.f1.data.toList.length = 4 ∧ p.f2.data.toList.length = 2 ∧ p.f2.data.toList.all okB = true ∧ p.f3.data.toList.length = 2 ∧ p.f3.data.toList.all okB = true
    ∨ p.f0 = 1 ∧ p.f1.data.toList.length = 4 ∧ p.f2.data.toList.length = 2 ∧ p.f2.data.toList.all okB = true ∧ p.f3.data.toList = []
    ∨ p.f0 = 2 ∧ p.f1.data.toList.length = 4 ∧ p.f2.data.toList.length = 1 ∧ p.f2.data.toList.all okB = true ∧ p.f3.data.toList = []
    ∨ p.f0 = 3 ∧ p.f1.data.toList.length = 4 ∧ p.f2.data.toList = [] ∧ p.f3.data.toList = []
    ∨ p.f0 = 4 ∧ p.f1.data.toList.length = 3 ∧ p.f2.data.toList = [] ∧ p.f3.data.toList = []
    ∨ p.f0 = 5 ∧ p.f1.data.toList.length = 2 ∧ p.f2.data.toList = [] ∧ p.f3.data.toList = []) := by
  have em : ∀ {s : ByteArray}, emptyV s = true → s.data.toList = [] := fun {s} h => by
    unfold emptyV at h
    rw [ba_toList] at h
    exact beq_iff_eq.1 h
  unfold ptV at h
  rw [Bool.and_eq_true] at h
  obtain ⟨h1, h2⟩ := h
  refine ⟨(sane_all h1).1, ?_⟩
  by_cases c0 : p.f0 = 0
  · rw [if_pos c0] at h2
    simp only [someV, Bool.and_eq_true, decide_eq_true_eq, bsize] at h2
    exact .inl ⟨c0, by omega, by omega, any_sane h2.2.1.2, by omega, any_sane h2.2.2.2⟩
  rw [if_neg c0] at h2
  by_cases c1 : p.f0 = 1
  · rw [if_pos c1] at h2
    simp only [someV, Bool.and_eq_true, decide_eq_true_eq, bsize] at h2
    exact .inr (.inl ⟨c1, by omega, by omega, any_sane h2.2.1.2, em h2.2.2⟩)
  rw [if_neg c1] at h2
  by_cases c2 : p.f0 = 2
  · rw [if_pos c2] at h2
    simp only [someV, Bool.and_eq_true, decide_eq_true_eq, bsize] at h2
    exact .inr (.inr (.inl ⟨c2, by omega, by omega, any_sane h2.2.1.2, em h2.2.2⟩))
  rw [if_neg c2] at h2
  by_cases c3 : p.f0 = 3
  · rw [if_pos c3] at h2
    simp only [Bool.and_eq_true, decide_eq_true_eq, bsize] at h2
    exact .inr (.inr (.inr (.inl ⟨c3, by omega, em h2.2.1, em h2.2.2⟩)))
  rw [if_neg c3] at h2
  by_cases c4 : p.f0 = 4
  · rw [if_pos c4] at h2
    simp only [Bool.and_eq_true, decide_eq_true_eq, bsize] at h2
    exact .inr (.inr (.inr (.inr (.inl ⟨c4, by omega, em h2.2.1, em h2.2.2⟩))))
  rw [if_neg c4] at h2
  by_cases c5 : p.f0 = 5
  · rw [if_pos c5] at h2
    simp only [Bool.and_eq_true, decide_eq_true_eq, bsize] at h2
    exact .inr (.inr (.inr (.inr (.inr ⟨c5, by omega, em h2.2.1, em h2.2.2⟩))))
  rw [if_neg c5] at h2
  cases h2
theorem S24.ext4 {a b : S24} (h0 : a.f0 = b.f0) (h1 : a.f1.data.toList = b.f1.data.toList) (h2 : a.f2.data.toList = b.f2.data.toList) (h3 : a.f3.data.toList = b.f3.data.toList) : a = b := by
  cases a; cases b
  simp only at h0 h1 h2 h3
  rw [h0, ba_eq h1, ba_eq h2, ba_eq h3]
theorem raw_W {p : S24} (h : ptV p = true) : (ptRaw p).all isW = true := by
  obtain ⟨h1, hk⟩ := pt_kinds h
  have w1 := ok_W h1
  unfold ptRaw
  rcases hk with ⟨c, _, _, a, _, b⟩ | ⟨c, _, _, a, _⟩ | ⟨c, _, _, a, _⟩ | ⟨c, _⟩ | ⟨c, _⟩ | ⟨c, _⟩ <;> rw [c]
  · have wa := ok_W a
    have wb := ok_W b
    simp only [if_true, List.all_append, List.all_cons, w1, wa, wb]; decide
  · have wa := ok_W a
    simp [List.all_append, List.all_cons, w1, wa]; decide
  · have wa := ok_W a
    simp [List.all_append, List.all_cons, w1, wa]; decide
  · simpa using w1
  · simp [List.all_append, List.all_cons, w1]; decide
  · simp [List.all_append, List.all_cons, w1]; decide
theorem k0 {p : S24} (h : ptV p = true) (c : p.f0 = 0) : p.f1.data.toList.length = 4 ∧ p.f2.data.toList.length = 2 := by
  obtain ⟨_, hk⟩ := pt_kinds h
  rcases hk with ⟨d, a, b, _⟩ | ⟨d, _⟩ | ⟨d, _⟩ | ⟨d, _⟩ | ⟨d, _⟩ | ⟨d, _⟩ <;> first | exact ⟨a, b⟩ | omega
theorem S27.ext5 {a b : S27} (h0 : a.f0 = b.f0) (h1 : a.f1 = b.f1) (h2 : a.f2 = b.f2) (h3 : a.f3 = b.f3) (h4 : a.f4 = b.f4) : a = b := by
  cases a; cases b
  simp only at h0 h1 h2 h3 h4
  rw [h0, h1, h2, h3, h4]
theorem bare_inj {a b : S27} (ha : bareV a = true) (hb : bareV b = true) (h0 : a.f0 = b.f0) (h4 : a.f4 = b.f4) : a = b := by
  unfold bareV at ha hb
  simp only [Bool.and_eq_true, decide_eq_true_eq, Bool.not_eq_true'] at ha hb
  have em : ∀ {s : ByteArray}, emptyV s = true → s.data.toList = [] := fun {s} h => by
    unfold emptyV at h
    rw [ba_toList] at h
    exact beq_iff_eq.1 h
  obtain ⟨⟨⟨a0, a1, a2, a3⟩, a4⟩, a5⟩ := ha
  obtain ⟨⟨⟨b0, b1, b2, b3⟩, b4⟩, b5⟩ := hb
  have e1 : a.f1 = b.f1 := S24.ext4 (by omega) (by rw [em a1, em b1]) (by rw [em a2, em b2]) (by rw [em a3, em b3])
  exact S27.ext5 h0 e1 (by rw [a4, b4]) (by rw [a5, b5]) h4
theorem end_kinds {n : S27} (h : endV n = true) : n.f4 = [] ∧ (n.f0 = 0 ∧ ptV n.f1 = true ∨ n.f0 = 3 ∧ bareV n = true ∨ n.f0 = 4 ∧ bareV n = true) := by
  unfold endV at h
  rw [Bool.and_eq_true, decide_eq_true_eq] at h
  refine ⟨h.1, ?_⟩
  have h2 := h.2
  by_cases c0 : n.f0 = 0
  · rw [if_pos c0] at h2; exact .inl ⟨c0, h2⟩
  rw [if_neg c0] at h2
  by_cases c3 : n.f0 = 3 ∨ n.f0 = 4
  · rw [if_pos c3] at h2
    rcases c3 with c | c
    · exact .inr (.inl ⟨c, h2⟩)
    · exact .inr (.inr ⟨c, h2⟩)
  · rw [if_neg c3] at h2; cases h2
def sep : List UInt8 → Prop
  | [] => True
  | c :: _ => c = 47 ∨ c = 44 ∨ c = 93
theorem rt_kinds {n : S27} (h : rt n = true) : endV n = true ∧ n.f0 = 0 ∨ (n.f0 = 1 ∧ bareV n = true ∧ ∃ x y, n.f4 = [x, y] ∧ endV x = true ∧ endV y = true ∧ tx n = tx x ++ 47 :: tx y) ∨ (n.f0 = 2 ∧ bareV n = true ∧ n.f4 ≠ [] ∧ rtL n.f4 = true ∧ tx n = 91 :: (Lib.join (txL n.f4) [44, 32] ++ [93])) := by
  rw [rt_eq] at h
  by_cases c0 : n.f0 = 0
  · rw [if_pos c0] at h; exact .inl ⟨h, c0⟩
  rw [if_neg c0] at h
  by_cases c1 : n.f0 = 1
  · rw [if_pos c1, Bool.and_eq_true] at h
    obtain ⟨x, y, e, hx, hy⟩ := two_inv h.2
    exact .inr (.inl ⟨c1, h.1, x, y, e, hx, hy, by rw [tx_eq, if_pos c1, e, txL, txL, txL]; rfl⟩)
  rw [if_neg c1] at h
  by_cases c2 : n.f0 = 2
  · rw [if_pos c2] at h
    simp only [Bool.and_eq_true, decide_eq_true_eq] at h
    exact .inr (.inr ⟨c2, h.1, h.2.1, h.2.2, by rw [tx_eq, if_neg c1, if_pos c2]⟩)
  rw [if_neg c2] at h
  cases h
theorem smL_eq (m : Nat) (hm : ∀ a b : S27, nd a ≤ m → sm a b = true → a = b) : ∀ l u : List S27, ndL l ≤ m → smL l u = true → l = u
  | [], [], _, _ => rfl
  | [], y :: u, _, h => by have := smL_len _ _ h; simp at this
  | x :: l, [], _, h => by have := smL_len _ _ h; simp at this
  | x :: l, y :: u, hl, h => by
    rw [ndL] at hl
    rw [smL, Bool.and_eq_true] at h
    rw [hm x y (by omega) h.1, smL_eq m hm l u (by omega) h.2]
theorem sm_eq_of : ∀ (m : Nat) (a b : S27), nd a ≤ m → sm a b = true → a = b
  | 0, a, _, h, _ => by have := nd_pos a; omega
  | m + 1, a, b, hm, h => by
    have hn := nd_eq a
    rw [sm_eq] at h
    simp only [Bool.and_eq_true, decide_eq_true_eq, beq_iff_eq] at h
    obtain ⟨⟨⟨⟨h0, h1, h2, h3, h4⟩, h5⟩, h6⟩, h7⟩ := h
    have h7 := smL_eq m (sm_eq_of m) a.f4 b.f4 (by omega) h7
    have e1 : a.f1 = b.f1 := S24.ext4 h1 (by rw [← ba_toList, ← ba_toList, h2]) (by rw [← ba_toList, ← ba_toList, h3]) (by rw [← ba_toList, ← ba_toList, h4])
    exact S27.ext5 h0 e1 h5 h6 h7
theorem ext_bA (p l r : List UInt8) : (bA (p ++ (l ++ r))).extract p.length (p.length + l.length) = bA l := ba_eq (by
  rw [ByteArray.data_extract, Array.toList_extract, bA_data]
  simp [List.extract]
  rfl)
theorem ext_end (p r : List UInt8) : (bA (p ++ r)).extract p.length (bA (p ++ r)).size = bA r := ba_eq (by
  rw [ByteArray.data_extract, Array.toList_extract, bA_data, bA_size]
  simp [List.extract]
  rfl)
theorem bt_mid (p : List UInt8) (c : UInt8) (r : List UInt8) : bt (bA (p ++ c :: r)) (p.length : Int) = (c.toNat : Int) := by
  rw [bt_list _ _ (by rw [bA_data]; simp)]
  simp [bA_data]
theorem index_mem : ∀ (l : List UInt8) (c : UInt8), (Lib.indexByte l c = -1 ∨ 0 ≤ Lib.indexByte l c) ∧ (0 ≤ Lib.indexByte l c ↔ c ∈ l)
  | [], c => by simp [Lib.indexByte]
  | b :: l, c => by
    obtain ⟨h1, h2⟩ := index_mem l c
    rw [Lib.indexByte]
    by_cases e : b = c
    · subst e; simp
    · have e' : (b == c) = false := by simpa using e
      rw [e', List.mem_cons]
      simp only [Bool.false_eq_true, if_false, beq_iff_eq]
      have e2 : ¬ c = b := fun h => e h.symm
      rcases h1 with h1 | h1
      · rw [if_pos h1]
        have h3 : ¬ c ∈ l := fun hc => by have := h2.2 hc; omega
        exact ⟨.inl rfl, by simp [e2, h3]⟩
      · rw [if_neg (by omega)]
        have h3 : c ∈ l := h2.1 h1
        exact ⟨.inr (by omega), by simp [h3]; omega⟩
def lettersL : List UInt8 := [48, 49, 50, 51, 52, 53, 54, 55, 56, 57, 88, 45, 115, 100, 99]
theorem letters_W (c : UInt8) : c ∈ lettersL ↔ isW c = true := by
  have e : ∀ n : Nat, n < 256 → (UInt8.ofNat n ∈ lettersL ↔ isW (UInt8.ofNat n) = true) := by decide +kernel
  have := e c.toNat c.toNat_lt
  rwa [UInt8.ofNat_toNat] at this
theorem index_W (c : UInt8) : ∃ v, strings_IndexByte.f (⟨#[48, 49, 50, 51, 52, 53, 54, 55, 56, 57, 88, 45, 115, 100, 99]⟩ : ByteArray) (c.toNat : Int) = some v ∧ (v ≥ 0 ↔ isW c = true) := by
  refine ⟨_, rfl, ?_⟩
  have e : ((c.toNat : Int).toNat.toUInt8) = c := u8eq (by simp)
  rw [e]
  have := (index_mem lettersL c).2
  rw [letters_W] at this
  exact this
theorem word_l0 : ∀ (l p : List UInt8), (p ++ l).length ≤ 4611686018427387904 → Ev (fun k => lex_word.l0 k (bA (p ++ l)) (p.length : Int)) (((p.length + (l.takeWhile isW).length : Nat)) : Int)
  | [], p, h => Ev.step (f := fun _ => some ((p.length : Nat) : Int)) (fun k => by rw [lex_word.l0, if_neg (by rw [bA_size]; simp)]) (Ev.eq (Ev.now _) (by simp))
  | c :: l, p, h => by
    obtain ⟨v, hv, hw⟩ := index_W c
    have hlt : (p.length : Int) < ((bA (p ++ c :: l)).size : Int) := by rw [bA_size, List.length_append, List.length_cons]; omega
    refine Ev.step (f := fun k => if v ≥ 0 then lex_word.l0 k (bA (p ++ c :: l)) ((p ++ [c]).length : Int) else some (p.length : Int)) (fun k => by rw [lex_word.l0, if_pos hlt, if_pos (by omega), bt_mid, hv, Option.bind_some, at_next h]) ?_
    by_cases hc : isW c = true
    · refine Ev.ift (hw.2 hc) ?_
      have := word_l0 l (p ++ [c]) (by rw [← at_app]; exact h)
      rw [← at_app] at this
      refine Ev.eq this ?_
      rw [List.takeWhile_cons, if_pos hc, List.length_append, List.length_cons, List.length_cons, List.length_nil]
      omega
    · refine Ev.iff_ (fun h => hc (hw.1 h)) (Ev.eq (Ev.now _) ?_)
      rw [List.takeWhile_cons, if_neg hc]; simp
theorem word_f (l : List UInt8) (h : l.length ≤ 4611686018427387904) : Ev (fun k => lex_word.f k (bA l)) ((l.takeWhile isW).length : Int) := by
  have := word_l0 l [] (by simpa using h)
  rw [List.nil_append] at this
  exact Ev.eq this (by simp)
theorem prefix_f (l u : List UInt8) : strings_HasPrefix.f (bA l) (bA u) = some (u.isPrefixOf l) := by
  unfold strings_HasPrefix.f stringslite_HasPrefix.f
  rw [bA_size, bA_size]
  by_cases c : u.length ≤ l.length
  · rw [if_pos (by omega), if_pos (by omega), if_pos (by omega)]
    simp only [Option.bind_some, Option.some.injEq]
    rw [ba_toList, ByteArray.data_extract, Array.toList_extract, bA_data, bA_toList]
    simp only [Int.toNat_natCast, List.extract, Nat.sub_zero, List.drop_zero]
    rw [Bool.eq_iff_iff, beq_iff_eq, List.isPrefixOf_iff_prefix, List.prefix_iff_eq_take]
    exact ⟨fun h => h.symm, fun h => h.symm⟩
  · rw [if_neg (by omega)]
    simp only [Option.bind_some, Option.some.injEq]
    symm
    rw [Bool.eq_false_iff]
    intro h
    have := (List.isPrefixOf_iff_prefix.1 h).length_le
    omega
inductive It where
  | w (l : List UInt8)
  | s (k : Int) (c : UInt8)
  | d
  | b
def It.tx : It → List UInt8
  | .w l => l
  | .s _ c => [c]
  | .d => [46, 46]
  | .b => [32]
def flatT : List It → List UInt8
  | [] => []
  | i :: r => i.tx ++ flatT r
theorem flatT_app : ∀ l u : List It, flatT (l ++ u) = flatT l ++ flatT u
  | [], u => rfl
  | i :: l, u => by rw [List.cons_append, flatT, flatT, flatT_app l u, List.append_assoc]
def stopI : List It → Prop
  | .w _ :: _ => False
  | .b :: _ => False
  | _ => True
def okI : List It → Prop
  | [] => True
  | .w l :: r => l ≠ [] ∧ l.all isW = true ∧ stopI r ∧ okI r
  | .s k c :: r => signK (c.toNat : Int) = k ∧ signB (c.toNat : Int) = true ∧ okI r
  | .d :: r => okI r
  | .b :: r => okI r
theorem sign_noW {c : UInt8} (h : signB (c.toNat : Int) = true) : isW c = false := by
  have e : ∀ n : Nat, n < 256 → signB ((UInt8.ofNat n).toNat : Int) = true → isW (UInt8.ofNat n) = false := by decide +kernel
  have := e c.toNat c.toNat_lt
  rw [UInt8.ofNat_toNat] at this
  exact this h
theorem stop_noW : ∀ {r : List It}, stopI r → okI r → noW (flatT r)
  | [], _, _ => trivial
  | .w _ :: _, h, _ => h.elim
  | .b :: _, h, _ => h.elim
  | .s k c :: r, _, h => sign_noW h.2.1
  | .d :: r, _, _ => by show isW 46 = false; decide
theorem take_W : ∀ (l r : List UInt8), l.all isW = true → noW r → (l ++ r).takeWhile isW = l
  | [], [], _, _ => rfl
  | [], c :: r, _, h => by rw [List.nil_append, List.takeWhile_cons]; simp only [noW] at h; rw [h]; rfl
  | c :: l, r, hl, h => by
    rw [List.all_cons, Bool.and_eq_true] at hl
    rw [List.cons_append, List.takeWhile_cons, if_pos hl.1, take_W l r hl.2 h]
def e0 : ByteArray := ⟨#[]⟩
def It.tok (p : Nat) : It → List S46
  | .w l => [⟨0, (p : Int), bA l⟩]
  | .s k _ => [⟨k, (p : Int), e0⟩]
  | .d => [⟨2, (p : Int), e0⟩]
  | .b => []
def toks : Nat → List It → List S46
  | _, [] => []
  | p, i :: r => i.tok p ++ toks (p + i.tx.length) r
theorem toks_app : ∀ (p : Nat) (l u : List It), toks p (l ++ u) = toks p l ++ toks (p + (flatT l).length) u
  | p, [], u => by simp [toks, flatT]
  | p, i :: l, u => by rw [List.cons_append, toks, toks, flatT, toks_app, List.append_assoc, List.length_append, Nat.add_assoc]
def endT (n : Nat) : S46 := ⟨9, (n : Int), e0⟩
theorem lex_l0 : ∀ (its : List It) (p : List UInt8) (acc : List S46), okI its → (p ++ flatT its).length ≤ 1000000 → acc.length ≤ p.length →
    Ev (fun k => lex_All.l0 k (bA (p ++ flatT its)) acc (p.length : Int)) (acc ++ toks p.length its ++ [endT (p ++ flatT its).length], ((p ++ flatT its).length : Int), 0)
  | [], p, acc, _, hn, ha => by
    refine Ev.step (f := fun _ => some (acc ++ toks p.length [] ++ [endT (p ++ flatT []).length], ((p ++ flatT []).length : Int), 0)) (fun k => ?_) (Ev.now _)
    rw [lex_All.l0, bA_size, if_neg (by simp [flatT]), if_pos (by simp [flatT] at hn; omega)]
    simp only [toks, List.append_nil]
    rfl
  | i :: r, p, acc, hok, hn, ha => by
    rw [flatT] at hn ⊢
    rw [toks]
    have hlen : p.length + i.tx.length + (flatT r).length ≤ 1000000 := by simp only [List.length_append] at hn; omega
    have hhead : ∃ c l, i.tx ++ flatT r = c :: l := by
      cases i with
      | w l => obtain ⟨h1, _⟩ := hok; cases l with
        | nil => exact absurd rfl h1
        | cons c l => exact ⟨c, _, rfl⟩
      | s k c => exact ⟨c, _, rfl⟩
      | d => exact ⟨46, _, rfl⟩
      | b => exact ⟨32, _, rfl⟩
    obtain ⟨c, l, hcl⟩ := hhead
    have hbt : bt (bA (p ++ (i.tx ++ flatT r))) (p.length : Int) = (c.toNat : Int) := by rw [hcl, bt_mid]
    have hsz : ((bA (p ++ (i.tx ++ flatT r))).size : Int) = ((p ++ (i.tx ++ flatT r)).length : Nat) := by rw [bA_size]
    have hlt : (p.length : Int) < ((bA (p ++ (i.tx ++ flatT r))).size : Int) := by rw [hsz, hcl, List.length_append, List.length_cons]; omega
    have hext : (bA (p ++ (i.tx ++ flatT r))).extract ((p.length : Int)).toNat (bA (p ++ (i.tx ++ flatT r))).size = bA (i.tx ++ flatT r) := by rw [Int.toNat_natCast]; exact ext_end p _
    have next : ∀ (its' : List It) (acc' : List S46), okI r → acc'.length ≤ p.length + i.tx.length → Ev (fun k => lex_All.l0 k (bA (p ++ (i.tx ++ flatT r))) acc' ((p.length : Int) + (i.tx.length : Int))) (acc' ++ toks (p.length + i.tx.length) r ++ [endT (p ++ (i.tx ++ flatT r)).length], ((p ++ (i.tx ++ flatT r)).length : Int), 0) := fun _ acc' hr ha' => by
      have := lex_l0 r (p ++ i.tx) acc' hr (by simp only [List.length_append]; omega) (by rw [List.length_append]; exact ha')
      have e3 : ((p ++ i.tx).length : Int) = (p.length : Int) + (i.tx.length : Int) := by rw [List.length_append]; omega
      rw [e3, List.append_assoc p, List.length_append] at this
      exact this
    have hstep : ∀ k, lex_All.l0 (k + 1) (bA (p ++ (i.tx ++ flatT r))) acc (p.length : Int) = (lex_word.f k (bA (i.tx ++ flatT r))).bind fun t274 => (if t274 > 0 then (if (p.length : Int) ≤ (wrap64 ((p.length : Int) + t274)) then (if (wrap64 ((p.length : Int) + t274)) ≤ ((bA (p ++ (i.tx ++ flatT r))).size : Int) then (if acc.length < 4398046511104 then (lex_All.l0 k (bA (p ++ (i.tx ++ flatT r))) (acc ++ [(⟨0, (p.length : Int), (bA (p ++ (i.tx ++ flatT r))).extract ((p.length : Int)).toNat ((wrap64 ((p.length : Int) + t274)) : Int).toNat⟩ : S46)]) (wrap64 ((p.length : Int) + t274))) else (none)) else (none)) else (none)) else (if signB (c.toNat : Int) = true then (if acc.length < 4398046511104 then (lex_All.l0 k (bA (p ++ (i.tx ++ flatT r))) (acc ++ [(⟨signK (c.toNat : Int), (p.length : Int), (⟨#[]⟩ : ByteArray)⟩ : S46)]) (wrap64 ((p.length : Int) + 1))) else (none)) else (if ([46, 46] : List UInt8).isPrefixOf (i.tx ++ flatT r) = true then (if acc.length < 4398046511104 then (lex_All.l0 k (bA (p ++ (i.tx ++ flatT r))) (acc ++ [(⟨2, (p.length : Int), (⟨#[]⟩ : ByteArray)⟩ : S46)]) (wrap64 ((p.length : Int) + 2))) else (none)) else (if (c.toNat : Int) = 32 then (lex_All.l0 k (bA (p ++ (i.tx ++ flatT r))) acc (wrap64 ((p.length : Int) + 1))) else (some (([] : List S46), (p.length : Int), 1)))))) := fun k => by
      have hp := prefix_f (i.tx ++ flatT r) [46, 46]
      rw [lex_All.l0, if_pos hlt, if_pos (by omega), hbt, hext]
      simp only [lex_signs.f, Option.bind_some]
      rw [if_pos (by omega)]
      have e1 : (⟨#[46, 46]⟩ : ByteArray) = bA [46, 46] := rfl
      rw [e1, hp]
      rfl
    have W : ∀ n : Nat, n ≤ 1000000 → wrap64 ((p.length : Int) + (n : Int)) = (p.length : Int) + (n : Int) := fun n h => w64 (by omega) (by omega)
    have w1 := W 1 (by omega)
    have w2 := W 2 (by omega)
    have n1 := Aside0.mk w1
    have n2 := Aside0.mk w2
    clear w1 w2
    have hword := word_f (i.tx ++ flatT r) (by rw [List.length_append]; omega)
    refine Ev.step hstep (Ev.bind hword ?_)
    cases i with
    | w u =>
      obtain ⟨h1, h2, h3, h4⟩ := hok
      have hu := List.length_pos_iff.2 h1
      have e1 : ((It.w u).tx ++ flatT r).takeWhile isW = u := take_W u _ h2 (stop_noW h3 h4)
      rw [e1]
      rw [W u.length (by simp only [It.tx] at hlen; omega)]
      refine Ev.ift (by omega) (Ev.ift (by omega) (Ev.ift (by rw [bA_size]; simp only [It.tx, List.length_append]; omega) (Ev.ift (by simp only [It.tx] at hlen; omega) ?_)))
      have e2 : (bA (p ++ ((It.w u).tx ++ flatT r))).extract ((p.length : Int)).toNat ((p.length : Int) + (u.length : Int)).toNat = bA u := by
        have : ((p.length : Int) + (u.length : Int)).toNat = p.length + u.length := by omega
        rw [Int.toNat_natCast, this]
        exact ext_bA p u _
      rw [e2]
      have := next [] (acc ++ [⟨0, (p.length : Int), bA u⟩]) h4 (by simp only [It.tx, List.length_append, List.length_cons, List.length_nil]; omega)
      simp only [List.append_assoc] at this ⊢
      exact this
    | s k d =>
      obtain ⟨h1, h2, h3⟩ := hok
      injection hcl with hc _
      subst hc
      have e1 : ((It.s k d).tx ++ flatT r).takeWhile isW = [] := take_W [] _ rfl (sign_noW h2)
      rw [e1]
      refine Ev.iff_ (by simp) (Ev.ift h2 (Ev.ift (by omega) ?_))
      rw [h1]
      rw [show wrap64 ((p.length : Int) + 1) = (p.length : Int) + 1 from n1.out]
      have := next [] (acc ++ [⟨k, (p.length : Int), e0⟩]) h3 (by simp only [It.tx, List.length_append, List.length_cons, List.length_nil]; omega)
      simp only [List.append_assoc] at this ⊢
      exact this
    | d =>
      injection hcl with hc _
      subst hc
      have e1 : (It.d.tx ++ flatT r).takeWhile isW = [] := take_W [] _ rfl (show isW 46 = false by decide)
      rw [e1]
      refine Ev.iff_ (by simp) (Ev.iff_ (by decide) (Ev.ift (by simp [It.tx, List.isPrefixOf]) (Ev.ift (by omega) ?_)))
      rw [show wrap64 ((p.length : Int) + 2) = (p.length : Int) + 2 from n2.out]
      have := next [] (acc ++ [⟨2, (p.length : Int), e0⟩]) hok (by simp only [It.tx, List.length_append, List.length_cons, List.length_nil]; omega)
      simp only [List.append_assoc] at this ⊢
      exact this
    | b =>
      injection hcl with hc _
      subst hc
      have e1 : (It.b.tx ++ flatT r).takeWhile isW = [] := take_W [] _ rfl (show isW 32 = false by decide)
      rw [e1]
      refine Ev.iff_ (by simp) (Ev.iff_ (by decide) (Ev.iff_ (by simp [It.tx, List.isPrefixOf]) (Ev.ift (by decide) ?_)))
      rw [show wrap64 ((p.length : Int) + 1) = (p.length : Int) + 1 from n1.out]
      have := next [] acc hok (by simp only [It.tx, List.length_cons, List.length_nil]; omega)
      exact this
theorem lex_f (its : List It) (h : okI its) (hn : (flatT its).length ≤ 2000) : Ev (fun k => lex_All.f k (bA (flatT its))) (toks 0 its ++ [endT (flatT its).length], ((flatT its).length : Int), 0) := by
  refine Ev.iff_ (by rw [bA_size]; omega) ?_
  have := lex_l0 its [] [] h (by simpa using Nat.le_trans hn (by omega)) (Nat.le_refl _)
  simpa using this
def spanI : List (List It) → List It
  | x :: y :: _ => x ++ .s 1 47 :: y
  | _ => []
def markI (a : Bool) (k : Int) (c : UInt8) : List It := if a = true then [.s k c] else []
def joinI : List (List It) → List It
  | [] => []
  | [x] => x
  | x :: y :: r => x ++ .s 6 44 :: .b :: joinI (y :: r)
mutual
def it : S27 → List It
  | ⟨k, p, a, t, l⟩ => if k = 1 then spanI (itL l) else if k = 2 then .s 4 91 :: (joinI (itL l) ++ [.s 5 93]) else if k = 3 then [.d] else if k = 4 then [.s 3 42] else .w (ptTxt p) :: (markI a 7 63 ++ markI t 8 126)
def itL : List S27 → List (List It)
  | [] => []
  | x :: l => it x :: itL l
end
theorem it_eq (n : S27) : it n = if n.f0 = 1 then spanI (itL n.f4) else if n.f0 = 2 then .s 4 91 :: (joinI (itL n.f4) ++ [.s 5 93]) else if n.f0 = 3 then [.d] else if n.f0 = 4 then [.s 3 42] else .w (ptTxt n.f1) :: (markI n.f2 7 63 ++ markI n.f3 8 126) := by cases n; rw [it]
theorem flat_mark (a : Bool) (k : Int) (c : UInt8) : flatT (markI a k c) = markV a c := by
  unfold markI markV
  cases a <;> rfl
theorem flat_join : ∀ xs : List (List It), flatT (joinI xs) = Lib.join (xs.map flatT) [44, 32]
  | [] => rfl
  | [x] => by rw [joinI, List.map_cons, List.map_nil, Lib.join_one]
  | x :: y :: r => by
    have h : flatT (It.s 6 44 :: It.b :: joinI (y :: r)) = 44 :: 32 :: flatT (joinI (y :: r)) := rfl
    rw [joinI, flatT_app, h, flat_join (y :: r), List.map_cons, List.map_cons, Lib.join_cons, Lib.join_cons]
    simp [Lib.joinTail]
theorem flat_it : ∀ (m : Nat) (n : S27), nd n ≤ m → flatT (it n) = tx n
  | 0, n, h => by have := nd_pos n; omega
  | m + 1, n, h => by
    have hl : ∀ l : List S27, ndL l ≤ m → (itL l).map flatT = txL l := fun l => by
      induction l with
      | nil => intro _; rw [itL, txL]; rfl
      | cons x t ih =>
        intro hh
        rw [ndL] at hh
        rw [itL, txL, List.map_cons, flat_it m x (by omega), ih (by omega)]
    have hn := nd_eq n
    have hL := hl n.f4 (by omega)
    rw [it_eq, tx_eq]
    by_cases c1 : n.f0 = 1
    · rw [if_pos c1, if_pos c1, ← hL]
      cases itL n.f4 with
      | nil => rfl
      | cons x r => cases r with
        | nil => rfl
        | cons y r =>
          show flatT (x ++ It.s 1 47 :: y) = flatT x ++ 47 :: flatT y
          rw [flatT_app]; rfl
    rw [if_neg c1, if_neg c1]
    by_cases c2 : n.f0 = 2
    · rw [if_pos c2, if_pos c2, ← hL, ← flat_join]
      show 91 :: flatT (joinI (itL n.f4) ++ [It.s 5 93]) = _
      rw [flatT_app]; rfl
    rw [if_neg c2, if_neg c2]
    by_cases c3 : n.f0 = 3
    · rw [if_pos c3, if_pos c3]; rfl
    rw [if_neg c3, if_neg c3]
    by_cases c4 : n.f0 = 4
    · rw [if_pos c4, if_pos c4]; rfl
    rw [if_neg c4, if_neg c4]
    show ptTxt n.f1 ++ flatT (markI n.f2 7 63 ++ markI n.f3 8 126) = _
    rw [flatT_app, flat_mark, flat_mark]
theorem flat_n (n : S27) : flatT (it n) = tx n := flat_it _ n (Nat.le_refl _)
theorem mark_ok (a t : Bool) {r : List It} (hs : stopI r) (hr : okI r) : okI (markI a 7 63 ++ markI t 8 126 ++ r) ∧ stopI (markI a 7 63 ++ markI t 8 126 ++ r) := by
  cases a <;> cases t
  · exact ⟨hr, hs⟩
  · exact ⟨⟨by decide, by decide, hr⟩, trivial⟩
  · exact ⟨⟨by decide, by decide, hr⟩, trivial⟩
  · exact ⟨⟨by decide, by decide, by decide, by decide, hr⟩, trivial⟩
theorem end_ok {n : S27} (h : endV n = true) {r : List It} (hs : stopI r) (hr : okI r) : okI (it n ++ r) := by
  obtain ⟨_, k⟩ := end_kinds h
  rw [it_eq]
  rcases k with ⟨c, hp⟩ | ⟨c, _⟩ | ⟨c, _⟩
  · rw [if_neg (by omega), if_neg (by omega), if_neg (by omega), if_neg (by omega), List.cons_append]
    obtain ⟨m1, m2⟩ := mark_ok n.f2 n.f3 hs hr
    refine ⟨?_, ?_, m2, m1⟩
    · have := ptTxt_pos hp
      intro e; rw [e] at this; simp at this
    · have := raw_W hp
      unfold ptTxt
      rw [if_pos hp]; exact this
  · rw [if_neg (by omega), if_neg (by omega), if_pos c]; exact hr
  · rw [if_neg (by omega), if_neg (by omega), if_neg (by omega), if_pos c]; exact ⟨by decide, by decide, hr⟩
theorem it_ok : ∀ (m : Nat) (n : S27) (r : List It), nd n ≤ m → rt n = true → stopI r → okI r → okI (it n ++ r)
  | 0, n, _, h, _, _, _ => by have := nd_pos n; omega
  | m + 1, n, r, hm, hn, hs, hr => by
    have lists : ∀ (l : List S27) (r : List It), ndL l ≤ m → rtL l = true → stopI r → okI r → okI (joinI (itL l) ++ r) := fun l => by
      induction l with
      | nil => intro r _ _ _ hr; rw [itL]; exact hr
      | cons x t ih =>
        intro r hm hl hs hr
        rw [ndL] at hm
        rw [rtL, Bool.and_eq_true] at hl
        rw [itL]
        cases t with
        | nil => rw [itL]; exact it_ok m x r (by omega) hl.1 hs hr
        | cons y t =>
          have := ih r (by omega) hl.2 hs hr
          rw [itL] at this ⊢
          rw [joinI, List.append_assoc]
          exact it_ok m x _ (by omega) hl.1 trivial ⟨by decide, by decide, this⟩
    have hN := nd_eq n
    rcases rt_kinds hn with ⟨he, _⟩ | ⟨c, _, x, y, e, hx, hy, _⟩ | ⟨c, _, _, hL, _⟩
    · exact end_ok he hs hr
    · rw [it_eq, if_pos c, e, itL, itL, itL]
      show okI ((it x ++ It.s 1 47 :: it y) ++ r)
      rw [List.append_assoc]
      exact end_ok hx trivial ⟨by decide, by decide, end_ok hy hs hr⟩
    · rw [it_eq, if_neg (by omega), if_pos c, List.cons_append, List.append_assoc]
      exact ⟨by decide, by decide, lists n.f4 _ (by omega) hL trivial ⟨by decide, by decide, hr⟩⟩
def sgn (k : Int) : List UInt8 := if k = 1 then [47] else if k = 3 then [42] else if k = 4 then [91] else if k = 5 then [93] else if k = 6 then [44] else if k = 7 then [63] else if k = 8 then [126] else []
def lastW (p : List S46) : Bool := match p.getLast? with
  | some t => decide (t.f0 = 0)
  | none => false
def nob (l : List UInt8) : List UInt8 := l.filter fun c => c != 32
theorem nob_app (l u : List UInt8) : nob (l ++ u) = nob l ++ nob u := List.filter_append ..
theorem nob_W {l : List UInt8} (h : l.all isW = true) : nob l = l := by
  unfold nob
  rw [List.filter_eq_self]
  intro c hc
  have := List.all_eq_true.1 h c hc
  have e : c ≠ 32 := fun e => by subst e; revert this; decide
  simpa using e
theorem sign_is {c : UInt8} (h : signB (c.toNat : Int) = true) : c ≠ 32 ∧ sgn (signK (c.toNat : Int)) = [c] ∧ signK (c.toNat : Int) ≠ 0 ∧ signK (c.toNat : Int) ≠ 2 := by
  have e : ∀ n : Nat, n < 256 → signB ((UInt8.ofNat n).toNat : Int) = true → UInt8.ofNat n ≠ 32 ∧ sgn (signK ((UInt8.ofNat n).toNat : Int)) = [UInt8.ofNat n] ∧ signK ((UInt8.ofNat n).toNat : Int) ≠ 0 ∧ signK ((UInt8.ofNat n).toNat : Int) ≠ 2 := by decide +kernel
  have := e c.toNat c.toNat_lt
  rw [UInt8.ofNat_toNat] at this
  exact this h
theorem index_no : ∀ (l : List UInt8) (c : UInt8), c ∉ l → Lib.indexByte l c = -1
  | [], c, _ => by simp [Lib.indexByte]
  | b :: l, c, h => by
    rw [List.mem_cons, not_or] at h
    have e : (b == c) = false := by simpa using Ne.symm h.1
    rw [Lib.indexByte, e, index_no l c h.2]; rfl
theorem index_yes : ∀ (a b : List UInt8) (c : UInt8), c ∉ a → Lib.indexByte (a ++ c :: b) c = (a.length : Int)
  | [], b, c, _ => by simp [Lib.indexByte]
  | x :: a, b, c, h => by
    rw [List.mem_cons, not_or] at h
    have e : (x == c) = false := by simpa using Ne.symm h.1
    rw [List.cons_append, Lib.indexByte, e, index_yes a b c h.2]
    simp only [Bool.false_eq_true, if_false, List.length_cons, beq_iff_eq]
    rw [if_neg (by omega)]; omega
theorem sep_f (s : ByteArray) (c : UInt8) : stringslite_Index.f s (bA [c]) = some (Lib.indexByte s.data.toList c) := by
  have e : (bt (bA [c]) 0).toNat.toUInt8 = c := by
    have h : bt (bA [c]) 0 = (c.toNat : Int) := bt_mid [] c []
    rw [h]; exact u8eq (by simp)
  unfold stringslite_Index.f
  rw [if_pos (show (bA [c]).size = 1 from bA_size [c]), e]
theorem ext_to (a b : List UInt8) : (bA (a ++ b)).extract 0 a.length = bA a := by have := ext_bA [] a b; simpa using this
theorem Cut_no (l : List UInt8) (c : UInt8) (h : c ∉ l) : strings_Cut.f (bA l) (bA [c]) = some (bA l, e0, false) := by
  have e : stringslite_Cut.f (bA l) (bA [c]) = some (bA l, e0, false) := by
    unfold stringslite_Cut.f
    rw [sep_f, bA_data, index_no l c h]
    rfl
  unfold strings_Cut.f
  rw [e]; rfl
theorem Cut_yes (a b : List UInt8) (c : UInt8) (h : c ∉ a) (hl : (a ++ c :: b).length ≤ 4611686018427387904) : strings_Cut.f (bA (a ++ c :: b)) (bA [c]) = some (bA a, bA b, true) := by
  have e : stringslite_Cut.f (bA (a ++ c :: b)) (bA [c]) = some (bA a, bA b, true) := by
    unfold stringslite_Cut.f
    rw [sep_f, bA_data, index_yes a b c h]
    have hl' : (a ++ c :: b).length = a.length + (b.length + 1) := by simp
    have w : wrap64 ((a.length : Int) + ((bA [c]).size : Int)) = (a.length : Int) + 1 := by rw [bA_size, show (([c] : List UInt8).length : Int) = 1 from rfl]; exact w64 (by omega) (by omega)
    simp only [Option.bind_some]
    rw [w, bA_size (a ++ c :: b), if_pos (by omega), if_pos (by omega), if_pos (by omega), if_pos (by omega), if_pos (by omega), Int.toNat_natCast, ext_to]
    have e2 : ((a.length : Int) + 1).toNat = (a ++ [c]).length := by rw [List.length_append]; simp
    have e3 : (bA (a ++ c :: b)).extract ((a.length : Int) + 1).toNat (a ++ c :: b).length = bA b := by
      have := ext_end (a ++ [c]) b
      rw [bA_size, List.append_assoc] at this
      rw [e2]; exact this
    rw [e3]
  unfold strings_Cut.f
  rw [e]; rfl
theorem HasS_yes (a : List UInt8) (c : UInt8) (hl : (a ++ [c]).length ≤ 4611686018427387904) : stringslite_HasSuffix.f (bA (a ++ [c])) (bA [c]) = some true := by
  have hl' : (a ++ [c]).length = a.length + 1 := by simp
  have w : wrap64 (((bA (a ++ [c])).size : Int) - ((bA [c]).size : Int)) = (a.length : Int) := by rw [bA_size, bA_size, hl', show (([c] : List UInt8).length : Int) = 1 from rfl, w64 (by omega) (by omega)]; omega
  unfold stringslite_HasSuffix.f
  rw [w, if_pos (by rw [bA_size, bA_size]; simp; omega), if_pos (by omega), if_pos (by rw [bA_size]; omega), Int.toNat_natCast, ext_end]
  simp
theorem HasS_no (l : List UInt8) (c : UInt8) (h : ∀ a, l ≠ a ++ [c]) (hl : l.length ≤ 4611686018427387904) : stringslite_HasSuffix.f (bA l) (bA [c]) = some false := by
  unfold stringslite_HasSuffix.f
  by_cases h0 : l = []
  · subst h0; rfl
  · obtain ⟨a, x, rfl⟩ : ∃ a x, l = a ++ [x] := ⟨_, _, (List.dropLast_concat_getLast h0).symm⟩
    have hl' : (a ++ [x]).length = a.length + 1 := by simp
    have w : wrap64 (((bA (a ++ [x])).size : Int) - ((bA [c]).size : Int)) = (a.length : Int) := by rw [bA_size, bA_size, hl', show (([c] : List UInt8).length : Int) = 1 from rfl, w64 (by omega) (by omega)]; omega
    rw [w, if_pos (by rw [bA_size, bA_size]; simp; omega), if_pos (by omega), if_pos (by rw [bA_size]; omega), Int.toNat_natCast, ext_end]
    have hx : ¬ x = c := fun e => h a (by rw [e])
    rw [bA_toList, bA_toList]
    simp [hx]
theorem CutS_yes (a : List UInt8) (c : UInt8) (hl : (a ++ [c]).length ≤ 4611686018427387904) : strings_CutSuffix.f (bA (a ++ [c])) (bA [c]) = some (bA a, true) := by
  have hl' : (a ++ [c]).length = a.length + 1 := by simp
  have w : wrap64 (((bA (a ++ [c])).size : Int) - ((bA [c]).size : Int)) = (a.length : Int) := by rw [bA_size, bA_size, hl', show (([c] : List UInt8).length : Int) = 1 from rfl, w64 (by omega) (by omega)]; omega
  have e : stringslite_CutSuffix.f (bA (a ++ [c])) (bA [c]) = some (bA a, true) := by
    unfold stringslite_CutSuffix.f
    rw [HasS_yes a c hl]
    simp only [Option.bind_some, if_true]
    rw [w, if_pos (by omega), if_pos (by rw [bA_size]; omega), Int.toNat_natCast, ext_to]
  unfold strings_CutSuffix.f
  rw [e]; rfl
theorem CutS_no (l : List UInt8) (c : UInt8) (h : ∀ a, l ≠ a ++ [c]) (hl : l.length ≤ 4611686018427387904) : strings_CutSuffix.f (bA l) (bA [c]) = some (bA l, false) := by
  have e : stringslite_CutSuffix.f (bA l) (bA [c]) = some (bA l, false) := by
    unfold stringslite_CutSuffix.f
    rw [HasS_no l c h hl]; rfl
  unfold strings_CutSuffix.f
  rw [e]; rfl
abbrev gsV (l : List UInt8) : Option (Int × ByteArray × ByteArray × ByteArray) := point_guess.f (bA l)
theorem guess_any (l : List UInt8) (hl : l.length ≤ 4611686018427387904) : ∃ p : S24, gsV l = some (p.f0, p.f1, p.f2, p.f3) ∧ ptRaw p = l := by
  unfold gsV point_guess.f
  rw [show (⟨#[100]⟩ : ByteArray) = bA [100] from rfl, show (⟨#[99]⟩ : ByteArray) = bA [99] from rfl, show (⟨#[115]⟩ : ByteArray) = bA [115] from rfl, show (⟨#[45]⟩ : ByteArray) = bA [45] from rfl]
  by_cases h1 : ∃ a, l = a ++ [100]
  · obtain ⟨a, rfl⟩ := h1
    rw [CutS_yes a 100 hl]
    exact ⟨⟨4, bA a, e0, e0⟩, rfl, rfl⟩
  rw [CutS_no l 100 (fun a h => h1 ⟨a, h⟩) hl]
  by_cases h2 : ∃ a, l = a ++ [99]
  · obtain ⟨a, rfl⟩ := h2
    rw [CutS_yes a 99 hl]
    exact ⟨⟨5, bA a, e0, e0⟩, rfl, rfl⟩
  rw [CutS_no l 99 (fun a h => h2 ⟨a, h⟩) hl]
  by_cases h3 : (115 : UInt8) ∈ l
  · obtain ⟨a, b, rfl, ha⟩ := List.eq_append_cons_of_mem h3
    rw [Cut_yes a b 115 ha hl]
    exact ⟨⟨2, bA a, bA b, e0⟩, rfl, rfl⟩
  rw [Cut_no l 115 h3]
  by_cases h4 : (45 : UInt8) ∈ l
  · obtain ⟨a, b, rfl, ha⟩ := List.eq_append_cons_of_mem h4
    rw [Cut_yes a b 45 ha hl]
    simp only [Option.bind_some, if_true, if_false, Bool.false_eq_true]
    by_cases h5 : (45 : UInt8) ∈ b
    · obtain ⟨c, d, rfl, hc⟩ := List.eq_append_cons_of_mem h5
      rw [Cut_yes c d 45 hc (by simp only [List.length_append, List.length_cons] at hl ⊢; omega)]
      exact ⟨⟨0, bA a, bA c, bA d⟩, rfl, rfl⟩
    · rw [Cut_no b 45 h5]
      exact ⟨⟨1, bA a, bA b, e0⟩, rfl, rfl⟩
  · rw [Cut_no l 45 h4]
    exact ⟨⟨3, bA l, e0, e0⟩, rfl, rfl⟩
theorem ok_not {l : List UInt8} (h : l.all okB = true) (c : UInt8) (hc : okB c = false) : c ∉ l := fun hm => by
  rw [List.all_eq_true] at h
  rw [h c hm] at hc; cases hc
theorem not_end {u v : List UInt8} {c : UInt8} (hv : v ≠ []) (hc : c ∉ v) (a : List UInt8) : u ++ v ≠ a ++ [c] := fun h => by
  obtain ⟨w, x, rfl⟩ : ∃ w x, v = w ++ [x] := ⟨_, _, (List.dropLast_concat_getLast hv).symm⟩
  rw [← List.append_assoc] at h
  have e := (List.append_inj' h rfl).2
  injection e with e _
  exact hc (by rw [e]; simp)
theorem guess_raw (q : S24) (hq : ptV q = true) : gsV (ptRaw q) = some (q.f0, q.f1, q.f2, q.f3) := by
  obtain ⟨hY, hk⟩ := pt_kinds hq
  unfold gsV point_guess.f ptRaw
  rw [show (⟨#[100]⟩ : ByteArray) = bA [100] from rfl, show (⟨#[99]⟩ : ByteArray) = bA [99] from rfl, show (⟨#[115]⟩ : ByteArray) = bA [115] from rfl, show (⟨#[45]⟩ : ByteArray) = bA [45] from rfl]
  obtain ⟨k, y, m, d⟩ := q
  simp only at hY hk ⊢
  have n1 := ok_not hY 100 (by decide)
  have n2 := ok_not hY 99 (by decide)
  have n3 := ok_not hY 115 (by decide)
  have n4 := ok_not hY 45 (by decide)
  have eE : ∀ s : ByteArray, s.data.toList = [] → s = e0 := fun s h => ba_eq (by rw [h]; rfl)
  have L : ∀ l : List UInt8, l.length ≤ 100 → l.length ≤ 4611686018427387904 := fun _ h => by omega
  rcases hk with ⟨rfl, ly, lm, am, ld, ad⟩ | ⟨rfl, ly, lm, am, ld⟩ | ⟨rfl, ly, lm, am, ld⟩ | ⟨rfl, ly, lm, ld⟩ | ⟨rfl, ly, lm, ld⟩ | ⟨rfl, ly, lm, ld⟩
  · rw [if_pos rfl]
    have hd : d.data.toList ≠ [] := fun h => by rw [h] at ld; cases ld
    have S : ∀ c : UInt8, okB c = false → ∀ a, y.data.toList ++ 45 :: (m.data.toList ++ 45 :: d.data.toList) ≠ a ++ [c] := fun c hc a => by
      have := not_end (u := y.data.toList ++ 45 :: (m.data.toList ++ [45])) hd (ok_not ad c hc) a
      simpa using this
    have Ln : (y.data.toList ++ 45 :: (m.data.toList ++ 45 :: d.data.toList)).length ≤ 100 := by simp only [List.length_append, List.length_cons]; omega
    rw [CutS_no _ 100 (S 100 (by decide)) (L _ Ln), Option.bind_some, CutS_no _ 99 (S 99 (by decide)) (L _ Ln), Option.bind_some, Cut_no _ 115 (by simp [n3, ok_not am 115 (by decide), ok_not ad 115 (by decide)]), Option.bind_some, Cut_yes _ _ 45 n4 (L _ Ln), Option.bind_some]
    simp only [if_true, if_false, Bool.false_eq_true]
    rw [Cut_yes _ _ 45 (ok_not am 45 (by decide)) (L _ (by simp only [List.length_append, List.length_cons]; omega))]
    simp only [Option.bind_some, if_true, bA_mk]
  · rw [if_neg (by decide), if_pos rfl]
    have hd : m.data.toList ≠ [] := fun h => by rw [h] at lm; cases lm
    have S : ∀ c : UInt8, okB c = false → ∀ a, y.data.toList ++ 45 :: m.data.toList ≠ a ++ [c] := fun c hc a => by
      have := not_end (u := y.data.toList ++ [45]) hd (ok_not am c hc) a
      simpa using this
    have Ln : (y.data.toList ++ 45 :: m.data.toList).length ≤ 100 := by simp only [List.length_append, List.length_cons]; omega
    rw [CutS_no _ 100 (S 100 (by decide)) (L _ Ln), Option.bind_some, CutS_no _ 99 (S 99 (by decide)) (L _ Ln), Option.bind_some, Cut_no _ 115 (by simp [n3, ok_not am 115 (by decide)]), Option.bind_some, Cut_yes _ _ 45 n4 (L _ Ln), Option.bind_some]
    simp only [if_true, if_false, Bool.false_eq_true]
    rw [Cut_no _ 45 (ok_not am 45 (by decide)), eE d ld]
    simp only [Option.bind_some, if_true, if_false, Bool.false_eq_true, bA_mk]
    rfl
  · rw [if_neg (by decide), if_neg (by decide), if_pos rfl]
    have hd : m.data.toList ≠ [] := fun h => by rw [h] at lm; cases lm
    have S : ∀ c : UInt8, okB c = false → ∀ a, y.data.toList ++ 115 :: m.data.toList ≠ a ++ [c] := fun c hc a => by
      have := not_end (u := y.data.toList ++ [115]) hd (ok_not am c hc) a
      simpa using this
    have Ln : (y.data.toList ++ 115 :: m.data.toList).length ≤ 100 := by simp only [List.length_append, List.length_cons]; omega
    rw [CutS_no _ 100 (S 100 (by decide)) (L _ Ln), Option.bind_some, CutS_no _ 99 (S 99 (by decide)) (L _ Ln), Option.bind_some, Cut_yes _ _ 115 n3 (L _ Ln), Option.bind_some, eE d ld]
    simp only [if_true, if_false, Bool.false_eq_true, bA_mk]
    rfl
  · rw [if_neg (by decide), if_neg (by decide), if_neg (by decide), if_neg (by decide), if_neg (by decide)]
    have hd : y.data.toList ≠ [] := fun h => by rw [h] at ly; cases ly
    have Ln : y.data.toList.length ≤ 100 := by omega
    have S : ∀ c : UInt8, okB c = false → ∀ a, y.data.toList ≠ a ++ [c] := fun c hc a => not_end (u := []) hd (ok_not hY c hc) a
    rw [CutS_no _ 100 (S 100 (by decide)) (L _ Ln), Option.bind_some, CutS_no _ 99 (S 99 (by decide)) (L _ Ln), Option.bind_some, Cut_no _ 115 n3, Option.bind_some, Cut_no _ 45 n4, eE d ld, eE m lm]
    simp only [Option.bind_some, if_true, if_false, Bool.false_eq_true, bA_mk]
    rfl
  · rw [if_neg (by decide), if_neg (by decide), if_neg (by decide), if_pos rfl]
    rw [CutS_yes _ 100 (L _ (by simp only [List.length_append, List.length_cons, List.length_nil]; omega)), eE d ld, eE m lm]
    simp only [Option.bind_some, if_true, bA_mk]
    rfl
  · rw [if_neg (by decide), if_neg (by decide), if_neg (by decide), if_neg (by decide), if_pos rfl]
    have S : ∀ a, y.data.toList ++ [99] ≠ a ++ [100] := fun a => not_end (by simp) (by decide) a
    have Ln : (y.data.toList ++ [99]).length ≤ 100 := by simp only [List.length_append, List.length_cons, List.length_nil]; omega
    rw [CutS_no _ 100 S (L _ Ln), Option.bind_some, CutS_yes _ 99 (L _ Ln), eE d ld, eE m lm]
    simp only [Option.bind_some, if_true, if_false, Bool.false_eq_true, bA_mk]
    rfl
theorem read_any (l : List UInt8) (hl : l.length ≤ 4611686018427387904) : (∃ p : S24, ptV p = true ∧ ptTxt p = l ∧ Ev (fun k => point_Read.f k (bA l)) (p.f0, p.f1, p.f2, p.f3, true)) ∨ (∀ p : S24, ptV p = true → ptTxt p ≠ l) ∧ Ev (fun k => point_Read.f k (bA l)) (0, e0, e0, e0, false) := by
  obtain ⟨p, h1, h2⟩ := guess_any l hl
  have hs := ptSane_f p
  cases hp : ptV p with
  | true =>
    rw [hp] at hs
    exact .inl ⟨p, hp, by unfold ptTxt; rw [if_pos hp]; exact h2, Ev.bnow (x := (p.f0, p.f1, p.f2, p.f3)) h1 (Ev.bind hs (Ev.ift rfl (Ev.now _)))⟩
  | false =>
    rw [hp] at hs
    refine .inr ⟨fun q hq he => ?_, Ev.bnow (x := (p.f0, p.f1, p.f2, p.f3)) h1 (Ev.bind hs (Ev.iff_ (by simp) (Ev.now _)))⟩
    unfold ptTxt at he
    rw [if_pos hq] at he
    have := guess_raw q hq
    rw [he, h1] at this
    simp only [Option.some.injEq, Prod.mk.injEq] at this
    obtain ⟨e1, e2, e3, e4⟩ := this
    have e : p = q := by cases p; cases q; simp only at e1 e2 e3 e4; rw [e1, e2, e3, e4]
    rw [e, hq] at hp; cases hp
theorem read_txt (p : S24) (hp : ptV p = true) : Ev (fun k => point_Read.f k (bA (ptTxt p))) (p.f0, p.f1, p.f2, p.f3, true) := by
  have h1 := guess_raw p hp
  have hs := ptSane_f p
  rw [hp] at hs
  unfold ptTxt
  rw [if_pos hp]
  exact Ev.bnow (x := (p.f0, p.f1, p.f2, p.f3)) h1 (Ev.bind hs (Ev.ift rfl (Ev.now _)))
structure KE where
  nd : S27
  A : Option Addr
  c : Nat
def mkK (n : S27) : KE := ⟨n, none, 0⟩
abbrev phiK (x : KE) : KE := mkK x.nd
def LiftK (Q : KE → Prop) (a b : Option (List KE)) : Prop := ∀ r, a = some r → ∃ r', b = some r' ∧ r'.map phiK = r ∧ ∀ x, x ∈ r' → Q x
section
variable {Q : KE → Prop} {a b a' b' : Option (List KE)}
theorem LiftK.none : LiftK Q none b := fun r h => by cases h
theorem LiftK.some {l : List KE} (h : ∀ x, x ∈ l → Q x) : LiftK Q (some (l.map phiK)) (some l) := fun r hr => ⟨l, rfl, Option.some.inj hr, h⟩
theorem LiftK.ite {c : Prop} [Decidable c] (h : LiftK Q a b) (h' : LiftK Q a' b') : LiftK Q (if c then a else a') (if c then b else b') := by
  by_cases hc : c
  · rw [if_pos hc, if_pos hc]; exact h
  · rw [if_neg hc, if_neg hc]; exact h'
theorem LiftK.key {α : Type} {o : Option α} {g g' : α → Option (List KE)} (h : ∀ t, LiftK Q (g t) (g' t)) : LiftK Q (o.bind g) (o.bind g') := by
  cases o with
  | none => exact LiftK.none
  | some t => exact h t
theorem LiftK.bind {g g' : List KE → Option (List KE)} (h : LiftK Q a b) (hg : ∀ l, (∀ x, x ∈ l → Q x) → LiftK Q (g (l.map phiK)) (g' l)) : LiftK Q (a.bind g) (b.bind g') := by
  intro r hr
  obtain ⟨m, hm, hr⟩ := Option.bind_eq_some_iff.mp hr
  obtain ⟨m', hb, rfl, hq⟩ := h m hm
  obtain ⟨r', h1, h2⟩ := hg m' hq r hr
  exact ⟨r', Option.bind_eq_some_iff.mpr ⟨m', hb, h1⟩, h2⟩
end
theorem Clone_e (l : List S27) (h : l.length < 1466015503701) : slices_Clone.f l = some l := by rw [slices_Clone.f, if_pos h]
def free (r : List S46) : Prop := ∃ y u, r = y :: u ∧ y.f0 ≠ 7 ∧ y.f0 ≠ 8
def freeE (r : List S46) : Prop := ∃ y u, r = y :: u ∧ y.f0 ≠ 7 ∧ y.f0 ≠ 8 ∧ y.f0 ≠ 1
theorem up1 {m : Nat} (h : m ≤ 1000) : wrap64 ((m : Int) + 1) = ((m + 1 : Nat) : Int) := by rw [w64 (by omega) (by omega)]; omega
theorem marked_back (a b : Bool) (p : S24) (q : Nat) (r : List S46) (hr : free r) : pMarked (toks q (markI a 7 63 ++ markI b 8 126) ++ r) p false false = some (⟨0, p, a, b, []⟩, r) := by
  obtain ⟨y, u, rfl, h7, h8⟩ := hr
  cases a <;> cases b <;> simp [markI, toks, It.tok, pMarked, h7, h8]
theorem bare_mk (k : Int) (l : List S27) : bareV ⟨k, ⟨0, e0, e0, e0⟩, false, false, l⟩ = true := by
  have e : emptyV e0 = true := by unfold emptyV; rw [ba_toList]; rfl
  simp [bareV, e]
theorem kz_of {n : S27} (h4 : n.f4 = []) (hb : bareV n = true) : n = kz n.f0 := bare_inj hb (bare_mk _ _) rfl h4
theorem end_back (n : S27) (he : endV n = true) (q m : Nat) (d : Int) (r : List S46) (hr : free r) (hm : m + 1 ≤ 64) :
    Ev (fun k => pEnd k (m : Int) d (toks q (it n) ++ r)) ⟨n, none, r, ((m + 1 : Nat) : Int), d⟩ := by
  obtain ⟨h4, hk⟩ := end_kinds he
  rw [it_eq]
  rcases hk with ⟨c, hp⟩ | ⟨c, hb⟩ | ⟨c, hb⟩
  · rw [if_neg (by omega), if_neg (by omega), if_neg (by omega), if_neg (by omega)]
    have e : toks q (It.w (ptTxt n.f1) :: (markI n.f2 7 63 ++ markI n.f3 8 126)) ++ r = (⟨0, (q : Int), bA (ptTxt n.f1)⟩ : S46) :: (toks (q + (It.w (ptTxt n.f1)).tx.length) (markI n.f2 7 63 ++ markI n.f3 8 126) ++ r) := rfl
    rw [e]
    unfold pEnd pWord
    refine Ev.ift rfl (Ev.iff_ (by omega) ?_)
    refine Ev.bind (read_txt n.f1 hp) (Ev.ift rfl (Ev.bnow (marked_back n.f2 n.f3 ⟨n.f1.f0, n.f1.f1, n.f1.f2, n.f1.f3⟩ _ r hr) (Ev.eq (Ev.now _) ?_)))
    rw [up1 (by omega)]
    have e2 : (⟨0, ⟨n.f1.f0, n.f1.f1, n.f1.f2, n.f1.f3⟩, n.f2, n.f3, []⟩ : S27) = n := S27.ext5 c.symm rfl rfl rfl h4.symm
    rw [e2]
  · rw [if_neg (by omega), if_neg (by omega), if_pos c]
    have e : toks q [It.d] ++ r = (⟨2, (q : Int), e0⟩ : S46) :: r := rfl
    rw [e]
    unfold pEnd
    refine Ev.iff_ (by simp) (Ev.ift rfl (Ev.iff_ (by omega) (Ev.eq (Ev.now _) ?_)))
    rw [up1 (by omega), kz_of h4 hb, c]
  · rw [if_neg (by omega), if_neg (by omega), if_neg (by omega), if_pos c]
    have e : toks q [It.s 3 42] ++ r = (⟨3, (q : Int), e0⟩ : S46) :: r := rfl
    rw [e]
    unfold pEnd
    refine Ev.iff_ (by simp) (Ev.iff_ (by simp) (Ev.ift rfl (Ev.iff_ (by omega) (Ev.eq (Ev.now _) ?_))))
    rw [up1 (by omega), kz_of h4 hb, c]
theorem point_back (n : S27) (he : endV n = true) (c0 : n.f0 = 0) (q m : Nat) (d : Int) (r : List S46) (hr : freeE r) (hm : m + 1 ≤ 64) :
    Ev (fun k => pSpan k (m : Int) d (toks q (it n) ++ r)) ⟨n, none, r, ((m + 1 : Nat) : Int), d⟩ := by
  obtain ⟨y, u, rfl, h7, h8, h1⟩ := hr
  unfold pSpan
  exact Ev.bind (end_back n he q m d _ ⟨y, u, rfl, h7, h8⟩ hm) (Ev.iff_ h1 (Ev.ift c0 (Ev.now _)))
theorem span_back (x y : S27) (hx : endV x = true) (hy : endV y = true) (q m : Nat) (d : Int) (r : List S46) (hr : free r) (hm : m + 3 ≤ 64) :
    Ev (fun k => pSpan k (m : Int) d (toks q (it x ++ .s 1 47 :: it y) ++ r)) ⟨⟨1, ⟨0, e0, e0, e0⟩, false, false, [x, y]⟩, none, r, ((m + 3 : Nat) : Int), d⟩ := by
  rw [toks_app, List.append_assoc]
  have e : ∀ p, toks p (.s 1 47 :: it y) ++ r = (⟨1, (p : Int), e0⟩ : S46) :: (toks (p + 1) (it y) ++ r) := fun p => rfl
  rw [e]
  unfold pSpan
  refine Ev.bind (end_back x hx q m d _ ⟨_, _, rfl, by simp, by simp⟩ (by omega)) (Ev.ift rfl (Ev.iff_ (by show ¬ ((m + 1 : Nat) : Int) = 64; omega) ?_))
  refine Ev.bind (f := fun k s => _) (a := ⟨y, none, r, ((m + 3 : Nat) : Int), d⟩) ?_ (Ev.now _)
  show Ev (fun k => pEnd k (wrap64 (((m + 1 : Nat) : Int) + 1)) d (toks (q + (flatT (it x)).length + 1) (it y) ++ r)) _
  rw [up1 (by omega)]
  exact end_back y hy _ (m + 2) d r hr (by omega)
theorem OneOf_e (l : List S27) (h : l.length < 1466015503701) : tree_OneOf.f l = some (2, 0, e0, e0, e0, false, false, l) := by
  unfold tree_OneOf.f
  rw [Clone_e l h]; rfl
theorem pItems_one (k : Nat) (m d : Int) (x : S46) (t : List S46) (l : List S27) : pItems (k + 1) m d (x :: t) l = (pExpr k m d t).bind fun r => match r.x with
    | some _ => some r
    | none => if l.length < 1466015503701 then (match r.t with
      | [] => none
      | y :: u =>
        if y.f0 = 6 then pItems k r.m r.d (y :: u) (l ++ [r.n])
        else if y.f0 = 5 then (tree_OneOf.f (l ++ [r.n])).bind fun o => some ⟨⟨o.1, ⟨o.2.1, o.2.2.1, o.2.2.2.1, o.2.2.2.2.1⟩, o.2.2.2.2.2.1, o.2.2.2.2.2.2.1, o.2.2.2.2.2.2.2⟩, none, u, r.m, wrap64 (r.d - 1)⟩
        else some ⟨r.n, some (y.f1, eNot y 3), y :: u, r.m, r.d⟩) else none := by rw [pItems] <;> rfl
theorem items_step {n : S27} {m m' : Int} {d : Int} {x y : S46} {t u : List S46} {l : List S27} {R : PR} (h1 : Ev (fun k => pExpr k m d t) ⟨n, none, y :: u, m', d⟩) (hl : l.length < 1466015503701)
    (h2 : y.f0 = 6 ∧ Ev (fun k => pItems k m' d (y :: u) (l ++ [n])) R ∨ y.f0 = 5 ∧ R = ⟨⟨2, ⟨0, e0, e0, e0⟩, false, false, l ++ [n]⟩, none, u, m', wrap64 (d - 1)⟩ ∧ l.length + 1 < 1466015503701) :
    Ev (fun k => pItems k m d (x :: t) l) R := by
  refine Ev.step (fun k => pItems_one k m d x t l) (Ev.bind h1 (Ev.ift hl ?_))
  rcases h2 with ⟨c, h⟩ | ⟨c, rfl, h⟩
  · exact Ev.ift c h
  · refine Ev.iff_ (by omega) (Ev.ift c ?_)
    exact Ev.bnow (OneOf_e _ (by rw [List.length_append]; simpa using h)) (Ev.now _)
theorem expr_back : ∀ (M : Nat) (n : S27), nd n ≤ M → rt n = true → ∀ (q m d : Nat) (r : List S46), freeE r → m + nd n ≤ 64 → d + dp n ≤ 8 →
    Ev (fun k => pExpr k (m : Int) (d : Int) (toks q (it n) ++ r)) ⟨n, none, r, ((m + nd n : Nat) : Int), (d : Int)⟩
  | 0, n, h, _ => by have := nd_pos n; omega
  | M + 1, n, hM, hn => by
    intro q m d r hr hm hd
    have span : ∀ (t : List S46) (R : PR), (∃ x u, t = x :: u ∧ x.f0 ≠ 4) → Ev (fun k => pSpan k (m : Int) (d : Int) t) R → Ev (fun k => pExpr k (m : Int) (d : Int) t) R := fun t R ht h => by
      obtain ⟨x, u, rfl, hx⟩ := ht
      exact Ev.step (fun k => by rw [pExpr, if_neg hx]) h
    have hr' : free r := by obtain ⟨y, u, e, h7, h8, _⟩ := hr; exact ⟨y, u, e, h7, h8⟩
    have head : ∀ (x : S27), endV x = true → ∀ (s : List It) (v : List S46), ∃ z u, toks q (it x ++ s) ++ v = z :: u ∧ z.f0 ≠ 4 := fun x hx s v => by
      obtain ⟨_, hk⟩ := end_kinds hx
      rw [it_eq]
      rcases hk with ⟨c, _⟩ | ⟨c, _⟩ | ⟨c, _⟩
      · rw [if_neg (by omega), if_neg (by omega), if_neg (by omega), if_neg (by omega)]; exact ⟨_, _, rfl, by simp [It.tok]⟩
      · rw [if_neg (by omega), if_neg (by omega), if_pos c]; exact ⟨_, _, rfl, by simp [It.tok]⟩
      · rw [if_neg (by omega), if_neg (by omega), if_neg (by omega), if_pos c]; exact ⟨_, _, rfl, by simp [It.tok]⟩
    rcases rt_kinds hn with ⟨he, c⟩ | ⟨c, hb, x, y, h4, hx, hy, _⟩ | ⟨c, hb, hne, hl, _⟩
    · have h1 : nd n = 1 := by rw [nd_eq, (end_kinds he).1]; rfl
      refine span _ _ (by have := head n he [] r; rwa [List.append_nil] at this) ?_
      rw [h1]
      exact point_back n he c q m d r hr (by omega)
    · have h3 : nd n = 3 := by
        have e1 : nd x = 1 := by rw [nd_eq, (end_kinds hx).1]; rfl
        have e2 : nd y = 1 := by rw [nd_eq, (end_kinds hy).1]; rfl
        rw [nd_eq, h4, ndL, ndL, ndL, e1, e2]
      have hi : it n = it x ++ .s 1 47 :: it y := by rw [it_eq, if_pos c, h4]; rfl
      rw [hi, h3]
      refine span _ _ (head x hx _ r) (Ev.eq (span_back x y hx hy q m d r hr' (by omega)) ?_)
      have e : (⟨1, ⟨0, e0, e0, e0⟩, false, false, [x, y]⟩ : S27) = n := bare_inj (bare_mk _ _) hb c.symm h4.symm
      rw [e]
    · have hi : it n = .s 4 91 :: (joinI (itL n.f4) ++ [.s 5 93]) := by rw [it_eq, if_neg (by omega), if_pos c]
      have hnd : nd n = ndL n.f4 + 1 := nd_eq n
      have hdp : dp n = dpL n.f4 + 1 := by rw [dp_eq, if_pos c]
      rw [hi]
      have e : toks q (.s 4 91 :: (joinI (itL n.f4) ++ [.s 5 93])) ++ r = (⟨4, (q : Int), e0⟩ : S46) :: (toks (q + 1) (joinI (itL n.f4) ++ [.s 5 93]) ++ r) := rfl
      rw [e]
      have items : ∀ (l : List S27), l ≠ [] → ndL l ≤ M → rtL l = true → ∀ (acc : List S27) (q m : Nat) (x : S46), m + ndL l ≤ 64 → d + 1 + dpL l ≤ 8 → acc.length + l.length ≤ 64 →
          Ev (fun k => pItems k (m : Int) ((d + 1 : Nat) : Int) (x :: (toks q (joinI (itL l) ++ [.s 5 93]) ++ r)) acc) ⟨⟨2, ⟨0, e0, e0, e0⟩, false, false, acc ++ l⟩, none, r, ((m + ndL l : Nat) : Int), (d : Int)⟩ := fun l => by
        induction l with
        | nil => intro h; exact absurd rfl h
        | cons n1 l ih =>
          intro _ hM1 hrt acc q m x hm1 hd1 hlen
          rw [ndL] at hM1 hm1
          rw [dpL] at hd1
          rw [rtL, Bool.and_eq_true] at hrt
          rw [List.length_cons] at hlen
          cases l with
          | nil =>
            have ei : joinI (itL [n1]) ++ [.s 5 93] = it n1 ++ [.s 5 93] := by rw [itL, itL, joinI]
            rw [ei, toks_app, List.append_assoc]
            have h1 := expr_back M n1 (by omega) hrt.1 q m (d + 1) (toks (q + (flatT (it n1)).length) [.s 5 93] ++ r) ⟨_, _, rfl, by simp [It.tok], by simp [It.tok], by simp [It.tok]⟩ (by omega) (by omega)
            refine items_step (y := ⟨5, ((q + (flatT (it n1)).length : Nat) : Int), e0⟩) (u := r) h1 (by omega) (.inr ⟨rfl, ?_, by omega⟩)
            have e2 : wrap64 (((d + 1 : Nat) : Int) - 1) = (d : Int) := by rw [w64 (by omega) (by omega)]; omega
            rw [e2]; rfl
          | cons n2 l =>
            have ei : joinI (itL (n1 :: n2 :: l)) ++ [.s 5 93] = it n1 ++ (.s 6 44 :: .b :: (joinI (itL (n2 :: l)) ++ [.s 5 93])) := by rw [itL, itL, joinI, List.append_assoc]; rfl
            rw [ei, toks_app, List.append_assoc]
            have h1 := expr_back M n1 (by omega) hrt.1 q m (d + 1) (toks (q + (flatT (it n1)).length) (.s 6 44 :: .b :: (joinI (itL (n2 :: l)) ++ [.s 5 93])) ++ r) ⟨_, _, rfl, by simp [It.tok], by simp [It.tok], by simp [It.tok]⟩ (by omega) (by omega)
            have h2 := ih (by simp) (by omega) hrt.2 (acc ++ [n1]) (q + (flatT (it n1)).length + 1 + 1) (m + nd n1) ⟨6, ((q + (flatT (it n1)).length : Nat) : Int), e0⟩ (by omega) (by omega) (by rw [List.length_append]; simp only [List.length_cons, List.length_nil]; simp only [List.length_cons] at hlen; omega)
            refine items_step (y := ⟨6, ((q + (flatT (it n1)).length : Nat) : Int), e0⟩) (u := toks (q + (flatT (it n1)).length + 1 + 1) (joinI (itL (n2 :: l)) ++ [.s 5 93]) ++ r) h1 (by omega) (.inl ⟨rfl, Ev.eq h2 ?_⟩)
            rw [List.append_assoc, ndL, Nat.add_assoc]; rfl
      have hi2 := items n.f4 hne (by omega) hl [] (q + 1) (m + 1) ⟨4, (q : Int), e0⟩ (by omega) (by omega) (by have := len_nd n.f4; simp only [List.length_nil]; omega)
      have en : (⟨2, ⟨0, e0, e0, e0⟩, false, false, [] ++ n.f4⟩ : S27) = n := bare_inj (bare_mk _ _) hb c.symm rfl
      rw [en] at hi2
      refine Ev.step (f := fun k => pList k (m : Int) (d : Int) ⟨4, (q : Int), e0⟩ (toks (q + 1) (joinI (itL n.f4) ++ [.s 5 93]) ++ r)) (fun k => by rw [pExpr, if_pos rfl]) ?_
      refine Ev.step (fun k => by rw [pList, if_neg (by omega), if_neg (by omega), up1 (by omega), up1 (by omega)]) (Ev.eq hi2 ?_)
      rw [hnd, Nat.add_assoc, Nat.add_comm 1]
def b13 : S27 := ⟨0, ⟨3, ⟨#[49, 57, 88, 52]⟩, ⟨#[]⟩, ⟨#[]⟩⟩, false, false, []⟩
def s13 : S27 := ⟨1, eP, false, false, [oN, b13]⟩
def l13 : S27 := lN [p11, s13]
theorem pv_b13 : ptV b13.f1 = true := by
  show (saneL [49, 57, 88, 52] && (true && (emptyV ⟨#[]⟩ && emptyV ⟨#[]⟩))) = true
  rw [emptyV_nil]; decide
theorem wf_b13 : wfN b13 := wf_leaf _ _ _ _ (by decide) (by decide) (by decide)
theorem wf_s13 : wfN s13 := .mk _ (by decide) (by decide) (by decide) (by simp [s13]) (fun x hx => by
  simp only [s13, List.mem_cons, List.not_mem_nil, or_false] at hx
  rcases hx with rfl | rfl
  · exact wf_oN
  · exact wf_b13)
theorem wf_l13 : wfN l13 := .mk _ (by decide) (by decide) (by decide) (by simp [l13, lN]) (fun x hx => by
  simp only [l13, lN, List.mem_cons, List.not_mem_nil, or_false] at hx
  rcases hx with rfl | rfl
  · exact wf_p11
  · exact wf_s13)
theorem endV_b13 : endV b13 = true := by show (true && ptV b13.f1) = true; rw [pv_b13]; rfl
theorem rt_s13 : rt s13 = true := by
  rw [rt_eq]
  show (bareV ⟨1, eP, false, false, [oN, b13]⟩ && two [oN, b13]) = true
  rw [bare_e, two, endV_b13, endV_o]; rfl
theorem sane_l13 : saneV l13 = true := by
  have h1 : nd l13 = 5 := by simp [l13, lN, s13, b13, p11, oN, nd, ndL]
  have h2 : dp l13 = 1 := by simp [l13, lN, s13, b13, p11, oN, dp, dpL]
  have h4 : rt p11 = true := by rw [rt_eq]; show endV p11 = true; exact endV_p11
  have h3 : rt l13 = true := by
    rw [rt_eq]
    show (bareV ⟨2, eP, false, false, [p11, s13]⟩ && (true && rtL [p11, s13])) = true
    rw [bare_e, rtL, rtL, rtL, rt_s13, h4]; rfl
  unfold saneV
  rw [h1, h2, h3]; rfl
theorem tx_l13 : tx l13 = [91, 49, 57, 56, 52, 63, 126, 44, 32, 46, 46, 47, 49, 57, 88, 52, 93] := by
  have e1 : tx p11 = [49, 57, 56, 52, 63, 126] := by
    rw [tx_eq]
    show ptTxt p11.f1 ++ [63, 126] = _
    unfold ptTxt
    rw [pv_p11]; rfl
  have e2 : tx b13 = [49, 57, 88, 52] := by
    rw [tx_eq]
    show ptTxt b13.f1 ++ [] = _
    unfold ptTxt
    rw [pv_b13]; rfl
  have e3 : tx oN = [46, 46] := by rw [tx_eq]; rfl
  have e4 : tx s13 = [46, 46, 47, 49, 57, 88, 52] := by
    rw [tx_eq]
    show span2 (txL [oN, b13]) = _
    rw [txL, txL, txL, e2, e3]; rfl
  rw [tx_eq]
  show 91 :: (Lib.join (txL [p11, s13]) [44, 32] ++ [93]) = _
  rw [txL, txL, txL, e1, e4]; rfl
theorem ptTxt_p11 : ptTxt p11.f1 = [49, 57, 56, 52] := by unfold ptTxt; rw [pv_p11]; rfl
theorem read_1984 : Ev (fun k => point_Read.f k (⟨#[49, 57, 56, 52]⟩ : ByteArray)) (3, ⟨#[49, 57, 56, 52]⟩, e0, e0, true) := by
  have := read_txt p11.f1 pv_p11
  rw [ptTxt_p11] at this
  exact this
theorem end_1984 (q : Int) (m : Nat) (d : Int) (t r : List S46) (a b : Bool) (hm : m + 1 ≤ 64) (h : pMarked t ⟨3, ⟨#[49, 57, 56, 52]⟩, e0, e0⟩ false false = some (⟨0, ⟨3, ⟨#[49, 57, 56, 52]⟩, e0, e0⟩, a, b, []⟩, r)) :
    Ev (fun k => pEnd k (m : Int) d ((⟨0, q, ⟨#[49, 57, 56, 52]⟩⟩ : S46) :: t)) ⟨⟨0, ⟨3, ⟨#[49, 57, 56, 52]⟩, e0, e0⟩, a, b, []⟩, none, r, ((m + 1 : Nat) : Int), d⟩ := by
  unfold pEnd pWord
  refine Ev.ift rfl (Ev.iff_ (by omega) ?_)
  refine Ev.bind read_1984 (Ev.ift rfl (Ev.bnow h (Ev.eq (Ev.now _) ?_)))
  rw [up1 (by omega)]
theorem list_go {x : S46} {t : List S46} {m d : Nat} {R : PR} (h4 : x.f0 = 4) (hm : m + 1 ≤ 64) (hd : d + 1 ≤ 8) (h : Ev (fun k => pItems k ((m + 1 : Nat) : Int) ((d + 1 : Nat) : Int) (x :: t) []) R) : Ev (fun k => pExpr k (m : Int) (d : Int) (x :: t)) R := by
  refine Ev.step (f := fun k => pList k (m : Int) (d : Int) x t) (fun k => by rw [pExpr, if_pos h4]) ?_
  exact Ev.step (fun k => by rw [pList, if_neg (by omega), if_neg (by omega), up1 (by omega), up1 (by omega)]) h
theorem span_go {x : S46} {t : List S46} {m d : Int} {R : PR} (h4 : x.f0 ≠ 4) (h : Ev (fun k => pSpan k m d (x :: t)) R) : Ev (fun k => pExpr k m d (x :: t)) R := Ev.step (fun k => by rw [pExpr, if_neg h4]) h
theorem parse_bad {s : List UInt8} {L : List S46} {z at_ e : Int} {R : PR} (hL : Ev (fun k => lex_All.f k (bA s)) (L, z, 0)) (hE : Ev (fun k => pExpr k 0 0 L) R) (hx : R.x = some (at_, e)) : Ev (fun k => parse_Parse.f k (bA s)) (0, 0, e0, e0, e0, false, false, [], at_, e) := by
  unfold parse_Parse.f
  refine Ev.bind hL (Ev.ift rfl (Ev.bind hE ?_))
  rw [hx]; exact Ev.now _
theorem parse_good {s : List UInt8} {L : List S46} {z : Int} {n : S27} {y : S46} {u : List S46} {m d : Int} (hL : Ev (fun k => lex_All.f k (bA s)) (L, z, 0)) (hE : Ev (fun k => pExpr k 0 0 L) ⟨n, none, y :: u, m, d⟩) (hy : y.f0 = 9) : Ev (fun k => parse_Parse.f k (bA s)) (n.f0, n.f1.f0, n.f1.f1, n.f1.f2, n.f1.f3, n.f2, n.f3, n.f4, z, 0) := by
  unfold parse_Parse.f
  exact Ev.bind hL (Ev.ift rfl (Ev.bind hE (Ev.ift hy (Ev.now _))))
theorem first13 : Ev (fun k => parse_Parse.f k (⟨#[91, 49, 57, 56, 52, 126, 63, 44, 32, 46, 46, 47, 49, 57, 88, 52, 93]⟩ : ByteArray)) (l13.f0, l13.f1.f0, l13.f1.f1, l13.f1.f2, l13.f1.f3, l13.f2, l13.f3, l13.f4, 17, 0) := by
  have hL := lex_f [.s 4 91, .w [49, 57, 56, 52], .s 8 126, .s 7 63, .s 6 44, .b, .d, .s 1 47, .w [49, 57, 88, 52], .s 5 93] (by simp [okI, stopI]; decide) (by decide)
  refine parse_good hL (n := l13) (y := endT 17) (u := []) (m := 5) (d := 0) ?_ rfl
  refine list_go (m := 0) (d := 0) rfl (by omega) (by omega) ?_
  have h1 : Ev (fun k => pExpr k 1 1 [⟨0, 1, ⟨#[49, 57, 56, 52]⟩⟩, ⟨8, 5, e0⟩, ⟨7, 6, e0⟩, ⟨6, 7, e0⟩, ⟨2, 9, e0⟩, ⟨1, 11, e0⟩, ⟨0, 12, ⟨#[49, 57, 88, 52]⟩⟩, ⟨5, 16, e0⟩, endT 17]) ⟨p11, none, [⟨6, 7, e0⟩, ⟨2, 9, e0⟩, ⟨1, 11, e0⟩, ⟨0, 12, ⟨#[49, 57, 88, 52]⟩⟩, ⟨5, 16, e0⟩, endT 17], 2, 1⟩ := by
    refine span_go (by simp) ?_
    unfold pSpan
    exact Ev.bind (end_1984 1 1 1 _ _ true true (by omega) rfl) (Ev.iff_ (by simp) (Ev.ift rfl (Ev.now _)))
  refine items_step h1 (by decide) (.inl ⟨rfl, ?_⟩)
  have h2 : Ev (fun k => pExpr k 2 1 [⟨2, 9, e0⟩, ⟨1, 11, e0⟩, ⟨0, 12, ⟨#[49, 57, 88, 52]⟩⟩, ⟨5, 16, e0⟩, endT 17]) ⟨s13, none, [⟨5, 16, e0⟩, endT 17], 5, 1⟩ := by
    have h := expr_back 3 s13 (by simp [s13, b13, oN, nd, ndL]) rt_s13 9 2 1 [⟨5, 16, e0⟩, endT 17] ⟨_, _, rfl, by simp, by simp, by simp⟩ (by simp [s13, b13, oN, nd, ndL]) (by simp [s13, b13, oN, dp, dpL])
    have e : nd s13 = 3 := by simp [s13, b13, oN, nd, ndL]
    have e2 : toks 9 (it s13) ++ [⟨5, 16, e0⟩, endT 17] = [⟨2, 9, e0⟩, ⟨1, 11, e0⟩, ⟨0, 12, ⟨#[49, 57, 88, 52]⟩⟩, ⟨5, 16, e0⟩, endT 17] := by
      have ei : it s13 = [.d, .s 1 47, .w [49, 57, 88, 52]] := by
        have eb : it b13 = [.w [49, 57, 88, 52]] := by
          rw [it_eq]
          show [It.w (ptTxt b13.f1)] = _
          unfold ptTxt
          rw [pv_b13]; rfl
        rw [it_eq]
        show spanI (itL [oN, b13]) = _
        rw [itL, itL, itL, eb, it_eq]; rfl
      rw [ei]; rfl
    rw [e, e2] at h
    exact h
  exact items_step h2 (by decide) (.inr ⟨rfl, by rw [w64 (by omega) (by omega)]; rfl, by decide⟩)
theorem second13 : Ev (fun k => parse_Parse.f k (⟨#[49, 57, 56, 52, 47, 91]⟩ : ByteArray)) (0, 0, e0, e0, e0, false, false, [], 5, 3) := by
  have hL := lex_f [.w [49, 57, 56, 52], .s 1 47, .s 4 91] (by simp [okI, stopI]; decide) (by decide)
  refine parse_bad hL (R := ⟨⟨1, ⟨0, e0, e0, e0⟩, false, false, [⟨0, ⟨3, ⟨#[49, 57, 56, 52]⟩, e0, e0⟩, false, false, []⟩, pz]⟩, some (5, 3), [⟨4, 5, e0⟩, endT 6], 2, 0⟩) ?_ rfl
  refine span_go (by simp) ?_
  unfold pSpan
  refine Ev.bind (end_1984 0 0 0 _ _ false false (by omega) rfl) (Ev.ift rfl (Ev.iff_ (by simp) ?_))
  refine Ev.bind (a := ⟨pz, some (5, 3), [⟨4, 5, e0⟩, endT 6], 2, 0⟩) ?_ ?_
  · show Ev (fun k => pEnd k (wrap64 (((0 + 1 : Nat) : Int) + 1)) 0 [⟨4, 5, e0⟩, endT 6]) _
    rw [up1 (by omega)]
    unfold pEnd
    exact Ev.iff_ (by simp) (Ev.iff_ (by simp) (Ev.iff_ (by simp) (Ev.eq (Ev.now _) rfl)))
  · exact Ev.now _
theorem third13 : Ev (fun k => parse_Parse.f k (⟨#[91, 49, 57, 56, 52]⟩ : ByteArray)) (0, 0, e0, e0, e0, false, false, [], 5, 4) := by
  have hL := lex_f [.s 4 91, .w [49, 57, 56, 52]] (by simp [okI, stopI]; decide) (by decide)
  refine parse_bad hL (R := ⟨⟨0, ⟨3, ⟨#[49, 57, 56, 52]⟩, e0, e0⟩, false, false, []⟩, some (5, 4), [endT 5], 2, 1⟩) ?_ rfl
  refine list_go (m := 0) (d := 0) rfl (by omega) (by omega) ?_
  refine Ev.step (fun k => pItems_one k _ _ _ _ []) ?_
  refine Ev.bind (a := ⟨⟨0, ⟨3, ⟨#[49, 57, 56, 52]⟩, e0, e0⟩, false, false, []⟩, none, [endT 5], 2, 1⟩) ?_ ?_
  · refine span_go (by simp) ?_
    unfold pSpan
    exact Ev.bind (end_1984 1 1 1 _ _ false false (by omega) rfl) (Ev.iff_ (by simp [endT]) (Ev.ift rfl (Ev.now _)))
  · exact Ev.ift (by decide) (Ev.iff_ (by simp [endT]) (Ev.iff_ (by simp [endT]) (Ev.now _)))
theorem awake13 : Ev (fun k => lustrumlaw13_awake.f k) true := by
  have hT := pTx_f l13 wf_l13 (by have := (sane_rt sane_l13).1; omega)
  have e : txV l13 = [91, 49, 57, 56, 52, 63, 126, 44, 32, 46, 46, 47, 49, 57, 88, 52, 93] := by unfold txV; rw [if_pos sane_l13, tx_l13]
  rw [e] at hT
  exact Ev.bind first13 (Ev.bind second13 (Ev.bind third13 (Ev.ift rfl (Ev.ift rfl (Ev.bind hT (Ev.ift (bA_toList _) (Ev.ift rfl (Ev.ift rfl (Ev.ift rfl (Ev.now _))))))))))
theorem eqA23 (d : Nat) (w : World) (x0 y0 : Int) (x1 y1 : ByteArray) (x2 y2 : ByteArray) (x3 y3 : ByteArray) :
  (Op.equalIn (d + 2) 24 (.agg #[.int .i64 x0, .string x1, .string x2, .string x3]) (.agg #[.int .i64 y0, .string y1, .string y2, .string y3])).run Tryz.prog w = .ok (x0 == y0 && (x1.toList == y1.toList && (x2.toList == y2.toList && (x3.toList == y3.toList)))) w := by
 refine eqA_of Tryz.underlying24 (by kernel_rfl) ?_; refine eqf_cons (by rfl) (by go_simp; rfl) (by go_simp; rfl) (by go_simp) ?_; refine eqf_cons (by rfl) (by go_simp; rfl) (by go_simp; rfl) (by go_simp) ?_; refine eqf_cons (by rfl) (by go_simp; rfl) (by go_simp; rfl) (by go_simp) ?_; exact eqf_last (by rfl) (by go_simp; rfl) (by go_simp; rfl) (by go_simp)
end Go.Proofs.YtjgjhekpiijniaaGreat.A
namespace Go.Proofs.YtjgjhekpiijniaaGreat.A
open Go.RowKit Go.Proofs.YtjgjhekpiijniaaGreatW.PrintWords Go.Proofs.YtjgjhekpiijniaaGreatW.PrintLast Go.Proofs.YtjgjhekpiijniaaGreatW.PrintMore
attribute [local go_sem] max2_int min2_int max_two min_two max_three min_three max_four min_four
attribute [local go_sem] isSome_setCell
set_option maxHeartbeats 8000000 in
set_option maxRecDepth 100000 in
theorem runs_Sane.calls (k : Nat) (A0 : Option Addr) (c0 : Nat) (l0 : List (S120)) (r : Bool) (w : World) (hr0 : Kd.C k120 w A0 l0.length l0) (hc0 : l0.length ≤ c0) (h : runs_Sane.f k l0 = some r) :
  Calls Tryz.prog 104 #[.slice A0 l0.length c0] w fun e w' => e = .returned (.bool r) ∧ Below w.heap.size w w' := by
 have hu120 := Tryz.underlying120; have HR0 := A_ hr0; have HC0 := A_ hc0; clear hr0 hc0; have HB := A_ (Below.refl w.heap.size w); have H : (runs_Sane.l0 k (-1099511627778) l0 (l0.length : Int) 0) = some r := h; clear h; have H' := A_ H; clear H; go_enter Tryz.func104, Tryz.ntmps104; go_wp2; go_loopg [3, 8] k (fun kq v3 v8 w' => ∃ (x3_1 : Int) (x8_1 : Int), v3 = .int .i64 x3_1 ∧ v8 = .int .i64 x8_1 ∧ Aside0 (runs_Sane.l0 kq x3_1 l0 (l0.length : Int) x8_1 = some r) ∧ Aside0 (kq ≤ k) ∧ Aside0 (Below w.heap.size w w'))
 case atStart => exact ⟨((-1099511627778)), (0), rf_, rf_, H', ⟨Nat.le_refl _⟩, ⟨hs_⟩⟩
 case round =>
  clear H'; obtain ⟨x3_1, x8_1, rfl, rfl, HA, HK1, HB⟩ := hrel
  cases gk with
  | zero => exact absurd HA.out (by simp [runs_Sane.l0])
  | succ k1 =>
   have H := HA.out; clear HA; simp only [runs_Sane.l0] at H
   by_cases c2 : x8_1 < (l0.length : Int)
   ·rw [if_pos c2] at H
    have c2b0 := decide_eq_true c2; clear c2
    by_cases c3 : 0 ≤ x8_1
    ·rw [if_pos c3] at H
     have c3b0 := decide_eq_true c3; clear c3
     by_cases c4 : x8_1 < (l0.length : Int)
     ·rw [if_pos c4] at H
      have c4b0 := decide_eq_true c4; clear c4
      by_cases c5 : ((rd_T120 l0 x8_1).f0) > ((rd_T120 l0 x8_1).f1)
      ·rw [if_pos c5] at H
       have c5b0 := decide_eq_true c5; clear c5; obtain rfl := Option.some.inj H; have p101 : 0 ≤ (x8_1 : Int) := od_; have q101 : x8_1 < (l0.length : Int) := od_; obtain ⟨ad101, e101, hx101_0, hx101_1⟩ := at_T120 HR0.out x8_1 p101 q101
       cases e101
       replace hx101_0 := cl_ HB hx101_0; replace hx101_1 := cl_ HB hx101_1; replace p101 := eq_true p101; replace q101 := eq_true q101; go_wp2_with (first | (refine gx_ w 5 #[.int .i64 0, .int .i64 0] 120 ?_; clear HB; intro gb102 w6 BK102 GE102 HB; have GW102 := GE102; have Z7 := bz2_ BK102)); go_ret; exact ⟨re_, hs_⟩
      ·rw [if_neg c5] at H
       have c5b0 := decide_eq_false c5; clear c5
       by_cases c8 : ((rd_T120 l0 x8_1).f0) < (wrap64 (x3_1 + 2))
       ·rw [if_pos c8] at H
        have c8b0 := decide_eq_true c8; clear c8; obtain rfl := Option.some.inj H; have p101 : 0 ≤ (x8_1 : Int) := od_; have q101 : x8_1 < (l0.length : Int) := od_; obtain ⟨ad101, e101, hx101_0, hx101_1⟩ := at_T120 HR0.out x8_1 p101 q101
        cases e101
        replace hx101_0 := cl_ HB hx101_0; replace hx101_1 := cl_ HB hx101_1; replace p101 := eq_true p101; replace q101 := eq_true q101; go_wp2_with (first | (refine gx_ w 5 #[.int .i64 0, .int .i64 0] 120 ?_; clear HB; intro gb102 w9 BK102 GE102 HB; have GW102 := GE102; have Z10 := bz2_ BK102)); go_ret; exact ⟨re_, hs_⟩
       ·rw [if_neg c8] at H
        have c8b0 := decide_eq_false c8; clear c8
        by_cases c11 : ((rd_T120 l0 x8_1).f1) > 1099511627776
        ·rw [if_pos c11] at H
         have c11b0 := decide_eq_true c11; clear c11; obtain rfl := Option.some.inj H; have p101 : 0 ≤ (x8_1 : Int) := od_; have q101 : x8_1 < (l0.length : Int) := od_; obtain ⟨ad101, e101, hx101_0, hx101_1⟩ := at_T120 HR0.out x8_1 p101 q101
         cases e101
         replace hx101_0 := cl_ HB hx101_0; replace hx101_1 := cl_ HB hx101_1; replace p101 := eq_true p101; replace q101 := eq_true q101; go_wp2_with (first | (refine gx_ w 5 #[.int .i64 0, .int .i64 0] 120 ?_; clear HB; intro gb102 w12 BK102 GE102 HB; have GW102 := GE102; have Z13 := bz2_ BK102)); go_ret; exact ⟨re_, hs_⟩
        ·rw [if_neg c11] at H
         have c11b0 := decide_eq_false c11; clear c11; have H' := A_ H; clear H; have p101 : 0 ≤ (x8_1 : Int) := od_; have q101 : x8_1 < (l0.length : Int) := od_; obtain ⟨ad101, e101, hx101_0, hx101_1⟩ := at_T120 HR0.out x8_1 p101 q101
         cases e101
         replace hx101_0 := cl_ HB hx101_0; replace hx101_1 := cl_ HB hx101_1; replace p101 := eq_true p101; replace q101 := eq_true q101; go_wp2_with (first | (refine gx_ w 5 #[.int .i64 0, .int .i64 0] 120 ?_; clear HB; intro gb102 w14 BK102 GE102 HB; have GW102 := GE102; have Z15 := bz2_ BK102)); go_roundg k1
         case measure => have := HK1.out; omega
         case rel => exact ⟨((rd_T120 l0 x8_1).f1), (wrap64 (x8_1 + 1)), rf_, rf_, H', ⟨by have := HK1.out; omega⟩, ⟨hs_⟩⟩
     ·rw [if_neg c4] at H
      exact absurd H (by simp)
    ·rw [if_neg c3] at H
     exact absurd H (by simp)
   ·rw [if_neg c2] at H
    have c2b0 := decide_eq_false c2; clear c2; obtain rfl := Option.some.inj H; go_wp2; go_ret; exact ⟨re_, hs_⟩
theorem runs_Make.calls (A0 : Option Addr) (c0 : Nat) (l0 r : List S120) (w : World) (hr0 : Kd.C k120 w A0 l0.length l0) (hc0 : l0.length ≤ c0) (h : runs_Make.f l0 = some r) :
    Calls Tryz.prog 105 #[.slice A0 l0.length c0] w fun e w' => ∃ v0_ : Value, e = .returned (v0_) ∧ Kd.R k120 120 w' w.heap.size (fun _ => True) v0_ r ∧ Below w.heap.size w w' := by
  exact absurd h (by simp [runs_Make.f])
set_option maxHeartbeats 8000000 in
set_option maxRecDepth 100000 in
theorem sets_known.calls (k : Nat) (P0_ : Nat → Prop) (A0 : Option Addr) (c0 : Nat) (l0 r : List (S120)) (w : World) (hs0 : Kd.V k120 120 w w.heap.size (fun k_ => P0_ k_) (.slice A0 l0.length c0) l0) (h : sets_known.f k l0 = some r) :
  Calls Tryz.prog 100 #[.slice A0 l0.length c0] w fun e w' => ∃ v0_ : Value, e = .returned (v0_) ∧ Kd.V k120 120 w' w.heap.size (fun k_ => (P0_ k_ ∨ w.heap.size ≤ k_)) v0_ r ∧ Below w.heap.size w w' := by
 have HO0 := A_ (show Kd.V k120 120 w w.heap.size (fun k_ => (P0_ k_ ∨ w.heap.size ≤ k_)) (.slice A0 l0.length c0) l0 from Kd.V_mono hs0 (fun k_ hk => .inl hk)); have HB := A_ (Below.refl w.heap.size w); have H : ((runs_Sane.f k l0).bind fun t103 => (if t103 = true then (some l0) else ((runs_Make.f l0).bind fun t104 => (some t104)))) = some r := h; clear h; replace H := Option.bind_eq_some_iff.mp H; obtain ⟨t103, A20, H⟩ := H; replace H : (if t103 = true then (some l0) else ((runs_Make.f l0).bind fun t104 => (some t104))) = some r := H; have A2 := A_ A20; clear A20
 by_cases c3 : t103 = true
 ·subst c3
  replace H := iP_ H; obtain rfl := Option.some.inj H; go_enter Tryz.func100, Tryz.ntmps100; go_wp2_with (first | (refine gC 104 ?_; refine gL 4 Tryz.func104 #[.slice A0 l0.length c0] ?_; (with_reducible refine (runs_Sane.calls k _ _ l0 true _ ?side1 ?side2 A2.out).mono ?_); (case side1 => exact cr_ (Kd.V_reads' HO0.out).2.2); (case side2 => exact (Kd.V_reads' HO0.out).2.1); rintro e w4 ⟨rfl, hb⟩; refine ⟨_, rfl, ?_⟩; replace HO0 := bV_ HO0 hb; replace HB := bs_ hb; (try clear hb))); go_ret; exact ⟨_, by first | rfl | (simp [errW_none, errW_some] <;> rfl) | (simp [*, errW_none, errW_some] <;> rfl), fxV_ HO0.out, hs_⟩
 ·replace c3 := Bool.eq_false_iff.mpr c3
  subst c3; replace H := iN_ H; replace H := Option.bind_eq_some_iff.mp H; obtain ⟨t104, A50, H⟩ := H; replace H : (some t104) = some r := H; have A5 := A_ A50; clear A50; obtain rfl := Option.some.inj H; go_enter Tryz.func100, Tryz.ntmps100; go_wp2_with (first | (refine gC 104 ?_; refine gL 4 Tryz.func104 #[.slice A0 l0.length c0] ?_; (with_reducible refine (runs_Sane.calls k _ _ l0 false _ ?side1 ?side2 A2.out).mono ?_); (case side1 => exact cr_ (Kd.V_reads' HO0.out).2.2); (case side2 => exact (Kd.V_reads' HO0.out).2.1); rintro e w6 ⟨rfl, hb⟩; refine ⟨_, rfl, ?_⟩; replace HO0 := bV_ HO0 hb; replace HB := bs_ hb; (try clear hb)) | (refine gC 105 ?_; refine gL 7 Tryz.func105 #[.slice A0 l0.length c0] ?_; (with_reducible refine (runs_Make.calls _ _ l0 t104 _ ?side1 ?side2 A5.out).mono ?_); (case side1 => exact cr_ (Kd.V_reads' HO0.out).2.2); (case side2 => exact (Kd.V_reads' HO0.out).2.1); rintro e w7 ⟨v105, rfl, ho0, hb⟩; refine ⟨_, rfl, ?_⟩; replace HO0 := A_ (Kd.V_elder' (hrV_ HO0.out) (Kd.R_base ho0) hb); have HO106 := A_ (Kd.R_lower (Kd.R_newM (M := fun k_ => (w.heap.size ≤ k_)) ho0 (below_size hs_) (fun k_ h_ => h_)) (below_size hs_)); replace HB := bs_ hb; (try clear hb); (try clear ho0))); go_ret; exact ⟨_, by first | rfl | (simp [errW_none, errW_some] <;> rfl) | (simp [*, errW_none, errW_some] <;> rfl), Kd.V_mono (Kd.R_V (by (with_reducible repeat (first | apply Kd.R_alloc | apply Kd.R_drewN | apply Kd.R_drew)); exact Kd.R_mono HO106.out (fun _ hk => hk.1))) (fun k_ hk => by first | exact ⟨(.inr (hk.1)), hk.2⟩ | exact (.inr (hk))), hs_⟩
end Go.Proofs.YtjgjhekpiijniaaGreat.A