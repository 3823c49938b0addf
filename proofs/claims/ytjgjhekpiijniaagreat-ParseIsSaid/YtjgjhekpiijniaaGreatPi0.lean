/- Walks of functions, and plain facts about what they compute. No conditions. -/
import Derived.Test.YtjgjhekpiijniaaGreatPia
import Derived.Test.YtjgjhekpiijniaaGreatProg
import Derived.Lib.Bytealg
import Derived.Shelf.Strings.Builder1
import Derived.Shelf.Strings.Builder2
import Derived.Shelf.Strings.OnBuilder
import Derived.Shelf.Small.Strs
import Derived.Shelf.Strings.Search1
import Derived.Shelf.Strings.Prefix
import Derived.Lib.ItoaNum
import Derived.Lib.Join
import Derived.Laws.RangeAny
import Derived.LoopTactic
set_option linter.unusedVariables false
set_option linter.unusedSimpArgs false
namespace Go.Proofs.YtjgjhekpiijniaaGreat.A
open Go.RowKit Go.Proofs.YtjgjhekpiijniaaGreatW.PrintWords Go.Proofs.YtjgjhekpiijniaaGreatW.PrintLast Go.Proofs.YtjgjhekpiijniaaGreatW.PrintMore
attribute [local go_sem] max2_int min2_int max_two min_two max_three min_three max_four min_four
def errW : Option Int → Value
  | none => .nilIface
  | some c => .iface 0 (.int .i64 c)
theorem errW_none : errW none = .nilIface := rfl
theorem errW_some (c : Int) : errW (some c) = .iface 0 (.int .i64 c) := rfl
theorem info3 : (Tryz.prog.info? 3).map (fun i => (i.zero, i.size, i.bytes)) = some (some (.int .i64 0), 1, 8) := by kernel_rfl
theorem info27 : (Tryz.prog.info? 27).map (fun i => (i.zero, i.size, i.bytes)) = some (some (.agg #[(.int .i64 0), (.int .i64 0), (.string ⟨#[]⟩), (.string ⟨#[]⟩), (.string ⟨#[]⟩), (.bool false), (.bool false), (.slice none 0 0)]), 8, 96) := by kernel_rfl
theorem info120 : (Tryz.prog.info? 120).map (fun i => (i.zero, i.size, i.bytes)) = some (some (.agg #[(.int .i64 0), (.int .i64 0)]), 2, 16) := by kernel_rfl
structure S120 where
  f0 : Int
  f1 : Int
def z120 : S120 := ⟨(0 : Int), (0 : Int)⟩
def k120 : Kd S120 := Kd.iso (Kd.pair (Kd.int .i64) (Kd.int .i64)) (fun x : S120 => (x.f0, x.f1))
theorem k120_heap : Kd.Heap k120 := Kd.heap_iso _ (Kd.heap_pair (Kd.heap_int .i64) (Kd.heap_int .i64))
theorem k120_open {w : World} {x : S120} {cs : List Value} (h : k120.K w x cs) : cs = [.int .i64 x.f0, .int .i64 x.f1] := by
  obtain ⟨_, _, rfl, rfl, rfl⟩ := h
  exact rfl
theorem k120_mkM (w : World) (base : Nat) (ok : Nat → Prop) (x : S120)  : k120.M w base ok x [.int .i64 x.f0, .int .i64 x.f1] := ⟨[.int .i64 x.f0], [.int .i64 x.f1], rfl, rfl, rfl⟩
def rd_T120 (xs : List S120) (i : Int) : S120 := xs.getD i.toNat z120
theorem at_T120 {w : World} {A : Option Addr} {n : Nat} {xs : List S120} (h : Kd.C k120 w A n xs) (i : Int) (h0 : 0 ≤ i) (h1 : i < n) : ∃ ad , A = some ad ∧ w.cell? (ad.add (i.toNat * 2)) = some (.int .i64 (rd_T120 xs i).f0) ∧ w.cell? ⟨(ad.add (i.toNat * 2)).block, (ad.add (i.toNat * 2)).off + 1, none⟩ = some (.int .i64 (rd_T120 xs i).f1) := by
  obtain ⟨ad, c, e, _, hK, hc0⟩ := Kd.C_get h z120 i h0 h1
  have hc : ∀ j u, c[j]? = some u → w.cell? (ad.add (i.toNat * 2 + j)) = some u := hc0
  obtain rfl := k120_open hK
  exact ⟨ad, e, hc 0 _ rfl, by rw [← add_field _ _ 1 (by omega)]; exact hc 1 _ rfl⟩
structure S24 where
  f0 : Int
  f1 : ByteArray
  f2 : ByteArray
  f3 : ByteArray
def z24 : S24 := ⟨(0 : Int), (⟨#[]⟩ : ByteArray), (⟨#[]⟩ : ByteArray), (⟨#[]⟩ : ByteArray)⟩
def k24 : Kd S24 := Kd.iso (Kd.pair (Kd.int .i64) (Kd.pair Kd.string (Kd.pair Kd.string Kd.string))) (fun x : S24 => (x.f0, x.f1, x.f2, x.f3))
theorem k24_open {w : World} {x : S24} {cs : List Value} (h : k24.K w x cs) : cs = [.int .i64 x.f0, .string x.f1, .string x.f2, .string x.f3] := by
  obtain ⟨_, _, rfl, rfl, ⟨_, _, rfl, rfl, ⟨_, _, rfl, rfl, rfl⟩⟩⟩ := h
  exact rfl
theorem k24_mk (w : World) (x : S24)  : k24.K w x [.int .i64 x.f0, .string x.f1, .string x.f2, .string x.f3] := ⟨[.int .i64 x.f0], [.string x.f1, .string x.f2, .string x.f3], rfl, rfl, ⟨[.string x.f1], [.string x.f2, .string x.f3], rfl, rfl, ⟨[.string x.f2], [.string x.f3], rfl, rfl, rfl⟩⟩⟩
theorem k24_mkM (w : World) (base : Nat) (ok : Nat → Prop) (x : S24)  : k24.M w base ok x [.int .i64 x.f0, .string x.f1, .string x.f2, .string x.f3] := ⟨[.int .i64 x.f0], [.string x.f1, .string x.f2, .string x.f3], rfl, rfl, ⟨[.string x.f1], [.string x.f2, .string x.f3], rfl, rfl, ⟨[.string x.f2], [.string x.f3], rfl, rfl, rfl⟩⟩⟩
def rd_T24 (xs : List S24) (i : Int) : S24 := xs.getD i.toNat z24
theorem at_T24 {w : World} {A : Option Addr} {n : Nat} {xs : List S24} (h : Kd.C k24 w A n xs) (i : Int) (h0 : 0 ≤ i) (h1 : i < n) : ∃ ad , A = some ad ∧ w.cell? (ad.add (i.toNat * 4)) = some (.int .i64 (rd_T24 xs i).f0) ∧ w.cell? ⟨(ad.add (i.toNat * 4)).block, (ad.add (i.toNat * 4)).off + 1, none⟩ = some (.string (rd_T24 xs i).f1) ∧ w.cell? ⟨(ad.add (i.toNat * 4)).block, (ad.add (i.toNat * 4)).off + 2, none⟩ = some (.string (rd_T24 xs i).f2) ∧ w.cell? ⟨(ad.add (i.toNat * 4)).block, (ad.add (i.toNat * 4)).off + 3, none⟩ = some (.string (rd_T24 xs i).f3) := by
  obtain ⟨ad, c, e, _, hK, hc0⟩ := Kd.C_get h z24 i h0 h1
  have hc : ∀ j u, c[j]? = some u → w.cell? (ad.add (i.toNat * 4 + j)) = some u := hc0
  obtain rfl := k24_open hK
  exact ⟨ad, e, hc 0 _ rfl, by rw [← add_field _ _ 1 (by omega)]; exact hc 1 _ rfl, by rw [← add_field _ _ 2 (by omega)]; exact hc 2 _ rfl, by rw [← add_field _ _ 3 (by omega)]; exact hc 3 _ rfl⟩
structure S27 where
  f0 : Int
  f1 : S24
  f2 : Bool
  f3 : Bool
  f4 : (List S27)
def z27 : S27 := ⟨(0 : Int), z24, false, false, ([] : List S27)⟩
def F26 (d : Kd S27) : Kd S27 := Kd.iso (Kd.pair (Kd.int .i64) (Kd.pair k24 (Kd.pair Kd.bool (Kd.pair Kd.bool (Kd.slice 26 d))))) (fun x : S27 => (x.f0, x.f1, x.f2, x.f3, x.f4))
theorem mono26 : Kd.Mono F26 := Kd.mono_iso _ (Kd.mono_pair (Kd.mono_const _) (Kd.mono_pair (Kd.mono_const _) (Kd.mono_pair (Kd.mono_const _) (Kd.mono_pair (Kd.mono_const _) (Kd.mono_slice 26 Kd.mono_id)))))
theorem sub26 : Kd.Sub F26 [26] := Kd.sub_iso _ (Kd.sub_pair (Kd.sub_const _ (by decide)) (Kd.sub_pair (Kd.sub_const _ (by decide)) (Kd.sub_pair (Kd.sub_const _ (by decide)) (Kd.sub_pair (Kd.sub_const _ (by decide)) (Kd.sub_slice 26 (by decide) Kd.sub_id)))))
theorem sz26 : ∀ n, (Kd.upto F26 8 [26] n).sz = 8 := Kd.upto_sz (fun _ => rfl)
def k27 : Kd S27 := Kd.fix F26 8 [26] sz26 (Kd.upto_E sub26)
theorem k27_open {w : World} {x : S27} {cs : List Value} (h : k27.K w x cs) : ∃ A7 c7, cs = [.int .i64 x.f0, .int .i64 x.f1.f0, .string x.f1.f1, .string x.f1.f2, .string x.f1.f3, .bool x.f2, .bool x.f3, .slice A7 x.f4.length c7] ∧ x.f4.length ≤ c7 ∧ k27.C w A7 x.f4.length x.f4 := by
  obtain ⟨n, h⟩ := h
  cases n with
  | zero => exact h.elim
  | succ n =>
    obtain ⟨_, _, rfl, rfl, ⟨_, _, rfl, s1, ⟨_, _, rfl, rfl, ⟨_, _, rfl, rfl, ⟨A7, c7, rfl, l7, g7⟩⟩⟩⟩⟩ := h
    obtain rfl := k24_open s1
    exact ⟨A7, c7, rfl, l7, Kd.fix_C g7⟩
theorem k27_mk (w : World) (x : S27) {A7 : Option Addr} {c7 : Nat} (l7 : x.f4.length ≤ c7) (g7 : k27.C w A7 x.f4.length x.f4) : k27.K w x [.int .i64 x.f0, .int .i64 x.f1.f0, .string x.f1.f1, .string x.f1.f2, .string x.f1.f3, .bool x.f2, .bool x.f3, .slice A7 x.f4.length c7] := by
  obtain ⟨n7, q7⟩ := Kd.fix_C_back mono26 g7
  have r7 := Kd.upto_C_le mono26 sz26 (show n7 ≤ n7 by omega) q7
  exact ⟨n7 + 1, ⟨[.int .i64 x.f0], [.int .i64 x.f1.f0, .string x.f1.f1, .string x.f1.f2, .string x.f1.f3, .bool x.f2, .bool x.f3, .slice A7 x.f4.length c7], rfl, rfl, ⟨[.int .i64 x.f1.f0, .string x.f1.f1, .string x.f1.f2, .string x.f1.f3], [.bool x.f2, .bool x.f3, .slice A7 x.f4.length c7], rfl, (k24_mk w x.f1 ), ⟨[.bool x.f2], [.bool x.f3, .slice A7 x.f4.length c7], rfl, rfl, ⟨[.bool x.f3], [.slice A7 x.f4.length c7], rfl, rfl, ⟨A7, c7, rfl, l7, r7⟩⟩⟩⟩⟩⟩
theorem k27_mkF (W : World) (ok : Nat → Prop) (x : S27) {A7 : Option Addr} {c7 : Nat} (l7 : x.f4.length ≤ c7) (g7 : Kd.F k27 W ok A7 x.f4.length x.f4) : Kd.FK k27 W ok x [.int .i64 x.f0, .int .i64 x.f1.f0, .string x.f1.f1, .string x.f1.f2, .string x.f1.f3, .bool x.f2, .bool x.f3, .slice A7 x.f4.length c7] := fun W2 hW => k27_mk W2 x l7 (g7 W2 hW)
def rd_T27 (xs : List S27) (i : Int) : S27 := xs.getD i.toNat z27
theorem at_T27 {w : World} {A : Option Addr} {n : Nat} {xs : List S27} (h : Kd.C k27 w A n xs) (i : Int) (h0 : 0 ≤ i) (h1 : i < n) : ∃ ad A7 c7, A = some ad ∧ w.cell? (ad.add (i.toNat * 8)) = some (.int .i64 (rd_T27 xs i).f0) ∧ w.cell? ⟨(ad.add (i.toNat * 8)).block, (ad.add (i.toNat * 8)).off + 1, none⟩ = some (.int .i64 (rd_T27 xs i).f1.f0) ∧ w.cell? ⟨(ad.add (i.toNat * 8)).block, (ad.add (i.toNat * 8)).off + 2, none⟩ = some (.string (rd_T27 xs i).f1.f1) ∧ w.cell? ⟨(ad.add (i.toNat * 8)).block, (ad.add (i.toNat * 8)).off + 3, none⟩ = some (.string (rd_T27 xs i).f1.f2) ∧ w.cell? ⟨(ad.add (i.toNat * 8)).block, (ad.add (i.toNat * 8)).off + 4, none⟩ = some (.string (rd_T27 xs i).f1.f3) ∧ w.cell? ⟨(ad.add (i.toNat * 8)).block, (ad.add (i.toNat * 8)).off + 5, none⟩ = some (.bool (rd_T27 xs i).f2) ∧ w.cell? ⟨(ad.add (i.toNat * 8)).block, (ad.add (i.toNat * 8)).off + 6, none⟩ = some (.bool (rd_T27 xs i).f3) ∧ w.cell? ⟨(ad.add (i.toNat * 8)).block, (ad.add (i.toNat * 8)).off + 7, none⟩ = some (.slice A7 (rd_T27 xs i).f4.length c7) ∧ (rd_T27 xs i).f4.length ≤ c7 ∧ k27.C w A7 (rd_T27 xs i).f4.length (rd_T27 xs i).f4 := by
  obtain ⟨ad, c, e, _, hK, hc0⟩ := Kd.C_get h z27 i h0 h1
  have hc : ∀ j u, c[j]? = some u → w.cell? (ad.add (i.toNat * 8 + j)) = some u := hc0
  obtain ⟨A7, c7, rfl, l7, g7⟩ := k27_open hK
  exact ⟨ad, A7, c7, e, hc 0 _ rfl, by rw [← add_field _ _ 1 (by omega)]; exact hc 1 _ rfl, by rw [← add_field _ _ 2 (by omega)]; exact hc 2 _ rfl, by rw [← add_field _ _ 3 (by omega)]; exact hc 3 _ rfl, by rw [← add_field _ _ 4 (by omega)]; exact hc 4 _ rfl, by rw [← add_field _ _ 5 (by omega)]; exact hc 5 _ rfl, by rw [← add_field _ _ 6 (by omega)]; exact hc 6 _ rfl, by rw [← add_field _ _ 7 (by omega)]; exact hc 7 _ rfl, l7, g7⟩
theorem info46 : (Tryz.prog.info? 46).map (fun i => (i.zero, i.size, i.bytes)) = some (some (.agg #[(.int .i64 0), (.int .i64 0), (.string ⟨#[]⟩)]), 3, 32) := by kernel_rfl
structure S46 where
  f0 : Int
  f1 : Int
  f2 : ByteArray
def z46 : S46 := ⟨(0 : Int), (0 : Int), (⟨#[]⟩ : ByteArray)⟩
def k46 : Kd S46 := Kd.iso (Kd.pair (Kd.int .i64) (Kd.pair (Kd.int .i64) Kd.string)) (fun x : S46 => (x.f0, x.f1, x.f2))
theorem k46_open {w : World} {x : S46} {cs : List Value} (h : k46.K w x cs) : cs = [.int .i64 x.f0, .int .i64 x.f1, .string x.f2] := by
  obtain ⟨_, _, rfl, rfl, ⟨_, _, rfl, rfl, rfl⟩⟩ := h
  exact rfl
theorem k46_mkM (w : World) (base : Nat) (ok : Nat → Prop) (x : S46)  : k46.M w base ok x [.int .i64 x.f0, .int .i64 x.f1, .string x.f2] := ⟨[.int .i64 x.f0], [.int .i64 x.f1, .string x.f2], rfl, rfl, ⟨[.int .i64 x.f1], [.string x.f2], rfl, rfl, rfl⟩⟩
def rd_T46 (xs : List S46) (i : Int) : S46 := xs.getD i.toNat z46
theorem at_T46 {w : World} {A : Option Addr} {n : Nat} {xs : List S46} (h : Kd.C k46 w A n xs) (i : Int) (h0 : 0 ≤ i) (h1 : i < n) : ∃ ad , A = some ad ∧ w.cell? (ad.add (i.toNat * 3)) = some (.int .i64 (rd_T46 xs i).f0) ∧ w.cell? ⟨(ad.add (i.toNat * 3)).block, (ad.add (i.toNat * 3)).off + 1, none⟩ = some (.int .i64 (rd_T46 xs i).f1) ∧ w.cell? ⟨(ad.add (i.toNat * 3)).block, (ad.add (i.toNat * 3)).off + 2, none⟩ = some (.string (rd_T46 xs i).f2) := by
  obtain ⟨ad, c, e, _, hK, hc0⟩ := Kd.C_get h z46 i h0 h1
  have hc : ∀ j u, c[j]? = some u → w.cell? (ad.add (i.toNat * 3 + j)) = some u := hc0
  obtain rfl := k46_open hK
  exact ⟨ad, e, hc 0 _ rfl, by rw [← add_field _ _ 1 (by omega)]; exact hc 1 _ rfl, by rw [← add_field _ _ 2 (by omega)]; exact hc 2 _ rfl⟩
mutual
def slices_EqualFunc.l0 : Nat → List (S27) → List (S27) → Int → Int → Option (Bool)
  | 0, _, _, _, _ => none
  | k + 1, x1, x15, x16, x17 => if x17 < x16 then (if 0 ≤ x17 then (if x17 < (x15.length : Int) then (if x17 < (x1.length : Int) then ((tree_Same.f k ((rd_T27 x15 x17).f0) ((rd_T27 x15 x17).f1.f0) ((rd_T27 x15 x17).f1.f1) ((rd_T27 x15 x17).f1.f2) ((rd_T27 x15 x17).f1.f3) ((rd_T27 x15 x17).f2) ((rd_T27 x15 x17).f3) ((rd_T27 x15 x17).f4) ((rd_T27 x1 x17).f0) ((rd_T27 x1 x17).f1.f0) ((rd_T27 x1 x17).f1.f1) ((rd_T27 x1 x17).f1.f2) ((rd_T27 x1 x17).f1.f3) ((rd_T27 x1 x17).f2) ((rd_T27 x1 x17).f3) ((rd_T27 x1 x17).f4)).bind fun t105 => (if t105 = true then (slices_EqualFunc.l0 k x1 x15 x16 (wrap64 (x17 + 1))) else (some false))) else (none)) else (none)) else (none)) else (some true)
def tree_Same.f : Nat → Int → Int → ByteArray → ByteArray → ByteArray → Bool → Bool → List (S27) → Int → Int → ByteArray → ByteArray → ByteArray → Bool → Bool → List (S27) → Option (Bool)
  | 0, _, _, _, _, _, _, _, _, _, _, _, _, _, _, _, _ => none
  | k + 1, a0_0, a0_1, a0_2, a0_3, a0_4, a0_5, a0_6, l0_7, a1_0, a1_1, a1_2, a1_3, a1_4, a1_5, a1_6, l1_7 => if a0_0 = a1_0 then (if (a0_1 == a1_1 && (a0_2.toList == a1_2.toList && (a0_3.toList == a1_3.toList && (a0_4.toList == a1_4.toList)))) = true then (if (a0_5 == a1_5) = true then (if (a0_6 == a1_6) = true then ((if (l0_7.length : Int) = (l1_7.length : Int) then (slices_EqualFunc.l0 k l1_7 l0_7 (l0_7.length : Int) 0) else (some false)).bind fun t103 => (some t103)) else (some false)) else (some false)) else (some false)) else (some false)
end
def slices_EqualFunc.f (k : Nat) (l0 : List (S27)) (l1 : List (S27))  : Option (Bool) := if (l0.length : Int) = (l1.length : Int) then (slices_EqualFunc.l0 k l1 l0 (l0.length : Int) 0) else (some false)
theorem tree_Same.f_succ (k : Nat) (a0_0 : Int) (a0_1 : Int) (a0_2 : ByteArray) (a0_3 : ByteArray) (a0_4 : ByteArray) (a0_5 : Bool) (a0_6 : Bool) (l0_7 : List (S27)) (a1_0 : Int) (a1_1 : Int) (a1_2 : ByteArray) (a1_3 : ByteArray) (a1_4 : ByteArray) (a1_5 : Bool) (a1_6 : Bool) (l1_7 : List (S27)) : tree_Same.f (k + 1) a0_0 a0_1 a0_2 a0_3 a0_4 a0_5 a0_6 l0_7 a1_0 a1_1 a1_2 a1_3 a1_4 a1_5 a1_6 l1_7 = if a0_0 = a1_0 then (if (a0_1 == a1_1 && (a0_2.toList == a1_2.toList && (a0_3.toList == a1_3.toList && (a0_4.toList == a1_4.toList)))) = true then (if (a0_5 == a1_5) = true then (if (a0_6 == a1_6) = true then ((slices_EqualFunc.f k l0_7 l1_7).bind fun t103 => (some t103)) else (some false)) else (some false)) else (some false)) else (some false) := by
  rw [tree_Same.f]
  rfl
def stringslite_HasSuffix.f (a0 : ByteArray) (a1 : ByteArray) : Option (Bool) := if (a0.size : Int) ≥ (a1.size : Int) then (if 0 ≤ (wrap64 ((a0.size : Int) - (a1.size : Int))) then (if (wrap64 ((a0.size : Int) - (a1.size : Int))) ≤ (a0.size : Int) then (some ((a0.extract ((wrap64 ((a0.size : Int) - (a1.size : Int))) : Int).toNat a0.size).toList == a1.toList)) else (none)) else (none)) else (some false)
def stringslite_CutSuffix.f (a0 : ByteArray) (a1 : ByteArray) : Option (ByteArray × Bool) := (stringslite_HasSuffix.f a0 a1).bind fun t101 => (if t101 = true then (if 0 ≤ (wrap64 ((a0.size : Int) - (a1.size : Int))) then (if (wrap64 ((a0.size : Int) - (a1.size : Int))) ≤ (a0.size : Int) then (some (a0.extract 0 ((wrap64 ((a0.size : Int) - (a1.size : Int))) : Int).toNat, true)) else (none)) else (none)) else (some (a0, false)))
def strings_CutSuffix.f (a0 : ByteArray) (a1 : ByteArray) : Option (ByteArray × Bool) := (stringslite_CutSuffix.f a0 a1).bind fun bt102 => (some (bt102.1, bt102.2))
def signK (c : Int) : Int := if c = 47 then 1 else if c = 42 then 3 else if c = 91 then 4 else if c = 93 then 5 else if c = 44 then 6 else if c = 63 then 7 else if c = 126 then 8 else 0
def signB (c : Int) : Bool := decide (c = 47 ∨ c = 42 ∨ c = 91 ∨ c = 93 ∨ c = 44 ∨ c = 63 ∨ c = 126)
def lex_signs.f (c : Int) : Option (Int × Bool) := some (signK c, signB c)
def strings_IndexByte.f (s : ByteArray) (c : Int) : Option Int := some (Lib.indexByte s.data.toList c.toNat.toUInt8)
end Go.Proofs.YtjgjhekpiijniaaGreat.A
namespace Go.Proofs
open Go.Shelf
def Tryz.lays156_ren : Go.Shelf.Ren := ⟨fun | 156 => 50 | 165 => 66 | 166 => 67 | 169 => 68 | 240 => 77 | 241 => 78 | 276 => 86 | 277 => 87 | n => n, fun | 31 => 77 | 9 => 9 | 3 => 3 | 4 => 4 | 0 => 0 | 20 => 20 | 72 => 97 | 76 => 101 | 70 => 94 | 37 => 95 | 75 => 100 | 127 => 107 | 164 => 112 | 5 => 5 | 80 => 84 | n => n, fun | n => n⟩
theorem Tryz.lays156 : Go.Proofs.Lays.n156 Tryz.prog Tryz.lays156_ren := {
  mixed := by kernel_rfl
  f156 := Tryz.func50.trans (congrArg some (by kernel_rfl))
  f165 := Tryz.func66.trans (congrArg some (by kernel_rfl))
  f166 := Tryz.func67.trans (congrArg some (by kernel_rfl))
  f169 := Tryz.func68.trans (congrArg some (by kernel_rfl))
  f240 := Tryz.func77.trans (congrArg some (by kernel_rfl))
  f241 := Tryz.func78.trans (congrArg some (by kernel_rfl))
  f276 := Tryz.func86.trans (congrArg some (by kernel_rfl))
  f277 := Tryz.func87.trans (congrArg some (by kernel_rfl))
  t0 := Tryz.underlying0
  a0 := Tryz.isAgg0
  z0 := Tryz.sizeOf0
  v0 := Tryz.zeroValue0
  t3 := Tryz.underlying3
  a3 := Tryz.isAgg3
  z3 := Tryz.sizeOf3
  v3 := Tryz.zeroValue3
  t4 := Tryz.underlying4
  a4 := Tryz.isAgg4
  z4 := Tryz.sizeOf4
  v4 := Tryz.zeroValue4
  t9 := Tryz.underlying9
  a9 := Tryz.isAgg9
  z9 := Tryz.sizeOf9
  v9 := Tryz.zeroValue9
  t20 := Tryz.underlying20
  a20 := Tryz.isAgg20
  z20 := Tryz.sizeOf20
  v20 := Tryz.zeroValue20
  t31 := Tryz.underlying77
  a31 := Tryz.isAgg77
  z31 := Tryz.sizeOf77
  v31 := Tryz.zeroValue77
  t37 := Tryz.underlying95
  a37 := Tryz.isAgg95
  z37 := Tryz.sizeOf95
  v37 := Tryz.zeroValue95
  t70 := Tryz.underlying94
  a70 := Tryz.isAgg94
  z70 := Tryz.sizeOf94
  v70 := Tryz.zeroValue94
  t72 := Tryz.underlying97
  a72 := Tryz.isAgg97
  z72 := Tryz.sizeOf97
  v72 := Tryz.zeroValue97
  t75 := Tryz.underlying100
  a75 := Tryz.isAgg100
  z75 := Tryz.sizeOf100
  v75 := Tryz.zeroValue100
  t76 := Tryz.underlying101
  a76 := Tryz.isAgg101
  z76 := Tryz.sizeOf101
  v76 := Tryz.zeroValue101
  t127 := Tryz.underlying107
  a127 := Tryz.isAgg107
  z127 := Tryz.sizeOf107
  v127 := Tryz.zeroValue107
  t164 := Tryz.underlying112
  a164 := Tryz.isAgg112
  z164 := Tryz.sizeOf112
  v164 := Tryz.zeroValue112 }
theorem Tryz.Builder_Extra_156 : Builder.Extra Tryz.prog Tryz.lays156_ren := {
  sizeBuilder := by kernel_rfl
  liesBuilder := by kernel_rfl
  t5 := Tryz.underlying5
  a5 := Tryz.isAgg5
  z5 := Tryz.sizeOf5
  v5 := Tryz.zeroValue5
  infoByte := by kernel_rfl
  cellsByte := by kernel_rfl
  sizeByte := by kernel_rfl
  neB5 := by decide }
open Go.RowKit in
theorem Tryz.strings_Join_none (a : Option Addr) (c : Nat) (sep : ByteArray) (w : World) :
    Calls Tryz.prog 50 #[.slice a 0 c, .string sep] w fun e w' => e = .returned (.string ⟨#[]⟩) ∧ w' = w := Any.strings_Join_none Tryz.lays156 Tryz.Builder_Extra_156 a c sep w
open Go.RowKit in
theorem Tryz.strings_Join (bk o c : Nat) (xs : List ByteArray) (sep : ByteArray) (w : World) (hcells : ∀ (j : Nat) x, xs[j]? = some x → w.cell? ⟨bk, o + j, none⟩ = some (.string x)) (hbk : bk < w.heap.size) (hN : xs.length ≤ 140737488355328) (hcap : xs.length ≤ c) (hlen : (Lib.join (xs.map (·.data.toList)) sep.data.toList).length ≤ 140737488355328) :
    Calls Tryz.prog 50 #[.slice (some ⟨bk, o, none⟩) xs.length c, .string sep] w fun e w' => e = .returned (.string ⟨(Lib.join (xs.map (·.data.toList)) sep.data.toList).toArray⟩) ∧ Below w.heap.size w w' := Any.strings_Join Tryz.lays156 Tryz.Builder_Extra_156 bk o c xs sep w hcells hbk hN hcap hlen
def Tryz.lays137_ren : Go.Shelf.Ren := ⟨fun | 137 => 54 | 217 => 69 | 266 => 79 | n => n, fun | 9 => 9 | 5 => 5 | 3 => 3 | n => n, fun | n => n⟩
theorem Tryz.lays137 : Go.Proofs.Lays.n137 Tryz.prog Tryz.lays137_ren := {
  mixed := by kernel_rfl
  f137 := Tryz.func54.trans (congrArg some (by kernel_rfl))
  f217 := Tryz.func69.trans (congrArg some (by kernel_rfl))
  f266 := Tryz.func79.trans (congrArg some (by kernel_rfl))
  t3 := Tryz.underlying3
  a3 := Tryz.isAgg3
  z3 := Tryz.sizeOf3
  v3 := Tryz.zeroValue3
  t5 := Tryz.underlying5
  a5 := Tryz.isAgg5
  z5 := Tryz.sizeOf5
  v5 := Tryz.zeroValue5
  t9 := Tryz.underlying9
  a9 := Tryz.isAgg9
  z9 := Tryz.sizeOf9
  v9 := Tryz.zeroValue9 }
open Go.RowKit in
theorem Tryz.strings_IndexByte (s : ByteArray) (c : Int) (w : World) :
    Calls Tryz.prog 54 #[.string s, .int .u8 c] w fun e w' => e = .returned (.int .i64 (Lib.indexByte s.data.toList c.toNat.toUInt8)) ∧ w' = w := Any.strings_IndexByte Tryz.lays137 s c w
def Tryz.lays217_ren : Go.Shelf.Ren := ⟨fun | 217 => 69 | 266 => 79 | n => n, fun | 9 => 9 | 5 => 5 | 3 => 3 | n => n, fun | n => n⟩
theorem Tryz.lays217 : Go.Proofs.Lays.n217 Tryz.prog Tryz.lays217_ren := {
  mixed := by kernel_rfl
  f217 := Tryz.func69.trans (congrArg some (by kernel_rfl))
  f266 := Tryz.func79.trans (congrArg some (by kernel_rfl))
  t3 := Tryz.underlying3
  a3 := Tryz.isAgg3
  z3 := Tryz.sizeOf3
  v3 := Tryz.zeroValue3
  t5 := Tryz.underlying5
  a5 := Tryz.isAgg5
  z5 := Tryz.sizeOf5
  v5 := Tryz.zeroValue5
  t9 := Tryz.underlying9
  a9 := Tryz.isAgg9
  z9 := Tryz.sizeOf9
  v9 := Tryz.zeroValue9 }
open Go.RowKit Go.Lib in
theorem Tryz.stringslite_IndexByte (s : ByteArray) (c : Int) (w : World) :
    Calls Tryz.prog 69 #[.string s, .int .u8 c] w fun e w' => e = .returned (.int .i64 (Lib.indexByte s.data.toList c.toNat.toUInt8)) ∧ w' = w := Any.stringslite_IndexByte Tryz.lays217 s c w
def Tryz.lays206_ren : Go.Shelf.Ren := ⟨fun | 206 => 55 | n => n, fun | 9 => 9 | 4 => 4 | 3 => 3 | n => n, fun | n => n⟩
theorem Tryz.lays206 : Go.Proofs.Lays.n206 Tryz.prog Tryz.lays206_ren := {
  mixed := by kernel_rfl
  f206 := Tryz.func55.trans (congrArg some (by kernel_rfl))
  t3 := Tryz.underlying3
  a3 := Tryz.isAgg3
  z3 := Tryz.sizeOf3
  v3 := Tryz.zeroValue3
  t4 := Tryz.underlying4
  a4 := Tryz.isAgg4
  z4 := Tryz.sizeOf4
  v4 := Tryz.zeroValue4
  t9 := Tryz.underlying9
  a9 := Tryz.isAgg9
  z9 := Tryz.sizeOf9
  v9 := Tryz.zeroValue9 }
open Go.RowKit Go.Lib in
theorem Tryz.stringslite_HasPrefix (s p : ByteArray) (w : World) :
    Calls Tryz.prog 55 #[.string s, .string p] w fun e w' => e = .returned (.bool (Lib.hasPrefix s.data.toList p.data.toList)) ∧ w' = w := Any.stringslite_HasPrefix Tryz.lays206 s p w
def Tryz.lays99_ren : Go.Shelf.Ren := ⟨fun | 99 => 37 | 206 => 55 | n => n, fun | 9 => 9 | 4 => 4 | 3 => 3 | n => n, fun | n => n⟩
theorem Tryz.lays99 : Go.Proofs.Lays.n99 Tryz.prog Tryz.lays99_ren := {
  mixed := by kernel_rfl
  f99 := Tryz.func37.trans (congrArg some (by kernel_rfl))
  f206 := Tryz.func55.trans (congrArg some (by kernel_rfl))
  t3 := Tryz.underlying3
  a3 := Tryz.isAgg3
  z3 := Tryz.sizeOf3
  v3 := Tryz.zeroValue3
  t4 := Tryz.underlying4
  a4 := Tryz.isAgg4
  z4 := Tryz.sizeOf4
  v4 := Tryz.zeroValue4
  t9 := Tryz.underlying9
  a9 := Tryz.isAgg9
  z9 := Tryz.sizeOf9
  v9 := Tryz.zeroValue9 }
open Go.RowKit Go.Lib in
theorem Tryz.strings_HasPrefix (s p : ByteArray) (w : World) :
    Calls Tryz.prog 37 #[.string s, .string p] w fun e w' => e = .returned (.bool (Lib.hasPrefix s.data.toList p.data.toList)) ∧ w' = w := Any.strings_HasPrefix Tryz.lays99 s p w
end Go.Proofs
namespace Go.Proofs.YtjgjhekpiijniaaGreat.A
open Go.RowKit Go.Proofs.YtjgjhekpiijniaaGreatW.PrintWords Go.Proofs.YtjgjhekpiijniaaGreatW.PrintLast Go.Proofs.YtjgjhekpiijniaaGreatW.PrintMore
def stringslite_Index.f (s u : ByteArray) : Option Int := if u.size = 1 then some (Lib.indexByte s.data.toList (bt u 0).toNat.toUInt8) else none
set_option maxHeartbeats 8000000 in
set_option maxRecDepth 100000 in
theorem stringslite_Index.calls (a0 a1 : ByteArray) (r : Int) (w : World) (h : stringslite_Index.f a0 a1 = some r) :
    Calls Tryz.prog 102 #[.string a0, .string a1] w fun e w' => e = .returned (.int .i64 r) ∧ Drawn0 w w' := by
  unfold stringslite_Index.f at h
  by_cases c : a1.size = 1
  · rw [if_pos c] at h
    obtain rfl := Option.some.inj h
    have c1 : ((a1.size : Int) == 0) = false := by rw [c]; rfl
    have c2 : ((a1.size : Int) == 1) = true := by rw [c]; rfl
    have q1 : (0 < a1.size) = True := eq_true (by omega)
    have hx := bt_at a1 0
    have C := A_ c
    clear h c
    by_cases e : (a1.toList == a0.toList) = true
    · have hr : Lib.indexByte a0.data.toList (bt a1 0).toNat.toUInt8 = 0 := by
        have e1 : a1.data.toList = a0.data.toList := by rw [← ByteArray.toList_eq, ← ByteArray.toList_eq]; exact beq_iff_eq.1 e
        have l1 : a1.data.toList.length = 1 := by rw [data_length]; exact C.out
        rw [← e1]
        obtain ⟨d, hd⟩ := List.length_eq_one_iff.1 l1
        have hb : (bt a1 0).toNat.toUInt8 = d := by
          have := hx (by have := C.out; simp; omega)
          have h2 : (a1[(0 : Int).toNat]'(by have := C.out; simp; omega)) = d := by
            show a1.data[0]'_ = d
            have : a1.data.toList[0]'(by omega) = d := by simp [hd]
            rw [← this]; simp
          rw [← this, h2]
          simp
        rw [hb, hd]
        simp [Lib.indexByte]
      rw [hr]
      have HR := A_ hr
      clear hr hx
      go_enter Tryz.func102, Tryz.ntmps102
      go_wp2
      go_ret
      exact ⟨rfl, Drawn0.refl _⟩
    · have e0 := Bool.eq_false_iff.2 e
      clear e
      have hy : ∀ h : 0 < a1.size, ((a1[0]'h).toNat : Int) = bt a1 0 := hx
      clear hx
      go_enter Tryz.func102, Tryz.ntmps102
      go_wp2_with (first | (go_at_call 69; (with_reducible refine (Tryz.stringslite_IndexByte a0 (bt a1 0) _).mono ?_); rintro e w' ⟨rfl, rfl⟩))
      go_ret
      exact ⟨rfl, Drawn0.refl _⟩
  · rw [if_neg c] at h
    cases h
end Go.Proofs.YtjgjhekpiijniaaGreat.A
namespace Go.Proofs.YtjgjhekpiijniaaGreat.A
open Go.RowKit Go.Proofs.YtjgjhekpiijniaaGreatW.PrintWords Go.Proofs.YtjgjhekpiijniaaGreatW.PrintLast Go.Proofs.YtjgjhekpiijniaaGreatW.PrintMore
attribute [local go_sem] max2_int min2_int max_two min_two max_three min_three max_four min_four
def stringslite_Cut.f (a0 : ByteArray) (a1 : ByteArray) : Option (ByteArray × ByteArray × Bool) := (stringslite_Index.f a0 a1).bind fun t104 => (if t104 ≥ 0 then (if 0 ≤ t104 then (if t104 ≤ (a0.size : Int) then (if 0 ≤ (wrap64 (t104 + (a1.size : Int))) then (if (wrap64 (t104 + (a1.size : Int))) ≤ (a0.size : Int) then (some (a0.extract 0 (t104 : Int).toNat, a0.extract ((wrap64 (t104 + (a1.size : Int))) : Int).toNat a0.size, true)) else (none)) else (none)) else (none)) else (none)) else (some (a0, (⟨#[]⟩ : ByteArray), false)))
def strings_Cut.f (a0 : ByteArray) (a1 : ByteArray) : Option (ByteArray × ByteArray × Bool) := (stringslite_Cut.f a0 a1).bind fun bt105 => (some (bt105.1, bt105.2.1, bt105.2.2))
def point_guess.f (a0 : ByteArray) : Option (Int × ByteArray × ByteArray × ByteArray) := (strings_CutSuffix.f a0 (⟨#[100]⟩ : ByteArray)).bind fun bt109 => (if bt109.2 = true then (some (4, bt109.1, (⟨#[]⟩ : ByteArray), (⟨#[]⟩ : ByteArray))) else ((strings_CutSuffix.f a0 (⟨#[99]⟩ : ByteArray)).bind fun bt111 => (if bt111.2 = true then (some (5, bt111.1, (⟨#[]⟩ : ByteArray), (⟨#[]⟩ : ByteArray))) else ((strings_Cut.f a0 (⟨#[115]⟩ : ByteArray)).bind fun bt113 => (if bt113.2.2 = true then (some (2, bt113.1, bt113.2.1, (⟨#[]⟩ : ByteArray))) else ((strings_Cut.f a0 (⟨#[45]⟩ : ByteArray)).bind fun bt116 => (if bt116.2.2 = true then ((strings_Cut.f bt116.2.1 (⟨#[45]⟩ : ByteArray)).bind fun bt119 => (if bt119.2.2 = true then (some (0, bt116.1, bt119.1, bt119.2.1)) else (some (1, bt116.1, bt116.2.1, (⟨#[]⟩ : ByteArray))))) else (some (3, a0, (⟨#[]⟩ : ByteArray), (⟨#[]⟩ : ByteArray))))))))))
def runs_Sane.l0 : Nat → Int → List (S120) → Int → Int → Option (Bool)
  | 0, _, _, _, _ => none
  | k + 1, x3, x6, x7, x8 => if x8 < x7 then (if 0 ≤ x8 then (if x8 < (x6.length : Int) then (if ((rd_T120 x6 x8).f0) > ((rd_T120 x6 x8).f1) then (some false) else (if ((rd_T120 x6 x8).f0) < (wrap64 (x3 + 2)) then (some false) else (if ((rd_T120 x6 x8).f1) > 1099511627776 then (some false) else (runs_Sane.l0 k ((rd_T120 x6 x8).f1) x6 x7 (wrap64 (x8 + 1)))))) else (none)) else (none)) else (some true)
def runs_Sane.f (k : Nat) (l0 : List (S120)) : Option (Bool) := runs_Sane.l0 k (-1099511627778) l0 (l0.length : Int) 0
theorem runs_Sane.mono_l : ∀ k, (∀ y0 y1 y2 y3, LeO (runs_Sane.l0 k y0 y1 y2 y3) (runs_Sane.l0 (k + 1) y0 y1 y2 y3))
  | 0 => fun _ _ _ _ r h => by simp [runs_Sane.l0] at h
  | k + 1 => by
    have ih0 := runs_Sane.mono_l k
    · intro y0 y1 y2 y3
      unfold runs_Sane.l0
      repeat' (with_reducible first | apply ih0 | exact LeO.refl _ | exact LeO.none _ | refine LeO.ite ?_ ?_ | refine LeO.bind ?_ fun _ => ?_)
theorem runs_Sane.mono : ∀ a0 k, LeO (runs_Sane.f k a0) (runs_Sane.f (k + 1) a0) := by
  intro a0 k
  have ih0 := runs_Sane.mono_l k
  unfold runs_Sane.f
  repeat' (with_reducible first | apply ih0 | exact LeO.refl _ | exact LeO.none _ | refine LeO.ite ?_ ?_ | refine LeO.bind ?_ fun _ => ?_)
def runs_Make.f (_ : List S120) : Option (List S120) := none
def sets_known.f (k : Nat) (l0 : List (S120)) : Option ((List (S120))) := (runs_Sane.f k l0).bind fun t103 => (if t103 = true then (some l0) else ((runs_Make.f l0).bind fun t104 => (some t104)))
theorem sets_known.mono : ∀ a0 k, LeO (sets_known.f k a0) (sets_known.f (k + 1) a0) := by
  intro a0 k
  unfold sets_known.f
  repeat' (with_reducible first | apply runs_Sane.mono | exact LeO.refl _ | exact LeO.none _ | refine LeO.ite ?_ ?_ | refine LeO.bind ?_ fun _ => ?_)
mutual
def sets_Meet.l0 : Nat → List (S120) → List (S120) → List (S120) → Int → Int → Option ((List (S120)))
  | 0, _, _, _, _, _ => none
  | k + 1, x0, x1, x5, x6, x7 => if x6 < (x0.length : Int) then (sets_Meet.j1 k x0 x1 x5 x6 x7 (decide (x7 < (x1.length : Int)))) else (sets_Meet.j1 k x0 x1 x5 x6 x7 false)
def sets_Meet.j1 : Nat → List (S120) → List (S120) → List (S120) → Int → Int → Bool → Option ((List (S120)))
  | 0, _, _, _, _, _, _ => none
  | k + 1, x0, x1, x5, x6, x7, x22 => if x22 = true then (if 0 ≤ x6 then (if x6 < (x0.length : Int) then (if 0 ≤ x7 then (if x7 < (x1.length : Int) then (if (mx ((rd_T120 x0 x6).f0) ((rd_T120 x1 x7).f0)) ≤ (mn ((rd_T120 x0 x6).f1) ((rd_T120 x1 x7).f1)) then (if x5.length < 8796093022208 then ((some (x5 ++ [(⟨mx ((rd_T120 x0 x6).f0) ((rd_T120 x1 x7).f0), mn ((rd_T120 x0 x6).f1) ((rd_T120 x1 x7).f1)⟩ : S120)] : List (S120))).bind fun y118 => (if ((rd_T120 x0 x6).f1) < ((rd_T120 x1 x7).f1) then (sets_Meet.l0 k x0 x1 y118 (wrap64 (x6 + 1)) x7) else (sets_Meet.l0 k x0 x1 y118 x6 (wrap64 (x7 + 1))))) else (none)) else (if ((rd_T120 x0 x6).f1) < ((rd_T120 x1 x7).f1) then (sets_Meet.l0 k x0 x1 x5 (wrap64 (x6 + 1)) x7) else (sets_Meet.l0 k x0 x1 x5 x6 (wrap64 (x7 + 1))))) else (none)) else (none)) else (none)) else (none)) else (some x5)
end
def sets_Meet.f (k : Nat) (l0 : List (S120)) (l1 : List (S120)) : Option ((List (S120))) := (sets_known.f k l0).bind fun t107 => ((sets_known.f k l1).bind fun t110 => (sets_Meet.l0 k t107 t110 ([] : List (S120)) 0 0))
theorem sets_Meet.mono_l : ∀ k, (∀ y0 y1 y2 y3 y4, LeO (sets_Meet.l0 k y0 y1 y2 y3 y4) (sets_Meet.l0 (k + 1) y0 y1 y2 y3 y4)) ∧ (∀ y0 y1 y2 y3 y4 y5, LeO (sets_Meet.j1 k y0 y1 y2 y3 y4 y5) (sets_Meet.j1 (k + 1) y0 y1 y2 y3 y4 y5))
  | 0 => ⟨fun _ _ _ _ _ r h => by simp [sets_Meet.l0] at h, fun _ _ _ _ _ _ r h => by simp [sets_Meet.j1] at h⟩
  | k + 1 => by
    obtain ⟨ih0, ih1⟩ := sets_Meet.mono_l k
    refine ⟨?_, ?_⟩
    · intro y0 y1 y2 y3 y4
      unfold sets_Meet.l0
      repeat' (with_reducible first | apply ih0 | apply ih1 | apply sets_known.mono | exact LeO.refl _ | exact LeO.none _ | refine LeO.ite ?_ ?_ | refine LeO.bind ?_ fun _ => ?_)
    · intro y0 y1 y2 y3 y4 y5
      unfold sets_Meet.j1
      repeat' (with_reducible first | apply ih0 | apply ih1 | apply sets_known.mono | exact LeO.refl _ | exact LeO.none _ | refine LeO.ite ?_ ?_ | refine LeO.bind ?_ fun _ => ?_)
theorem sets_Meet.mono : ∀ a0 a1 k, LeO (sets_Meet.f k a0 a1) (sets_Meet.f (k + 1) a0 a1) := by
  intro a0 a1 k
  obtain ⟨ih0, ih1⟩ := sets_Meet.mono_l k
  unfold sets_Meet.f
  repeat' (with_reducible first | apply ih0 | apply ih1 | apply sets_known.mono | exact LeO.refl _ | exact LeO.none _ | refine LeO.ite ?_ ?_ | refine LeO.bind ?_ fun _ => ?_)
def sets_Clip.f (k : Nat) (l0 : List (S120)) (a1 : Int) (a2 : Int) : Option ((List (S120))) := (sets_Meet.f k l0 (([(⟨a1, a2⟩ : S120)] : List (S120)))).bind fun t128 => (some t128)
theorem sets_Clip.mono : ∀ a0 a1 a2 k, LeO (sets_Clip.f k a0 a1 a2) (sets_Clip.f (k + 1) a0 a1 a2) := by
  intro a0 a1 a2 k
  unfold sets_Clip.f
  repeat' (with_reducible first | apply sets_Meet.mono | exact LeO.refl _ | exact LeO.none _ | refine LeO.ite ?_ ?_ | refine LeO.bind ?_ fun _ => ?_)
def okB (c : UInt8) : Bool := decide (48 ≤ c.toNat ∧ c.toNat ≤ 57 ∨ c.toNat = 88)
def saneL (l : List UInt8) : Bool := l.all okB && decide (l ≠ []) && decide (l.length ≤ 4)
def mask_Sane.f (s : ByteArray) : Option Bool := some (saneL s.data.toList)
def upto (lo : Int) : Nat → List Int
  | 0 => []
  | n + 1 => lo :: upto (lo + 1) n
def stepR (c : UInt8) (r : S120) : List S120 := if c.toNat = 88 then [⟨r.f0 * 10, r.f1 * 10 + 9⟩] else (upto r.f0 (r.f1 + 1 - r.f0).toNat).map fun n => ⟨n * 10 + ((c.toNat : Int) - 48), n * 10 + ((c.toNat : Int) - 48)⟩
def setL : List UInt8 → List S120 → List S120
  | [], out => out
  | c :: l, out => setL l (out.flatMap (stepR c))
def mask_Set.f (s : ByteArray) : Option (List S120) := some (if saneL s.data.toList = true then setL s.data.toList [⟨0, 0⟩] else [])
mutual
def point_numbers.l0 : Nat → List Int → List (S120) → Int → Int → Option (List Int)
  | 0, _, _, _, _ => none
  | k + 1, x5, x12, x13, x14 => if x14 < x13 then (if 0 ≤ x14 then (if x14 < (x12.length : Int) then (point_numbers.l1 k x5 ((rd_T120 x12 x14).f0) x12 x13 x14 ((rd_T120 x12 x14).f0) ((rd_T120 x12 x14).f1)) else (none)) else (none)) else (some x5)
def point_numbers.l1 : Nat → List Int → Int → List (S120) → Int → Int → Int → Int → Option (List Int)
  | 0, _, _, _, _, _, _, _ => none
  | k + 1, x5, x8, x12, x13, x14, x139000, x139001 => if x8 ≤ x139001 then (if x5.length < 17592186044416 then (point_numbers.l1 k (x5 ++ [x8]) (wrap64 (x8 + 1)) x12 x13 x14 x139000 x139001) else (none)) else (point_numbers.l0 k x5 x12 x13 (wrap64 (x14 + 1)))
end
def point_numbers.f (k : Nat) (a0 : ByteArray) (a1 : Int) : Option (List Int) := (mask_Set.f a0).bind fun t131 => ((sets_Clip.f k t131 1 a1).bind fun t134 => (point_numbers.l0 k ([] : List Int) t134 (t134.length : Int) 0))
theorem point_numbers.mono_l : ∀ k, (∀ y0 y1 y2 y3, LeO (point_numbers.l0 k y0 y1 y2 y3) (point_numbers.l0 (k + 1) y0 y1 y2 y3)) ∧ (∀ y0 y1 y2 y3 y4 y5 y6, LeO (point_numbers.l1 k y0 y1 y2 y3 y4 y5 y6) (point_numbers.l1 (k + 1) y0 y1 y2 y3 y4 y5 y6))
  | 0 => ⟨fun _ _ _ _ r h => by simp [point_numbers.l0] at h, fun _ _ _ _ _ _ _ r h => by simp [point_numbers.l1] at h⟩
  | k + 1 => by
    obtain ⟨ih0, ih1⟩ := point_numbers.mono_l k
    refine ⟨?_, ?_⟩
    · intro y0 y1 y2 y3
      unfold point_numbers.l0
      repeat' (with_reducible first | apply ih0 | apply ih1 | apply sets_Clip.mono | exact LeO.refl _ | exact LeO.none _ | refine LeO.ite ?_ ?_ | refine LeO.bind ?_ fun _ => ?_)
    · intro y0 y1 y2 y3 y4 y5 y6
      unfold point_numbers.l1
      repeat' (with_reducible first | apply ih0 | apply ih1 | apply sets_Clip.mono | exact LeO.refl _ | exact LeO.none _ | refine LeO.ite ?_ ?_ | refine LeO.bind ?_ fun _ => ?_)
theorem point_numbers.mono : ∀ a0 a1 k, LeO (point_numbers.f k a0 a1) (point_numbers.f (k + 1) a0 a1) := by
  intro a0 a1 k
  obtain ⟨ih0, ih1⟩ := point_numbers.mono_l k
  unfold point_numbers.f
  repeat' (with_reducible first | apply ih0 | apply ih1 | apply sets_Clip.mono | exact LeO.refl _ | exact LeO.none _ | refine LeO.ite ?_ ?_ | refine LeO.bind ?_ fun _ => ?_)
def point_some.f (k : Nat) (a0 : ByteArray) (a1 : Int) (a2 : Int) : Option (Bool) := if (a0.size : Int) = a1 then ((point_numbers.f k a0 a2).bind fun t142 => (some (decide ((t142.length : Int) > 0)))) else (some false)
theorem point_some.mono : ∀ a0 a1 a2 k, LeO (point_some.f k a0 a1 a2) (point_some.f (k + 1) a0 a1 a2) := by
  intro a0 a1 a2 k
  unfold point_some.f
  repeat' (with_reducible first | apply point_numbers.mono | exact LeO.refl _ | exact LeO.none _ | refine LeO.ite ?_ ?_ | refine LeO.bind ?_ fun _ => ?_)
def point_Sane.j0 : Nat → Bool → Int → ByteArray → ByteArray → ByteArray → Option (Bool)
  | 0, _, _, _, _, _ => none
  | k + 1, x3, x146000, x146001, x146002, x146003 => if x146000 = 0 then (if (x146001.size : Int) = 4 then ((point_some.f k x146002 2 12).bind fun t147 => (if t147 = true then ((point_some.f k x146003 2 31).bind fun t148 => (some t148)) else (some false))) else (some false)) else (if x146000 = 1 then (if (x146001.size : Int) = 4 then ((point_some.f k x146002 2 12).bind fun t149 => (if t149 = true then (some (x146003.toList == ([] : List UInt8))) else (some false))) else (some false)) else (if x146000 = 2 then (if (x146001.size : Int) = 4 then ((point_some.f k x146002 1 4).bind fun t150 => (if t150 = true then (some (x146003.toList == ([] : List UInt8))) else (some false))) else (some false)) else (if x146000 = 3 then (if (x146001.size : Int) = 4 then (some x3) else (some false)) else (if x146000 = 4 then (if (x146001.size : Int) = 3 then (some x3) else (some false)) else (if x146000 = 5 then (if (x146001.size : Int) = 2 then (some x3) else (some false)) else (some false))))))
def point_Sane.f (k : Nat) (a0_0 : Int) (a0_1 : ByteArray) (a0_2 : ByteArray) (a0_3 : ByteArray) : Option (Bool) := (mask_Sane.f a0_1).bind fun t146 => (if t146 = true then (if a0_2.toList = ([] : List UInt8) then (point_Sane.j0 k (a0_3.toList == ([] : List UInt8)) a0_0 a0_1 a0_2 a0_3) else (point_Sane.j0 k false a0_0 a0_1 a0_2 a0_3)) else (some false))
theorem point_Sane.mono_l : ∀ k, (∀ y0 y1 y2 y3 y4, LeO (point_Sane.j0 k y0 y1 y2 y3 y4) (point_Sane.j0 (k + 1) y0 y1 y2 y3 y4))
  | 0 => fun _ _ _ _ _ r h => by simp [point_Sane.j0] at h
  | k + 1 => by
    have ih0 := point_Sane.mono_l k
    · intro y0 y1 y2 y3 y4
      unfold point_Sane.j0
      repeat' (with_reducible first | apply ih0 | apply point_some.mono | exact LeO.refl _ | exact LeO.none _ | refine LeO.ite ?_ ?_ | refine LeO.bind ?_ fun _ => ?_)
theorem point_Sane.mono : ∀ a0 a1 a2 a3 k, LeO (point_Sane.f k a0 a1 a2 a3) (point_Sane.f (k + 1) a0 a1 a2 a3) := by
  intro a0 a1 a2 a3 k
  have ih0 := point_Sane.mono_l k
  unfold point_Sane.f
  repeat' (with_reducible first | apply ih0 | apply point_some.mono | exact LeO.refl _ | exact LeO.none _ | refine LeO.ite ?_ ?_ | refine LeO.bind ?_ fun _ => ?_)
def point_Read.f (k : Nat) (a0 : ByteArray) : Option (Int × ByteArray × ByteArray × ByteArray × Bool) := (point_guess.f a0).bind fun bt123 => ((point_Sane.f k bt123.1 bt123.2.1 bt123.2.2.1 bt123.2.2.2).bind fun t128 => (if t128 = true then (some (bt123.1, bt123.2.1, bt123.2.2.1, bt123.2.2.2, true)) else (some (0, (⟨#[]⟩ : ByteArray), (⟨#[]⟩ : ByteArray), (⟨#[]⟩ : ByteArray), false))))
theorem point_Read.mono : ∀ a0 k, LeO (point_Read.f k a0) (point_Read.f (k + 1) a0) := by
  intro a0 k
  unfold point_Read.f
  repeat' first
      | (with_reducible exact point_Sane.mono _ _ _ _ _)
      | (with_reducible exact LeO.refl _)
      | (with_reducible exact LeO.none _)
      | (with_reducible refine LeO.ite ?_ ?_)
      | (with_reducible refine LeO.bind ?_ (fun _ => ?_))
      | exact point_Sane.mono _ _ _ _ _
      | exact LeO.none _
      | refine LeO.ite ?_ ?_
      | refine LeO.bind ?_ (fun _ => ?_)
def slices_Clone.f (l0 : List (S27)) : Option (List (S27)) := if l0.length < 1466015503701 then some l0 else none
def tree_OneOf.f (l0 : List (S27)) : Option (Int × Int × ByteArray × ByteArray × ByteArray × Bool × Bool × (List (S27))) := (slices_Clone.f l0).bind fun t169 => (some (2, 0, (⟨#[]⟩ : ByteArray), (⟨#[]⟩ : ByteArray), (⟨#[]⟩ : ByteArray), false, false, t169))
def lex_word.l0 : Nat → ByteArray → Int → Option (Int)
  | 0, _, _ => none
  | k + 1, x0, x3 => if x3 < (x0.size : Int) then (if 0 ≤ x3 then ((strings_IndexByte.f (⟨#[48, 49, 50, 51, 52, 53, 54, 55, 56, 57, 88, 45, 115, 100, 99]⟩ : ByteArray) (bt x0 x3)).bind fun t267 => (if t267 ≥ 0 then (lex_word.l0 k x0 (wrap64 (x3 + 1))) else (some x3))) else (none)) else (some x3)
def lex_word.f (k : Nat) (a0 : ByteArray) : Option (Int) := lex_word.l0 k a0 0
theorem lex_word.mono_l : ∀ k, (∀ y0 y1, LeO (lex_word.l0 k y0 y1) (lex_word.l0 (k + 1) y0 y1))
  | 0 => fun _ _ r h => by simp [lex_word.l0] at h
  | k + 1 => by
    have ih0 := lex_word.mono_l k
    · intro y0 y1
      unfold lex_word.l0
      repeat' (with_reducible first | apply ih0 | exact LeO.refl _ | exact LeO.none _ | refine LeO.ite ?_ ?_ | refine LeO.bind ?_ fun _ => ?_)
theorem lex_word.mono : ∀ a0 k, LeO (lex_word.f k a0) (lex_word.f (k + 1) a0) := by
  intro a0 k
  have ih0 := lex_word.mono_l k
  unfold lex_word.f
  repeat' (with_reducible first | apply ih0 | exact LeO.refl _ | exact LeO.none _ | refine LeO.ite ?_ ?_ | refine LeO.bind ?_ fun _ => ?_)
def stringslite_HasPrefix.f (a0 : ByteArray) (a1 : ByteArray) : Option (Bool) := if (a0.size : Int) ≥ (a1.size : Int) then (if 0 ≤ (a1.size : Int) then (if (a1.size : Int) ≤ (a0.size : Int) then (some ((a0.extract 0 ((a1.size : Int) : Int).toNat).toList == a1.toList)) else (none)) else (none)) else (some false)
def strings_HasPrefix.f (a0 : ByteArray) (a1 : ByteArray) : Option (Bool) := (stringslite_HasPrefix.f a0 a1).bind fun t268 => (some t268)
def lex_All.l0 : Nat → ByteArray → List (S46) → Int → Option ((List (S46)) × Int × Int)
  | 0, _, _, _ => none
  | k + 1, x0, x6, x7 => if x7 < (x0.size : Int) then (if 0 ≤ x7 then ((lex_signs.f (bt x0 x7)).bind fun bt272 => (if x7 ≤ (x0.size : Int) then ((lex_word.f k (x0.extract (x7 : Int).toNat x0.size)).bind fun t274 => (if t274 > 0 then (if x7 ≤ (wrap64 (x7 + t274)) then (if (wrap64 (x7 + t274)) ≤ (x0.size : Int) then (if x6.length < 4398046511104 then (lex_All.l0 k x0 (x6 ++ [(⟨0, x7, x0.extract (x7 : Int).toNat ((wrap64 (x7 + t274)) : Int).toNat⟩ : S46)]) (wrap64 (x7 + t274))) else (none)) else (none)) else (none)) else (if bt272.2 = true then (if x6.length < 4398046511104 then (lex_All.l0 k x0 (x6 ++ [(⟨bt272.1, x7, (⟨#[]⟩ : ByteArray)⟩ : S46)]) (wrap64 (x7 + 1))) else (none)) else ((strings_HasPrefix.f (x0.extract (x7 : Int).toNat x0.size) (⟨#[46, 46]⟩ : ByteArray)).bind fun t281 => (if t281 = true then (if x6.length < 4398046511104 then (lex_All.l0 k x0 (x6 ++ [(⟨2, x7, (⟨#[]⟩ : ByteArray)⟩ : S46)]) (wrap64 (x7 + 2))) else (none)) else (if (bt x0 x7) = 32 then (lex_All.l0 k x0 x6 (wrap64 (x7 + 1))) else (some (([] : List (S46)), x7, 1)))))))) else (none))) else (none)) else (if x6.length < 4398046511104 then (some ((x6 ++ [(⟨9, (x0.size : Int), (⟨#[]⟩ : ByteArray)⟩ : S46)]), (x0.size : Int), 0)) else (none))
def lex_All.f (k : Nat) (a0 : ByteArray) : Option ((List (S46)) × Int × Int) := if (a0.size : Int) > 2000 then (some (([] : List (S46)), 2000, 7)) else (lex_All.l0 k a0 ([] : List (S46)) 0)
theorem lex_All.mono_l : ∀ k, (∀ y0 y1 y2, LeO (lex_All.l0 k y0 y1 y2) (lex_All.l0 (k + 1) y0 y1 y2))
  | 0 => fun _ _ _ r h => by simp [lex_All.l0] at h
  | k + 1 => by
    have ih0 := lex_All.mono_l k
    · intro y0 y1 y2
      unfold lex_All.l0
      repeat' (with_reducible first | apply ih0 | apply lex_word.mono | exact LeO.refl _ | exact LeO.none _ | refine LeO.ite ?_ ?_ | refine LeO.bind ?_ fun _ => ?_)
theorem lex_All.mono : ∀ a0 k, LeO (lex_All.f k a0) (lex_All.f (k + 1) a0) := by
  intro a0 k
  have ih0 := lex_All.mono_l k
  unfold lex_All.f
  repeat' (with_reducible first | apply ih0 | apply lex_word.mono | exact LeO.refl _ | exact LeO.none _ | refine LeO.ite ?_ ?_ | refine LeO.bind ?_ fun _ => ?_)
abbrev Wr := Option (Int × Int)
structure PR where
  n : S27
  x : Wr
  t : List S46
  m : Int
  d : Int
def pz : S27 := ⟨0, ⟨0, ⟨#[]⟩, ⟨#[]⟩, ⟨#[]⟩⟩, false, false, []⟩
def kz (k : Int) : S27 := ⟨k, ⟨0, ⟨#[]⟩, ⟨#[]⟩, ⟨#[]⟩⟩, false, false, []⟩
def eNot (x : S46) (e : Int) : Int := if x.f0 = 9 then 4 else e
def pMarked : List S46 → S24 → Bool → Bool → Option (S27 × List S46)
  | [], _, _, _ => none
  | x :: t, p, a, b =>
    if x.f0 = 7 then (if a = false then pMarked t p true b else some (⟨0, p, a, b, []⟩, x :: t))
    else if x.f0 = 8 then (if b = false then pMarked t p a true else some (⟨0, p, a, b, []⟩, x :: t))
    else some (⟨0, p, a, b, []⟩, x :: t)
def pWord (k : Nat) (x : S46) (t : List S46) (m d : Int) : Option PR :=
  (point_Read.f k x.f2).bind fun p => if p.2.2.2.2 = true then (pMarked t ⟨p.1, p.2.1, p.2.2.1, p.2.2.2.1⟩ false false).bind fun r => some ⟨r.1, none, r.2, m, d⟩ else some ⟨pz, some (x.f1, eNot x 2), x :: t, m, d⟩
def pEnd (k : Nat) (m d : Int) : List S46 → Option PR
  | [] => none
  | x :: t =>
    if x.f0 = 0 then (if m = 64 then some ⟨pz, some (x.f1, eNot x 6), x :: t, m, d⟩ else pWord k x t (wrap64 (m + 1)) d)
    else if x.f0 = 2 then (if m = 64 then some ⟨pz, some (x.f1, eNot x 6), x :: t, m, d⟩ else some ⟨kz 3, none, t, wrap64 (m + 1), d⟩)
    else if x.f0 = 3 then (if m = 64 then some ⟨pz, some (x.f1, eNot x 6), x :: t, m, d⟩ else some ⟨kz 4, none, t, wrap64 (m + 1), d⟩)
    else some ⟨pz, some (x.f1, eNot x 3), x :: t, m, d⟩
def pSpan (k : Nat) (m d : Int) (t : List S46) : Option PR :=
  (pEnd k m d t).bind fun r => match r.x with
    | some _ => some r
    | none => match r.t with
      | [] => none
      | y :: u =>
        if y.f0 = 1 then (if r.m = 64 then some ⟨r.n, some (y.f1, eNot y 6), y :: u, r.m, r.d⟩ else (pEnd k (wrap64 (r.m + 1)) r.d u).bind fun s => some ⟨⟨1, ⟨0, ⟨#[]⟩, ⟨#[]⟩, ⟨#[]⟩⟩, false, false, [r.n, s.n]⟩, s.x, s.t, s.m, s.d⟩)
        else if r.n.f0 = 0 then some ⟨r.n, none, y :: u, r.m, r.d⟩ else some ⟨r.n, some (y.f1, eNot y 3), y :: u, r.m, r.d⟩
mutual
def pExpr : Nat → Int → Int → List S46 → Option PR
  | 0, _, _, _ => none
  | _ + 1, _, _, [] => none
  | k + 1, m, d, x :: t => if x.f0 = 4 then pList k m d x t else pSpan k m d (x :: t)
def pList : Nat → Int → Int → S46 → List S46 → Option PR
  | 0, _, _, _, _ => none
  | k + 1, m, d, x, t => if d = 8 then some ⟨pz, some (x.f1, eNot x 5), x :: t, m, d⟩ else if m = 64 then some ⟨pz, some (x.f1, eNot x 6), x :: t, m, d⟩ else pItems k (wrap64 (m + 1)) (wrap64 (d + 1)) (x :: t) []
def pItems : Nat → Int → Int → List S46 → List S27 → Option PR
  | 0, _, _, _, _ => none
  | _ + 1, _, _, [], _ => none
  | k + 1, m, d, _ :: t, l => (pExpr k m d t).bind fun r => match r.x with
    | some _ => some r
    | none => if l.length < 1466015503701 then (match r.t with
      | [] => none
      | y :: u =>
        if y.f0 = 6 then pItems k r.m r.d (y :: u) (l ++ [r.n])
        else if y.f0 = 5 then (tree_OneOf.f (l ++ [r.n])).bind fun o => some ⟨⟨o.1, ⟨o.2.1, o.2.2.1, o.2.2.2.1, o.2.2.2.2.1⟩, o.2.2.2.2.2.1, o.2.2.2.2.2.2.1, o.2.2.2.2.2.2.2⟩, none, u, r.m, wrap64 (r.d - 1)⟩
        else some ⟨r.n, some (y.f1, eNot y 3), y :: u, r.m, r.d⟩) else none
end
def parse_Parse.f (k : Nat) (s : ByteArray) : Option (Int × Int × ByteArray × ByteArray × ByteArray × Bool × Bool × List S27 × Int × Int) :=
  (lex_All.f k s).bind fun L => if L.2.2 = 0 then (pExpr k 0 0 L.1).bind fun r => match r.x with
      | some x => some (0, 0, ⟨#[]⟩, ⟨#[]⟩, ⟨#[]⟩, false, false, [], x.1, x.2)
      | none => match r.t with
        | [] => none
        | y :: _ => if y.f0 = 9 then some (r.n.f0, r.n.f1.f0, r.n.f1.f1, r.n.f1.f2, r.n.f1.f3, r.n.f2, r.n.f3, r.n.f4, L.2.1, 0) else some (0, 0, ⟨#[]⟩, ⟨#[]⟩, ⟨#[]⟩, false, false, [], y.f1, 3)
    else some (0, 0, ⟨#[]⟩, ⟨#[]⟩, ⟨#[]⟩, false, false, [], L.2.1, L.2.2)
theorem pWord.mono (k : Nat) (x : S46) (t : List S46) (m d : Int) : LeO (pWord k x t m d) (pWord (k + 1) x t m d) := LeO.bind (point_Read.mono _ _) (fun _ => LeO.refl _)
theorem pEnd.mono (k : Nat) (m d : Int) : ∀ t, LeO (pEnd k m d t) (pEnd (k + 1) m d t)
  | [] => LeO.refl _
  | x :: t => LeO.ite (LeO.ite (LeO.refl _) (pWord.mono _ _ _ _ _)) (LeO.refl _)
theorem pSpan.mono (k : Nat) (m d : Int) (t : List S46) : LeO (pSpan k m d t) (pSpan (k + 1) m d t) := by
  refine LeO.bind (pEnd.mono _ _ _ _) (fun r => ?_)
  obtain ⟨n, x, t, m', d'⟩ := r
  cases x with
  | some _ => exact LeO.refl _
  | none => cases t with
    | nil => exact LeO.refl _
    | cons y u => exact LeO.ite (LeO.ite (LeO.refl _) (LeO.bind (pEnd.mono _ _ _ _) (fun _ => LeO.refl _))) (LeO.refl _)
theorem pExpr.mono_l : ∀ k, (∀ m d t, LeO (pExpr k m d t) (pExpr (k + 1) m d t)) ∧ (∀ m d x t, LeO (pList k m d x t) (pList (k + 1) m d x t)) ∧ (∀ m d t l, LeO (pItems k m d t l) (pItems (k + 1) m d t l))
  | 0 => ⟨fun _ _ _ r h => by simp [pExpr] at h, fun _ _ _ _ r h => by simp [pList] at h, fun _ _ _ _ r h => by simp [pItems] at h⟩
  | k + 1 => by
    obtain ⟨i1, i2, i3⟩ := pExpr.mono_l k
    refine ⟨fun m d t => ?_, fun m d x t => ?_, fun m d t l => ?_⟩
    · cases t with
      | nil => intro r h; simp [pExpr] at h
      | cons x t => rw [pExpr, pExpr]; exact LeO.ite (i2 _ _ _ _) (pSpan.mono _ _ _ _)
    · rw [pList, pList]; exact LeO.ite (LeO.refl _) (LeO.ite (LeO.refl _) (i3 _ _ _ _))
    · cases t with
      | nil => intro r h; simp [pItems] at h
      | cons x t =>
        rw [pItems, pItems]
        refine LeO.bind (i1 _ _ _) (fun r => ?_)
        obtain ⟨n, x, t, m', d'⟩ := r
        cases x with
        | some _ => exact LeO.refl _
        | none => cases t with
          | nil => exact LeO.refl _
          | cons y u => exact LeO.ite (LeO.ite (i3 _ _ _ _) (LeO.refl _)) (LeO.refl _)
theorem pExpr.mono (k : Nat) (m d : Int) (t : List S46) : LeO (pExpr k m d t) (pExpr (k + 1) m d t) := (pExpr.mono_l k).1 m d t
theorem parse_Parse.mono : ∀ a0 k, LeO (parse_Parse.f k a0) (parse_Parse.f (k + 1) a0) := fun _ _ =>
  LeO.bind (lex_All.mono _ _) (fun _ => LeO.ite (LeO.bind (pExpr.mono _ _ _ _) (fun _ => LeO.refl _)) (LeO.refl _))
def lustrumref08_part.f (a0 : ByteArray) (a1 : Int) (a2 : Int) : Option (ByteArray) := if a2 > (a0.size : Int) then (some (⟨#[]⟩ : ByteArray)) else (if 0 ≤ a1 then (if a1 ≤ a2 then (if a2 ≤ (a0.size : Int) then (some (a0.extract (a1 : Int).toNat (a2 : Int).toNat)) else (none)) else (none)) else (none))
def lustrumref06_Sane.l0 : Nat → ByteArray → Int → Option (Bool)
  | 0, _, _ => none
  | k + 1, x0, x3 => if x3 < (x0.size : Int) then (if 0 ≤ x3 then (if (bt x0 x3) < 48 then (if (bt x0 x3) = 88 then (lustrumref06_Sane.l0 k x0 (wrap64 (x3 + 1))) else (some false)) else (if (bt x0 x3) > 57 then (if (bt x0 x3) = 88 then (lustrumref06_Sane.l0 k x0 (wrap64 (x3 + 1))) else (some false)) else (lustrumref06_Sane.l0 k x0 (wrap64 (x3 + 1))))) else (none)) else (if (x0.size : Int) ≥ 1 then (some (decide ((x0.size : Int) ≤ 4))) else (some false))
def lustrumref06_Sane.f (k : Nat) (a0 : ByteArray) : Option (Bool) := lustrumref06_Sane.l0 k a0 0
theorem lustrumref06_Sane.mono_l : ∀ k, (∀ y0 y1, LeO (lustrumref06_Sane.l0 k y0 y1) (lustrumref06_Sane.l0 (k + 1) y0 y1))
  | 0 => fun _ _ r h => by simp [lustrumref06_Sane.l0] at h
  | k + 1 => by
    have ih0 := lustrumref06_Sane.mono_l k
    · intro y0 y1
      unfold lustrumref06_Sane.l0
      repeat' (with_reducible first | apply ih0 | exact LeO.refl _ | exact LeO.none _ | refine LeO.ite ?_ ?_ | refine LeO.bind ?_ fun _ => ?_)
theorem lustrumref06_Sane.mono : ∀ a0 k, LeO (lustrumref06_Sane.f k a0) (lustrumref06_Sane.f (k + 1) a0) := by
  intro a0 k
  have ih0 := lustrumref06_Sane.mono_l k
  unfold lustrumref06_Sane.f
  repeat' (with_reducible first | apply ih0 | exact LeO.refl _ | exact LeO.none _ | refine LeO.ite ?_ ?_ | refine LeO.bind ?_ fun _ => ?_)
def lustrumref06_most.l0 : Nat → Int → Int → Int → Option (Int)
  | 0, _, _, _ => none
  | k + 1, x0, x3, x4 => if x4 < x0 then (lustrumref06_most.l0 k x0 (wrap64 (x3 * 10)) (wrap64 (x4 + 1))) else (some x3)
def lustrumref06_most.f (k : Nat) (a0 : Int) : Option (Int) := lustrumref06_most.l0 k a0 1 0
theorem lustrumref06_most.mono_l : ∀ k, (∀ y0 y1 y2, LeO (lustrumref06_most.l0 k y0 y1 y2) (lustrumref06_most.l0 (k + 1) y0 y1 y2))
  | 0 => fun _ _ _ r h => by simp [lustrumref06_most.l0] at h
  | k + 1 => by
    have ih0 := lustrumref06_most.mono_l k
    · intro y0 y1 y2
      unfold lustrumref06_most.l0
      repeat' (with_reducible first | apply ih0 | exact LeO.refl _ | exact LeO.none _ | refine LeO.ite ?_ ?_ | refine LeO.bind ?_ fun _ => ?_)
theorem lustrumref06_most.mono : ∀ a0 k, LeO (lustrumref06_most.f k a0) (lustrumref06_most.f (k + 1) a0) := by
  intro a0 k
  have ih0 := lustrumref06_most.mono_l k
  unfold lustrumref06_most.f
  repeat' (with_reducible first | apply ih0 | exact LeO.refl _ | exact LeO.none _ | refine LeO.ite ?_ ?_ | refine LeO.bind ?_ fun _ => ?_)
mutual
def lustrumref06_Match.j0 : Nat → ByteArray → Int → Bool → Option (Bool)
  | 0, _, _, _ => none
  | k + 1, x0, x1, x19 => if x19 = true then (some false) else (lustrumref06_Match.l0 k x0 x1 (wrap64 ((x0.size : Int) - 1)))
def lustrumref06_Match.l0 : Nat → ByteArray → Int → Int → Option (Bool)
  | 0, _, _, _ => none
  | k + 1, x0, x1, x5 => if x5 ≥ 0 then (if 0 ≤ x5 then (if x5 < (x0.size : Int) then (if (bt x0 x5) = 88 then (lustrumref06_Match.l0 k x0 (wrap64 (Int.tdiv x1 10)) (wrap64 (x5 - 1))) else (if (wrap64 ((wrap64 (bt x0 x5)) - 48)) = (Int.tmod x1 10) then (lustrumref06_Match.l0 k x0 (wrap64 (Int.tdiv x1 10)) (wrap64 (x5 - 1))) else (some false))) else (none)) else (none)) else (some true)
end
def lustrumref06_Match.f (k : Nat) (a0 : ByteArray) (a1 : Int) : Option (Bool) := (lustrumref06_Sane.f k a0).bind fun t241 => (if t241 = true then (if a1 < 0 then (lustrumref06_Match.j0 k a0 a1 true) else ((lustrumref06_most.f k (a0.size : Int)).bind fun t242 => (lustrumref06_Match.j0 k a0 a1 (decide (a1 ≥ t242))))) else (lustrumref06_Match.j0 k a0 a1 true))
theorem lustrumref06_Match.mono_l : ∀ k, (∀ y0 y1 y2, LeO (lustrumref06_Match.j0 k y0 y1 y2) (lustrumref06_Match.j0 (k + 1) y0 y1 y2)) ∧ (∀ y0 y1 y2, LeO (lustrumref06_Match.l0 k y0 y1 y2) (lustrumref06_Match.l0 (k + 1) y0 y1 y2))
  | 0 => ⟨fun _ _ _ r h => by simp [lustrumref06_Match.j0] at h, fun _ _ _ r h => by simp [lustrumref06_Match.l0] at h⟩
  | k + 1 => by
    obtain ⟨ih0, ih1⟩ := lustrumref06_Match.mono_l k
    refine ⟨?_, ?_⟩
    · intro y0 y1 y2
      unfold lustrumref06_Match.j0
      repeat' (with_reducible first | apply ih0 | apply ih1 | apply lustrumref06_Sane.mono | apply lustrumref06_most.mono | exact LeO.refl _ | exact LeO.none _ | refine LeO.ite ?_ ?_ | refine LeO.bind ?_ fun _ => ?_)
    · intro y0 y1 y2
      unfold lustrumref06_Match.l0
      repeat' (with_reducible first | apply ih0 | apply ih1 | apply lustrumref06_Sane.mono | apply lustrumref06_most.mono | exact LeO.refl _ | exact LeO.none _ | refine LeO.ite ?_ ?_ | refine LeO.bind ?_ fun _ => ?_)
theorem lustrumref06_Match.mono : ∀ a0 a1 k, LeO (lustrumref06_Match.f k a0 a1) (lustrumref06_Match.f (k + 1) a0 a1) := by
  intro a0 a1 k
  obtain ⟨ih0, ih1⟩ := lustrumref06_Match.mono_l k
  unfold lustrumref06_Match.f
  repeat' (with_reducible first | apply ih0 | apply ih1 | apply lustrumref06_Sane.mono | apply lustrumref06_most.mono | exact LeO.refl _ | exact LeO.none _ | refine LeO.ite ?_ ?_ | refine LeO.bind ?_ fun _ => ?_)
def lustrumref08_some.l0 : Nat → ByteArray → Int → Int → Option (Bool)
  | 0, _, _, _ => none
  | k + 1, x0, x2, x7 => if x7 ≤ x2 then ((lustrumref06_Match.f k x0 x7).bind fun t243 => (if t243 = true then (some true) else (lustrumref08_some.l0 k x0 x2 (wrap64 (x7 + 1))))) else (some false)
def lustrumref08_some.f (k : Nat) (a0 : ByteArray) (a1 : Int) (a2 : Int) : Option (Bool) := if (a0.size : Int) = a1 then (lustrumref08_some.l0 k a0 a2 1) else (some false)
theorem lustrumref08_some.mono_l : ∀ k, (∀ y0 y1 y2, LeO (lustrumref08_some.l0 k y0 y1 y2) (lustrumref08_some.l0 (k + 1) y0 y1 y2))
  | 0 => fun _ _ _ r h => by simp [lustrumref08_some.l0] at h
  | k + 1 => by
    have ih0 := lustrumref08_some.mono_l k
    · intro y0 y1 y2
      unfold lustrumref08_some.l0
      repeat' (with_reducible first | apply ih0 | apply lustrumref06_Match.mono | exact LeO.refl _ | exact LeO.none _ | refine LeO.ite ?_ ?_ | refine LeO.bind ?_ fun _ => ?_)
theorem lustrumref08_some.mono : ∀ a0 a1 a2 k, LeO (lustrumref08_some.f k a0 a1 a2) (lustrumref08_some.f (k + 1) a0 a1 a2) := by
  intro a0 a1 a2 k
  have ih0 := lustrumref08_some.mono_l k
  unfold lustrumref08_some.f
  repeat' (with_reducible first | apply ih0 | apply lustrumref06_Match.mono | exact LeO.refl _ | exact LeO.none _ | refine LeO.ite ?_ ?_ | refine LeO.bind ?_ fun _ => ?_)
def lustrumref08_Sane.f (k : Nat) (a0_0 : Int) (a0_1 : ByteArray) (a0_2 : ByteArray) (a0_3 : ByteArray) : Option (Bool) := (lustrumref06_Sane.f k a0_1).bind fun t245 => (if t245 = true then (if a0_0 = 0 then (if (a0_1.size : Int) = 4 then ((lustrumref08_some.f k a0_2 2 12).bind fun t246 => (if t246 = true then ((lustrumref08_some.f k a0_3 2 31).bind fun t247 => (some t247)) else (some false))) else (some false)) else (if a0_0 = 1 then (if (a0_1.size : Int) = 4 then ((lustrumref08_some.f k a0_2 2 12).bind fun t248 => (if t248 = true then (some (a0_3.toList == ([] : List UInt8))) else (some false))) else (some false)) else (if a0_0 = 2 then (if (a0_1.size : Int) = 4 then ((lustrumref08_some.f k a0_2 1 4).bind fun t249 => (if t249 = true then (some (a0_3.toList == ([] : List UInt8))) else (some false))) else (some false)) else (if a0_0 = 3 then (if (a0_1.size : Int) = 4 then (if a0_2.toList = ([] : List UInt8) then (some (a0_3.toList == ([] : List UInt8))) else (some false)) else (some false)) else (if a0_0 = 4 then (if (a0_1.size : Int) = 3 then (if a0_2.toList = ([] : List UInt8) then (some (a0_3.toList == ([] : List UInt8))) else (some false)) else (some false)) else (if a0_0 = 5 then (if (a0_1.size : Int) = 2 then (if a0_2.toList = ([] : List UInt8) then (some (a0_3.toList == ([] : List UInt8))) else (some false)) else (some false)) else (some false))))))) else (some false))
theorem lustrumref08_Sane.mono : ∀ a0 a1 a2 a3 k, LeO (lustrumref08_Sane.f k a0 a1 a2 a3) (lustrumref08_Sane.f (k + 1) a0 a1 a2 a3) := by
  intro a0 a1 a2 a3 k
  unfold lustrumref08_Sane.f
  repeat' (with_reducible first | apply lustrumref06_Sane.mono | apply lustrumref08_some.mono | exact LeO.refl _ | exact LeO.none _ | refine LeO.ite ?_ ?_ | refine LeO.bind ?_ fun _ => ?_)
def lustrumref08_Text.f (k : Nat) (a0_0 : Int) (a0_1 : ByteArray) (a0_2 : ByteArray) (a0_3 : ByteArray) : Option (ByteArray) := (lustrumref08_Sane.f k a0_0 a0_1 a0_2 a0_3).bind fun t300 => (if t300 = true then (if a0_0 = 0 then (if a0_1.size + 1 ≤ 9223372036854775807 then (if (a0_1 ++ (⟨#[45]⟩ : ByteArray)).size + a0_2.size ≤ 9223372036854775807 then (if ((a0_1 ++ (⟨#[45]⟩ : ByteArray)) ++ a0_2).size + 1 ≤ 9223372036854775807 then (if (((a0_1 ++ (⟨#[45]⟩ : ByteArray)) ++ a0_2) ++ (⟨#[45]⟩ : ByteArray)).size + a0_3.size ≤ 9223372036854775807 then (some ((((a0_1 ++ (⟨#[45]⟩ : ByteArray)) ++ a0_2) ++ (⟨#[45]⟩ : ByteArray)) ++ a0_3)) else (none)) else (none)) else (none)) else (none)) else (if a0_0 = 1 then (if a0_1.size + 1 ≤ 9223372036854775807 then (if (a0_1 ++ (⟨#[45]⟩ : ByteArray)).size + a0_2.size ≤ 9223372036854775807 then (some ((a0_1 ++ (⟨#[45]⟩ : ByteArray)) ++ a0_2)) else (none)) else (none)) else (if a0_0 = 2 then (if a0_1.size + 1 ≤ 9223372036854775807 then (if (a0_1 ++ (⟨#[115]⟩ : ByteArray)).size + a0_2.size ≤ 9223372036854775807 then (some ((a0_1 ++ (⟨#[115]⟩ : ByteArray)) ++ a0_2)) else (none)) else (none)) else (if a0_0 = 4 then (if a0_1.size + 1 ≤ 9223372036854775807 then (some (a0_1 ++ (⟨#[100]⟩ : ByteArray))) else (none)) else (if a0_0 = 5 then (if a0_1.size + 1 ≤ 9223372036854775807 then (some (a0_1 ++ (⟨#[99]⟩ : ByteArray))) else (none)) else (some a0_1)))))) else (some (⟨#[]⟩ : ByteArray)))
theorem lustrumref08_Text.mono : ∀ a0 a1 a2 a3 k, LeO (lustrumref08_Text.f k a0 a1 a2 a3) (lustrumref08_Text.f (k + 1) a0 a1 a2 a3) := by
  intro a0 a1 a2 a3 k
  unfold lustrumref08_Text.f
  repeat' (with_reducible first | apply lustrumref08_Sane.mono | exact LeO.refl _ | exact LeO.none _ | refine LeO.ite ?_ ?_ | refine LeO.bind ?_ fun _ => ?_)
def lustrumref08_Read.l0 : Nat → ByteArray → List (S24) → Int → Option (Int × ByteArray × ByteArray × ByteArray × Bool)
  | 0, _, _, _ => none
  | k + 1, x0, x4, x5 => if x5 < (x4.length : Int) then (if x0.toList = ([] : List UInt8) then (lustrumref08_Read.l0 k x0 x4 (wrap64 (x5 + 1))) else (if 0 ≤ x5 then ((lustrumref08_Text.f k ((rd_T24 x4 x5).f0) ((rd_T24 x4 x5).f1) ((rd_T24 x4 x5).f2) ((rd_T24 x4 x5).f3)).bind fun t130 => (if t130.toList = x0.toList then (some ((rd_T24 x4 x5).f0, (rd_T24 x4 x5).f1, (rd_T24 x4 x5).f2, (rd_T24 x4 x5).f3, true)) else (lustrumref08_Read.l0 k x0 x4 (wrap64 (x5 + 1))))) else (none))) else (some (0, (⟨#[]⟩ : ByteArray), (⟨#[]⟩ : ByteArray), (⟨#[]⟩ : ByteArray), false))
def lustrumref08_Read.f (k : Nat) (a0 : ByteArray) : Option (Int × ByteArray × ByteArray × ByteArray × Bool) := (lustrumref08_part.f a0 0 4).bind fun t116 => ((lustrumref08_part.f a0 5 7).bind fun t117 => ((lustrumref08_part.f a0 8 10).bind fun t118 => ((lustrumref08_part.f a0 0 4).bind fun t119 => ((lustrumref08_part.f a0 5 7).bind fun t120 => ((lustrumref08_part.f a0 0 4).bind fun t121 => ((lustrumref08_part.f a0 5 6).bind fun t122 => ((lustrumref08_part.f a0 0 4).bind fun t123 => ((lustrumref08_part.f a0 0 3).bind fun t124 => ((lustrumref08_part.f a0 0 2).bind fun t125 => (lustrumref08_Read.l0 k a0 (([(⟨0, t116, t117, t118⟩ : S24), (⟨1, t119, t120, (⟨#[]⟩ : ByteArray)⟩ : S24), (⟨2, t121, t122, (⟨#[]⟩ : ByteArray)⟩ : S24), (⟨3, t123, (⟨#[]⟩ : ByteArray), (⟨#[]⟩ : ByteArray)⟩ : S24), (⟨4, t124, (⟨#[]⟩ : ByteArray), (⟨#[]⟩ : ByteArray)⟩ : S24), (⟨5, t125, (⟨#[]⟩ : ByteArray), (⟨#[]⟩ : ByteArray)⟩ : S24)] : List (S24))) 0))))))))))
theorem lustrumref08_Read.mono_l : ∀ k, (∀ y0 y1 y2, LeO (lustrumref08_Read.l0 k y0 y1 y2) (lustrumref08_Read.l0 (k + 1) y0 y1 y2))
  | 0 => fun _ _ _ r h => by simp [lustrumref08_Read.l0] at h
  | k + 1 => by
    have ih0 := lustrumref08_Read.mono_l k
    · intro y0 y1 y2
      unfold lustrumref08_Read.l0
      repeat' first
      | (with_reducible exact ih0 _ _ _)
      | (with_reducible exact lustrumref08_Text.mono _ _ _ _ _)
      | (with_reducible exact LeO.refl _)
      | (with_reducible exact LeO.none _)
      | (with_reducible refine LeO.ite ?_ ?_)
      | (with_reducible refine LeO.bind ?_ (fun _ => ?_))
      | exact ih0 _ _ _
      | exact lustrumref08_Text.mono _ _ _ _ _
      | exact LeO.none _
      | refine LeO.ite ?_ ?_
      | refine LeO.bind ?_ (fun _ => ?_)
theorem lustrumref08_Read.mono : ∀ a0 k, LeO (lustrumref08_Read.f k a0) (lustrumref08_Read.f (k + 1) a0) := by
  intro a0 k
  have ih0 := lustrumref08_Read.mono_l k
  unfold lustrumref08_Read.f
  repeat' first
      | (with_reducible exact ih0 _ _ _)
      | (with_reducible exact lustrumref08_Text.mono _ _ _ _ _)
      | (with_reducible exact LeO.refl _)
      | (with_reducible exact LeO.none _)
      | (with_reducible refine LeO.ite ?_ ?_)
      | (with_reducible refine LeO.bind ?_ (fun _ => ?_))
      | exact ih0 _ _ _
      | exact lustrumref08_Text.mono _ _ _ _ _
      | exact LeO.none _
      | refine LeO.ite ?_ ?_
      | refine LeO.bind ?_ (fun _ => ?_)
def lustrumref09_letter.f (a0 : Int) : Option (Bool) := if a0 ≥ 48 then (if a0 ≤ 57 then (some true) else (if a0 = 88 then (some true) else (if a0 = 45 then (some true) else (if a0 = 115 then (some true) else (if a0 = 100 then (some true) else (some (a0 == 99))))))) else (if a0 = 88 then (some true) else (if a0 = 45 then (some true) else (if a0 = 115 then (some true) else (if a0 = 100 then (some true) else (some (a0 == 99))))))
def lustrumref09_sign.f (a0 : Int) : Option (Int) := if a0 = 47 then (some 1) else (if a0 = 42 then (some 3) else (if a0 = 91 then (some 4) else (if a0 = 93 then (some 5) else (if a0 = 44 then (some 6) else (if a0 = 63 then (some 7) else (if a0 = 126 then (some 8) else (some (-1))))))))
mutual
def lustrumref09_one.j1 : Nat → ByteArray → Int → Int → Option (Int × Int × ByteArray × Int)
  | 0, _, _, _ => none
  | k + 1, x0, x1, x6 => if x6 > 0 then (if 0 ≤ x1 then (if x1 ≤ (wrap64 (x1 + x6)) then (if (wrap64 (x1 + x6)) ≤ (x0.size : Int) then (some (0, x1, x0.extract (x1 : Int).toNat ((wrap64 (x1 + x6)) : Int).toNat, x6)) else (none)) else (none)) else (none)) else (if 0 ≤ x1 then (if x1 < (x0.size : Int) then (if (bt x0 x1) = 46 then (if (wrap64 (x1 + 1)) < (x0.size : Int) then (if 0 ≤ (wrap64 (x1 + 1)) then (lustrumref09_one.j2 k x1 ((bt x0 (wrap64 (x1 + 1))) == 46)) else (none)) else (lustrumref09_one.j2 k x1 false)) else ((lustrumref09_sign.f (bt x0 x1)).bind fun t103 => (if t103 < 0 then (some (0, 0, (⟨#[]⟩ : ByteArray), 0)) else (some (t103, x1, (⟨#[]⟩ : ByteArray), 1))))) else (none)) else (none))
def lustrumref09_one.j2 : Nat → Int → Bool → Option (Int × Int × ByteArray × Int)
  | 0, _, _ => none
  | k + 1, x1, x50 => if x50 = true then (some (2, x1, (⟨#[]⟩ : ByteArray), 2)) else (some (0, 0, (⟨#[]⟩ : ByteArray), 0))
def lustrumref09_one.l0 : Nat → ByteArray → Int → Int → Option (Int × Int × ByteArray × Int)
  | 0, _, _, _ => none
  | k + 1, x0, x1, x6 => if (wrap64 (x1 + x6)) < (x0.size : Int) then (if 0 ≤ (wrap64 (x1 + x6)) then ((lustrumref09_letter.f (bt x0 (wrap64 (x1 + x6)))).bind fun t102 => (if t102 = true then (lustrumref09_one.l0 k x0 x1 (wrap64 (x6 + 1))) else (lustrumref09_one.j1 k x0 x1 x6))) else (none)) else (lustrumref09_one.j1 k x0 x1 x6)
end
def lustrumref09_one.f (k : Nat) (a0 : ByteArray) (a1 : Int) : Option (Int × Int × ByteArray × Int) := lustrumref09_one.l0 k a0 a1 0
def lustrumref09_All.l0 : Nat → ByteArray → List (S46) → Int → Option ((List (S46)) × Int × Int)
  | 0, _, _, _ => none
  | k + 1, x0, x5, x6 => if x6 < (x0.size : Int) then (if 0 ≤ x6 then (if (bt x0 x6) = 32 then (lustrumref09_All.l0 k x0 x5 (wrap64 (x6 + 1))) else ((lustrumref09_one.f k x0 x6).bind fun bt107 => (if bt107.2.2.2 = 0 then (some (([] : List (S46)), x6, 1)) else (if x5.length < 4398046511104 then (lustrumref09_All.l0 k x0 (x5 ++ [(⟨bt107.1, bt107.2.1, bt107.2.2.1⟩ : S46)]) (wrap64 (x6 + bt107.2.2.2))) else (none))))) else (none)) else (if x5.length < 4398046511104 then (some ((x5 ++ [(⟨9, (x0.size : Int), (⟨#[]⟩ : ByteArray)⟩ : S46)]), (x0.size : Int), 0)) else (none))
def lustrumref09_All.f (k : Nat) (a0 : ByteArray) : Option ((List (S46)) × Int × Int) := if (a0.size : Int) > 2000 then (some (([] : List (S46)), 2000, 7)) else (lustrumref09_All.l0 k a0 ([] : List (S46)) 0)
structure QR where
  n : S27
  x : Wr
  t : List S46
  m : Int
def qEnd (k : Nat) (m : Int) : List S46 → Option QR
  | [] => none
  | x :: t =>
    if x.f0 = 0 then (if m = 64 then some ⟨pz, some (x.f1, eNot x 6), x :: t, m⟩ else (lustrumref08_Read.f k x.f2).bind fun p => if p.2.2.2.2 = true then (pMarked t ⟨p.1, p.2.1, p.2.2.1, p.2.2.2.1⟩ false false).bind fun r => some ⟨r.1, none, r.2, wrap64 (m + 1)⟩ else some ⟨pz, some (x.f1, eNot x 2), x :: t, wrap64 (m + 1)⟩)
    else if x.f0 = 2 then (if m = 64 then some ⟨pz, some (x.f1, eNot x 6), x :: t, m⟩ else some ⟨kz 3, none, t, wrap64 (m + 1)⟩)
    else if x.f0 = 3 then (if m = 64 then some ⟨pz, some (x.f1, eNot x 6), x :: t, m⟩ else some ⟨kz 4, none, t, wrap64 (m + 1)⟩)
    else some ⟨pz, some (x.f1, eNot x 3), x :: t, m⟩
def qSpan (k : Nat) (m : Int) (t : List S46) : Option QR :=
  (qEnd k m t).bind fun r => match r.x with
    | some _ => some r
    | none => match r.t with
      | [] => none
      | y :: u =>
        if y.f0 = 1 then (if r.m = 64 then some ⟨pz, some (y.f1, eNot y 6), y :: u, r.m⟩ else (qEnd k (wrap64 (r.m + 1)) u).bind fun s => some ⟨⟨1, ⟨0, ⟨#[]⟩, ⟨#[]⟩, ⟨#[]⟩⟩, false, false, [r.n, s.n]⟩, s.x, s.t, s.m⟩)
        else if r.n.f0 = 0 then some ⟨r.n, none, y :: u, r.m⟩ else some ⟨pz, some (y.f1, eNot y 3), y :: u, r.m⟩
def li2 (l : List S27) : S27 := ⟨2, ⟨0, ⟨#[]⟩, ⟨#[]⟩, ⟨#[]⟩⟩, false, false, l⟩
mutual
def qExpr : Nat → Int → Int → List S46 → Option QR
  | 0, _, _, _ => none
  | _ + 1, _, _, [] => none
  | k + 1, m, d, x :: t => if x.f0 = 4 then qList k m d x t else qSpan k m (x :: t)
def qList : Nat → Int → Int → S46 → List S46 → Option QR
  | 0, _, _, _, _ => none
  | k + 1, m, d, x, t => if d = 8 then some ⟨pz, some (x.f1, eNot x 5), x :: t, m⟩ else if m = 64 then some ⟨pz, some (x.f1, eNot x 6), x :: t, m⟩ else qItems k (wrap64 (m + 1)) (wrap64 (d + 1)) (x :: t) []
def qItems : Nat → Int → Int → List S46 → List S27 → Option QR
  | 0, _, _, _, _ => none
  | _ + 1, _, _, [], _ => none
  | k + 1, m, d, _ :: t, l => (qExpr k m d t).bind fun r => if l.length < 1466015503701 then (match r.x with
    | some _ => some ⟨li2 (l ++ [r.n]), r.x, r.t, r.m⟩
    | none => match r.t with
      | [] => none
      | y :: u =>
        if y.f0 = 5 then some ⟨li2 (l ++ [r.n]), none, u, r.m⟩
        else if y.f0 = 6 then qItems k r.m d (y :: u) (l ++ [r.n])
        else some ⟨pz, some (y.f1, eNot y 3), y :: u, r.m⟩) else none
end
def lustrumref13_Parse.f (k : Nat) (s : ByteArray) : Option (Int × Int × ByteArray × ByteArray × ByteArray × Bool × Bool × List S27 × Int × Int) :=
  (lustrumref09_All.f k s).bind fun L => if L.2.2 = 0 then (if L.1.length < 4611686018427387904 then (qExpr k 0 0 L.1).bind fun r => match r.x with
      | some x => if x.2 = 0 then none else some (0, 0, ⟨#[]⟩, ⟨#[]⟩, ⟨#[]⟩, false, false, [], x.1, x.2)
      | none => match r.t with
        | [] => none
        | y :: _ => if y.f0 = 9 then some (r.n.f0, r.n.f1.f0, r.n.f1.f1, r.n.f1.f2, r.n.f1.f3, r.n.f2, r.n.f3, r.n.f4, (s.size : Int), 0) else some (0, 0, ⟨#[]⟩, ⟨#[]⟩, ⟨#[]⟩, false, false, [], y.f1, 3) else none)
    else some (0, 0, ⟨#[]⟩, ⟨#[]⟩, ⟨#[]⟩, false, false, [], L.2.1, L.2.2)
theorem qEnd.mono (k : Nat) (m : Int) : ∀ t, LeO (qEnd k m t) (qEnd (k + 1) m t)
  | [] => LeO.refl _
  | x :: t => LeO.ite (LeO.ite (LeO.refl _) (LeO.bind (lustrumref08_Read.mono _ _) (fun _ => LeO.refl _))) (LeO.refl _)
theorem qSpan.mono (k : Nat) (m : Int) (t : List S46) : LeO (qSpan k m t) (qSpan (k + 1) m t) := by
  refine LeO.bind (qEnd.mono _ _ _) (fun r => ?_)
  obtain ⟨n, x, t, m'⟩ := r
  cases x with
  | some _ => exact LeO.refl _
  | none => cases t with
    | nil => exact LeO.refl _
    | cons y u => exact LeO.ite (LeO.ite (LeO.refl _) (LeO.bind (qEnd.mono _ _ _) (fun _ => LeO.refl _))) (LeO.refl _)
theorem qExpr.mono_l : ∀ k, (∀ m d t, LeO (qExpr k m d t) (qExpr (k + 1) m d t)) ∧ (∀ m d x t, LeO (qList k m d x t) (qList (k + 1) m d x t)) ∧ (∀ m d t l, LeO (qItems k m d t l) (qItems (k + 1) m d t l))
  | 0 => ⟨fun _ _ _ r h => by simp [qExpr] at h, fun _ _ _ _ r h => by simp [qList] at h, fun _ _ _ _ r h => by simp [qItems] at h⟩
  | k + 1 => by
    obtain ⟨i1, i2, i3⟩ := qExpr.mono_l k
    refine ⟨fun m d t => ?_, fun m d x t => ?_, fun m d t l => ?_⟩
    · cases t with
      | nil => intro r h; simp [qExpr] at h
      | cons x t => rw [qExpr, qExpr]; exact LeO.ite (i2 _ _ _ _) (qSpan.mono _ _ _)
    · rw [qList, qList]; exact LeO.ite (LeO.refl _) (LeO.ite (LeO.refl _) (i3 _ _ _ _))
    · cases t with
      | nil => intro r h; simp [qItems] at h
      | cons x t =>
        rw [qItems, qItems]
        refine LeO.bind (i1 _ _ _) (fun r => LeO.ite ?_ (LeO.refl _))
        obtain ⟨n, x, t, m'⟩ := r
        cases x with
        | some _ => exact LeO.refl _
        | none => cases t with
          | nil => exact LeO.refl _
          | cons y u => exact LeO.ite (LeO.refl _) (LeO.ite (i3 _ _ _ _) (LeO.refl _))
theorem qExpr.mono (k : Nat) (m d : Int) (t : List S46) : LeO (qExpr k m d t) (qExpr (k + 1) m d t) := (qExpr.mono_l k).1 m d t
def tree_bare.f (a0_0 : Int) (a0_1 : Int) (a0_2 : ByteArray) (a0_3 : ByteArray) (a0_4 : ByteArray) (a0_5 : Bool) (a0_6 : Bool) (l0_7 : List (S27)) : Option (Bool) := if (a0_1 == 0 && (a0_2.toList == ([] : List UInt8) && (a0_3.toList == ([] : List UInt8) && (a0_4.toList == ([] : List UInt8))))) = true then (if a0_5 = true then (some false) else (some (!a0_6))) else (some false)
def tree_End.f (k : Nat) (a0_0 : Int) (a0_1 : Int) (a0_2 : ByteArray) (a0_3 : ByteArray) (a0_4 : ByteArray) (a0_5 : Bool) (a0_6 : Bool) (l0_7 : List (S27)) : Option (Bool) := if a0_0 = 0 then (if (l0_7.length : Int) = 0 then ((point_Sane.f k a0_1 a0_2 a0_3 a0_4).bind fun t153 => (some t153)) else (some false)) else (if a0_0 = 3 then (if (l0_7.length : Int) = 0 then ((tree_bare.f a0_0 a0_1 a0_2 a0_3 a0_4 a0_5 a0_6 l0_7).bind fun t154 => (some t154)) else (some false)) else (if a0_0 = 4 then (if (l0_7.length : Int) = 0 then ((tree_bare.f a0_0 a0_1 a0_2 a0_3 a0_4 a0_5 a0_6 l0_7).bind fun t155 => (some t155)) else (some false)) else (some false)))
theorem tree_End.mono : ∀ a0 a1 a2 a3 a4 a5 a6 a7 k, LeO (tree_End.f k a0 a1 a2 a3 a4 a5 a6 a7) (tree_End.f (k + 1) a0 a1 a2 a3 a4 a5 a6 a7) := by
  intro a0 a1 a2 a3 a4 a5 a6 a7 k
  unfold tree_End.f
  repeat' (with_reducible first | apply point_Sane.mono | exact LeO.refl _ | exact LeO.none _ | refine LeO.ite ?_ ?_ | refine LeO.bind ?_ fun _ => ?_)
mutual
def slices_IndexFunc.l0 : Nat → List (S27) → Int → Int → Option (Int)
  | 0, _, _, _ => none
  | k + 1, x0, x7, x8 => if x8 < x7 then (if 0 ≤ x8 then (if x8 < (x0.length : Int) then (((tree_right.f k ((rd_T27 x0 x8).f0) ((rd_T27 x0 x8).f1.f0) ((rd_T27 x0 x8).f1.f1) ((rd_T27 x0 x8).f1.f2) ((rd_T27 x0 x8).f1.f3) ((rd_T27 x0 x8).f2) ((rd_T27 x0 x8).f3) ((rd_T27 x0 x8).f4)).bind fun t102_ => (some (!t102_))).bind fun t102 => (if t102 = true then (some x8) else (slices_IndexFunc.l0 k x0 x7 (wrap64 (x8 + 1))))) else (none)) else (none)) else (some (-1))
def tree_right.f : Nat → Int → Int → ByteArray → ByteArray → ByteArray → Bool → Bool → List (S27) → Option (Bool)
  | 0, _, _, _, _, _, _, _, _ => none
  | k + 1, a0_0, a0_1, a0_2, a0_3, a0_4, a0_5, a0_6, l0_7 => if a0_0 = 0 then ((tree_End.f k a0_0 a0_1 a0_2 a0_3 a0_4 a0_5 a0_6 l0_7).bind fun t105 => (some t105)) else (if a0_0 = 1 then ((tree_bare.f a0_0 a0_1 a0_2 a0_3 a0_4 a0_5 a0_6 l0_7).bind fun t106 => (if t106 = true then (if (l0_7.length : Int) = 2 then (if 0 < (l0_7.length : Int) then ((tree_End.f k ((rd_T27 l0_7 0).f0) ((rd_T27 l0_7 0).f1.f0) ((rd_T27 l0_7 0).f1.f1) ((rd_T27 l0_7 0).f1.f2) ((rd_T27 l0_7 0).f1.f3) ((rd_T27 l0_7 0).f2) ((rd_T27 l0_7 0).f3) ((rd_T27 l0_7 0).f4)).bind fun t108 => (if t108 = true then (if 1 < (l0_7.length : Int) then ((tree_End.f k ((rd_T27 l0_7 1).f0) ((rd_T27 l0_7 1).f1.f0) ((rd_T27 l0_7 1).f1.f1) ((rd_T27 l0_7 1).f1.f2) ((rd_T27 l0_7 1).f1.f3) ((rd_T27 l0_7 1).f2) ((rd_T27 l0_7 1).f3) ((rd_T27 l0_7 1).f4)).bind fun t110 => (some t110)) else (none)) else (some false))) else (none)) else (some false)) else (some false))) else (if a0_0 = 2 then ((tree_bare.f a0_0 a0_1 a0_2 a0_3 a0_4 a0_5 a0_6 l0_7).bind fun t111 => (if t111 = true then (if (l0_7.length : Int) > 0 then (((slices_IndexFunc.l0 k l0_7 (l0_7.length : Int) 0).bind fun t103 => (some (decide (t103 ≥ 0)))).bind fun t112 => (some (!t112))) else (some false)) else (some false))) else (some false)))
end
def tree_right_1.f (k : Nat) (a0_0 : Int) (a0_1 : Int) (a0_2 : ByteArray) (a0_3 : ByteArray) (a0_4 : ByteArray) (a0_5 : Bool) (a0_6 : Bool) (l0_7 : List (S27)) : Option (Bool) := (tree_right.f k a0_0 a0_1 a0_2 a0_3 a0_4 a0_5 a0_6 l0_7).bind fun t102 => (some (!t102))
def slices_IndexFunc.f (k : Nat) (l0 : List (S27))  : Option (Int) := slices_IndexFunc.l0 k l0 (l0.length : Int) 0
def slices_ContainsFunc.f (k : Nat) (l0 : List (S27))  : Option (Bool) := (slices_IndexFunc.f k l0).bind fun t103 => (some (decide (t103 ≥ 0)))
def tree_rightR.f (k : Nat) (a0_0 : Int) (a0_1 : Int) (a0_2 : ByteArray) (a0_3 : ByteArray) (a0_4 : ByteArray) (a0_5 : Bool) (a0_6 : Bool) (l0_7 : List (S27)) : Option (Bool) := if a0_0 = 0 then ((tree_End.f k a0_0 a0_1 a0_2 a0_3 a0_4 a0_5 a0_6 l0_7).bind fun t105 => (some t105)) else (if a0_0 = 1 then ((tree_bare.f a0_0 a0_1 a0_2 a0_3 a0_4 a0_5 a0_6 l0_7).bind fun t106 => (if t106 = true then (if (l0_7.length : Int) = 2 then (if 0 < (l0_7.length : Int) then ((tree_End.f k ((rd_T27 l0_7 0).f0) ((rd_T27 l0_7 0).f1.f0) ((rd_T27 l0_7 0).f1.f1) ((rd_T27 l0_7 0).f1.f2) ((rd_T27 l0_7 0).f1.f3) ((rd_T27 l0_7 0).f2) ((rd_T27 l0_7 0).f3) ((rd_T27 l0_7 0).f4)).bind fun t108 => (if t108 = true then (if 1 < (l0_7.length : Int) then ((tree_End.f k ((rd_T27 l0_7 1).f0) ((rd_T27 l0_7 1).f1.f0) ((rd_T27 l0_7 1).f1.f1) ((rd_T27 l0_7 1).f1.f2) ((rd_T27 l0_7 1).f1.f3) ((rd_T27 l0_7 1).f2) ((rd_T27 l0_7 1).f3) ((rd_T27 l0_7 1).f4)).bind fun t110 => (some t110)) else (none)) else (some false))) else (none)) else (some false)) else (some false))) else (if a0_0 = 2 then ((tree_bare.f a0_0 a0_1 a0_2 a0_3 a0_4 a0_5 a0_6 l0_7).bind fun t111 => (if t111 = true then (if (l0_7.length : Int) > 0 then ((slices_ContainsFunc.f k l0_7).bind fun t112 => (some (!t112))) else (some false)) else (some false))) else (some false)))
theorem slices_IndexFunc.l0_succ (k : Nat) (x0 : List S27) (x7 x8 : Int) : slices_IndexFunc.l0 (k + 1) x0 x7 x8 = if x8 < x7 then (if 0 ≤ x8 then (if x8 < (x0.length : Int) then ((tree_right_1.f k ((rd_T27 x0 x8).f0) ((rd_T27 x0 x8).f1.f0) ((rd_T27 x0 x8).f1.f1) ((rd_T27 x0 x8).f1.f2) ((rd_T27 x0 x8).f1.f3) ((rd_T27 x0 x8).f2) ((rd_T27 x0 x8).f3) ((rd_T27 x0 x8).f4)).bind fun t102 => (if t102 = true then (some x8) else (slices_IndexFunc.l0 k x0 x7 (wrap64 (x8 + 1))))) else (none)) else (none)) else (some (-1)) := by
  rw [slices_IndexFunc.l0]
  rfl
theorem tree_right.f_succ (k : Nat) (a0_0 : Int) (a0_1 : Int) (a0_2 : ByteArray) (a0_3 : ByteArray) (a0_4 : ByteArray) (a0_5 : Bool) (a0_6 : Bool) (l0_7 : List (S27)) : tree_right.f (k + 1) a0_0 a0_1 a0_2 a0_3 a0_4 a0_5 a0_6 l0_7 = tree_rightR.f k a0_0 a0_1 a0_2 a0_3 a0_4 a0_5 a0_6 l0_7 := by
  rw [tree_right.f]
  rfl
theorem tree_right.mono_l : ∀ k, (∀ y0 y1 y2 y3 y4 y5 y6 y7, LeO (tree_right.f k y0 y1 y2 y3 y4 y5 y6 y7) (tree_right.f (k + 1) y0 y1 y2 y3 y4 y5 y6 y7)) ∧ (∀ y0 y1 y2, LeO (slices_IndexFunc.l0 k y0 y1 y2) (slices_IndexFunc.l0 (k + 1) y0 y1 y2))
  | 0 => ⟨fun _ _ _ _ _ _ _ _ r h => by simp [tree_right.f] at h, fun _ _ _ r h => by simp [slices_IndexFunc.l0] at h⟩
  | k + 1 => by
    obtain ⟨ih0, ih1⟩ := tree_right.mono_l k
    refine ⟨?_, ?_⟩
    · intro y0 y1 y2 y3 y4 y5 y6 y7
      unfold tree_right.f
      repeat' (with_reducible first | apply ih0 | apply ih1 | apply tree_End.mono | exact LeO.refl _ | exact LeO.none _ | refine LeO.ite ?_ ?_ | refine LeO.bind ?_ fun _ => ?_)
    · intro y0 y1 y2
      unfold slices_IndexFunc.l0
      repeat' (with_reducible first | apply ih0 | apply ih1 | apply tree_End.mono | exact LeO.refl _ | exact LeO.none _ | refine LeO.ite ?_ ?_ | refine LeO.bind ?_ fun _ => ?_)
theorem tree_right.mono : ∀ a0 a1 a2 a3 a4 a5 a6 a7 k, LeO (tree_right.f k a0 a1 a2 a3 a4 a5 a6 a7) (tree_right.f (k + 1) a0 a1 a2 a3 a4 a5 a6 a7) := fun a0 a1 a2 a3 a4 a5 a6 a7 k => (tree_right.mono_l k).1 a0 a1 a2 a3 a4 a5 a6 a7
mutual
def tree_Count_1.l0 : Nat → Int → List (S27) → Int → Int → Option (Int)
  | 0, _, _, _, _ => none
  | k + 1, x1, x9, x10, x11 => if x11 < x10 then (if 0 ≤ x11 then (if x11 < (x9.length : Int) then ((tree_Count_1.f k ((rd_T27 x9 x11).f0) ((rd_T27 x9 x11).f1.f0) ((rd_T27 x9 x11).f1.f1) ((rd_T27 x9 x11).f1.f2) ((rd_T27 x9 x11).f1.f3) ((rd_T27 x9 x11).f2) ((rd_T27 x9 x11).f3) ((rd_T27 x9 x11).f4) x1).bind fun t104 => (tree_Count_1.l0 k t104 x9 x10 (wrap64 (x11 + 1)))) else (none)) else (none)) else (some x1)
def tree_Count_1.f : Nat → Int → Int → ByteArray → ByteArray → ByteArray → Bool → Bool → List (S27) → Int → Option (Int)
  | 0, _, _, _, _, _, _, _, _, _ => none
  | k + 1, a0_0, a0_1, a0_2, a0_3, a0_4, a0_5, a0_6, l0_7, a1 => tree_Count_1.l0 k (wrap64 (a1 + 1)) l0_7 (l0_7.length : Int) 0
end
theorem tree_Count_1.mono_l : ∀ k, (∀ y0 y1 y2 y3 y4 y5 y6 y7 y8, LeO (tree_Count_1.f k y0 y1 y2 y3 y4 y5 y6 y7 y8) (tree_Count_1.f (k + 1) y0 y1 y2 y3 y4 y5 y6 y7 y8)) ∧ (∀ y0 y1 y2 y3, LeO (tree_Count_1.l0 k y0 y1 y2 y3) (tree_Count_1.l0 (k + 1) y0 y1 y2 y3))
  | 0 => ⟨fun _ _ _ _ _ _ _ _ _ r h => by simp [tree_Count_1.f] at h, fun _ _ _ _ r h => by simp [tree_Count_1.l0] at h⟩
  | k + 1 => by
    obtain ⟨ih0, ih1⟩ := tree_Count_1.mono_l k
    refine ⟨?_, ?_⟩
    · intro y0 y1 y2 y3 y4 y5 y6 y7 y8
      unfold tree_Count_1.f
      repeat' (with_reducible first | apply ih0 | apply ih1 | exact LeO.refl _ | exact LeO.none _ | refine LeO.ite ?_ ?_ | refine LeO.bind ?_ fun _ => ?_)
    · intro y0 y1 y2 y3
      unfold tree_Count_1.l0
      repeat' (with_reducible first | apply ih0 | apply ih1 | exact LeO.refl _ | exact LeO.none _ | refine LeO.ite ?_ ?_ | refine LeO.bind ?_ fun _ => ?_)
theorem tree_Count_1.mono : ∀ a0 a1 a2 a3 a4 a5 a6 a7 a8 k, LeO (tree_Count_1.f k a0 a1 a2 a3 a4 a5 a6 a7 a8) (tree_Count_1.f (k + 1) a0 a1 a2 a3 a4 a5 a6 a7 a8) := by
  intro a0 a1 a2 a3 a4 a5 a6 a7 a8 k
  obtain ⟨ih0, ih1⟩ := tree_Count_1.mono_l k
  exact ih0 a0 a1 a2 a3 a4 a5 a6 a7 a8
mutual
def tree_Deep_1.j0 : Nat → Int → Int → Int → Int → ByteArray → ByteArray → ByteArray → Bool → Bool → List (S27) → Option (Int)
  | 0, _, _, _, _, _, _, _, _, _, _ => none
  | k + 1, x1, x2, x106000, x106001, x106002, x106003, x106004, x106005, x106006, x106007 => tree_Deep_1.l0 k x1 (mx x2 x1) x106007 (x106007.length : Int) 0
def tree_Deep_1.l0 : Nat → Int → Int → List (S27) → Int → Int → Option (Int)
  | 0, _, _, _, _, _ => none
  | k + 1, x1, x2, x17, x18, x19 => if x19 < x18 then (if 0 ≤ x19 then (if x19 < (x17.length : Int) then ((tree_Deep_1.f k ((rd_T27 x17 x19).f0) ((rd_T27 x17 x19).f1.f0) ((rd_T27 x17 x19).f1.f1) ((rd_T27 x17 x19).f1.f2) ((rd_T27 x17 x19).f1.f3) ((rd_T27 x17 x19).f2) ((rd_T27 x17 x19).f3) ((rd_T27 x17 x19).f4) x1 x2).bind fun t108 => (tree_Deep_1.l0 k x1 t108 x17 x18 (wrap64 (x19 + 1)))) else (none)) else (none)) else (some x2)
def tree_Deep_1.f : Nat → Int → Int → ByteArray → ByteArray → ByteArray → Bool → Bool → List (S27) → Int → Int → Option (Int)
  | 0, _, _, _, _, _, _, _, _, _, _ => none
  | k + 1, a0_0, a0_1, a0_2, a0_3, a0_4, a0_5, a0_6, l0_7, a1, a2 => if a0_0 = 2 then (tree_Deep_1.j0 k (wrap64 (a1 + 1)) a2 a0_0 a0_1 a0_2 a0_3 a0_4 a0_5 a0_6 l0_7) else (tree_Deep_1.j0 k a1 a2 a0_0 a0_1 a0_2 a0_3 a0_4 a0_5 a0_6 l0_7)
end
theorem tree_Deep_1.mono_l : ∀ k, (∀ y0 y1 y2 y3 y4 y5 y6 y7 y8 y9, LeO (tree_Deep_1.f k y0 y1 y2 y3 y4 y5 y6 y7 y8 y9) (tree_Deep_1.f (k + 1) y0 y1 y2 y3 y4 y5 y6 y7 y8 y9)) ∧ (∀ y0 y1 y2 y3 y4 y5 y6 y7 y8 y9, LeO (tree_Deep_1.j0 k y0 y1 y2 y3 y4 y5 y6 y7 y8 y9) (tree_Deep_1.j0 (k + 1) y0 y1 y2 y3 y4 y5 y6 y7 y8 y9)) ∧ (∀ y0 y1 y2 y3 y4, LeO (tree_Deep_1.l0 k y0 y1 y2 y3 y4) (tree_Deep_1.l0 (k + 1) y0 y1 y2 y3 y4))
  | 0 => ⟨fun _ _ _ _ _ _ _ _ _ _ r h => by simp [tree_Deep_1.f] at h, fun _ _ _ _ _ _ _ _ _ _ r h => by simp [tree_Deep_1.j0] at h, fun _ _ _ _ _ r h => by simp [tree_Deep_1.l0] at h⟩
  | k + 1 => by
    obtain ⟨ih0, ih1, ih2⟩ := tree_Deep_1.mono_l k
    refine ⟨?_, ?_, ?_⟩
    · intro y0 y1 y2 y3 y4 y5 y6 y7 y8 y9
      unfold tree_Deep_1.f
      repeat' (with_reducible first | apply ih0 | apply ih1 | apply ih2 | exact LeO.refl _ | exact LeO.none _ | refine LeO.ite ?_ ?_ | refine LeO.bind ?_ fun _ => ?_)
    · intro y0 y1 y2 y3 y4 y5 y6 y7 y8 y9
      unfold tree_Deep_1.j0
      repeat' (with_reducible first | apply ih0 | apply ih1 | apply ih2 | exact LeO.refl _ | exact LeO.none _ | refine LeO.ite ?_ ?_ | refine LeO.bind ?_ fun _ => ?_)
    · intro y0 y1 y2 y3 y4
      unfold tree_Deep_1.l0
      repeat' (with_reducible first | apply ih0 | apply ih1 | apply ih2 | exact LeO.refl _ | exact LeO.none _ | refine LeO.ite ?_ ?_ | refine LeO.bind ?_ fun _ => ?_)
theorem tree_Deep_1.mono : ∀ a0 a1 a2 a3 a4 a5 a6 a7 a8 a9 k, LeO (tree_Deep_1.f k a0 a1 a2 a3 a4 a5 a6 a7 a8 a9) (tree_Deep_1.f (k + 1) a0 a1 a2 a3 a4 a5 a6 a7 a8 a9) := by
  intro a0 a1 a2 a3 a4 a5 a6 a7 a8 a9 k
  obtain ⟨ih0, ih1, ih2⟩ := tree_Deep_1.mono_l k
  exact ih0 a0 a1 a2 a3 a4 a5 a6 a7 a8 a9
def tree_Count.f (k : Nat) (a0_0 : Int) (a0_1 : Int) (a0_2 : ByteArray) (a0_3 : ByteArray) (a0_4 : ByteArray) (a0_5 : Bool) (a0_6 : Bool) (l0_7 : List (S27)) : Option (Int) := tree_Count_1.f k a0_0 a0_1 a0_2 a0_3 a0_4 a0_5 a0_6 l0_7 0
theorem tree_Count.mono : ∀ a0 a1 a2 a3 a4 a5 a6 a7 k, LeO (tree_Count.f k a0 a1 a2 a3 a4 a5 a6 a7) (tree_Count.f (k + 1) a0 a1 a2 a3 a4 a5 a6 a7) := fun a0 a1 a2 a3 a4 a5 a6 a7 k => tree_Count_1.mono a0 a1 a2 a3 a4 a5 a6 a7 0 k
def tree_Deep.f (k : Nat) (a0_0 : Int) (a0_1 : Int) (a0_2 : ByteArray) (a0_3 : ByteArray) (a0_4 : ByteArray) (a0_5 : Bool) (a0_6 : Bool) (l0_7 : List (S27)) : Option (Int) := tree_Deep_1.f k a0_0 a0_1 a0_2 a0_3 a0_4 a0_5 a0_6 l0_7 0 0
theorem tree_Deep.mono : ∀ a0 a1 a2 a3 a4 a5 a6 a7 k, LeO (tree_Deep.f k a0 a1 a2 a3 a4 a5 a6 a7) (tree_Deep.f (k + 1) a0 a1 a2 a3 a4 a5 a6 a7) := fun a0 a1 a2 a3 a4 a5 a6 a7 k => tree_Deep_1.mono a0 a1 a2 a3 a4 a5 a6 a7 0 0 k
def tree_Sane.f (k : Nat) (a0_0 : Int) (a0_1 : Int) (a0_2 : ByteArray) (a0_3 : ByteArray) (a0_4 : ByteArray) (a0_5 : Bool) (a0_6 : Bool) (l0_7 : List (S27)) : Option (Bool) := (tree_Count.f k a0_0 a0_1 a0_2 a0_3 a0_4 a0_5 a0_6 l0_7).bind fun t157 => (if t157 ≤ 64 then ((tree_Deep.f k a0_0 a0_1 a0_2 a0_3 a0_4 a0_5 a0_6 l0_7).bind fun t158 => (if t158 ≤ 8 then ((tree_right.f k a0_0 a0_1 a0_2 a0_3 a0_4 a0_5 a0_6 l0_7).bind fun t159 => (some t159)) else (some false))) else (some false))
theorem tree_Sane.mono : ∀ a0 a1 a2 a3 a4 a5 a6 a7 k, LeO (tree_Sane.f k a0 a1 a2 a3 a4 a5 a6 a7) (tree_Sane.f (k + 1) a0 a1 a2 a3 a4 a5 a6 a7) := by
  intro a0 a1 a2 a3 a4 a5 a6 a7 k
  unfold tree_Sane.f
  repeat' (with_reducible first | apply tree_Count.mono | apply tree_Deep.mono | apply tree_right.mono | exact LeO.refl _ | exact LeO.none _ | refine LeO.ite ?_ ?_ | refine LeO.bind ?_ fun _ => ?_)
def point_Text.f (k : Nat) (a0_0 : Int) (a0_1 : ByteArray) (a0_2 : ByteArray) (a0_3 : ByteArray) : Option (ByteArray) := (point_Sane.f k a0_0 a0_1 a0_2 a0_3).bind fun t188 => (if t188 = true then (if a0_0 = 0 then (if 1 + a0_3.size ≤ 9223372036854775807 then (if 1 + a0_2.size ≤ 9223372036854775807 then (if ((⟨#[45]⟩ : ByteArray) ++ a0_2).size + ((⟨#[45]⟩ : ByteArray) ++ a0_3).size ≤ 9223372036854775807 then (if a0_1.size + (((⟨#[45]⟩ : ByteArray) ++ a0_2) ++ ((⟨#[45]⟩ : ByteArray) ++ a0_3)).size ≤ 9223372036854775807 then (some (a0_1 ++ (((⟨#[45]⟩ : ByteArray) ++ a0_2) ++ ((⟨#[45]⟩ : ByteArray) ++ a0_3)))) else (none)) else (none)) else (none)) else (none)) else (if a0_0 = 1 then (if 1 + a0_2.size ≤ 9223372036854775807 then (if ((⟨#[45]⟩ : ByteArray) ++ a0_2).size + 0 ≤ 9223372036854775807 then (if a0_1.size + (((⟨#[45]⟩ : ByteArray) ++ a0_2) ++ (⟨#[]⟩ : ByteArray)).size ≤ 9223372036854775807 then (some (a0_1 ++ (((⟨#[45]⟩ : ByteArray) ++ a0_2) ++ (⟨#[]⟩ : ByteArray)))) else (none)) else (none)) else (none)) else (if a0_0 = 2 then (if 1 + a0_2.size ≤ 9223372036854775807 then (if a0_1.size + ((⟨#[115]⟩ : ByteArray) ++ a0_2).size ≤ 9223372036854775807 then (some (a0_1 ++ ((⟨#[115]⟩ : ByteArray) ++ a0_2))) else (none)) else (none)) else (if a0_0 = 4 then (if a0_1.size + 1 ≤ 9223372036854775807 then (some (a0_1 ++ (⟨#[100]⟩ : ByteArray))) else (none)) else (if a0_0 = 5 then (if a0_1.size + 1 ≤ 9223372036854775807 then (some (a0_1 ++ (⟨#[99]⟩ : ByteArray))) else (none)) else (if a0_1.size + 0 ≤ 9223372036854775807 then (some (a0_1 ++ (⟨#[]⟩ : ByteArray))) else (none))))))) else (some (⟨#[]⟩ : ByteArray)))
theorem point_Text.mono : ∀ a0 a1 a2 a3 k, LeO (point_Text.f k a0 a1 a2 a3) (point_Text.f (k + 1) a0 a1 a2 a3) := by
  intro a0 a1 a2 a3 k
  unfold point_Text.f
  repeat' (with_reducible first | apply point_Sane.mono | exact LeO.refl _ | exact LeO.none _ | refine LeO.ite ?_ ?_ | refine LeO.bind ?_ fun _ => ?_)
def strings_Join.f (l : List ByteArray) (sep : ByteArray) : Option ByteArray :=
  if l.length ≤ 140737488355328 then (if (Lib.join (l.map (·.data.toList)) sep.data.toList).length ≤ 140737488355328 then some ⟨(Lib.join (l.map (·.data.toList)) sep.data.toList).toArray⟩ else none) else none
def print_join.f (l0 : List ByteArray) : Option (ByteArray) := (strings_Join.f l0 (⟨#[]⟩ : ByteArray)).bind fun t189 => (some t189)
def print_mark.f (a0 : Bool) (a1 : ByteArray) : Option (ByteArray) := if a0 = true then (some a1) else (some (⟨#[]⟩ : ByteArray))
mutual
def print_text.l0 : Nat → List ByteArray → List (S27) → Int → Int → Option (ByteArray)
  | 0, _, _, _, _ => none
  | k + 1, x3, x25, x26, x27 => if x27 < x26 then (if 0 ≤ x27 then (if x27 < (x25.length : Int) then ((print_text.f k ((rd_T27 x25 x27).f0) ((rd_T27 x25 x27).f1.f0) ((rd_T27 x25 x27).f1.f1) ((rd_T27 x25 x27).f1.f2) ((rd_T27 x25 x27).f1.f3) ((rd_T27 x25 x27).f2) ((rd_T27 x25 x27).f3) ((rd_T27 x25 x27).f4)).bind fun t201 => (if x3.length < 8796093022208 then (print_text.l0 k (x3 ++ [t201]) x25 x26 (wrap64 (x27 + 1))) else (none))) else (none)) else (none)) else ((strings_Join.f x3 (⟨#[44, 32]⟩ : ByteArray)).bind fun t205 => ((print_join.f (([(⟨#[91]⟩ : ByteArray), t205, (⟨#[93]⟩ : ByteArray)] : List ByteArray))).bind fun t209 => (some t209)))
def print_text.f : Nat → Int → Int → ByteArray → ByteArray → ByteArray → Bool → Bool → List (S27) → Option (ByteArray)
  | 0, _, _, _, _, _, _, _, _ => none
  | k + 1, a0_0, a0_1, a0_2, a0_3, a0_4, a0_5, a0_6, l0_7 => if a0_0 = 1 then (if 0 < (l0_7.length : Int) then ((print_text.f k ((rd_T27 l0_7 0).f0) ((rd_T27 l0_7 0).f1.f0) ((rd_T27 l0_7 0).f1.f1) ((rd_T27 l0_7 0).f1.f2) ((rd_T27 l0_7 0).f1.f3) ((rd_T27 l0_7 0).f2) ((rd_T27 l0_7 0).f3) ((rd_T27 l0_7 0).f4)).bind fun t192 => (if 1 < (l0_7.length : Int) then ((print_text.f k ((rd_T27 l0_7 1).f0) ((rd_T27 l0_7 1).f1.f0) ((rd_T27 l0_7 1).f1.f1) ((rd_T27 l0_7 1).f1.f2) ((rd_T27 l0_7 1).f1.f3) ((rd_T27 l0_7 1).f2) ((rd_T27 l0_7 1).f3) ((rd_T27 l0_7 1).f4)).bind fun t194 => ((print_join.f (([t192, (⟨#[47]⟩ : ByteArray), t194] : List ByteArray))).bind fun t198 => (some t198))) else (none))) else (none)) else (if a0_0 = 2 then (print_text.l0 k ([] : List ByteArray) l0_7 (l0_7.length : Int) 0) else (if a0_0 = 3 then (some (⟨#[46, 46]⟩ : ByteArray)) else (if a0_0 = 4 then (some (⟨#[42]⟩ : ByteArray)) else ((point_Text.f k a0_1 a0_2 a0_3 a0_4).bind fun t210 => ((print_mark.f a0_5 (⟨#[63]⟩ : ByteArray)).bind fun t211 => ((print_mark.f a0_6 (⟨#[126]⟩ : ByteArray)).bind fun t212 => ((print_join.f (([t210, t211, t212] : List ByteArray))).bind fun t216 => (some t216))))))))
end
theorem print_text.mono_l : ∀ k, (∀ y0 y1 y2 y3 y4 y5 y6 y7, LeO (print_text.f k y0 y1 y2 y3 y4 y5 y6 y7) (print_text.f (k + 1) y0 y1 y2 y3 y4 y5 y6 y7)) ∧ (∀ y0 y1 y2 y3, LeO (print_text.l0 k y0 y1 y2 y3) (print_text.l0 (k + 1) y0 y1 y2 y3))
  | 0 => ⟨fun _ _ _ _ _ _ _ _ r h => by simp [print_text.f] at h, fun _ _ _ _ r h => by simp [print_text.l0] at h⟩
  | k + 1 => by
    obtain ⟨ih0, ih1⟩ := print_text.mono_l k
    refine ⟨?_, ?_⟩
    · intro y0 y1 y2 y3 y4 y5 y6 y7
      unfold print_text.f
      repeat' (with_reducible first | apply ih0 | apply ih1 | apply point_Text.mono | exact LeO.refl _ | exact LeO.none _ | refine LeO.ite ?_ ?_ | refine LeO.bind ?_ fun _ => ?_)
    · intro y0 y1 y2 y3
      unfold print_text.l0
      repeat' (with_reducible first | apply ih0 | apply ih1 | apply point_Text.mono | exact LeO.refl _ | exact LeO.none _ | refine LeO.ite ?_ ?_ | refine LeO.bind ?_ fun _ => ?_)
theorem print_text.mono : ∀ a0 a1 a2 a3 a4 a5 a6 a7 k, LeO (print_text.f k a0 a1 a2 a3 a4 a5 a6 a7) (print_text.f (k + 1) a0 a1 a2 a3 a4 a5 a6 a7) := by
  intro a0 a1 a2 a3 a4 a5 a6 a7 k
  obtain ⟨ih0, ih1⟩ := print_text.mono_l k
  exact ih0 a0 a1 a2 a3 a4 a5 a6 a7
def print_Text.f (k : Nat) (a0_0 : Int) (a0_1 : Int) (a0_2 : ByteArray) (a0_3 : ByteArray) (a0_4 : ByteArray) (a0_5 : Bool) (a0_6 : Bool) (l0_7 : List (S27)) : Option (ByteArray) := (tree_Sane.f k a0_0 a0_1 a0_2 a0_3 a0_4 a0_5 a0_6 l0_7).bind fun t218 => (if t218 = true then ((print_text.f k a0_0 a0_1 a0_2 a0_3 a0_4 a0_5 a0_6 l0_7).bind fun t219 => (some t219)) else (some (⟨#[]⟩ : ByteArray)))
theorem print_Text.mono : ∀ a0 a1 a2 a3 a4 a5 a6 a7 k, LeO (print_Text.f k a0 a1 a2 a3 a4 a5 a6 a7) (print_Text.f (k + 1) a0 a1 a2 a3 a4 a5 a6 a7) := by
  intro a0 a1 a2 a3 a4 a5 a6 a7 k
  unfold print_Text.f
  repeat' (with_reducible first | apply print_text.mono | apply tree_Sane.mono | exact LeO.refl _ | exact LeO.none _ | refine LeO.ite ?_ ?_ | refine LeO.bind ?_ fun _ => ?_)
def lustrumlaw13_awake.f (k : Nat)  : Option (Bool) := (parse_Parse.f k (⟨#[91, 49, 57, 56, 52, 126, 63, 44, 32, 46, 46, 47, 49, 57, 88, 52, 93]⟩ : ByteArray)).bind fun bt101 => ((parse_Parse.f k (⟨#[49, 57, 56, 52, 47, 91]⟩ : ByteArray)).bind fun bt114 => ((parse_Parse.f k (⟨#[91, 49, 57, 56, 52]⟩ : ByteArray)).bind fun bt127 => (if bt101.2.2.2.2.2.2.2.2.2 = 0 then (if bt101.2.2.2.2.2.2.2.2.1 = 17 then ((print_Text.f k bt101.1 bt101.2.1 bt101.2.2.1 bt101.2.2.2.1 bt101.2.2.2.2.1 bt101.2.2.2.2.2.1 bt101.2.2.2.2.2.2.1 bt101.2.2.2.2.2.2.2.1).bind fun t140 => (if t140.toList = ([91, 49, 57, 56, 52, 63, 126, 44, 32, 46, 46, 47, 49, 57, 88, 52, 93] : List UInt8) then (if bt114.2.2.2.2.2.2.2.2.1 = 5 then (if bt114.2.2.2.2.2.2.2.2.2 = 3 then (if bt127.2.2.2.2.2.2.2.2.1 = 5 then (some (bt127.2.2.2.2.2.2.2.2.2 == 4)) else (some false)) else (some false)) else (some false)) else (some false))) else (some false)) else (some false))))
theorem lustrumlaw13_awake.mono : ∀ k, LeO (lustrumlaw13_awake.f k ) (lustrumlaw13_awake.f (k + 1) ) := by
  intro  k
  unfold lustrumlaw13_awake.f
  repeat' first
      | (with_reducible exact parse_Parse.mono _ _)
      | (with_reducible exact print_Text.mono _ _ _ _ _ _ _ _ _)
      | (with_reducible exact LeO.refl _)
      | (with_reducible exact LeO.none _)
      | (with_reducible refine LeO.ite ?_ ?_)
      | (with_reducible refine LeO.bind ?_ (fun _ => ?_))
      | exact parse_Parse.mono _ _
      | exact print_Text.mono _ _ _ _ _ _ _ _ _
      | exact LeO.none _
      | refine LeO.ite ?_ ?_
      | refine LeO.bind ?_ (fun _ => ?_)
def lustrumlaw13_ParseIs.f (k : Nat) (a0 : ByteArray) : Option (Bool) := (lustrumlaw13_awake.f k).bind fun t101 => (if (a0.size : Int) > 2100 then (some t101) else ((parse_Parse.f k a0).bind fun bt102 => ((lustrumref13_Parse.f k a0).bind fun bt115 => (if t101 = true then ((tree_Same.f k bt102.1 bt102.2.1 bt102.2.2.1 bt102.2.2.2.1 bt102.2.2.2.2.1 bt102.2.2.2.2.2.1 bt102.2.2.2.2.2.2.1 bt102.2.2.2.2.2.2.2.1 bt115.1 bt115.2.1 bt115.2.2.1 bt115.2.2.2.1 bt115.2.2.2.2.1 bt115.2.2.2.2.2.1 bt115.2.2.2.2.2.2.1 bt115.2.2.2.2.2.2.2.1).bind fun t128 => (if t128 = true then (if bt102.2.2.2.2.2.2.2.2.1 = bt115.2.2.2.2.2.2.2.2.1 then (some (bt102.2.2.2.2.2.2.2.2.2 == bt115.2.2.2.2.2.2.2.2.2)) else (some false)) else (some false))) else (some false)))))
theorem eqA23 (d : Nat) (w : World) (x0 y0 : Int) (x1 y1 : ByteArray) (x2 y2 : ByteArray) (x3 y3 : ByteArray) :
  (Op.equalIn (d + 2) 24 (.agg #[.int .i64 x0, .string x1, .string x2, .string x3]) (.agg #[.int .i64 y0, .string y1, .string y2, .string y3])).run Tryz.prog w = .ok (x0 == y0 && (x1.toList == y1.toList && (x2.toList == y2.toList && (x3.toList == y3.toList)))) w := by
 refine eqA_of Tryz.underlying24 (by kernel_rfl) ?_; refine eqf_cons (by rfl) (by go_simp; rfl) (by go_simp; rfl) (by go_simp) ?_; refine eqf_cons (by rfl) (by go_simp; rfl) (by go_simp; rfl) (by go_simp) ?_; refine eqf_cons (by rfl) (by go_simp; rfl) (by go_simp; rfl) (by go_simp) ?_; exact eqf_last (by rfl) (by go_simp; rfl) (by go_simp; rfl) (by go_simp)
end Go.Proofs.YtjgjhekpiijniaaGreat.A
namespace Go.Proofs.YtjgjhekpiijniaaGreat.A
open Go.RowKit Go.Proofs.YtjgjhekpiijniaaGreatW.PrintWords Go.Proofs.YtjgjhekpiijniaaGreatW.PrintLast Go.Proofs.YtjgjhekpiijniaaGreatW.PrintMore
attribute [local go_sem] max2_int min2_int max_two min_two max_three min_three max_four min_four isSome_setCell
attribute [local go_sem high] eqA23
abbrev SameAt (k : Nat) : Prop := ∀ (a0_0 a0_1 : Int) (a0_2 a0_3 a0_4 : ByteArray) (a0_5 a0_6 : Bool) (A0_7 : Option Addr) (c0_7 : Nat) (l0_7 : List (S27)) (a1_0 a1_1 : Int) (a1_2 a1_3 a1_4 : ByteArray) (a1_5 a1_6 : Bool) (A1_7 : Option Addr) (c1_7 : Nat) (l1_7 : List (S27)) (r : Bool) (w : World) (hr0_7 : Kd.C k27 w A0_7 l0_7.length l0_7) (hc0_7 : l0_7.length ≤ c0_7) (hr1_7 : Kd.C k27 w A1_7 l1_7.length l1_7) (hc1_7 : l1_7.length ≤ c1_7) (h : tree_Same.f k a0_0 a0_1 a0_2 a0_3 a0_4 a0_5 a0_6 l0_7 a1_0 a1_1 a1_2 a1_3 a1_4 a1_5 a1_6 l1_7 = some r),
    Calls Tryz.prog 10 #[.agg #[.int .i64 a0_0, .int .i64 a0_1, .string a0_2, .string a0_3, .string a0_4, .bool a0_5, .bool a0_6, .slice A0_7 l0_7.length c0_7], .agg #[.int .i64 a1_0, .int .i64 a1_1, .string a1_2, .string a1_3, .string a1_4, .bool a1_5, .bool a1_6, .slice A1_7 l1_7.length c1_7]] w fun e w' => e = .returned (.bool r) ∧ Below w.heap.size w w'
set_option maxHeartbeats 8000000 in
set_option maxRecDepth 100000 in
theorem slices_EqualFunc.calls (k : Nat) (ihS : ∀ j, j < k → SameAt j) (A0 : Option Addr) (c0 : Nat) (l0 : List (S27)) (A1 : Option Addr) (c1 : Nat) (l1 : List (S27))  (r : Bool) (w : World) (hr0 : Kd.C k27 w A0 l0.length l0) (hc0 : l0.length ≤ c0) (hr1 : Kd.C k27 w A1 l1.length l1) (hc1 : l1.length ≤ c1) (h : slices_EqualFunc.f k l0 l1 = some r) :
  Calls Tryz.prog 24 #[.slice A0 l0.length c0, .slice A1 l1.length c1, .func (.func 10) #[] #[]] w fun e w' => e = .returned (.bool r) ∧ Below w.heap.size w w' := by
 have hu27 := Tryz.underlying27; have HR0 := A_ hr0; have HC0 := A_ hc0; clear hr0 hc0; have HR1 := A_ hr1; have HC1 := A_ hc1; clear hr1 hc1; have HB := A_ (Below.refl w.heap.size w); have H : (if (l0.length : Int) = (l1.length : Int) then (slices_EqualFunc.l0 k l1 l0 (l0.length : Int) 0) else (some false)) = some r := h; clear h
 by_cases c4 : (l0.length : Int) = (l1.length : Int)
 ·rw [if_pos c4] at H
  have c4b0 : ((l0.length : Int) == (l1.length : Int)) = true := beq_iff_eq.mpr c4; have c4b1 : ((l0.length : Int) != (l1.length : Int)) = false := bne_eq_false_iff_eq.mpr c4; (have c4b2 : (l0.length == l1.length) = true := by first | simpa using c4 | (simp at c4 ⊢; omega)); clear c4; have H' := A_ H; clear H; go_enter Tryz.func24, Tryz.ntmps24; go_wp2; go_loopg [17] k (fun kq v17 w' => ∃ (x17_1 : Int), v17 = .int .i64 x17_1 ∧ Aside0 (slices_EqualFunc.l0 kq l1 l0 (l0.length : Int) x17_1 = some r) ∧ Aside0 (kq ≤ k) ∧ Aside0 (Below w.heap.size w w'))
  case atStart => exact ⟨(0), rf_, H', ⟨Nat.le_refl _⟩, ⟨hs_⟩⟩
  case round =>
   clear H'; (try clear c1); (try clear p2); (try clear c4); (try clear c4b0); (try clear c4b1); (try clear c4b2); obtain ⟨x17_1, rfl, HA, HK1, HB⟩ := hrel
   cases gk with
   | zero => exact absurd HA.out (by simp [slices_EqualFunc.l0])
   | succ k1 =>
    have H := HA.out; clear HA; simp only [slices_EqualFunc.l0] at H
    by_cases c5 : x17_1 < (l0.length : Int)
    ·rw [if_pos c5] at H
     have c5b0 := decide_eq_true c5; clear c5
     by_cases c6 : 0 ≤ x17_1
     ·rw [if_pos c6] at H
      have c6b0 := decide_eq_true c6; clear c6
      by_cases c7 : x17_1 < (l0.length : Int)
      ·rw [if_pos c7] at H
       have c7b0 := decide_eq_true c7; clear c7
       by_cases c8 : x17_1 < (l1.length : Int)
       ·rw [if_pos c8] at H
        have c8b0 := decide_eq_true c8; clear c8; obtain ⟨t105, A9, H⟩ := bi_ H
        by_cases c10 : t105 = true
        ·subst c10
         replace H := iP_ H; have H' := A_ H; clear H; have p101 : 0 ≤ (x17_1 : Int) := od_; have q101 : x17_1 < (l0.length : Int) := od_; obtain ⟨ad101, A101_7, c101_7, e101, hx101_0, hx101_1, hx101_2, hx101_3, hx101_4, hx101_5, hx101_6, hx101_7, hl101_7, hi101_7⟩ := at_T27 HR0.out x17_1 p101 q101
         cases e101
         replace hx101_0 := cl_ HB hx101_0; replace hx101_1 := cl_ HB hx101_1; replace hx101_2 := cl_ HB hx101_2; replace hx101_3 := cl_ HB hx101_3; replace hx101_4 := cl_ HB hx101_4; replace hx101_5 := cl_ HB hx101_5; replace hx101_6 := cl_ HB hx101_6; replace hx101_7 := cl_ HB hx101_7; have HR101_7 := A_ hi101_7; have HC101_7 := A_ hl101_7; clear hi101_7 hl101_7; replace p101 := eq_true p101; replace q101 := eq_true q101; go_wp2_with (first | (refine gx_ w 8 z8_ 27 ?_; clear HB; intro gb102 w11 BK102 GE102 HB; have GW102 := GE102; have Z12 := bz8_ BK102; have p103 : 0 ≤ (x17_1 : Int) := od_; have q103 : x17_1 < (l1.length : Int) := od_; obtain ⟨ad103, A103_7, c103_7, e103, hx103_0, hx103_1, hx103_2, hx103_3, hx103_4, hx103_5, hx103_6, hx103_7, hl103_7, hi103_7⟩ := at_T27 HR1.out x17_1 p103 q103; cases e103; have hn103_0 : ad103.block ≠ gb102 := Nat.ne_of_lt (Nat.lt_of_lt_of_le (by have := World.block_lt_of_cell? _ _ hx103_0; first | rwa [add_block] at this | exact this) GW102.out); have hn103_1 : ad103.block ≠ gb102 := Nat.ne_of_lt (Nat.lt_of_lt_of_le (by have := World.block_lt_of_cell? _ _ hx103_0; first | rwa [add_block] at this | exact this) GW102.out); have hn103_2 : ad103.block ≠ gb102 := Nat.ne_of_lt (Nat.lt_of_lt_of_le (by have := World.block_lt_of_cell? _ _ hx103_0; first | rwa [add_block] at this | exact this) GW102.out); have hn103_3 : ad103.block ≠ gb102 := Nat.ne_of_lt (Nat.lt_of_lt_of_le (by have := World.block_lt_of_cell? _ _ hx103_0; first | rwa [add_block] at this | exact this) GW102.out); have hn103_4 : ad103.block ≠ gb102 := Nat.ne_of_lt (Nat.lt_of_lt_of_le (by have := World.block_lt_of_cell? _ _ hx103_0; first | rwa [add_block] at this | exact this) GW102.out); have hn103_5 : ad103.block ≠ gb102 := Nat.ne_of_lt (Nat.lt_of_lt_of_le (by have := World.block_lt_of_cell? _ _ hx103_0; first | rwa [add_block] at this | exact this) GW102.out); have hn103_6 : ad103.block ≠ gb102 := Nat.ne_of_lt (Nat.lt_of_lt_of_le (by have := World.block_lt_of_cell? _ _ hx103_0; first | rwa [add_block] at this | exact this) GW102.out); have hn103_7 : ad103.block ≠ gb102 := Nat.ne_of_lt (Nat.lt_of_lt_of_le (by have := World.block_lt_of_cell? _ _ hx103_0; first | rwa [add_block] at this | exact this) GW102.out); replace hx103_0 := cl_ HB hx103_0; replace hx103_1 := cl_ HB hx103_1; replace hx103_2 := cl_ HB hx103_2; replace hx103_3 := cl_ HB hx103_3; replace hx103_4 := cl_ HB hx103_4; replace hx103_5 := cl_ HB hx103_5; replace hx103_6 := cl_ HB hx103_6; replace hx103_7 := cl_ HB hx103_7; have HR103_7 := A_ hi103_7; have HC103_7 := A_ hl103_7; clear hi103_7 hl103_7; replace hx103_0 := (cell_far (p := ⟨gb102, 0, none⟩) (ne_ hn103_0) (.int .i64 ((rd_T27 l0 x17_1).f0))).trans hx103_0; replace hx103_1 := (cell_far (p := ⟨gb102, 0, none⟩) (ne_ hn103_0) (.int .i64 ((rd_T27 l0 x17_1).f0))).trans hx103_1; replace hx103_2 := (cell_far (p := ⟨gb102, 0, none⟩) (ne_ hn103_0) (.int .i64 ((rd_T27 l0 x17_1).f0))).trans hx103_2; replace hx103_3 := (cell_far (p := ⟨gb102, 0, none⟩) (ne_ hn103_0) (.int .i64 ((rd_T27 l0 x17_1).f0))).trans hx103_3; replace hx103_4 := (cell_far (p := ⟨gb102, 0, none⟩) (ne_ hn103_0) (.int .i64 ((rd_T27 l0 x17_1).f0))).trans hx103_4; replace hx103_5 := (cell_far (p := ⟨gb102, 0, none⟩) (ne_ hn103_0) (.int .i64 ((rd_T27 l0 x17_1).f0))).trans hx103_5; replace hx103_6 := (cell_far (p := ⟨gb102, 0, none⟩) (ne_ hn103_0) (.int .i64 ((rd_T27 l0 x17_1).f0))).trans hx103_6; replace hx103_7 := (cell_far (p := ⟨gb102, 0, none⟩) (ne_ hn103_0) (.int .i64 ((rd_T27 l0 x17_1).f0))).trans hx103_7; replace hx103_0 := (cell_far (p := ⟨gb102, 1, none⟩) (ne_ hn103_1) (.int .i64 ((rd_T27 l0 x17_1).f1.f0))).trans hx103_0; replace hx103_1 := (cell_far (p := ⟨gb102, 1, none⟩) (ne_ hn103_1) (.int .i64 ((rd_T27 l0 x17_1).f1.f0))).trans hx103_1; replace hx103_2 := (cell_far (p := ⟨gb102, 1, none⟩) (ne_ hn103_1) (.int .i64 ((rd_T27 l0 x17_1).f1.f0))).trans hx103_2; replace hx103_3 := (cell_far (p := ⟨gb102, 1, none⟩) (ne_ hn103_1) (.int .i64 ((rd_T27 l0 x17_1).f1.f0))).trans hx103_3; replace hx103_4 := (cell_far (p := ⟨gb102, 1, none⟩) (ne_ hn103_1) (.int .i64 ((rd_T27 l0 x17_1).f1.f0))).trans hx103_4; replace hx103_5 := (cell_far (p := ⟨gb102, 1, none⟩) (ne_ hn103_1) (.int .i64 ((rd_T27 l0 x17_1).f1.f0))).trans hx103_5; replace hx103_6 := (cell_far (p := ⟨gb102, 1, none⟩) (ne_ hn103_1) (.int .i64 ((rd_T27 l0 x17_1).f1.f0))).trans hx103_6; replace hx103_7 := (cell_far (p := ⟨gb102, 1, none⟩) (ne_ hn103_1) (.int .i64 ((rd_T27 l0 x17_1).f1.f0))).trans hx103_7; replace hx103_0 := (cell_far (p := ⟨gb102, 2, none⟩) (ne_ hn103_2) (.string ((rd_T27 l0 x17_1).f1.f1))).trans hx103_0; replace hx103_1 := (cell_far (p := ⟨gb102, 2, none⟩) (ne_ hn103_2) (.string ((rd_T27 l0 x17_1).f1.f1))).trans hx103_1; replace hx103_2 := (cell_far (p := ⟨gb102, 2, none⟩) (ne_ hn103_2) (.string ((rd_T27 l0 x17_1).f1.f1))).trans hx103_2; replace hx103_3 := (cell_far (p := ⟨gb102, 2, none⟩) (ne_ hn103_2) (.string ((rd_T27 l0 x17_1).f1.f1))).trans hx103_3; replace hx103_4 := (cell_far (p := ⟨gb102, 2, none⟩) (ne_ hn103_2) (.string ((rd_T27 l0 x17_1).f1.f1))).trans hx103_4; replace hx103_5 := (cell_far (p := ⟨gb102, 2, none⟩) (ne_ hn103_2) (.string ((rd_T27 l0 x17_1).f1.f1))).trans hx103_5; replace hx103_6 := (cell_far (p := ⟨gb102, 2, none⟩) (ne_ hn103_2) (.string ((rd_T27 l0 x17_1).f1.f1))).trans hx103_6; replace hx103_7 := (cell_far (p := ⟨gb102, 2, none⟩) (ne_ hn103_2) (.string ((rd_T27 l0 x17_1).f1.f1))).trans hx103_7; replace hx103_0 := (cell_far (p := ⟨gb102, 3, none⟩) (ne_ hn103_3) (.string ((rd_T27 l0 x17_1).f1.f2))).trans hx103_0; replace hx103_1 := (cell_far (p := ⟨gb102, 3, none⟩) (ne_ hn103_3) (.string ((rd_T27 l0 x17_1).f1.f2))).trans hx103_1; replace hx103_2 := (cell_far (p := ⟨gb102, 3, none⟩) (ne_ hn103_3) (.string ((rd_T27 l0 x17_1).f1.f2))).trans hx103_2; replace hx103_3 := (cell_far (p := ⟨gb102, 3, none⟩) (ne_ hn103_3) (.string ((rd_T27 l0 x17_1).f1.f2))).trans hx103_3; replace hx103_4 := (cell_far (p := ⟨gb102, 3, none⟩) (ne_ hn103_3) (.string ((rd_T27 l0 x17_1).f1.f2))).trans hx103_4; replace hx103_5 := (cell_far (p := ⟨gb102, 3, none⟩) (ne_ hn103_3) (.string ((rd_T27 l0 x17_1).f1.f2))).trans hx103_5; replace hx103_6 := (cell_far (p := ⟨gb102, 3, none⟩) (ne_ hn103_3) (.string ((rd_T27 l0 x17_1).f1.f2))).trans hx103_6; replace hx103_7 := (cell_far (p := ⟨gb102, 3, none⟩) (ne_ hn103_3) (.string ((rd_T27 l0 x17_1).f1.f2))).trans hx103_7; replace hx103_0 := (cell_far (p := ⟨gb102, 4, none⟩) (ne_ hn103_4) (.string ((rd_T27 l0 x17_1).f1.f3))).trans hx103_0; replace hx103_1 := (cell_far (p := ⟨gb102, 4, none⟩) (ne_ hn103_4) (.string ((rd_T27 l0 x17_1).f1.f3))).trans hx103_1; replace hx103_2 := (cell_far (p := ⟨gb102, 4, none⟩) (ne_ hn103_4) (.string ((rd_T27 l0 x17_1).f1.f3))).trans hx103_2; replace hx103_3 := (cell_far (p := ⟨gb102, 4, none⟩) (ne_ hn103_4) (.string ((rd_T27 l0 x17_1).f1.f3))).trans hx103_3; replace hx103_4 := (cell_far (p := ⟨gb102, 4, none⟩) (ne_ hn103_4) (.string ((rd_T27 l0 x17_1).f1.f3))).trans hx103_4; replace hx103_5 := (cell_far (p := ⟨gb102, 4, none⟩) (ne_ hn103_4) (.string ((rd_T27 l0 x17_1).f1.f3))).trans hx103_5; replace hx103_6 := (cell_far (p := ⟨gb102, 4, none⟩) (ne_ hn103_4) (.string ((rd_T27 l0 x17_1).f1.f3))).trans hx103_6; replace hx103_7 := (cell_far (p := ⟨gb102, 4, none⟩) (ne_ hn103_4) (.string ((rd_T27 l0 x17_1).f1.f3))).trans hx103_7; replace hx103_0 := (cell_far (p := ⟨gb102, 5, none⟩) (ne_ hn103_5) (.bool ((rd_T27 l0 x17_1).f2))).trans hx103_0; replace hx103_1 := (cell_far (p := ⟨gb102, 5, none⟩) (ne_ hn103_5) (.bool ((rd_T27 l0 x17_1).f2))).trans hx103_1; replace hx103_2 := (cell_far (p := ⟨gb102, 5, none⟩) (ne_ hn103_5) (.bool ((rd_T27 l0 x17_1).f2))).trans hx103_2; replace hx103_3 := (cell_far (p := ⟨gb102, 5, none⟩) (ne_ hn103_5) (.bool ((rd_T27 l0 x17_1).f2))).trans hx103_3; replace hx103_4 := (cell_far (p := ⟨gb102, 5, none⟩) (ne_ hn103_5) (.bool ((rd_T27 l0 x17_1).f2))).trans hx103_4; replace hx103_5 := (cell_far (p := ⟨gb102, 5, none⟩) (ne_ hn103_5) (.bool ((rd_T27 l0 x17_1).f2))).trans hx103_5; replace hx103_6 := (cell_far (p := ⟨gb102, 5, none⟩) (ne_ hn103_5) (.bool ((rd_T27 l0 x17_1).f2))).trans hx103_6; replace hx103_7 := (cell_far (p := ⟨gb102, 5, none⟩) (ne_ hn103_5) (.bool ((rd_T27 l0 x17_1).f2))).trans hx103_7; replace hx103_0 := (cell_far (p := ⟨gb102, 6, none⟩) (ne_ hn103_6) (.bool ((rd_T27 l0 x17_1).f3))).trans hx103_0; replace hx103_1 := (cell_far (p := ⟨gb102, 6, none⟩) (ne_ hn103_6) (.bool ((rd_T27 l0 x17_1).f3))).trans hx103_1; replace hx103_2 := (cell_far (p := ⟨gb102, 6, none⟩) (ne_ hn103_6) (.bool ((rd_T27 l0 x17_1).f3))).trans hx103_2; replace hx103_3 := (cell_far (p := ⟨gb102, 6, none⟩) (ne_ hn103_6) (.bool ((rd_T27 l0 x17_1).f3))).trans hx103_3; replace hx103_4 := (cell_far (p := ⟨gb102, 6, none⟩) (ne_ hn103_6) (.bool ((rd_T27 l0 x17_1).f3))).trans hx103_4; replace hx103_5 := (cell_far (p := ⟨gb102, 6, none⟩) (ne_ hn103_6) (.bool ((rd_T27 l0 x17_1).f3))).trans hx103_5; replace hx103_6 := (cell_far (p := ⟨gb102, 6, none⟩) (ne_ hn103_6) (.bool ((rd_T27 l0 x17_1).f3))).trans hx103_6; replace hx103_7 := (cell_far (p := ⟨gb102, 6, none⟩) (ne_ hn103_6) (.bool ((rd_T27 l0 x17_1).f3))).trans hx103_7; replace hx103_0 := (cell_far (p := ⟨gb102, 7, none⟩) (ne_ hn103_7) (.slice A101_7 ((rd_T27 l0 x17_1).f4).length c101_7)).trans hx103_0; replace hx103_1 := (cell_far (p := ⟨gb102, 7, none⟩) (ne_ hn103_7) (.slice A101_7 ((rd_T27 l0 x17_1).f4).length c101_7)).trans hx103_1; replace hx103_2 := (cell_far (p := ⟨gb102, 7, none⟩) (ne_ hn103_7) (.slice A101_7 ((rd_T27 l0 x17_1).f4).length c101_7)).trans hx103_2; replace hx103_3 := (cell_far (p := ⟨gb102, 7, none⟩) (ne_ hn103_7) (.slice A101_7 ((rd_T27 l0 x17_1).f4).length c101_7)).trans hx103_3; replace hx103_4 := (cell_far (p := ⟨gb102, 7, none⟩) (ne_ hn103_7) (.slice A101_7 ((rd_T27 l0 x17_1).f4).length c101_7)).trans hx103_4; replace hx103_5 := (cell_far (p := ⟨gb102, 7, none⟩) (ne_ hn103_7) (.slice A101_7 ((rd_T27 l0 x17_1).f4).length c101_7)).trans hx103_5; replace hx103_6 := (cell_far (p := ⟨gb102, 7, none⟩) (ne_ hn103_7) (.slice A101_7 ((rd_T27 l0 x17_1).f4).length c101_7)).trans hx103_6; replace hx103_7 := (cell_far (p := ⟨gb102, 7, none⟩) (ne_ hn103_7) (.slice A101_7 ((rd_T27 l0 x17_1).f4).length c101_7)).trans hx103_7; clear hn103_0; clear hn103_1; clear hn103_2; clear hn103_3; clear hn103_4; clear hn103_5; clear hn103_6; clear hn103_7; replace p103 := eq_true p103; replace q103 := eq_true q103) | (refine gD 9 ?_; refine bxe_ 9 z8_ 27 ?_; intro gb104 hg w13 hbox hb; have BK104 := A_ (hbox); have GW104 := gs_ w hg; have GE104 := gs_ w hg; replace HB := bs_ hb; have NB102_104 := nl_ BK102 hg; have NB104_102 := ng_ BK102 hg; replace BK102 := bp_ BK102 (.cells #[.int .i64 ((rd_T27 l0 x17_1).f0), .int .i64 ((rd_T27 l0 x17_1).f1.f0), .string ((rd_T27 l0 x17_1).f1.f1), .string ((rd_T27 l0 x17_1).f1.f2), .string ((rd_T27 l0 x17_1).f1.f3), .bool ((rd_T27 l0 x17_1).f2), .bool ((rd_T27 l0 x17_1).f3), .slice A101_7 ((rd_T27 l0 x17_1).f4).length c101_7] 27 (0, 0)) hb; clear hb hbox hg; have hnb14 := NB104_102.out; have hnc14 := NB102_104.out; have Z15 := bz8_ BK104; have Z16 := bz8_ BK102) | (go_at_call 10; (refine (ihS k1 (by have := HK1.out; omega) ((rd_T27 l0 x17_1).f0) ((rd_T27 l0 x17_1).f1.f0) ((rd_T27 l0 x17_1).f1.f1) ((rd_T27 l0 x17_1).f1.f2) ((rd_T27 l0 x17_1).f1.f3) ((rd_T27 l0 x17_1).f2) ((rd_T27 l0 x17_1).f3) _ _ ((rd_T27 l0 x17_1).f4) ((rd_T27 l1 x17_1).f0) ((rd_T27 l1 x17_1).f1.f0) ((rd_T27 l1 x17_1).f1.f1) ((rd_T27 l1 x17_1).f1.f2) ((rd_T27 l1 x17_1).f1.f3) ((rd_T27 l1 x17_1).f2) ((rd_T27 l1 x17_1).f3) _ _ ((rd_T27 l1 x17_1).f4) true _ ?side1 ?side2 ?side3 ?side4 A9.out).mono ?_); (case side1 => exact Kd.C_below HR101_7.out hs_); (case side2 => exact HC101_7.out); (case side3 => exact Kd.C_below HR103_7.out hs_); (case side4 => exact HC103_7.out); rintro e w17 ⟨rfl, hb⟩; replace BK102 := A_ (blk_below (g := gb102) (o := .cells #[.int .i64 ((rd_T27 l0 x17_1).f0), .int .i64 ((rd_T27 l0 x17_1).f1.f0), .string ((rd_T27 l0 x17_1).f1.f1), .string ((rd_T27 l0 x17_1).f1.f2), .string ((rd_T27 l0 x17_1).f1.f3), .bool ((rd_T27 l0 x17_1).f2), .bool ((rd_T27 l0 x17_1).f3), .slice A101_7 ((rd_T27 l0 x17_1).f4).length c101_7] 27 (0, 0)) (pf_ NB102_104 BK102) hb); replace BK104 := bp_ BK104 (.cells #[.int .i64 ((rd_T27 l1 x17_1).f0), .int .i64 ((rd_T27 l1 x17_1).f1.f0), .string ((rd_T27 l1 x17_1).f1.f1), .string ((rd_T27 l1 x17_1).f1.f2), .string ((rd_T27 l1 x17_1).f1.f3), .bool ((rd_T27 l1 x17_1).f2), .bool ((rd_T27 l1 x17_1).f3), .slice A103_7 ((rd_T27 l1 x17_1).f4).length c103_7] 27 (0, 0)) hb; replace HB := bs_ hb; (try clear hb)))
         go_roundg k1
         case measure => have := HK1.out; omega
         case rel => exact ⟨(wrap64 (x17_1 + 1)), rf_, H', ⟨by have := HK1.out; omega⟩, ⟨hs_⟩⟩
        ·replace c10 := Bool.eq_false_iff.mpr c10
         subst c10; replace H := iN_ H; obtain rfl := Option.some.inj H; have p101 : 0 ≤ (x17_1 : Int) := od_; have q101 : x17_1 < (l0.length : Int) := od_; obtain ⟨ad101, A101_7, c101_7, e101, hx101_0, hx101_1, hx101_2, hx101_3, hx101_4, hx101_5, hx101_6, hx101_7, hl101_7, hi101_7⟩ := at_T27 HR0.out x17_1 p101 q101
         cases e101
         replace hx101_0 := cl_ HB hx101_0; replace hx101_1 := cl_ HB hx101_1; replace hx101_2 := cl_ HB hx101_2; replace hx101_3 := cl_ HB hx101_3; replace hx101_4 := cl_ HB hx101_4; replace hx101_5 := cl_ HB hx101_5; replace hx101_6 := cl_ HB hx101_6; replace hx101_7 := cl_ HB hx101_7; have HR101_7 := A_ hi101_7; have HC101_7 := A_ hl101_7; clear hi101_7 hl101_7; replace p101 := eq_true p101; replace q101 := eq_true q101; go_wp2_with (first | (refine gx_ w 8 z8_ 27 ?_; clear HB; intro gb102 w18 BK102 GE102 HB; have GW102 := GE102; have Z19 := bz8_ BK102; have p103 : 0 ≤ (x17_1 : Int) := od_; have q103 : x17_1 < (l1.length : Int) := od_; obtain ⟨ad103, A103_7, c103_7, e103, hx103_0, hx103_1, hx103_2, hx103_3, hx103_4, hx103_5, hx103_6, hx103_7, hl103_7, hi103_7⟩ := at_T27 HR1.out x17_1 p103 q103; cases e103; have hn103_0 : ad103.block ≠ gb102 := Nat.ne_of_lt (Nat.lt_of_lt_of_le (by have := World.block_lt_of_cell? _ _ hx103_0; first | rwa [add_block] at this | exact this) GW102.out); have hn103_1 : ad103.block ≠ gb102 := Nat.ne_of_lt (Nat.lt_of_lt_of_le (by have := World.block_lt_of_cell? _ _ hx103_0; first | rwa [add_block] at this | exact this) GW102.out); have hn103_2 : ad103.block ≠ gb102 := Nat.ne_of_lt (Nat.lt_of_lt_of_le (by have := World.block_lt_of_cell? _ _ hx103_0; first | rwa [add_block] at this | exact this) GW102.out); have hn103_3 : ad103.block ≠ gb102 := Nat.ne_of_lt (Nat.lt_of_lt_of_le (by have := World.block_lt_of_cell? _ _ hx103_0; first | rwa [add_block] at this | exact this) GW102.out); have hn103_4 : ad103.block ≠ gb102 := Nat.ne_of_lt (Nat.lt_of_lt_of_le (by have := World.block_lt_of_cell? _ _ hx103_0; first | rwa [add_block] at this | exact this) GW102.out); have hn103_5 : ad103.block ≠ gb102 := Nat.ne_of_lt (Nat.lt_of_lt_of_le (by have := World.block_lt_of_cell? _ _ hx103_0; first | rwa [add_block] at this | exact this) GW102.out); have hn103_6 : ad103.block ≠ gb102 := Nat.ne_of_lt (Nat.lt_of_lt_of_le (by have := World.block_lt_of_cell? _ _ hx103_0; first | rwa [add_block] at this | exact this) GW102.out); have hn103_7 : ad103.block ≠ gb102 := Nat.ne_of_lt (Nat.lt_of_lt_of_le (by have := World.block_lt_of_cell? _ _ hx103_0; first | rwa [add_block] at this | exact this) GW102.out); replace hx103_0 := cl_ HB hx103_0; replace hx103_1 := cl_ HB hx103_1; replace hx103_2 := cl_ HB hx103_2; replace hx103_3 := cl_ HB hx103_3; replace hx103_4 := cl_ HB hx103_4; replace hx103_5 := cl_ HB hx103_5; replace hx103_6 := cl_ HB hx103_6; replace hx103_7 := cl_ HB hx103_7; have HR103_7 := A_ hi103_7; have HC103_7 := A_ hl103_7; clear hi103_7 hl103_7; replace hx103_0 := (cell_far (p := ⟨gb102, 0, none⟩) (ne_ hn103_0) (.int .i64 ((rd_T27 l0 x17_1).f0))).trans hx103_0; replace hx103_1 := (cell_far (p := ⟨gb102, 0, none⟩) (ne_ hn103_0) (.int .i64 ((rd_T27 l0 x17_1).f0))).trans hx103_1; replace hx103_2 := (cell_far (p := ⟨gb102, 0, none⟩) (ne_ hn103_0) (.int .i64 ((rd_T27 l0 x17_1).f0))).trans hx103_2; replace hx103_3 := (cell_far (p := ⟨gb102, 0, none⟩) (ne_ hn103_0) (.int .i64 ((rd_T27 l0 x17_1).f0))).trans hx103_3; replace hx103_4 := (cell_far (p := ⟨gb102, 0, none⟩) (ne_ hn103_0) (.int .i64 ((rd_T27 l0 x17_1).f0))).trans hx103_4; replace hx103_5 := (cell_far (p := ⟨gb102, 0, none⟩) (ne_ hn103_0) (.int .i64 ((rd_T27 l0 x17_1).f0))).trans hx103_5; replace hx103_6 := (cell_far (p := ⟨gb102, 0, none⟩) (ne_ hn103_0) (.int .i64 ((rd_T27 l0 x17_1).f0))).trans hx103_6; replace hx103_7 := (cell_far (p := ⟨gb102, 0, none⟩) (ne_ hn103_0) (.int .i64 ((rd_T27 l0 x17_1).f0))).trans hx103_7; replace hx103_0 := (cell_far (p := ⟨gb102, 1, none⟩) (ne_ hn103_1) (.int .i64 ((rd_T27 l0 x17_1).f1.f0))).trans hx103_0; replace hx103_1 := (cell_far (p := ⟨gb102, 1, none⟩) (ne_ hn103_1) (.int .i64 ((rd_T27 l0 x17_1).f1.f0))).trans hx103_1; replace hx103_2 := (cell_far (p := ⟨gb102, 1, none⟩) (ne_ hn103_1) (.int .i64 ((rd_T27 l0 x17_1).f1.f0))).trans hx103_2; replace hx103_3 := (cell_far (p := ⟨gb102, 1, none⟩) (ne_ hn103_1) (.int .i64 ((rd_T27 l0 x17_1).f1.f0))).trans hx103_3; replace hx103_4 := (cell_far (p := ⟨gb102, 1, none⟩) (ne_ hn103_1) (.int .i64 ((rd_T27 l0 x17_1).f1.f0))).trans hx103_4; replace hx103_5 := (cell_far (p := ⟨gb102, 1, none⟩) (ne_ hn103_1) (.int .i64 ((rd_T27 l0 x17_1).f1.f0))).trans hx103_5; replace hx103_6 := (cell_far (p := ⟨gb102, 1, none⟩) (ne_ hn103_1) (.int .i64 ((rd_T27 l0 x17_1).f1.f0))).trans hx103_6; replace hx103_7 := (cell_far (p := ⟨gb102, 1, none⟩) (ne_ hn103_1) (.int .i64 ((rd_T27 l0 x17_1).f1.f0))).trans hx103_7; replace hx103_0 := (cell_far (p := ⟨gb102, 2, none⟩) (ne_ hn103_2) (.string ((rd_T27 l0 x17_1).f1.f1))).trans hx103_0; replace hx103_1 := (cell_far (p := ⟨gb102, 2, none⟩) (ne_ hn103_2) (.string ((rd_T27 l0 x17_1).f1.f1))).trans hx103_1; replace hx103_2 := (cell_far (p := ⟨gb102, 2, none⟩) (ne_ hn103_2) (.string ((rd_T27 l0 x17_1).f1.f1))).trans hx103_2; replace hx103_3 := (cell_far (p := ⟨gb102, 2, none⟩) (ne_ hn103_2) (.string ((rd_T27 l0 x17_1).f1.f1))).trans hx103_3; replace hx103_4 := (cell_far (p := ⟨gb102, 2, none⟩) (ne_ hn103_2) (.string ((rd_T27 l0 x17_1).f1.f1))).trans hx103_4; replace hx103_5 := (cell_far (p := ⟨gb102, 2, none⟩) (ne_ hn103_2) (.string ((rd_T27 l0 x17_1).f1.f1))).trans hx103_5; replace hx103_6 := (cell_far (p := ⟨gb102, 2, none⟩) (ne_ hn103_2) (.string ((rd_T27 l0 x17_1).f1.f1))).trans hx103_6; replace hx103_7 := (cell_far (p := ⟨gb102, 2, none⟩) (ne_ hn103_2) (.string ((rd_T27 l0 x17_1).f1.f1))).trans hx103_7; replace hx103_0 := (cell_far (p := ⟨gb102, 3, none⟩) (ne_ hn103_3) (.string ((rd_T27 l0 x17_1).f1.f2))).trans hx103_0; replace hx103_1 := (cell_far (p := ⟨gb102, 3, none⟩) (ne_ hn103_3) (.string ((rd_T27 l0 x17_1).f1.f2))).trans hx103_1; replace hx103_2 := (cell_far (p := ⟨gb102, 3, none⟩) (ne_ hn103_3) (.string ((rd_T27 l0 x17_1).f1.f2))).trans hx103_2; replace hx103_3 := (cell_far (p := ⟨gb102, 3, none⟩) (ne_ hn103_3) (.string ((rd_T27 l0 x17_1).f1.f2))).trans hx103_3; replace hx103_4 := (cell_far (p := ⟨gb102, 3, none⟩) (ne_ hn103_3) (.string ((rd_T27 l0 x17_1).f1.f2))).trans hx103_4; replace hx103_5 := (cell_far (p := ⟨gb102, 3, none⟩) (ne_ hn103_3) (.string ((rd_T27 l0 x17_1).f1.f2))).trans hx103_5; replace hx103_6 := (cell_far (p := ⟨gb102, 3, none⟩) (ne_ hn103_3) (.string ((rd_T27 l0 x17_1).f1.f2))).trans hx103_6; replace hx103_7 := (cell_far (p := ⟨gb102, 3, none⟩) (ne_ hn103_3) (.string ((rd_T27 l0 x17_1).f1.f2))).trans hx103_7; replace hx103_0 := (cell_far (p := ⟨gb102, 4, none⟩) (ne_ hn103_4) (.string ((rd_T27 l0 x17_1).f1.f3))).trans hx103_0; replace hx103_1 := (cell_far (p := ⟨gb102, 4, none⟩) (ne_ hn103_4) (.string ((rd_T27 l0 x17_1).f1.f3))).trans hx103_1; replace hx103_2 := (cell_far (p := ⟨gb102, 4, none⟩) (ne_ hn103_4) (.string ((rd_T27 l0 x17_1).f1.f3))).trans hx103_2; replace hx103_3 := (cell_far (p := ⟨gb102, 4, none⟩) (ne_ hn103_4) (.string ((rd_T27 l0 x17_1).f1.f3))).trans hx103_3; replace hx103_4 := (cell_far (p := ⟨gb102, 4, none⟩) (ne_ hn103_4) (.string ((rd_T27 l0 x17_1).f1.f3))).trans hx103_4; replace hx103_5 := (cell_far (p := ⟨gb102, 4, none⟩) (ne_ hn103_4) (.string ((rd_T27 l0 x17_1).f1.f3))).trans hx103_5; replace hx103_6 := (cell_far (p := ⟨gb102, 4, none⟩) (ne_ hn103_4) (.string ((rd_T27 l0 x17_1).f1.f3))).trans hx103_6; replace hx103_7 := (cell_far (p := ⟨gb102, 4, none⟩) (ne_ hn103_4) (.string ((rd_T27 l0 x17_1).f1.f3))).trans hx103_7; replace hx103_0 := (cell_far (p := ⟨gb102, 5, none⟩) (ne_ hn103_5) (.bool ((rd_T27 l0 x17_1).f2))).trans hx103_0; replace hx103_1 := (cell_far (p := ⟨gb102, 5, none⟩) (ne_ hn103_5) (.bool ((rd_T27 l0 x17_1).f2))).trans hx103_1; replace hx103_2 := (cell_far (p := ⟨gb102, 5, none⟩) (ne_ hn103_5) (.bool ((rd_T27 l0 x17_1).f2))).trans hx103_2; replace hx103_3 := (cell_far (p := ⟨gb102, 5, none⟩) (ne_ hn103_5) (.bool ((rd_T27 l0 x17_1).f2))).trans hx103_3; replace hx103_4 := (cell_far (p := ⟨gb102, 5, none⟩) (ne_ hn103_5) (.bool ((rd_T27 l0 x17_1).f2))).trans hx103_4; replace hx103_5 := (cell_far (p := ⟨gb102, 5, none⟩) (ne_ hn103_5) (.bool ((rd_T27 l0 x17_1).f2))).trans hx103_5; replace hx103_6 := (cell_far (p := ⟨gb102, 5, none⟩) (ne_ hn103_5) (.bool ((rd_T27 l0 x17_1).f2))).trans hx103_6; replace hx103_7 := (cell_far (p := ⟨gb102, 5, none⟩) (ne_ hn103_5) (.bool ((rd_T27 l0 x17_1).f2))).trans hx103_7; replace hx103_0 := (cell_far (p := ⟨gb102, 6, none⟩) (ne_ hn103_6) (.bool ((rd_T27 l0 x17_1).f3))).trans hx103_0; replace hx103_1 := (cell_far (p := ⟨gb102, 6, none⟩) (ne_ hn103_6) (.bool ((rd_T27 l0 x17_1).f3))).trans hx103_1; replace hx103_2 := (cell_far (p := ⟨gb102, 6, none⟩) (ne_ hn103_6) (.bool ((rd_T27 l0 x17_1).f3))).trans hx103_2; replace hx103_3 := (cell_far (p := ⟨gb102, 6, none⟩) (ne_ hn103_6) (.bool ((rd_T27 l0 x17_1).f3))).trans hx103_3; replace hx103_4 := (cell_far (p := ⟨gb102, 6, none⟩) (ne_ hn103_6) (.bool ((rd_T27 l0 x17_1).f3))).trans hx103_4; replace hx103_5 := (cell_far (p := ⟨gb102, 6, none⟩) (ne_ hn103_6) (.bool ((rd_T27 l0 x17_1).f3))).trans hx103_5; replace hx103_6 := (cell_far (p := ⟨gb102, 6, none⟩) (ne_ hn103_6) (.bool ((rd_T27 l0 x17_1).f3))).trans hx103_6; replace hx103_7 := (cell_far (p := ⟨gb102, 6, none⟩) (ne_ hn103_6) (.bool ((rd_T27 l0 x17_1).f3))).trans hx103_7; replace hx103_0 := (cell_far (p := ⟨gb102, 7, none⟩) (ne_ hn103_7) (.slice A101_7 ((rd_T27 l0 x17_1).f4).length c101_7)).trans hx103_0; replace hx103_1 := (cell_far (p := ⟨gb102, 7, none⟩) (ne_ hn103_7) (.slice A101_7 ((rd_T27 l0 x17_1).f4).length c101_7)).trans hx103_1; replace hx103_2 := (cell_far (p := ⟨gb102, 7, none⟩) (ne_ hn103_7) (.slice A101_7 ((rd_T27 l0 x17_1).f4).length c101_7)).trans hx103_2; replace hx103_3 := (cell_far (p := ⟨gb102, 7, none⟩) (ne_ hn103_7) (.slice A101_7 ((rd_T27 l0 x17_1).f4).length c101_7)).trans hx103_3; replace hx103_4 := (cell_far (p := ⟨gb102, 7, none⟩) (ne_ hn103_7) (.slice A101_7 ((rd_T27 l0 x17_1).f4).length c101_7)).trans hx103_4; replace hx103_5 := (cell_far (p := ⟨gb102, 7, none⟩) (ne_ hn103_7) (.slice A101_7 ((rd_T27 l0 x17_1).f4).length c101_7)).trans hx103_5; replace hx103_6 := (cell_far (p := ⟨gb102, 7, none⟩) (ne_ hn103_7) (.slice A101_7 ((rd_T27 l0 x17_1).f4).length c101_7)).trans hx103_6; replace hx103_7 := (cell_far (p := ⟨gb102, 7, none⟩) (ne_ hn103_7) (.slice A101_7 ((rd_T27 l0 x17_1).f4).length c101_7)).trans hx103_7; clear hn103_0; clear hn103_1; clear hn103_2; clear hn103_3; clear hn103_4; clear hn103_5; clear hn103_6; clear hn103_7; replace p103 := eq_true p103; replace q103 := eq_true q103) | (refine gD 9 ?_; refine bxe_ 9 z8_ 27 ?_; intro gb104 hg w20 hbox hb; have BK104 := A_ (hbox); have GW104 := gs_ w hg; have GE104 := gs_ w hg; replace HB := bs_ hb; have NB102_104 := nl_ BK102 hg; have NB104_102 := ng_ BK102 hg; replace BK102 := bp_ BK102 (.cells #[.int .i64 ((rd_T27 l0 x17_1).f0), .int .i64 ((rd_T27 l0 x17_1).f1.f0), .string ((rd_T27 l0 x17_1).f1.f1), .string ((rd_T27 l0 x17_1).f1.f2), .string ((rd_T27 l0 x17_1).f1.f3), .bool ((rd_T27 l0 x17_1).f2), .bool ((rd_T27 l0 x17_1).f3), .slice A101_7 ((rd_T27 l0 x17_1).f4).length c101_7] 27 (0, 0)) hb; clear hb hbox hg; have hnb21 := NB104_102.out; have hnc21 := NB102_104.out; have Z22 := bz8_ BK104; have Z23 := bz8_ BK102) | (go_at_call 10; (refine (ihS k1 (by have := HK1.out; omega) ((rd_T27 l0 x17_1).f0) ((rd_T27 l0 x17_1).f1.f0) ((rd_T27 l0 x17_1).f1.f1) ((rd_T27 l0 x17_1).f1.f2) ((rd_T27 l0 x17_1).f1.f3) ((rd_T27 l0 x17_1).f2) ((rd_T27 l0 x17_1).f3) _ _ ((rd_T27 l0 x17_1).f4) ((rd_T27 l1 x17_1).f0) ((rd_T27 l1 x17_1).f1.f0) ((rd_T27 l1 x17_1).f1.f1) ((rd_T27 l1 x17_1).f1.f2) ((rd_T27 l1 x17_1).f1.f3) ((rd_T27 l1 x17_1).f2) ((rd_T27 l1 x17_1).f3) _ _ ((rd_T27 l1 x17_1).f4) false _ ?side1 ?side2 ?side3 ?side4 A9.out).mono ?_); (case side1 => exact Kd.C_below HR101_7.out hs_); (case side2 => exact HC101_7.out); (case side3 => exact Kd.C_below HR103_7.out hs_); (case side4 => exact HC103_7.out); rintro e w24 ⟨rfl, hb⟩; replace BK102 := A_ (blk_below (g := gb102) (o := .cells #[.int .i64 ((rd_T27 l0 x17_1).f0), .int .i64 ((rd_T27 l0 x17_1).f1.f0), .string ((rd_T27 l0 x17_1).f1.f1), .string ((rd_T27 l0 x17_1).f1.f2), .string ((rd_T27 l0 x17_1).f1.f3), .bool ((rd_T27 l0 x17_1).f2), .bool ((rd_T27 l0 x17_1).f3), .slice A101_7 ((rd_T27 l0 x17_1).f4).length c101_7] 27 (0, 0)) (pf_ NB102_104 BK102) hb); replace BK104 := bp_ BK104 (.cells #[.int .i64 ((rd_T27 l1 x17_1).f0), .int .i64 ((rd_T27 l1 x17_1).f1.f0), .string ((rd_T27 l1 x17_1).f1.f1), .string ((rd_T27 l1 x17_1).f1.f2), .string ((rd_T27 l1 x17_1).f1.f3), .bool ((rd_T27 l1 x17_1).f2), .bool ((rd_T27 l1 x17_1).f3), .slice A103_7 ((rd_T27 l1 x17_1).f4).length c103_7] 27 (0, 0)) hb; replace HB := bs_ hb; (try clear hb)))
         go_ret; exact ⟨re_, hs_⟩
       ·rw [if_neg c8] at H
        exact absurd H (by simp)
      ·rw [if_neg c7] at H
       exact absurd H (by simp)
     ·rw [if_neg c6] at H
      exact absurd H (by simp)
    ·rw [if_neg c5] at H
     have c5b0 := decide_eq_false c5; clear c5; obtain rfl := Option.some.inj H; go_wp2; go_ret; exact ⟨re_, hs_⟩
 ·rw [if_neg c4] at H
  have c4b0 : ((l0.length : Int) == (l1.length : Int)) = false := beq_eq_false_iff_ne.mpr c4; have c4b1 : ((l0.length : Int) != (l1.length : Int)) = true := bne_iff_ne.mpr c4; (have c4b2 : (l0.length == l1.length) = false := by first | simpa using c4 | (simp at c4 ⊢; omega)); obtain rfl := Option.some.inj H; go_enter Tryz.func24, Tryz.ntmps24; go_wp2; go_ret; exact ⟨re_, hs_⟩
set_option maxHeartbeats 8000000 in
set_option maxRecDepth 100000 in
theorem tree_Same.calls (k : Nat) : ∀ (a0_0 a0_1 : Int) (a0_2 a0_3 a0_4 : ByteArray) (a0_5 a0_6 : Bool) (A0_7 : Option Addr) (c0_7 : Nat) (l0_7 : List (S27)) (a1_0 a1_1 : Int) (a1_2 a1_3 a1_4 : ByteArray) (a1_5 a1_6 : Bool) (A1_7 : Option Addr) (c1_7 : Nat) (l1_7 : List (S27)) (r : Bool) (w : World) (hr0_7 : Kd.C k27 w A0_7 l0_7.length l0_7) (hc0_7 : l0_7.length ≤ c0_7) (hr1_7 : Kd.C k27 w A1_7 l1_7.length l1_7) (hc1_7 : l1_7.length ≤ c1_7) (h : tree_Same.f k a0_0 a0_1 a0_2 a0_3 a0_4 a0_5 a0_6 l0_7 a1_0 a1_1 a1_2 a1_3 a1_4 a1_5 a1_6 l1_7 = some r),
  Calls Tryz.prog 10 #[.agg #[.int .i64 a0_0, .int .i64 a0_1, .string a0_2, .string a0_3, .string a0_4, .bool a0_5, .bool a0_6, .slice A0_7 l0_7.length c0_7], .agg #[.int .i64 a1_0, .int .i64 a1_1, .string a1_2, .string a1_3, .string a1_4, .bool a1_5, .bool a1_6, .slice A1_7 l1_7.length c1_7]] w fun e w' => e = .returned (.bool r) ∧ Below w.heap.size w w' := by
 induction k using Nat.strongRecOn with
 | _ k ih =>
 intro a0_0 a0_1 a0_2 a0_3 a0_4 a0_5 a0_6 A0_7 c0_7 l0_7 a1_0 a1_1 a1_2 a1_3 a1_4 a1_5 a1_6 A1_7 c1_7 l1_7 r w hr0_7 hc0_7 hr1_7 hc1_7 h
 cases k with
 | zero => exact absurd h (by simp [tree_Same.f])
 | succ k =>
 rw [tree_Same.f_succ] at h; have hu27 := Tryz.underlying27; have hu24 := Tryz.underlying24; have HR0_7 := A_ hr0_7; have HC0_7 := A_ hc0_7; clear hr0_7 hc0_7; have HR1_7 := A_ hr1_7; have HC1_7 := A_ hc1_7; clear hr1_7 hc1_7; have HB := A_ (Below.refl w.heap.size w); have H : (if a0_0 = a1_0 then (if (a0_1 == a1_1 && (a0_2.toList == a1_2.toList && (a0_3.toList == a1_3.toList && (a0_4.toList == a1_4.toList)))) = true then (if (a0_5 == a1_5) = true then (if (a0_6 == a1_6) = true then ((slices_EqualFunc.f k l0_7 l1_7).bind fun t103 => (some t103)) else (some false)) else (some false)) else (some false)) else (some false)) = some r := h; clear h
 by_cases c3 : a0_0 = a1_0
 ·rw [if_pos c3] at H
  have c3b0 : (a0_0 == a1_0) = true := beq_iff_eq.mpr c3; have c3b1 : (a0_0 != a1_0) = false := bne_eq_false_iff_eq.mpr c3; clear c3
  by_cases c4 : (a0_1 == a1_1 && (a0_2.toList == a1_2.toList && (a0_3.toList == a1_3.toList && (a0_4.toList == a1_4.toList)))) = true
  ·rw [if_pos c4] at H
   have c4b0 : (a0_1 == a1_1 && (a0_2.toList == a1_2.toList && (a0_3.toList == a1_3.toList && (a0_4.toList == a1_4.toList)))) = true := c4; (try (have c4b1 : decide (a0_1 = a1_1 && (a0_2.toList == a1_2.toList && (a0_3.toList == a1_3.toList && (a0_4.toList == a1_4.toList)))) = true := by simpa using c4)); (try (have c4b2 : (a0_1 == a1_1 && (a0_2.toList == a1_2.toList && (a0_3.toList == a1_3.toList && (a0_4.toList == a1_4.toList)))) = true := by simpa using c4)); clear c4
   by_cases c5 : (a0_5 == a1_5) = true
   ·rw [if_pos c5] at H
    have c5b0 : (a0_5 == a1_5) = true := c5; (try (have c5b1 : decide (a0_5 = a1_5) = true := by simpa using c5)); (try (have c5b2 : (a0_5 == a1_5) = true := by simpa using c5)); clear c5
    by_cases c6 : (a0_6 == a1_6) = true
    ·rw [if_pos c6] at H
     have c6b0 : (a0_6 == a1_6) = true := c6; (try (have c6b1 : decide (a0_6 = a1_6) = true := by simpa using c6)); (try (have c6b2 : (a0_6 == a1_6) = true := by simpa using c6)); clear c6; obtain ⟨t103, A7, H⟩ := bi_ H; obtain rfl := Option.some.inj H; go_enter Tryz.func10, Tryz.ntmps10; go_wp2_with (first | (refine gx_ w 2 (n8_ a0_0 a0_1 a0_2 a0_3 a0_4 a0_5 a0_6 (.slice A0_7 l0_7.length c0_7)) 27 ?_; clear HB; intro gb101 w8 BK101 GE101 HB; have GW101 := GE101) | (refine gD 3 ?_; refine bxe_ 3 (n8_ a1_0 a1_1 a1_2 a1_3 a1_4 a1_5 a1_6 (.slice A1_7 l1_7.length c1_7)) 27 ?_; intro gb102 hg w9 hbox hb; have BK102 := A_ (hbox); have GW102 := gs_ w hg; have GE102 := gs_ w hg; replace HB := bs_ hb; have NB101_102 := nl_ BK101 hg; have NB102_101 := ng_ BK101 hg; replace BK101 := bb_ BK101 hb; clear hb hbox hg; have hnb10 := NB101_102.out; have hnc10 := NB102_101.out; have Z11 := bz8_ BK101; have Z12 := bz8_ BK102) | (go_at_call 24; (with_reducible refine (slices_EqualFunc.calls k (fun j hj => ih j (Nat.lt_succ_of_lt hj)) _ _ l0_7 _ _ l1_7  t103 _ ?side1 ?side2 ?side3 ?side4 A7.out).mono ?_); (case side1 => exact cb_ HR0_7); (case side2 => exact HC0_7.out); (case side3 => exact cb_ HR1_7); (case side4 => exact HC1_7.out); rintro e w13 ⟨rfl, hb⟩; replace BK101 := bb_ BK101 hb; replace BK102 := bb_ BK102 hb; replace HB := bs_ hb; (try clear hb)))
     go_ret; exact ⟨re_, hs_⟩
    ·rw [if_neg c6] at H
     (have c6b0 : (a0_6 == a1_6) = false := by simpa using c6); (try (have c6b1 : decide (a0_6 = a1_6) = false := by simpa using c6)); (try (have c6b2 : (a0_6 == a1_6) = false := by simpa using c6)); (try (have c6b3 : ¬ (a0_6 = a1_6) := by simpa using c6)); clear c6; obtain rfl := Option.some.inj H; go_enter Tryz.func10, Tryz.ntmps10; go_wp2_with (first | (refine gx_ w 2 (n8_ a0_0 a0_1 a0_2 a0_3 a0_4 a0_5 a0_6 (.slice A0_7 l0_7.length c0_7)) 27 ?_; clear HB; intro gb101 w14 BK101 GE101 HB; have GW101 := GE101) | (refine gD 3 ?_; refine bxe_ 3 (n8_ a1_0 a1_1 a1_2 a1_3 a1_4 a1_5 a1_6 (.slice A1_7 l1_7.length c1_7)) 27 ?_; intro gb102 hg w15 hbox hb; have BK102 := A_ (hbox); have GW102 := gs_ w hg; have GE102 := gs_ w hg; replace HB := bs_ hb; have NB101_102 := nl_ BK101 hg; have NB102_101 := ng_ BK101 hg; replace BK101 := bb_ BK101 hb; clear hb hbox hg; have hnb16 := NB101_102.out; have hnc16 := NB102_101.out; have Z17 := bz8_ BK101; have Z18 := bz8_ BK102))
     go_ret; exact ⟨re_, hs_⟩
   ·rw [if_neg c5] at H
    (have c5b0 : (a0_5 == a1_5) = false := by simpa using c5); (try (have c5b1 : decide (a0_5 = a1_5) = false := by simpa using c5)); (try (have c5b2 : (a0_5 == a1_5) = false := by simpa using c5)); (try (have c5b3 : ¬ (a0_5 = a1_5) := by simpa using c5)); clear c5; obtain rfl := Option.some.inj H; go_enter Tryz.func10, Tryz.ntmps10; go_wp2_with (first | (refine gx_ w 2 (n8_ a0_0 a0_1 a0_2 a0_3 a0_4 a0_5 a0_6 (.slice A0_7 l0_7.length c0_7)) 27 ?_; clear HB; intro gb101 w19 BK101 GE101 HB; have GW101 := GE101) | (refine gD 3 ?_; refine bxe_ 3 (n8_ a1_0 a1_1 a1_2 a1_3 a1_4 a1_5 a1_6 (.slice A1_7 l1_7.length c1_7)) 27 ?_; intro gb102 hg w20 hbox hb; have BK102 := A_ (hbox); have GW102 := gs_ w hg; have GE102 := gs_ w hg; replace HB := bs_ hb; have NB101_102 := nl_ BK101 hg; have NB102_101 := ng_ BK101 hg; replace BK101 := bb_ BK101 hb; clear hb hbox hg; have hnb21 := NB101_102.out; have hnc21 := NB102_101.out; have Z22 := bz8_ BK101; have Z23 := bz8_ BK102))
    go_ret; exact ⟨re_, hs_⟩
  ·rw [if_neg c4] at H
   (have c4b0 : (a0_1 == a1_1 && (a0_2.toList == a1_2.toList && (a0_3.toList == a1_3.toList && (a0_4.toList == a1_4.toList)))) = false := by simpa using c4); (try (have c4b1 : decide (a0_1 = a1_1 && (a0_2.toList == a1_2.toList && (a0_3.toList == a1_3.toList && (a0_4.toList == a1_4.toList)))) = false := by simpa using c4)); (try (have c4b2 : (a0_1 == a1_1 && (a0_2.toList == a1_2.toList && (a0_3.toList == a1_3.toList && (a0_4.toList == a1_4.toList)))) = false := by simpa using c4)); (try (have c4b3 : ¬ (a0_1 = a1_1 && (a0_2.toList == a1_2.toList && (a0_3.toList == a1_3.toList && (a0_4.toList == a1_4.toList)))) := by simpa using c4)); clear c4; obtain rfl := Option.some.inj H; go_enter Tryz.func10, Tryz.ntmps10; go_wp2_with (first | (refine gx_ w 2 (n8_ a0_0 a0_1 a0_2 a0_3 a0_4 a0_5 a0_6 (.slice A0_7 l0_7.length c0_7)) 27 ?_; clear HB; intro gb101 w24 BK101 GE101 HB; have GW101 := GE101) | (refine gD 3 ?_; refine bxe_ 3 (n8_ a1_0 a1_1 a1_2 a1_3 a1_4 a1_5 a1_6 (.slice A1_7 l1_7.length c1_7)) 27 ?_; intro gb102 hg w25 hbox hb; have BK102 := A_ (hbox); have GW102 := gs_ w hg; have GE102 := gs_ w hg; replace HB := bs_ hb; have NB101_102 := nl_ BK101 hg; have NB102_101 := ng_ BK101 hg; replace BK101 := bb_ BK101 hb; clear hb hbox hg; have hnb26 := NB101_102.out; have hnc26 := NB102_101.out; have Z27 := bz8_ BK101; have Z28 := bz8_ BK102))
   go_ret; exact ⟨re_, hs_⟩
 ·rw [if_neg c3] at H
  have c3b0 : (a0_0 == a1_0) = false := beq_eq_false_iff_ne.mpr c3; have c3b1 : (a0_0 != a1_0) = true := bne_iff_ne.mpr c3; obtain rfl := Option.some.inj H; go_enter Tryz.func10, Tryz.ntmps10; go_wp2_with (first | (refine gx_ w 2 (n8_ a0_0 a0_1 a0_2 a0_3 a0_4 a0_5 a0_6 (.slice A0_7 l0_7.length c0_7)) 27 ?_; clear HB; intro gb101 w29 BK101 GE101 HB; have GW101 := GE101) | (refine gD 3 ?_; refine bxe_ 3 (n8_ a1_0 a1_1 a1_2 a1_3 a1_4 a1_5 a1_6 (.slice A1_7 l1_7.length c1_7)) 27 ?_; intro gb102 hg w30 hbox hb; have BK102 := A_ (hbox); have GW102 := gs_ w hg; have GE102 := gs_ w hg; replace HB := bs_ hb; have NB101_102 := nl_ BK101 hg; have NB102_101 := ng_ BK101 hg; replace BK101 := bb_ BK101 hb; clear hb hbox hg; have hnb31 := NB101_102.out; have hnc31 := NB102_101.out; have Z32 := bz8_ BK101; have Z33 := bz8_ BK102))
  go_ret; exact ⟨re_, hs_⟩
end Go.Proofs.YtjgjhekpiijniaaGreat.A
namespace Go.Proofs.YtjgjhekpiijniaaGreat.A
open Go.RowKit Go.Proofs.YtjgjhekpiijniaaGreatW.PrintWords Go.Proofs.YtjgjhekpiijniaaGreatW.PrintLast Go.Proofs.YtjgjhekpiijniaaGreatW.PrintMore
attribute [local go_sem] max2_int min2_int max_two min_two max_three min_three max_four min_four
set_option maxHeartbeats 8000000 in
set_option maxRecDepth 100000 in
theorem stringslite_HasSuffix.calls (a0 a1 : ByteArray) (r : Bool) (w : World) (h : stringslite_HasSuffix.f a0 a1 = some r) :
  Calls Tryz.prog 101 #[.string a0, .string a1] w fun e w' => e = .returned (.bool r) ∧ Drawn0 w w' := by
 have H : (if (a0.size : Int) ≥ (a1.size : Int) then (if 0 ≤ (wrap64 ((a0.size : Int) - (a1.size : Int))) then (if (wrap64 ((a0.size : Int) - (a1.size : Int))) ≤ (a0.size : Int) then (some ((a0.extract ((wrap64 ((a0.size : Int) - (a1.size : Int))) : Int).toNat a0.size).toList == a1.toList)) else (none)) else (none)) else (some false)) = some r := h; clear h
 by_cases c3 : (a0.size : Int) ≥ (a1.size : Int)
 ·rw [if_pos c3] at H
  have c3b0 := decide_eq_true c3; have c3b1 : decide (a1.size ≤ a0.size) = true := decide_eq_true (Int.ofNat_le.mp c3); clear c3; obtain ⟨ji4, hji4⟩ : ∃ j_ : Int, (wrap64 ((a0.size : Int) - (a1.size : Int))) = j_ := ⟨_, rfl⟩; (replace H : (if 0 ≤ (ji4) then (if (ji4) ≤ (a0.size : Int) then (some ((a0.extract ((ji4) : Int).toNat a0.size).toList == a1.toList)) else (none)) else (none)) = some r := by first | (rw [hji4] at H; exact H) | (simp only [hji4] at H ⊢; exact H)); have hji4w : (IntKind.i64.wrap ((a0.size : Int) - (a1.size : Int))) = ji4 := (i64_w _).trans hji4
  by_cases c5 : 0 ≤ (ji4)
  ·rw [if_pos c5] at H
   have c5b0 := eq_true c5; have c5b1 := decide_eq_true c5; clear c5
   by_cases c6 : (ji4) ≤ (a0.size : Int)
   ·rw [if_pos c6] at H
    have c6b0 := eq_true c6; have c6b1 := decide_eq_true c6; clear c6; obtain rfl := Option.some.inj H; go_enter Tryz.func101, Tryz.ntmps101; go_wp2; go_ret; exact ⟨by first | rfl | (simp; done) | (simp only [← hji4] <;> (first | rfl | simp)) | (simp [*]; done), by repeat (first | exact Drawn0.refl _ | apply Drawn0.step)⟩
   ·rw [if_neg c6] at H
    exact absurd H (by simp)
  ·rw [if_neg c5] at H
   exact absurd H (by simp)
 ·rw [if_neg c3] at H
  have c3b0 := decide_eq_false c3; have c3b1 : decide (a1.size ≤ a0.size) = false := decide_eq_false (fun h => c3 (Int.ofNat_le.mpr h)); clear c3; obtain rfl := Option.some.inj H; go_enter Tryz.func101, Tryz.ntmps101; go_wp2; go_ret; exact ⟨by first | rfl | (simp; done) | (simp [*]; done), by repeat (first | exact Drawn0.refl _ | apply Drawn0.step)⟩
set_option maxHeartbeats 8000000 in
set_option maxRecDepth 100000 in
theorem stringslite_CutSuffix.calls (a0 a1 r1 : ByteArray) (r2 : Bool) (w : World) (h : stringslite_CutSuffix.f a0 a1 = some (r1, r2)) :
  Calls Tryz.prog 97 #[.string a0, .string a1] w fun e w' => e = .returned (.tuple #[.string r1, .bool r2]) ∧ Drawn0 w w' := by
 have H : ((stringslite_HasSuffix.f a0 a1).bind fun t101 => (if t101 = true then (if 0 ≤ (wrap64 ((a0.size : Int) - (a1.size : Int))) then (if (wrap64 ((a0.size : Int) - (a1.size : Int))) ≤ (a0.size : Int) then (some (a0.extract 0 ((wrap64 ((a0.size : Int) - (a1.size : Int))) : Int).toNat, true)) else (none)) else (none)) else (some (a0, false)))) = some (r1, r2) := h; clear h; obtain ⟨t101, A3, H⟩ := bi_ H
 by_cases c4 : t101 = true
 ·subst c4
  (have H1 : (if 0 ≤ (wrap64 ((a0.size : Int) - (a1.size : Int))) then (if (wrap64 ((a0.size : Int) - (a1.size : Int))) ≤ (a0.size : Int) then (some (a0.extract 0 ((wrap64 ((a0.size : Int) - (a1.size : Int))) : Int).toNat, true)) else (none)) else (none)) = some (r1, r2) := by rw [if_pos rfl] at H; exact H); clear H; have H := H1; clear H1; obtain ⟨ji5, hji5⟩ : ∃ j_ : Int, (wrap64 ((a0.size : Int) - (a1.size : Int))) = j_ := ⟨_, rfl⟩; (replace H : (if 0 ≤ (ji5) then (if (ji5) ≤ (a0.size : Int) then (some (a0.extract 0 ((ji5) : Int).toNat, true)) else (none)) else (none)) = some (r1, r2) := by first | (rw [hji5] at H; exact H) | (simp only [hji5] at H ⊢; exact H)); (try rw [hji5] at A3); have hji5w : (IntKind.i64.wrap ((a0.size : Int) - (a1.size : Int))) = ji5 := (i64_w _).trans hji5
  by_cases c6 : 0 ≤ (ji5)
  ·rw [if_pos c6] at H
   have c6b0 := eq_true c6; have c6b1 := decide_eq_true c6; clear c6
   by_cases c7 : (ji5) ≤ (a0.size : Int)
   ·rw [if_pos c7] at H
    have c7b0 := eq_true c7; have c7b1 := decide_eq_true c7; clear c7; simp only [Option.some.injEq, Prod.mk.injEq] at H; obtain ⟨rfl, rfl⟩ := H; go_enter Tryz.func97, Tryz.ntmps97; go_wp2_with (first | ((with_reducible refine gC 101 ?_); refine goesL_ (some 8) rfl rfl Tryz.func101 (by kernel_rfl) rfl #[.string a0, .string a1] rfl ml_ ?_; (with_reducible refine (stringslite_HasSuffix.calls a0 a1 true _ A3.out).mono ?_); rintro e w' ⟨rfl, ⟨nd, rfl⟩⟩; refine ⟨_, rfl, ?_⟩)); go_ret2; exact ⟨by first | rfl | (simp; done) | (simp only [← hji5] <;> (first | rfl | simp)) | (simp [*]; done), by repeat (first | exact Drawn0.refl _ | apply Drawn0.step)⟩
   ·rw [if_neg c7] at H
    exact absurd H (by simp)
  ·rw [if_neg c6] at H
   exact absurd H (by simp)
 ·replace c4 := Bool.eq_false_iff.mpr c4
  subst c4; (have H1 : (some (a0, false)) = some (r1, r2) := by rw [if_neg (show ¬ (false = true) by decide)] at H; exact H); clear H; have H := H1; clear H1; simp only [Option.some.injEq, Prod.mk.injEq] at H; obtain ⟨rfl, rfl⟩ := H; go_enter Tryz.func97, Tryz.ntmps97; go_wp2_with (first | ((with_reducible refine gC 101 ?_); refine goesL_ (some 8) rfl rfl Tryz.func101 (by kernel_rfl) rfl #[.string a0, .string a1] rfl ml_ ?_; (with_reducible refine (stringslite_HasSuffix.calls a0 a1 false _ A3.out).mono ?_); rintro e w' ⟨rfl, ⟨nd, rfl⟩⟩; refine ⟨_, rfl, ?_⟩)); go_ret2; exact ⟨by first | rfl | (simp; done) | (simp [*]; done), by repeat (first | exact Drawn0.refl _ | apply Drawn0.step)⟩
set_option maxHeartbeats 8000000 in
set_option maxRecDepth 100000 in
theorem strings_CutSuffix.calls (a0 a1 r1 : ByteArray) (r2 : Bool) (w : World) (h : strings_CutSuffix.f a0 a1 = some (r1, r2)) :
  Calls Tryz.prog 92 #[.string a0, .string a1] w fun e w' => e = .returned (.tuple #[.string r1, .bool r2]) ∧ Drawn0 w w' := by
 have H : ((stringslite_CutSuffix.f a0 a1).bind fun bt102 => (some (bt102.1, bt102.2))) = some (r1, r2) := h; clear h; obtain ⟨⟨t102, t103⟩, A3, H⟩ := bi_ H; simp only [Option.some.injEq, Prod.mk.injEq] at H; obtain ⟨rfl, rfl⟩ := H; go_enter Tryz.func92, Tryz.ntmps92; go_wp2_with (first | ((with_reducible refine gC 97 ?_); refine goesL_ (some 8) rfl rfl Tryz.func97 (by kernel_rfl) rfl #[.string a0, .string a1] rfl ml_ ?_; (with_reducible refine (stringslite_CutSuffix.calls a0 a1 t102 t103 _ A3.out).mono ?_); rintro e w' ⟨rfl, ⟨nd, rfl⟩⟩; refine ⟨_, rfl, ?_⟩)); go_ret2; exact ⟨by first | rfl | (simp; done) | (simp [*]; done), by repeat (first | exact Drawn0.refl _ | apply Drawn0.step)⟩
set_option maxHeartbeats 8000000 in
set_option maxRecDepth 100000 in
theorem stringslite_Cut.calls (a0 a1 r1 r2 : ByteArray) (r3 : Bool) (w : World) (h : stringslite_Cut.f a0 a1 = some (r1, r2, r3)) :
  Calls Tryz.prog 98 #[.string a0, .string a1] w fun e w' => e = .returned (.tuple #[.string r1, .string r2, .bool r3]) ∧ Drawn0 w w' := by
 have H : ((stringslite_Index.f a0 a1).bind fun t104 => (if t104 ≥ 0 then (if 0 ≤ t104 then (if t104 ≤ (a0.size : Int) then (if 0 ≤ (wrap64 (t104 + (a1.size : Int))) then (if (wrap64 (t104 + (a1.size : Int))) ≤ (a0.size : Int) then (some (a0.extract 0 (t104 : Int).toNat, a0.extract ((wrap64 (t104 + (a1.size : Int))) : Int).toNat a0.size, true)) else (none)) else (none)) else (none)) else (none)) else (some (a0, (⟨#[]⟩ : ByteArray), false)))) = some (r1, r2, r3) := h; clear h; obtain ⟨t104, A3, H⟩ := bi_ H
 by_cases c4 : t104 ≥ 0
 ·rw [if_pos c4] at H
  have c4b0 := decide_eq_true c4; clear c4
  by_cases c5 : 0 ≤ t104
  ·rw [if_pos c5] at H
   have c5b0 := eq_true c5; have c5b1 := decide_eq_true c5; clear c5
   by_cases c6 : t104 ≤ (a0.size : Int)
   ·rw [if_pos c6] at H
    have c6b0 := eq_true c6; have c6b1 := decide_eq_true c6; clear c6; obtain ⟨ji7, hji7⟩ : ∃ j_ : Int, (wrap64 (t104 + (a1.size : Int))) = j_ := ⟨_, rfl⟩; (replace H : (if 0 ≤ (ji7) then (if (ji7) ≤ (a0.size : Int) then (some (a0.extract 0 (t104 : Int).toNat, a0.extract ((ji7) : Int).toNat a0.size, true)) else (none)) else (none)) = some (r1, r2, r3) := by first | (rw [hji7] at H; exact H) | (simp only [hji7] at H ⊢; exact H)); (try rw [hji7] at A3); have hji7w : (IntKind.i64.wrap (t104 + (a1.size : Int))) = ji7 := (i64_w _).trans hji7
    by_cases c8 : 0 ≤ (ji7)
    ·rw [if_pos c8] at H
     have c8b0 := eq_true c8; have c8b1 := decide_eq_true c8; clear c8
     by_cases c9 : (ji7) ≤ (a0.size : Int)
     ·rw [if_pos c9] at H
      have c9b0 := eq_true c9; have c9b1 := decide_eq_true c9; clear c9; simp only [Option.some.injEq, Prod.mk.injEq] at H; obtain ⟨rfl, rfl, rfl⟩ := H; go_enter Tryz.func98, Tryz.ntmps98; go_wp2_with (first | (go_at_call 102; (with_reducible refine (stringslite_Index.calls a0 a1 t104 _ A3.out).mono ?_); rintro e w' ⟨rfl, ⟨nd, rfl⟩⟩; (try first | exact ⟨rfl, _, World.drewN_drewN _ _ _⟩ | exact ⟨rfl, _, Eq.trans (World.drewN_drewN _ _ _) (congrArg (World.drewN _) (Nat.add_assoc _ _ _))⟩)))
      repeat (go_quiet (first | (go_at_call 102; (with_reducible refine (stringslite_Index.calls a0 a1 t104 _ A3.out).mono ?_); rintro e w' ⟨rfl, ⟨nd, rfl⟩⟩; (try first | exact ⟨rfl, _, World.drewN_drewN _ _ _⟩ | exact ⟨rfl, _, Eq.trans (World.drewN_drewN _ _ _) (congrArg (World.drewN _) (Nat.add_assoc _ _ _))⟩))); try go_wp2_with (first | (go_at_call 102; (with_reducible refine (stringslite_Index.calls a0 a1 t104 _ A3.out).mono ?_); rintro e w' ⟨rfl, ⟨nd, rfl⟩⟩; (try first | exact ⟨rfl, _, World.drewN_drewN _ _ _⟩ | exact ⟨rfl, _, Eq.trans (World.drewN_drewN _ _ _) (congrArg (World.drewN _) (Nat.add_assoc _ _ _))⟩))))
      go_ret3; exact ⟨by first | rfl | (simp; done) | (simp only [← hji7] <;> (first | rfl | simp)) | (simp [*]; done), by repeat (first | exact Drawn0.refl _ | apply Drawn0.step)⟩
     ·rw [if_neg c9] at H
      exact absurd H (by simp)
    ·rw [if_neg c8] at H
     exact absurd H (by simp)
   ·rw [if_neg c6] at H
    exact absurd H (by simp)
  ·rw [if_neg c5] at H
   exact absurd H (by simp)
 ·rw [if_neg c4] at H
  have c4b0 := decide_eq_false c4; clear c4; simp only [Option.some.injEq, Prod.mk.injEq] at H; obtain ⟨rfl, rfl, rfl⟩ := H; go_enter Tryz.func98, Tryz.ntmps98; go_wp2_with (first | (go_at_call 102; (with_reducible refine (stringslite_Index.calls a0 a1 t104 _ A3.out).mono ?_); rintro e w' ⟨rfl, ⟨nd, rfl⟩⟩; (try first | exact ⟨rfl, _, World.drewN_drewN _ _ _⟩ | exact ⟨rfl, _, Eq.trans (World.drewN_drewN _ _ _) (congrArg (World.drewN _) (Nat.add_assoc _ _ _))⟩)))
  repeat (go_quiet (first | (go_at_call 102; (with_reducible refine (stringslite_Index.calls a0 a1 t104 _ A3.out).mono ?_); rintro e w' ⟨rfl, ⟨nd, rfl⟩⟩; (try first | exact ⟨rfl, _, World.drewN_drewN _ _ _⟩ | exact ⟨rfl, _, Eq.trans (World.drewN_drewN _ _ _) (congrArg (World.drewN _) (Nat.add_assoc _ _ _))⟩))); try go_wp2_with (first | (go_at_call 102; (with_reducible refine (stringslite_Index.calls a0 a1 t104 _ A3.out).mono ?_); rintro e w' ⟨rfl, ⟨nd, rfl⟩⟩; (try first | exact ⟨rfl, _, World.drewN_drewN _ _ _⟩ | exact ⟨rfl, _, Eq.trans (World.drewN_drewN _ _ _) (congrArg (World.drewN _) (Nat.add_assoc _ _ _))⟩))))
  go_ret3; exact ⟨by first | rfl | (simp; done) | (simp [*]; done), by repeat (first | exact Drawn0.refl _ | apply Drawn0.step)⟩
set_option maxHeartbeats 8000000 in
set_option maxRecDepth 100000 in
theorem strings_Cut.calls (a0 a1 r1 r2 : ByteArray) (r3 : Bool) (w : World) (h : strings_Cut.f a0 a1 = some (r1, r2, r3)) :
  Calls Tryz.prog 93 #[.string a0, .string a1] w fun e w' => e = .returned (.tuple #[.string r1, .string r2, .bool r3]) ∧ Drawn0 w w' := by
 have H : ((stringslite_Cut.f a0 a1).bind fun bt105 => (some (bt105.1, bt105.2.1, bt105.2.2))) = some (r1, r2, r3) := h; clear h; obtain ⟨⟨t105, t106, t107⟩, A3, H⟩ := bi_ H; simp only [Option.some.injEq, Prod.mk.injEq] at H; obtain ⟨rfl, rfl, rfl⟩ := H; go_enter Tryz.func93, Tryz.ntmps93; go_wp2_with (first | ((with_reducible refine gC 98 ?_); refine goesL_ (some 9) rfl rfl Tryz.func98 (by kernel_rfl) rfl #[.string a0, .string a1] rfl ml_ ?_; (with_reducible refine (stringslite_Cut.calls a0 a1 t105 t106 t107 _ A3.out).mono ?_); rintro e w' ⟨rfl, ⟨nd, rfl⟩⟩; refine ⟨_, rfl, ?_⟩)); go_ret3; exact ⟨by first | rfl | (simp; done) | (simp [*]; done), by repeat (first | exact Drawn0.refl _ | apply Drawn0.step)⟩
end Go.Proofs.YtjgjhekpiijniaaGreat.A
namespace Go.Proofs.YtjgjhekpiijniaaGreat.A
open Go.RowKit Go.Proofs.YtjgjhekpiijniaaGreatW.PrintWords Go.Proofs.YtjgjhekpiijniaaGreatW.PrintLast Go.Proofs.YtjgjhekpiijniaaGreatW.PrintMore
attribute [local go_sem] max2_int min2_int max_two min_two max_three min_three max_four min_four
attribute [local go_sem] isSome_setCell
set_option maxHeartbeats 8000000 in
set_option maxRecDepth 100000 in
theorem point_guess.calls (a0 : ByteArray) (r1 : Int) (r2 r3 r4 : ByteArray) (w : World) (h : point_guess.f a0 = some (r1, r2, r3, r4)) :
  Calls Tryz.prog 88 #[.string a0] w fun e w' => e = .returned (.agg #[.int .i64 r1, .string r2, .string r3, .string r4]) ∧ Below w.heap.size w w' := by
 have hu24 := Tryz.underlying24; have HB := A_ (Below.refl w.heap.size w); have H : ((strings_CutSuffix.f a0 (⟨#[100]⟩ : ByteArray)).bind fun bt109 => (if bt109.2 = true then (some (4, bt109.1, (⟨#[]⟩ : ByteArray), (⟨#[]⟩ : ByteArray))) else ((strings_CutSuffix.f a0 (⟨#[99]⟩ : ByteArray)).bind fun bt111 => (if bt111.2 = true then (some (5, bt111.1, (⟨#[]⟩ : ByteArray), (⟨#[]⟩ : ByteArray))) else ((strings_Cut.f a0 (⟨#[115]⟩ : ByteArray)).bind fun bt113 => (if bt113.2.2 = true then (some (2, bt113.1, bt113.2.1, (⟨#[]⟩ : ByteArray))) else ((strings_Cut.f a0 (⟨#[45]⟩ : ByteArray)).bind fun bt116 => (if bt116.2.2 = true then ((strings_Cut.f bt116.2.1 (⟨#[45]⟩ : ByteArray)).bind fun bt119 => (if bt119.2.2 = true then (some (0, bt116.1, bt119.1, bt119.2.1)) else (some (1, bt116.1, bt116.2.1, (⟨#[]⟩ : ByteArray))))) else (some (3, a0, (⟨#[]⟩ : ByteArray), (⟨#[]⟩ : ByteArray))))))))))) = some (r1, r2, r3, r4) := h; clear h; obtain ⟨⟨t109, t110⟩, A2, H⟩ := bi_ H
 by_cases c3 : t110 = true
 ·subst c3
  (have H1 : (some (4, t109, (⟨#[]⟩ : ByteArray), (⟨#[]⟩ : ByteArray))) = some (r1, r2, r3, r4) := by rw [if_pos rfl] at H; exact H); clear H; have H := H1; clear H1; simp only [Option.some.injEq, Prod.mk.injEq] at H; obtain ⟨rfl, rfl, rfl, rfl⟩ := H; go_enter Tryz.func88, Tryz.ntmps88; go_wp2_with (first | ((with_reducible refine gD 2 ?_); refine gx_ w 2 z4_ 24 ?_; clear HB; intro gb108 w4 BK108 GE108 HB; have GW108 := GE108) | ((with_reducible refine gC 92 ?_); refine goesL_ (some 17) rfl rfl Tryz.func92 (by kernel_rfl) rfl #[.string a0, .string ⟨#[100]⟩] rfl ml_ ?_; (with_reducible refine (strings_CutSuffix.calls a0 (⟨#[100]⟩ : ByteArray) t109 true _ A2.out).mono ?_); rintro e w' ⟨rfl, ⟨nd, rfl⟩⟩; refine ⟨_, rfl, ?_⟩; (try (rw [drewN_self w4]; generalize hq_ : World.drewN w4 _ = w4; have m0_ : Aside0 (w4.heap[gb108]? = some (.cells z4_ 24 (0, 0))) := ⟨by rw [← hq_]; exact (bl_ BK108.out)⟩; have m1_ : Aside0 (Below w.heap.size w w4) := ⟨by rw [← hq_]; exact hs_⟩; clear BK108 HB hq_; have BK108 := m0_; have HB := m1_; clear m0_ m1_)); have Z5 := bz4_ BK108)); refine bodyPost_ret (results_cell_row rfl _ _ gb108 24 #[.int .i64 4, .string t109, .string ⟨#[]⟩, .string ⟨#[]⟩] (0, 0) _ rfl (pb_ BK108.out) Tryz.underlying24 rfl (by kernel_rfl)) rfl ?_; exact ⟨re_, hs_⟩
 ·replace c3 := Bool.eq_false_iff.mpr c3
  subst c3; (have H1 : ((strings_CutSuffix.f a0 (⟨#[99]⟩ : ByteArray)).bind fun bt111 => (if bt111.2 = true then (some (5, bt111.1, (⟨#[]⟩ : ByteArray), (⟨#[]⟩ : ByteArray))) else ((strings_Cut.f a0 (⟨#[115]⟩ : ByteArray)).bind fun bt113 => (if bt113.2.2 = true then (some (2, bt113.1, bt113.2.1, (⟨#[]⟩ : ByteArray))) else ((strings_Cut.f a0 (⟨#[45]⟩ : ByteArray)).bind fun bt116 => (if bt116.2.2 = true then ((strings_Cut.f bt116.2.1 (⟨#[45]⟩ : ByteArray)).bind fun bt119 => (if bt119.2.2 = true then (some (0, bt116.1, bt119.1, bt119.2.1)) else (some (1, bt116.1, bt116.2.1, (⟨#[]⟩ : ByteArray))))) else (some (3, a0, (⟨#[]⟩ : ByteArray), (⟨#[]⟩ : ByteArray))))))))) = some (r1, r2, r3, r4) := by rw [if_neg (show ¬ (false = true) by decide)] at H; exact H); clear H; have H := H1; clear H1; obtain ⟨⟨t111, t112⟩, A6, H⟩ := bi_ H
  by_cases c7 : t112 = true
  ·subst c7
   (have H1 : (some (5, t111, (⟨#[]⟩ : ByteArray), (⟨#[]⟩ : ByteArray))) = some (r1, r2, r3, r4) := by rw [if_pos rfl] at H; exact H); clear H; have H := H1; clear H1; simp only [Option.some.injEq, Prod.mk.injEq] at H; obtain ⟨rfl, rfl, rfl, rfl⟩ := H; go_enter Tryz.func88, Tryz.ntmps88; go_wp2_with (first | ((with_reducible refine gD 2 ?_); refine gx_ w 2 z4_ 24 ?_; clear HB; intro gb108 w8 BK108 GE108 HB; have GW108 := GE108) | ((with_reducible refine gC 92 ?_); refine goesL_ (some 17) rfl rfl Tryz.func92 (by kernel_rfl) rfl #[.string a0, .string ⟨#[100]⟩] rfl ml_ ?_; (with_reducible refine (strings_CutSuffix.calls a0 (⟨#[100]⟩ : ByteArray) t109 false _ A2.out).mono ?_); rintro e w' ⟨rfl, ⟨nd, rfl⟩⟩; refine ⟨_, rfl, ?_⟩; (try (rw [drewN_self w8]; generalize hq_ : World.drewN w8 _ = w8; have m0_ : Aside0 (w8.heap[gb108]? = some (.cells z4_ 24 (0, 0))) := ⟨by rw [← hq_]; exact (bl_ BK108.out)⟩; have m1_ : Aside0 (Below w.heap.size w w8) := ⟨by rw [← hq_]; exact hs_⟩; clear BK108 HB hq_; have BK108 := m0_; have HB := m1_; clear m0_ m1_))) | ((with_reducible refine gC 92 ?_); refine goesL_ (some 25) rfl rfl Tryz.func92 (by kernel_rfl) rfl #[.string a0, .string ⟨#[99]⟩] rfl ml_ ?_; (with_reducible refine (strings_CutSuffix.calls a0 (⟨#[99]⟩ : ByteArray) t111 true _ A6.out).mono ?_); rintro e w' ⟨rfl, ⟨nd, rfl⟩⟩; refine ⟨_, rfl, ?_⟩; (try (rw [drewN_self w8]; generalize hq_ : World.drewN w8 _ = w8; have m0_ : Aside0 (w8.heap[gb108]? = some (.cells z4_ 24 (0, 0))) := ⟨by rw [← hq_]; exact (bl_ BK108.out)⟩; have m1_ : Aside0 (Below w.heap.size w w8) := ⟨by rw [← hq_]; exact hs_⟩; clear BK108 HB hq_; have BK108 := m0_; have HB := m1_; clear m0_ m1_)); have Z9 := bz4_ BK108)); refine bodyPost_ret (results_cell_row rfl _ _ gb108 24 #[.int .i64 5, .string t111, .string ⟨#[]⟩, .string ⟨#[]⟩] (0, 0) _ rfl (pb_ BK108.out) Tryz.underlying24 rfl (by kernel_rfl)) rfl ?_
   exact ⟨re_, hs_⟩
  ·replace c7 := Bool.eq_false_iff.mpr c7
   subst c7; (have H1 : ((strings_Cut.f a0 (⟨#[115]⟩ : ByteArray)).bind fun bt113 => (if bt113.2.2 = true then (some (2, bt113.1, bt113.2.1, (⟨#[]⟩ : ByteArray))) else ((strings_Cut.f a0 (⟨#[45]⟩ : ByteArray)).bind fun bt116 => (if bt116.2.2 = true then ((strings_Cut.f bt116.2.1 (⟨#[45]⟩ : ByteArray)).bind fun bt119 => (if bt119.2.2 = true then (some (0, bt116.1, bt119.1, bt119.2.1)) else (some (1, bt116.1, bt116.2.1, (⟨#[]⟩ : ByteArray))))) else (some (3, a0, (⟨#[]⟩ : ByteArray), (⟨#[]⟩ : ByteArray))))))) = some (r1, r2, r3, r4) := by rw [if_neg (show ¬ (false = true) by decide)] at H; exact H); clear H; have H := H1; clear H1; obtain ⟨⟨t113, t114, t115⟩, A10, H⟩ := bi_ H
   by_cases c11 : t115 = true
   ·subst c11
    (have H1 : (some (2, t113, t114, (⟨#[]⟩ : ByteArray))) = some (r1, r2, r3, r4) := by rw [if_pos rfl] at H; exact H); clear H; have H := H1; clear H1; simp only [Option.some.injEq, Prod.mk.injEq] at H; obtain ⟨rfl, rfl, rfl, rfl⟩ := H; go_enter Tryz.func88, Tryz.ntmps88; go_wp2_with (first | ((with_reducible refine gD 2 ?_); refine gx_ w 2 z4_ 24 ?_; clear HB; intro gb108 w12 BK108 GE108 HB; have GW108 := GE108) | ((with_reducible refine gC 92 ?_); refine goesL_ (some 17) rfl rfl Tryz.func92 (by kernel_rfl) rfl #[.string a0, .string ⟨#[100]⟩] rfl ml_ ?_; (with_reducible refine (strings_CutSuffix.calls a0 (⟨#[100]⟩ : ByteArray) t109 false _ A2.out).mono ?_); rintro e w' ⟨rfl, ⟨nd, rfl⟩⟩; refine ⟨_, rfl, ?_⟩; (try (rw [drewN_self w12]; generalize hq_ : World.drewN w12 _ = w12; have m0_ : Aside0 (w12.heap[gb108]? = some (.cells z4_ 24 (0, 0))) := ⟨by rw [← hq_]; exact (bl_ BK108.out)⟩; have m1_ : Aside0 (Below w.heap.size w w12) := ⟨by rw [← hq_]; exact hs_⟩; clear BK108 HB hq_; have BK108 := m0_; have HB := m1_; clear m0_ m1_))) | ((with_reducible refine gC 92 ?_); refine goesL_ (some 25) rfl rfl Tryz.func92 (by kernel_rfl) rfl #[.string a0, .string ⟨#[99]⟩] rfl ml_ ?_; (with_reducible refine (strings_CutSuffix.calls a0 (⟨#[99]⟩ : ByteArray) t111 false _ A6.out).mono ?_); rintro e w' ⟨rfl, ⟨nd, rfl⟩⟩; refine ⟨_, rfl, ?_⟩; (try (rw [drewN_self w12]; generalize hq_ : World.drewN w12 _ = w12; have m0_ : Aside0 (w12.heap[gb108]? = some (.cells z4_ 24 (0, 0))) := ⟨by rw [← hq_]; exact (bl_ BK108.out)⟩; have m1_ : Aside0 (Below w.heap.size w w12) := ⟨by rw [← hq_]; exact hs_⟩; clear BK108 HB hq_; have BK108 := m0_; have HB := m1_; clear m0_ m1_))) | ((with_reducible refine gC 93 ?_); refine goesL_ (some 33) rfl rfl Tryz.func93 (by kernel_rfl) rfl #[.string a0, .string ⟨#[115]⟩] rfl ml_ ?_; (with_reducible refine (strings_Cut.calls a0 (⟨#[115]⟩ : ByteArray) t113 t114 true _ A10.out).mono ?_); rintro e w' ⟨rfl, ⟨nd, rfl⟩⟩; refine ⟨_, rfl, ?_⟩; (try (rw [drewN_self w12]; generalize hq_ : World.drewN w12 _ = w12; have m0_ : Aside0 (w12.heap[gb108]? = some (.cells z4_ 24 (0, 0))) := ⟨by rw [← hq_]; exact (bl_ BK108.out)⟩; have m1_ : Aside0 (Below w.heap.size w w12) := ⟨by rw [← hq_]; exact hs_⟩; clear BK108 HB hq_; have BK108 := m0_; have HB := m1_; clear m0_ m1_)); have Z13 := bz4_ BK108))
    refine bodyPost_ret (results_cell_row rfl _ _ gb108 24 #[.int .i64 2, .string t113, .string t114, .string ⟨#[]⟩] (0, 0) _ rfl (pb_ BK108.out) Tryz.underlying24 rfl (by kernel_rfl)) rfl ?_; exact ⟨re_, hs_⟩
   ·replace c11 := Bool.eq_false_iff.mpr c11
    subst c11; (have H1 : ((strings_Cut.f a0 (⟨#[45]⟩ : ByteArray)).bind fun bt116 => (if bt116.2.2 = true then ((strings_Cut.f bt116.2.1 (⟨#[45]⟩ : ByteArray)).bind fun bt119 => (if bt119.2.2 = true then (some (0, bt116.1, bt119.1, bt119.2.1)) else (some (1, bt116.1, bt116.2.1, (⟨#[]⟩ : ByteArray))))) else (some (3, a0, (⟨#[]⟩ : ByteArray), (⟨#[]⟩ : ByteArray))))) = some (r1, r2, r3, r4) := by rw [if_neg (show ¬ (false = true) by decide)] at H; exact H); clear H; have H := H1; clear H1; obtain ⟨⟨t116, t117, t118⟩, A14, H⟩ := bi_ H
    by_cases c15 : t118 = true
    ·subst c15
     (have H1 : ((strings_Cut.f t117 (⟨#[45]⟩ : ByteArray)).bind fun bt119 => (if bt119.2.2 = true then (some (0, t116, bt119.1, bt119.2.1)) else (some (1, t116, t117, (⟨#[]⟩ : ByteArray))))) = some (r1, r2, r3, r4) := by rw [if_pos rfl] at H; exact H); clear H; have H := H1; clear H1; obtain ⟨⟨t119, t120, t121⟩, A16, H⟩ := bi_ H
     by_cases c17 : t121 = true
     ·subst c17
      (have H1 : (some (0, t116, t119, t120)) = some (r1, r2, r3, r4) := by rw [if_pos rfl] at H; exact H); clear H; have H := H1; clear H1; simp only [Option.some.injEq, Prod.mk.injEq] at H; obtain ⟨rfl, rfl, rfl, rfl⟩ := H; go_enter Tryz.func88, Tryz.ntmps88; go_wp2_with (first | ((with_reducible refine gD 2 ?_); refine gx_ w 2 z4_ 24 ?_; clear HB; intro gb108 w18 BK108 GE108 HB; have GW108 := GE108) | ((with_reducible refine gC 92 ?_); refine goesL_ (some 17) rfl rfl Tryz.func92 (by kernel_rfl) rfl #[.string a0, .string ⟨#[100]⟩] rfl ml_ ?_; (with_reducible refine (strings_CutSuffix.calls a0 (⟨#[100]⟩ : ByteArray) t109 false _ A2.out).mono ?_); rintro e w' ⟨rfl, ⟨nd, rfl⟩⟩; refine ⟨_, rfl, ?_⟩; (try (rw [drewN_self w18]; generalize hq_ : World.drewN w18 _ = w18; have m0_ : Aside0 (w18.heap[gb108]? = some (.cells z4_ 24 (0, 0))) := ⟨by rw [← hq_]; exact (bl_ BK108.out)⟩; have m1_ : Aside0 (Below w.heap.size w w18) := ⟨by rw [← hq_]; exact hs_⟩; clear BK108 HB hq_; have BK108 := m0_; have HB := m1_; clear m0_ m1_))) | ((with_reducible refine gC 92 ?_); refine goesL_ (some 25) rfl rfl Tryz.func92 (by kernel_rfl) rfl #[.string a0, .string ⟨#[99]⟩] rfl ml_ ?_; (with_reducible refine (strings_CutSuffix.calls a0 (⟨#[99]⟩ : ByteArray) t111 false _ A6.out).mono ?_); rintro e w' ⟨rfl, ⟨nd, rfl⟩⟩; refine ⟨_, rfl, ?_⟩; (try (rw [drewN_self w18]; generalize hq_ : World.drewN w18 _ = w18; have m0_ : Aside0 (w18.heap[gb108]? = some (.cells z4_ 24 (0, 0))) := ⟨by rw [← hq_]; exact (bl_ BK108.out)⟩; have m1_ : Aside0 (Below w.heap.size w w18) := ⟨by rw [← hq_]; exact hs_⟩; clear BK108 HB hq_; have BK108 := m0_; have HB := m1_; clear m0_ m1_))) | ((with_reducible refine gC 93 ?_); refine goesL_ (some 33) rfl rfl Tryz.func93 (by kernel_rfl) rfl #[.string a0, .string ⟨#[115]⟩] rfl ml_ ?_; (with_reducible refine (strings_Cut.calls a0 (⟨#[115]⟩ : ByteArray) t113 t114 false _ A10.out).mono ?_); rintro e w' ⟨rfl, ⟨nd, rfl⟩⟩; refine ⟨_, rfl, ?_⟩; (try (rw [drewN_self w18]; generalize hq_ : World.drewN w18 _ = w18; have m0_ : Aside0 (w18.heap[gb108]? = some (.cells z4_ 24 (0, 0))) := ⟨by rw [← hq_]; exact (bl_ BK108.out)⟩; have m1_ : Aside0 (Below w.heap.size w w18) := ⟨by rw [← hq_]; exact hs_⟩; clear BK108 HB hq_; have BK108 := m0_; have HB := m1_; clear m0_ m1_))) | ((with_reducible refine gC 93 ?_); refine goesL_ (some 43) rfl rfl Tryz.func93 (by kernel_rfl) rfl #[.string a0, .string ⟨#[45]⟩] rfl ml_ ?_; (with_reducible refine (strings_Cut.calls a0 (⟨#[45]⟩ : ByteArray) t116 t117 true _ A14.out).mono ?_); rintro e w' ⟨rfl, ⟨nd, rfl⟩⟩; refine ⟨_, rfl, ?_⟩; (try (rw [drewN_self w18]; generalize hq_ : World.drewN w18 _ = w18; have m0_ : Aside0 (w18.heap[gb108]? = some (.cells z4_ 24 (0, 0))) := ⟨by rw [← hq_]; exact (bl_ BK108.out)⟩; have m1_ : Aside0 (Below w.heap.size w w18) := ⟨by rw [← hq_]; exact hs_⟩; clear BK108 HB hq_; have BK108 := m0_; have HB := m1_; clear m0_ m1_))) | ((with_reducible refine gC 93 ?_); refine goesL_ (some 53) rfl rfl Tryz.func93 (by kernel_rfl) rfl #[.string t117, .string ⟨#[45]⟩] rfl ml_ ?_; (with_reducible refine (strings_Cut.calls t117 (⟨#[45]⟩ : ByteArray) t119 t120 true _ A16.out).mono ?_); rintro e w' ⟨rfl, ⟨nd, rfl⟩⟩; refine ⟨_, rfl, ?_⟩; (try (rw [drewN_self w18]; generalize hq_ : World.drewN w18 _ = w18; have m0_ : Aside0 (w18.heap[gb108]? = some (.cells z4_ 24 (0, 0))) := ⟨by rw [← hq_]; exact (bl_ BK108.out)⟩; have m1_ : Aside0 (Below w.heap.size w w18) := ⟨by rw [← hq_]; exact hs_⟩; clear BK108 HB hq_; have BK108 := m0_; have HB := m1_; clear m0_ m1_)); have Z19 := bz4_ BK108))
      refine bodyPost_ret (results_cell_row rfl _ _ gb108 24 #[.int .i64 0, .string t116, .string t119, .string t120] (0, 0) _ rfl (pb_ BK108.out) Tryz.underlying24 rfl (by kernel_rfl)) rfl ?_; exact ⟨re_, hs_⟩
     ·replace c17 := Bool.eq_false_iff.mpr c17
      subst c17; (have H1 : (some (1, t116, t117, (⟨#[]⟩ : ByteArray))) = some (r1, r2, r3, r4) := by rw [if_neg (show ¬ (false = true) by decide)] at H; exact H); clear H; have H := H1; clear H1; simp only [Option.some.injEq, Prod.mk.injEq] at H; obtain ⟨rfl, rfl, rfl, rfl⟩ := H; go_enter Tryz.func88, Tryz.ntmps88; go_wp2_with (first | ((with_reducible refine gD 2 ?_); refine gx_ w 2 z4_ 24 ?_; clear HB; intro gb108 w20 BK108 GE108 HB; have GW108 := GE108) | ((with_reducible refine gC 92 ?_); refine goesL_ (some 17) rfl rfl Tryz.func92 (by kernel_rfl) rfl #[.string a0, .string ⟨#[100]⟩] rfl ml_ ?_; (with_reducible refine (strings_CutSuffix.calls a0 (⟨#[100]⟩ : ByteArray) t109 false _ A2.out).mono ?_); rintro e w' ⟨rfl, ⟨nd, rfl⟩⟩; refine ⟨_, rfl, ?_⟩; (try (rw [drewN_self w20]; generalize hq_ : World.drewN w20 _ = w20; have m0_ : Aside0 (w20.heap[gb108]? = some (.cells z4_ 24 (0, 0))) := ⟨by rw [← hq_]; exact (bl_ BK108.out)⟩; have m1_ : Aside0 (Below w.heap.size w w20) := ⟨by rw [← hq_]; exact hs_⟩; clear BK108 HB hq_; have BK108 := m0_; have HB := m1_; clear m0_ m1_))) | ((with_reducible refine gC 92 ?_); refine goesL_ (some 25) rfl rfl Tryz.func92 (by kernel_rfl) rfl #[.string a0, .string ⟨#[99]⟩] rfl ml_ ?_; (with_reducible refine (strings_CutSuffix.calls a0 (⟨#[99]⟩ : ByteArray) t111 false _ A6.out).mono ?_); rintro e w' ⟨rfl, ⟨nd, rfl⟩⟩; refine ⟨_, rfl, ?_⟩; (try (rw [drewN_self w20]; generalize hq_ : World.drewN w20 _ = w20; have m0_ : Aside0 (w20.heap[gb108]? = some (.cells z4_ 24 (0, 0))) := ⟨by rw [← hq_]; exact (bl_ BK108.out)⟩; have m1_ : Aside0 (Below w.heap.size w w20) := ⟨by rw [← hq_]; exact hs_⟩; clear BK108 HB hq_; have BK108 := m0_; have HB := m1_; clear m0_ m1_))) | ((with_reducible refine gC 93 ?_); refine goesL_ (some 33) rfl rfl Tryz.func93 (by kernel_rfl) rfl #[.string a0, .string ⟨#[115]⟩] rfl ml_ ?_; (with_reducible refine (strings_Cut.calls a0 (⟨#[115]⟩ : ByteArray) t113 t114 false _ A10.out).mono ?_); rintro e w' ⟨rfl, ⟨nd, rfl⟩⟩; refine ⟨_, rfl, ?_⟩; (try (rw [drewN_self w20]; generalize hq_ : World.drewN w20 _ = w20; have m0_ : Aside0 (w20.heap[gb108]? = some (.cells z4_ 24 (0, 0))) := ⟨by rw [← hq_]; exact (bl_ BK108.out)⟩; have m1_ : Aside0 (Below w.heap.size w w20) := ⟨by rw [← hq_]; exact hs_⟩; clear BK108 HB hq_; have BK108 := m0_; have HB := m1_; clear m0_ m1_))) | ((with_reducible refine gC 93 ?_); refine goesL_ (some 43) rfl rfl Tryz.func93 (by kernel_rfl) rfl #[.string a0, .string ⟨#[45]⟩] rfl ml_ ?_; (with_reducible refine (strings_Cut.calls a0 (⟨#[45]⟩ : ByteArray) t116 t117 true _ A14.out).mono ?_); rintro e w' ⟨rfl, ⟨nd, rfl⟩⟩; refine ⟨_, rfl, ?_⟩; (try (rw [drewN_self w20]; generalize hq_ : World.drewN w20 _ = w20; have m0_ : Aside0 (w20.heap[gb108]? = some (.cells z4_ 24 (0, 0))) := ⟨by rw [← hq_]; exact (bl_ BK108.out)⟩; have m1_ : Aside0 (Below w.heap.size w w20) := ⟨by rw [← hq_]; exact hs_⟩; clear BK108 HB hq_; have BK108 := m0_; have HB := m1_; clear m0_ m1_))) | ((with_reducible refine gC 93 ?_); refine goesL_ (some 53) rfl rfl Tryz.func93 (by kernel_rfl) rfl #[.string t117, .string ⟨#[45]⟩] rfl ml_ ?_; (with_reducible refine (strings_Cut.calls t117 (⟨#[45]⟩ : ByteArray) t119 t120 false _ A16.out).mono ?_); rintro e w' ⟨rfl, ⟨nd, rfl⟩⟩; refine ⟨_, rfl, ?_⟩; (try (rw [drewN_self w20]; generalize hq_ : World.drewN w20 _ = w20; have m0_ : Aside0 (w20.heap[gb108]? = some (.cells z4_ 24 (0, 0))) := ⟨by rw [← hq_]; exact (bl_ BK108.out)⟩; have m1_ : Aside0 (Below w.heap.size w w20) := ⟨by rw [← hq_]; exact hs_⟩; clear BK108 HB hq_; have BK108 := m0_; have HB := m1_; clear m0_ m1_)); have Z21 := bz4_ BK108))
      refine bodyPost_ret (results_cell_row rfl _ _ gb108 24 #[.int .i64 1, .string t116, .string t117, .string ⟨#[]⟩] (0, 0) _ rfl (pb_ BK108.out) Tryz.underlying24 rfl (by kernel_rfl)) rfl ?_; exact ⟨re_, hs_⟩
    ·replace c15 := Bool.eq_false_iff.mpr c15
     subst c15; (have H1 : (some (3, a0, (⟨#[]⟩ : ByteArray), (⟨#[]⟩ : ByteArray))) = some (r1, r2, r3, r4) := by rw [if_neg (show ¬ (false = true) by decide)] at H; exact H); clear H; have H := H1; clear H1; simp only [Option.some.injEq, Prod.mk.injEq] at H; obtain ⟨rfl, rfl, rfl, rfl⟩ := H; go_enter Tryz.func88, Tryz.ntmps88; go_wp2_with (first | ((with_reducible refine gD 2 ?_); refine gx_ w 2 z4_ 24 ?_; clear HB; intro gb108 w22 BK108 GE108 HB; have GW108 := GE108) | ((with_reducible refine gC 92 ?_); refine goesL_ (some 17) rfl rfl Tryz.func92 (by kernel_rfl) rfl #[.string a0, .string ⟨#[100]⟩] rfl ml_ ?_; (with_reducible refine (strings_CutSuffix.calls a0 (⟨#[100]⟩ : ByteArray) t109 false _ A2.out).mono ?_); rintro e w' ⟨rfl, ⟨nd, rfl⟩⟩; refine ⟨_, rfl, ?_⟩; (try (rw [drewN_self w22]; generalize hq_ : World.drewN w22 _ = w22; have m0_ : Aside0 (w22.heap[gb108]? = some (.cells z4_ 24 (0, 0))) := ⟨by rw [← hq_]; exact (bl_ BK108.out)⟩; have m1_ : Aside0 (Below w.heap.size w w22) := ⟨by rw [← hq_]; exact hs_⟩; clear BK108 HB hq_; have BK108 := m0_; have HB := m1_; clear m0_ m1_))) | ((with_reducible refine gC 92 ?_); refine goesL_ (some 25) rfl rfl Tryz.func92 (by kernel_rfl) rfl #[.string a0, .string ⟨#[99]⟩] rfl ml_ ?_; (with_reducible refine (strings_CutSuffix.calls a0 (⟨#[99]⟩ : ByteArray) t111 false _ A6.out).mono ?_); rintro e w' ⟨rfl, ⟨nd, rfl⟩⟩; refine ⟨_, rfl, ?_⟩; (try (rw [drewN_self w22]; generalize hq_ : World.drewN w22 _ = w22; have m0_ : Aside0 (w22.heap[gb108]? = some (.cells z4_ 24 (0, 0))) := ⟨by rw [← hq_]; exact (bl_ BK108.out)⟩; have m1_ : Aside0 (Below w.heap.size w w22) := ⟨by rw [← hq_]; exact hs_⟩; clear BK108 HB hq_; have BK108 := m0_; have HB := m1_; clear m0_ m1_))) | ((with_reducible refine gC 93 ?_); refine goesL_ (some 33) rfl rfl Tryz.func93 (by kernel_rfl) rfl #[.string a0, .string ⟨#[115]⟩] rfl ml_ ?_; (with_reducible refine (strings_Cut.calls a0 (⟨#[115]⟩ : ByteArray) t113 t114 false _ A10.out).mono ?_); rintro e w' ⟨rfl, ⟨nd, rfl⟩⟩; refine ⟨_, rfl, ?_⟩; (try (rw [drewN_self w22]; generalize hq_ : World.drewN w22 _ = w22; have m0_ : Aside0 (w22.heap[gb108]? = some (.cells z4_ 24 (0, 0))) := ⟨by rw [← hq_]; exact (bl_ BK108.out)⟩; have m1_ : Aside0 (Below w.heap.size w w22) := ⟨by rw [← hq_]; exact hs_⟩; clear BK108 HB hq_; have BK108 := m0_; have HB := m1_; clear m0_ m1_))) | ((with_reducible refine gC 93 ?_); refine goesL_ (some 43) rfl rfl Tryz.func93 (by kernel_rfl) rfl #[.string a0, .string ⟨#[45]⟩] rfl ml_ ?_; (with_reducible refine (strings_Cut.calls a0 (⟨#[45]⟩ : ByteArray) t116 t117 false _ A14.out).mono ?_); rintro e w' ⟨rfl, ⟨nd, rfl⟩⟩; refine ⟨_, rfl, ?_⟩; (try (rw [drewN_self w22]; generalize hq_ : World.drewN w22 _ = w22; have m0_ : Aside0 (w22.heap[gb108]? = some (.cells z4_ 24 (0, 0))) := ⟨by rw [← hq_]; exact (bl_ BK108.out)⟩; have m1_ : Aside0 (Below w.heap.size w w22) := ⟨by rw [← hq_]; exact hs_⟩; clear BK108 HB hq_; have BK108 := m0_; have HB := m1_; clear m0_ m1_)); have Z23 := bz4_ BK108))
     refine bodyPost_ret (results_cell_row rfl _ _ gb108 24 #[.int .i64 3, .string a0, .string ⟨#[]⟩, .string ⟨#[]⟩] (0, 0) _ rfl (pb_ BK108.out) Tryz.underlying24 rfl (by kernel_rfl)) rfl ?_; exact ⟨re_, hs_⟩
set_option maxHeartbeats 8000000 in
set_option maxRecDepth 100000 in
theorem runs_Sane.calls (k : Nat) (A0 : Option Addr) (c0 : Nat) (l0 : List (S120)) (r : Bool) (w : World) (hr0 : Kd.C k120 w A0 l0.length l0) (hc0 : l0.length ≤ c0) (h : runs_Sane.f k l0 = some r) :
  Calls Tryz.prog 104 #[.slice A0 l0.length c0] w fun e w' => e = .returned (.bool r) ∧ Below w.heap.size w w' := by
 have hu120 := Tryz.underlying120; have HR0 := A_ hr0; have HC0 := A_ hc0; clear hr0 hc0; have HB := A_ (Below.refl w.heap.size w); have H : (runs_Sane.l0 k (-1099511627778) l0 (l0.length : Int) 0) = some r := h; clear h; have H' := A_ H; clear H; go_enter Tryz.func104, Tryz.ntmps104; go_wp2; go_loopg [3, 8] k (fun kq v3 v8 w' => ∃ (x3_1 : Int) (x8_1 : Int), v3 = .int .i64 x3_1 ∧ v8 = .int .i64 x8_1 ∧ Aside0 (runs_Sane.l0 kq x3_1 l0 (l0.length : Int) x8_1 = some r) ∧ Aside0 (kq ≤ k) ∧ Aside0 (Below w.heap.size w w'))
 case atStart => exact ⟨((-1099511627778)), (0), rf_, rf_, H', ⟨Nat.le_refl _⟩, ⟨hs_⟩⟩
 case round =>
  clear H'; obtain ⟨x3_1, x8_1, rfl, rfl, HA, HK1, HB⟩ := hrel
  cases gk with
  | zero => exact absurd HA.out (by simp [runs_Sane.l0])
  | succ k1 =>
   have H := HA.out; clear HA; simp only [runs_Sane.l0] at H
   by_cases c2 : x8_1 < (l0.length : Int)
   ·rw [if_pos c2] at H
    have c2b0 := decide_eq_true c2; clear c2
    by_cases c3 : 0 ≤ x8_1
    ·rw [if_pos c3] at H
     have c3b0 := decide_eq_true c3; clear c3
     by_cases c4 : x8_1 < (l0.length : Int)
     ·rw [if_pos c4] at H
      have c4b0 := decide_eq_true c4; clear c4
      by_cases c5 : ((rd_T120 l0 x8_1).f0) > ((rd_T120 l0 x8_1).f1)
      ·rw [if_pos c5] at H
       have c5b0 := decide_eq_true c5; clear c5; obtain rfl := Option.some.inj H; have p101 : 0 ≤ (x8_1 : Int) := od_; have q101 : x8_1 < (l0.length : Int) := od_; obtain ⟨ad101, e101, hx101_0, hx101_1⟩ := at_T120 HR0.out x8_1 p101 q101
       cases e101
       replace hx101_0 := cl_ HB hx101_0; replace hx101_1 := cl_ HB hx101_1; replace p101 := eq_true p101; replace q101 := eq_true q101; go_wp2_with (first | (refine gx_ w 5 #[.int .i64 0, .int .i64 0] 120 ?_; clear HB; intro gb102 w6 BK102 GE102 HB; have GW102 := GE102; have Z7 := bz2_ BK102)); go_ret; exact ⟨re_, hs_⟩
      ·rw [if_neg c5] at H
       have c5b0 := decide_eq_false c5; clear c5
       by_cases c8 : ((rd_T120 l0 x8_1).f0) < (wrap64 (x3_1 + 2))
       ·rw [if_pos c8] at H
        have c8b0 := decide_eq_true c8; clear c8; obtain rfl := Option.some.inj H; have p101 : 0 ≤ (x8_1 : Int) := od_; have q101 : x8_1 < (l0.length : Int) := od_; obtain ⟨ad101, e101, hx101_0, hx101_1⟩ := at_T120 HR0.out x8_1 p101 q101
        cases e101
        replace hx101_0 := cl_ HB hx101_0; replace hx101_1 := cl_ HB hx101_1; replace p101 := eq_true p101; replace q101 := eq_true q101; go_wp2_with (first | (refine gx_ w 5 #[.int .i64 0, .int .i64 0] 120 ?_; clear HB; intro gb102 w9 BK102 GE102 HB; have GW102 := GE102; have Z10 := bz2_ BK102)); go_ret; exact ⟨re_, hs_⟩
       ·rw [if_neg c8] at H
        have c8b0 := decide_eq_false c8; clear c8
        by_cases c11 : ((rd_T120 l0 x8_1).f1) > 1099511627776
        ·rw [if_pos c11] at H
         have c11b0 := decide_eq_true c11; clear c11; obtain rfl := Option.some.inj H; have p101 : 0 ≤ (x8_1 : Int) := od_; have q101 : x8_1 < (l0.length : Int) := od_; obtain ⟨ad101, e101, hx101_0, hx101_1⟩ := at_T120 HR0.out x8_1 p101 q101
         cases e101
         replace hx101_0 := cl_ HB hx101_0; replace hx101_1 := cl_ HB hx101_1; replace p101 := eq_true p101; replace q101 := eq_true q101; go_wp2_with (first | (refine gx_ w 5 #[.int .i64 0, .int .i64 0] 120 ?_; clear HB; intro gb102 w12 BK102 GE102 HB; have GW102 := GE102; have Z13 := bz2_ BK102)); go_ret; exact ⟨re_, hs_⟩
        ·rw [if_neg c11] at H
         have c11b0 := decide_eq_false c11; clear c11; have H' := A_ H; clear H; have p101 : 0 ≤ (x8_1 : Int) := od_; have q101 : x8_1 < (l0.length : Int) := od_; obtain ⟨ad101, e101, hx101_0, hx101_1⟩ := at_T120 HR0.out x8_1 p101 q101
         cases e101
         replace hx101_0 := cl_ HB hx101_0; replace hx101_1 := cl_ HB hx101_1; replace p101 := eq_true p101; replace q101 := eq_true q101; go_wp2_with (first | (refine gx_ w 5 #[.int .i64 0, .int .i64 0] 120 ?_; clear HB; intro gb102 w14 BK102 GE102 HB; have GW102 := GE102; have Z15 := bz2_ BK102)); go_roundg k1
         case measure => have := HK1.out; omega
         case rel => exact ⟨((rd_T120 l0 x8_1).f1), (wrap64 (x8_1 + 1)), rf_, rf_, H', ⟨by have := HK1.out; omega⟩, ⟨hs_⟩⟩
     ·rw [if_neg c4] at H
      exact absurd H (by simp)
    ·rw [if_neg c3] at H
     exact absurd H (by simp)
   ·rw [if_neg c2] at H
    have c2b0 := decide_eq_false c2; clear c2; obtain rfl := Option.some.inj H; go_wp2; go_ret; exact ⟨re_, hs_⟩
theorem runs_Make.calls (A0 : Option Addr) (c0 : Nat) (l0 r : List S120) (w : World) (hr0 : Kd.C k120 w A0 l0.length l0) (hc0 : l0.length ≤ c0) (h : runs_Make.f l0 = some r) :
    Calls Tryz.prog 105 #[.slice A0 l0.length c0] w fun e w' => ∃ v0_ : Value, e = .returned (v0_) ∧ Kd.R k120 120 w' w.heap.size (fun _ => True) v0_ r ∧ Below w.heap.size w w' := by
  exact absurd h (by simp [runs_Make.f])
set_option maxHeartbeats 8000000 in
set_option maxRecDepth 100000 in
theorem sets_known.calls (k : Nat) (P0_ : Nat → Prop) (A0 : Option Addr) (c0 : Nat) (l0 r : List (S120)) (w : World) (hs0 : Kd.V k120 120 w w.heap.size (fun k_ => P0_ k_) (.slice A0 l0.length c0) l0) (h : sets_known.f k l0 = some r) :
  Calls Tryz.prog 100 #[.slice A0 l0.length c0] w fun e w' => ∃ v0_ : Value, e = .returned (v0_) ∧ Kd.V k120 120 w' w.heap.size (fun k_ => (P0_ k_ ∨ w.heap.size ≤ k_)) v0_ r ∧ Below w.heap.size w w' := by
 have HO0 := A_ (show Kd.V k120 120 w w.heap.size (fun k_ => (P0_ k_ ∨ w.heap.size ≤ k_)) (.slice A0 l0.length c0) l0 from Kd.V_mono hs0 (fun k_ hk => .inl hk)); have HB := A_ (Below.refl w.heap.size w); have H : ((runs_Sane.f k l0).bind fun t103 => (if t103 = true then (some l0) else ((runs_Make.f l0).bind fun t104 => (some t104)))) = some r := h; clear h; replace H := Option.bind_eq_some_iff.mp H; obtain ⟨t103, A20, H⟩ := H; replace H : (if t103 = true then (some l0) else ((runs_Make.f l0).bind fun t104 => (some t104))) = some r := H; have A2 := A_ A20; clear A20
 by_cases c3 : t103 = true
 ·subst c3
  replace H := iP_ H; obtain rfl := Option.some.inj H; go_enter Tryz.func100, Tryz.ntmps100; go_wp2_with (first | (refine gC 104 ?_; refine gL 4 Tryz.func104 #[.slice A0 l0.length c0] ?_; (with_reducible refine (runs_Sane.calls k _ _ l0 true _ ?side1 ?side2 A2.out).mono ?_); (case side1 => exact cr_ (Kd.V_reads' HO0.out).2.2); (case side2 => exact (Kd.V_reads' HO0.out).2.1); rintro e w4 ⟨rfl, hb⟩; refine ⟨_, rfl, ?_⟩; replace HO0 := bV_ HO0 hb; replace HB := bs_ hb; (try clear hb))); go_ret; exact ⟨_, by first | rfl | (simp [errW_none, errW_some] <;> rfl) | (simp [*, errW_none, errW_some] <;> rfl), fxV_ HO0.out, hs_⟩
 ·replace c3 := Bool.eq_false_iff.mpr c3
  subst c3; replace H := iN_ H; replace H := Option.bind_eq_some_iff.mp H; obtain ⟨t104, A50, H⟩ := H; replace H : (some t104) = some r := H; have A5 := A_ A50; clear A50; obtain rfl := Option.some.inj H; go_enter Tryz.func100, Tryz.ntmps100; go_wp2_with (first | (refine gC 104 ?_; refine gL 4 Tryz.func104 #[.slice A0 l0.length c0] ?_; (with_reducible refine (runs_Sane.calls k _ _ l0 false _ ?side1 ?side2 A2.out).mono ?_); (case side1 => exact cr_ (Kd.V_reads' HO0.out).2.2); (case side2 => exact (Kd.V_reads' HO0.out).2.1); rintro e w6 ⟨rfl, hb⟩; refine ⟨_, rfl, ?_⟩; replace HO0 := bV_ HO0 hb; replace HB := bs_ hb; (try clear hb)) | (refine gC 105 ?_; refine gL 7 Tryz.func105 #[.slice A0 l0.length c0] ?_; (with_reducible refine (runs_Make.calls _ _ l0 t104 _ ?side1 ?side2 A5.out).mono ?_); (case side1 => exact cr_ (Kd.V_reads' HO0.out).2.2); (case side2 => exact (Kd.V_reads' HO0.out).2.1); rintro e w7 ⟨v105, rfl, ho0, hb⟩; refine ⟨_, rfl, ?_⟩; replace HO0 := A_ (Kd.V_elder' (hrV_ HO0.out) (Kd.R_base ho0) hb); have HO106 := A_ (Kd.R_lower (Kd.R_newM (M := fun k_ => (w.heap.size ≤ k_)) ho0 (below_size hs_) (fun k_ h_ => h_)) (below_size hs_)); replace HB := bs_ hb; (try clear hb); (try clear ho0))); go_ret; exact ⟨_, by first | rfl | (simp [errW_none, errW_some] <;> rfl) | (simp [*, errW_none, errW_some] <;> rfl), Kd.V_mono (Kd.R_V (by (with_reducible repeat (first | apply Kd.R_alloc | apply Kd.R_drewN | apply Kd.R_drew)); exact Kd.R_mono HO106.out (fun _ hk => hk.1))) (fun k_ hk => by first | exact ⟨(.inr (hk.1)), hk.2⟩ | exact (.inr (hk))), hs_⟩
def sets_Meet.T5 : Bool × List (List Nat × List Nat) := (true, [([], []), ([], []), ([0, 1], [0, 1]), ([2], [2]), ([3], [3]), ([], []), ([], []), ([5, 6], [5, 6]), ([7], [7]), ([8], [8]), ([4, 9], [4, 9]), ([], []), ([], []), ([11, 12], [11, 12]), ([13], [13]), ([14], [14]), ([], []), ([], []), ([16, 17], [16, 17]), ([18], [18]), ([19], [19]), ([15, 20], [15, 20]), ([10, 21], [10, 21]), ([], []), ([23, 22, 0, 1, 2, 3, 4, 5, 6, 7, 8, 9, 10, 11, 12, 13, 14, 15, 16, 17, 18, 19, 20, 21, 22, 23], [22, 23])])
def sets_Meet.B5 : List Nat := [0, 0, 3, 7, 15, 0, 0, 96, 224, 480, 1023, 0, 0, 6144, 14336, 30720, 0, 0, 196608, 458752, 983040, 2095104, 4194303, 0, 16777215]
theorem sets_Meet.tab5 : rtab .any (opsOf Tryz.f96 5) = sets_Meet.T5 := by kernel_rfl
theorem sets_Meet.bits5 : waitsOk sets_Meet.T5.2 sets_Meet.B5 = true := by kernel_rfl
def sets_Meet.T8 : Bool × List (List Nat × List Nat) := (true, [([], []), ([], []), ([0, 1], [0, 1]), ([2], [2]), ([3], [3]), ([], []), ([], []), ([5, 6], [5, 6]), ([7], [7]), ([8], [8]), ([4, 9], [4, 9])])
def sets_Meet.B8 : List Nat := [0, 0, 3, 7, 15, 0, 0, 96, 224, 480, 1023]
theorem sets_Meet.tab8 : rtab .any (opsOf Tryz.f96 8) = sets_Meet.T8 := by kernel_rfl
theorem sets_Meet.bits8 : waitsOk sets_Meet.T8.2 sets_Meet.B8 = true := by kernel_rfl
set_option maxHeartbeats 8000000 in
set_option maxRecDepth 100000 in
theorem sets_Meet.calls (k : Nat) (A0 : Option Addr) (c0 : Nat) (l0 : List (S120)) (A1 : Option Addr) (c1 : Nat) (l1 r : List (S120)) (w : World) (hr0 : Kd.C k120 w A0 l0.length l0) (hc0 : l0.length ≤ c0) (hr1 : Kd.C k120 w A1 l1.length l1) (hc1 : l1.length ≤ c1) (h : sets_Meet.f k l0 l1 = some r) :
  Calls Tryz.prog 96 #[.slice A0 l0.length c0, .slice A1 l1.length c1] w fun e w' => ∃ v0_ : Value, e = .returned (v0_) ∧ Kd.R k120 120 w' w.heap.size (fun _ => True) v0_ r ∧ Below w.heap.size w w' := by
 have hu120 := Tryz.underlying120; have HR0 := A_ hr0; have HC0 := A_ hc0; clear hr0 hc0; have HR1 := A_ hr1; have HC1 := A_ hc1; clear hr1 hc1; have HB := A_ (Below.refl w.heap.size w); have H : ((sets_known.f k l0).bind fun t107 => ((sets_known.f k l1).bind fun t110 => (sets_Meet.l0 k t107 t110 ([] : List (S120)) 0 0))) = some r := h; clear h; obtain ⟨t107, A3, H⟩ := bi_ H; obtain ⟨t110, A4, H⟩ := bi_ H; have H' := A_ H; clear H; go_enter Tryz.func96, Tryz.ntmps96; go_wp2_with (fail); (try go_step3); go_wp2_with (first | (refine gC 100 ?_; refine gL 10 Tryz.func100 #[.slice A0 l0.length c0] ?_; (with_reducible refine (sets_known.calls k (fun k_ => k_ < w.heap.size) _ _ l0 t107 _ ?side1 A3.out).mono ?_); (case side1 => exact Kd.V_mk HC0.out (Kd.F_below (Kd.C_F k120_heap HR0.out) hs_)); rintro e w5 ⟨v108, rfl, ho0, hb⟩; refine ⟨_, rfl, ?_⟩; have HO109 := A_ (Kd.V_lower (Kd.V_mono (ok' := fun k_ => True) ho0 (fun k_ hk_ => trivial)) (below_size hs_)); replace HB := bs_ hb; (try clear hb); (try clear ho0)) | (refine gC 100 ?_; refine gL 12 Tryz.func100 #[.slice A1 l1.length c1] ?_; (with_reducible refine (sets_known.calls k (fun k_ => k_ < w.heap.size) _ _ l1 t110 _ ?side1 A4.out).mono ?_); (case side1 => exact Kd.V_mk HC1.out (Kd.F_below (Kd.C_F k120_heap HR1.out) hs_)); rintro e w6 ⟨v111, rfl, ho0, hb⟩; refine ⟨_, rfl, ?_⟩; replace HO109 := bV_ HO109 hb; have HO112 := A_ (Kd.V_lower (Kd.V_mono (ok' := fun k_ => True) ho0 (fun k_ hk_ => trivial)) (below_size hs_)); replace HB := bs_ hb; (try clear hb); (try clear ho0))); (try (go_step3; try go_wp2_with (fail))); go_loopg [5, 6, 7] k (fun kq v5 v6 v7 w' => ∃ (x5_1 : List (S120)) (x6_1 : Int) (x7_1 : Int), v6 = .int .i64 x6_1 ∧ v7 = .int .i64 x7_1 ∧ Aside0 (sets_Meet.l0 kq t107 t110 x5_1 x6_1 x7_1 = some r) ∧ Aside0 (kq ≤ k) ∧ Aside0 (Kd.V k120 120 w' w.heap.size (fun k_ => nv_ k_ v5) v108 t107) ∧ Aside0 (Kd.V k120 120 w' w.heap.size (fun k_ => nv_ k_ v5) v111 t110) ∧ Aside0 (Kd.R k120 120 w' w.heap.size (fun _ => True) v5 x5_1) ∧ Aside0 (Below w.heap.size w w'))
 case atStart => exact ⟨(([] : List (S120))), (0), (0), rf_, rf_, H', ⟨Nat.le_refl _⟩, ⟨by (with_reducible repeat (first | apply Kd.V_alloc | apply Kd.V_drewN | apply Kd.V_drew)); exact Kd.V_mono HO109.out (fun _ hk => (by simp [Value.ownBlock]))⟩, ⟨by (with_reducible repeat (first | apply Kd.V_alloc | apply Kd.V_drewN | apply Kd.V_drew)); exact Kd.V_mono HO112.out (fun _ hk => (by simp [Value.ownBlock]))⟩, ⟨by first | exact Kd.R_nil _ _ _ _ _ | exact Kd.N_nil _ _ _ _ _ | exact Kd.V_nil _ _ _ _ _ | exact Kd.Q_nil _ _ _ _ _ | exact Kd.S_nil _ _ _ _ _⟩, ⟨hs_⟩⟩
 case round =>
  clear H'; (try clear c1); (try clear p2); (try clear p3); obtain ⟨x5_1, x6_1, x7_1, rfl, rfl, HA, HK1, HO_0, HO_1, HO_5, HB⟩ := hrel
  cases gk with
  | zero => exact absurd HA.out (by simp [sets_Meet.l0])
  | succ k1 =>
   have H := HA.out; clear HA; simp only [sets_Meet.l0] at H; have HC7 := A_ H; clear H; go_upto_region 4 with (fail); go_cut [22] (fun v22 wc => ∃ (kq : Nat) (x22_6 : Bool), v22 = .bool x22_6 ∧ Aside0 (sets_Meet.j1 kq t107 t110 x5_1 x6_1 x7_1 x22_6 = some r) ∧ Aside0 (kq ≤ k1) ∧ Aside0 (Kd.V k120 120 wc w.heap.size (fun k_ => nv_ k_ u5) v108 t107) ∧ Aside0 (Kd.V k120 120 wc w.heap.size (fun k_ => nv_ k_ u5) v111 t110) ∧ Aside0 (Kd.R k120 120 wc w.heap.size (fun _ => True) u5 x5_1) ∧ Aside0 (Below w.heap.size w wc))
   case first =>
    have H := HC7.out; clear HC7
    by_cases c8 : x6_1 < (t107.length : Int)
    ·rw [if_pos c8] at H
     have c8b0 := decide_eq_true c8; clear c8; (first | rw [c8b0] | (simp only [i64_w, i32_w]; rw [c8b0]) | skip); have H' := A_ H; clear H; obtain ⟨Ao9, co9, eo9⟩ := Kd.V_slice HO_0.out; subst eo9; obtain ⟨Ao10, co10, eo10⟩ := Kd.V_slice HO_1.out; subst eo10; go_wp2; go_meet
     case rel => exact ⟨_, (decide (x7_1 < (t110.length : Int))), rf_, H', ⟨by have := HK1.out; first | omega | exact Nat.le_refl _⟩, ⟨fxV_ HO_0.out⟩, ⟨fxV_ HO_1.out⟩, ⟨fxR_ HO_5.out⟩, ⟨hs_⟩⟩
    ·rw [if_neg c8] at H
     have c8b0 := decide_eq_false c8; clear c8; (first | rw [c8b0] | (simp only [i64_w, i32_w]; rw [c8b0]) | skip); have H' := A_ H; clear H; obtain ⟨Ao11, co11, eo11⟩ := Kd.V_slice HO_0.out; subst eo11; go_wp2; go_meet
     case rel => exact ⟨_, (false), rf_, H', ⟨by have := HK1.out; first | omega | exact Nat.le_refl _⟩, ⟨fxV_ HO_0.out⟩, ⟨fxV_ HO_1.out⟩, ⟨fxR_ HO_5.out⟩, ⟨hs_⟩⟩
   case rest =>
    clear HC7; (try clear c1); (try clear p2); (try clear p3); (try clear c8); (try clear c8b0); (try clear c9); (try clear p2); (try clear p3); obtain ⟨kq, x22_6, rfl, HA, HJ6, HO_0, HO_1, HO_5, HB⟩ := hcut
    cases kq with
    | zero => exact absurd HA.out (by simp [sets_Meet.j1])
    | succ kj6 =>
     have H := HA.out; clear HA; simp only [sets_Meet.j1] at H
     by_cases c12 : x22_6 = true
     ·subst c12
      replace H := iP_ H
      by_cases c13 : 0 ≤ x6_1
      ·rw [if_pos c13] at H
       have c13b0 := decide_eq_true c13; clear c13
       by_cases c14 : x6_1 < (t107.length : Int)
       ·rw [if_pos c14] at H
        have c14b0 := decide_eq_true c14; clear c14
        by_cases c15 : 0 ≤ x7_1
        ·rw [if_pos c15] at H
         have c15b0 := decide_eq_true c15; clear c15
         by_cases c16 : x7_1 < (t110.length : Int)
         ·rw [if_pos c16] at H
          have c16b0 := decide_eq_true c16; clear c16; obtain ⟨ji17, hji17⟩ : ∃ j_ : Int, (mx ((rd_T120 t107 x6_1).f0) ((rd_T120 t110 x7_1).f0)) = j_ := ⟨_, rfl⟩; (replace H : (if (ji17) ≤ (mn ((rd_T120 t107 x6_1).f1) ((rd_T120 t110 x7_1).f1)) then (if x5_1.length < 8796093022208 then ((some (x5_1 ++ [(⟨ji17, mn ((rd_T120 t107 x6_1).f1) ((rd_T120 t110 x7_1).f1)⟩ : S120)] : List (S120))).bind fun y118 => (if ((rd_T120 t107 x6_1).f1) < ((rd_T120 t110 x7_1).f1) then (sets_Meet.l0 kj6 t107 t110 y118 (wrap64 (x6_1 + 1)) x7_1) else (sets_Meet.l0 kj6 t107 t110 y118 x6_1 (wrap64 (x7_1 + 1))))) else (none)) else (if ((rd_T120 t107 x6_1).f1) < ((rd_T120 t110 x7_1).f1) then (sets_Meet.l0 kj6 t107 t110 x5_1 (wrap64 (x6_1 + 1)) x7_1) else (sets_Meet.l0 kj6 t107 t110 x5_1 x6_1 (wrap64 (x7_1 + 1))))) = some r := by first | (rw [hji17] at H; exact H) | (simp only [hji17] at H ⊢; exact H)); have hji17_ : (if ((rd_T120 t107 x6_1).f0) < ((rd_T120 t110 x7_1).f0) then ((rd_T120 t110 x7_1).f0) else ((rd_T120 t107 x6_1).f0)) = ji17 := hji17; obtain ⟨ji18, hji18⟩ : ∃ j_ : Int, (mn ((rd_T120 t107 x6_1).f1) ((rd_T120 t110 x7_1).f1)) = j_ := ⟨_, rfl⟩; (replace H : (if (ji17) ≤ (ji18) then (if x5_1.length < 8796093022208 then ((some (x5_1 ++ [(⟨ji17, ji18⟩ : S120)] : List (S120))).bind fun y118 => (if ((rd_T120 t107 x6_1).f1) < ((rd_T120 t110 x7_1).f1) then (sets_Meet.l0 kj6 t107 t110 y118 (wrap64 (x6_1 + 1)) x7_1) else (sets_Meet.l0 kj6 t107 t110 y118 x6_1 (wrap64 (x7_1 + 1))))) else (none)) else (if ((rd_T120 t107 x6_1).f1) < ((rd_T120 t110 x7_1).f1) then (sets_Meet.l0 kj6 t107 t110 x5_1 (wrap64 (x6_1 + 1)) x7_1) else (sets_Meet.l0 kj6 t107 t110 x5_1 x6_1 (wrap64 (x7_1 + 1))))) = some r := by first | (rw [hji18] at H; exact H) | (simp only [hji18] at H ⊢; exact H)); have hji18_ : (if ((rd_T120 t110 x7_1).f1) < ((rd_T120 t107 x6_1).f1) then ((rd_T120 t110 x7_1).f1) else ((rd_T120 t107 x6_1).f1)) = ji18 := hji18
          by_cases c19 : (ji17) ≤ (ji18)
          ·rw [if_pos c19] at H
           have c19b0 := decide_eq_true c19; clear c19
           by_cases c20 : x5_1.length < 8796093022208
           ·rw [if_pos c20] at H
            have LMc20 := A_ c20; clear c20; obtain ⟨y118, hy118⟩ : ∃ y_ : List (S120), y_ = (x5_1 ++ [(⟨ji17, ji18⟩ : S120)]) := ⟨_, rfl⟩; (replace H : (if ((rd_T120 t107 x6_1).f1) < ((rd_T120 t110 x7_1).f1) then (sets_Meet.l0 kj6 t107 t110 y118 (wrap64 (x6_1 + 1)) x7_1) else (sets_Meet.l0 kj6 t107 t110 y118 x6_1 (wrap64 (x7_1 + 1)))) = some r := hy_ hy118 H); have Ny118 := A_ hy118; clear hy118
            by_cases c21 : ((rd_T120 t107 x6_1).f1) < ((rd_T120 t110 x7_1).f1)
            ·rw [if_pos c21] at H
             have c21b0 := decide_eq_true c21; clear c21; have H' := A_ H; clear H; (try go_wp2); replace HO_0 := A_ (Kd.V_drew HO_0.out); replace HO_1 := A_ (Kd.V_drew HO_1.out); replace HO_5 := A_ (Kd.R_drew HO_5.out); replace HB := A_ (below_drew1 HB.out); obtain ⟨Ao23, co23, eo23⟩ := Kd.V_slice HO_0.out; (first | subst eo23 | (injection eo23 with f1_ f2_ f3_; have f4_ := f1_.symm; have f5_ := f3_.symm; clear f1_ f2_ f3_; subst f4_; subst f5_)); have p113 : 0 ≤ (x6_1 : Int) := od_; have q113 : x6_1 < (t107.length : Int) := od_; obtain ⟨ad113, e113, hx113_0, hx113_1⟩ := at_T120 (Kd.V_reads' HO_0.out).2.2 x6_1 p113 q113
             cases e113
             replace p113 := eq_true p113; replace q113 := eq_true q113; obtain ⟨Ao24, co24, eo24⟩ := Kd.V_slice HO_1.out; (first | subst eo24 | (injection eo24 with f1_ f2_ f3_; have f4_ := f1_.symm; have f5_ := f3_.symm; clear f1_ f2_ f3_; subst f4_; subst f5_)); have p114 : 0 ≤ (x7_1 : Int) := od_; have q114 : x7_1 < (t110.length : Int) := od_; obtain ⟨ad114, e114, hx114_0, hx114_1⟩ := at_T120 (Kd.V_reads' HO_1.out).2.2 x7_1 p114 q114
             cases e114
             replace p114 := eq_true p114; replace q114 := eq_true q114; have p115 : 0 ≤ (x6_1 : Int) := od_; have q115 : x6_1 < (t107.length : Int) := od_; obtain ⟨ad115, e115, hx115_0, hx115_1⟩ := at_T120 (Kd.V_reads' HO_0.out).2.2 x6_1 p115 q115; obtain rfl : ad113 = ad115 := (by injection e115); replace p115 := eq_true p115; replace q115 := eq_true q115; have p116 : 0 ≤ (x7_1 : Int) := od_; have q116 : x7_1 < (t110.length : Int) := od_; obtain ⟨ad116, e116, hx116_0, hx116_1⟩ := at_T120 (Kd.V_reads' HO_1.out).2.2 x7_1 p116 q116; obtain rfl : ad114 = ad116 := (by injection e116); replace p116 := eq_true p116; replace q116 := eq_true q116; refine start_ (n := 25) (S := fun w' => w'.cell? (ad113.add ((x6_1).toNat * 2)) = some (.int .i64 ((rd_T120 t107 x6_1).f0)) ∧ w'.cell? ⟨(ad113.add ((x6_1).toNat * 2)).block, (ad113.add ((x6_1).toNat * 2)).off + 1, none⟩ = some (.int .i64 ((rd_T120 t107 x6_1).f1)) ∧ w'.cell? (ad114.add ((x7_1).toNat * 2)) = some (.int .i64 ((rd_T120 t110 x7_1).f0)) ∧ w'.cell? ⟨(ad114.add ((x7_1).toNat * 2)).block, (ad114.add ((x7_1).toNat * 2)).off + 1, none⟩ = some (.int .i64 ((rd_T120 t110 x7_1).f1)) ∧ w'.cell? (ad113.add ((x6_1).toNat * 2)) = some (.int .i64 ((rd_T120 t107 x6_1).f0)) ∧ w'.cell? ⟨(ad113.add ((x6_1).toNat * 2)).block, (ad113.add ((x6_1).toNat * 2)).off + 1, none⟩ = some (.int .i64 ((rd_T120 t107 x6_1).f1)) ∧ w'.cell? (ad114.add ((x7_1).toNat * 2)) = some (.int .i64 ((rd_T120 t110 x7_1).f0)) ∧ w'.cell? ⟨(ad114.add ((x7_1).toNat * 2)).block, (ad114.add ((x7_1).toNat * 2)).off + 1, none⟩ = some (.int .i64 ((rd_T120 t110 x7_1).f1))) (ds := []) (ab 25 0) (by kernel_rfl) rfl rfl ⟨hx113_0, hx113_1, hx114_0, hx114_1, hx115_0, hx115_1, hx116_0, hx116_1⟩ (fun hHeld => ?_); refine with_tabW sets_Meet.tab5 sets_Meet.bits5 (fun HT_ HW_ => ?_); generalize wc.drew = w22 at HO_0 HO_1 HO_5 HB hx113_0 hx113_1 hx114_0 hx114_1 hx115_0 hx115_1 hx116_0 hx116_1 hHeld ⊢; refine pA 0 23 25 1 ?_; refine pA 1 24 25 3 ?_; refine pA 2 25 25 7 ?_; refine pA 3 26 25 15 ?_; refine pA 5 28 25 47 ?_; refine pA 6 29 25 111 ?_; refine pA 7 30 25 239 ?_; refine pA 8 31 25 495 ?_; refine pA 11 34 25 2543 ?_; refine pA 12 35 25 6639 ?_; refine pA 13 36 25 14831 ?_; refine pA 14 37 25 31215 ?_; refine pA 16 39 25 96751 ?_; refine pA 17 40 25 227823 ?_; refine pA 18 41 25 489967 ?_; refine pA 19 42 25 1014255 ?_; refine tB 4 27 25 1014271 ?_; refine tB 9 32 25 1014783 ?_; refine pA 10 33 25 1015807 ?_; refine tB 15 38 25 1048575 ?_; refine tB 20 43 25 2097151 ?_; refine pA 21 44 25 4194303 ?_; refine pA 22 45 25 8388607 ?_; refine oA 23 (some 8) 25 16777215 fun K hK => ?_; refine bxs_ 8 #[.int .i64 0, .int .i64 0] 120 ?_; intro gb117 hg w25 hbox hb; have NE0_ : ad113.block ≠ gb117 := (by have h_ := World.block_lt_of_cell? _ _ hHeld.1; rw [add_block] at h_; omega); have NE1_ : ad114.block ≠ gb117 := (by have h_ := World.block_lt_of_cell? _ _ hHeld.2.2.1; rw [add_block] at h_; omega); have HS0_ := (hb.cell (World.block_lt_of_cell? _ _ (hHeld.1))).trans (hHeld.1); have HS1_ := (hb.cell (World.block_lt_of_cell? _ _ (hHeld.2.1))).trans (hHeld.2.1); have HS2_ := (hb.cell (World.block_lt_of_cell? _ _ (hHeld.2.2.1))).trans (hHeld.2.2.1); have HS3_ := (hb.cell (World.block_lt_of_cell? _ _ (hHeld.2.2.2.1))).trans (hHeld.2.2.2.1); have HS4_ := (hb.cell (World.block_lt_of_cell? _ _ (hHeld.2.2.2.2.1))).trans (hHeld.2.2.2.2.1); have HS5_ := (hb.cell (World.block_lt_of_cell? _ _ (hHeld.2.2.2.2.2.1))).trans (hHeld.2.2.2.2.2.1)
             have HS6_ := (hb.cell (World.block_lt_of_cell? _ _ (hHeld.2.2.2.2.2.2.1))).trans (hHeld.2.2.2.2.2.2.1); have HS7_ := (hb.cell (World.block_lt_of_cell? _ _ (hHeld.2.2.2.2.2.2.2))).trans (hHeld.2.2.2.2.2.2.2); replace HO_0 := eV_ HO_0 hg hb; replace HO_1 := eV_ HO_1 hg hb; replace HO_5 := A_ (Kd.R_below (Kd.R_elderB (hrR_ HO_5.out) gb117 (Nat.le_of_eq hg.symm)) hb); have BK117 := A_ (hbox); have GW117 := gs_ w hg; have GE117 := gs_ w hg; replace HB := bs_ hb; clear hb hbox hg; refine hK.out _ _ ⟨HS0_, HS1_, HS2_, HS3_, HS4_, HS5_, HS6_, HS7_⟩ (fun hHeld => ?_); clear hK K; refine nA ?_; refine oA 24 none 25 33554431 fun K hK => ?_; have hs26 : w25.cell? ⟨gb117, 0, none⟩ = some (.int .i64 0) := bq_ BK117 0; have hfs26 := blk_frozen BK117.out 0; have hs27 : w25.cell? ⟨gb117, 1, none⟩ = some (.int .i64 0) := bq_ BK117 1; have hfs27 := blk_frozen BK117.out 1; refine sA ?_; refine hK.out _ _ ⟨((cell_far (p := ⟨gb117, _, none⟩) (ne_ NE0_) _).trans (((cell_far (p := ⟨gb117, _, none⟩) (ne_ NE0_) _).trans (hHeld.1)))), ((cell_far (p := ⟨gb117, _, none⟩) (ne_ NE0_) _).trans (((cell_far (p := ⟨gb117, _, none⟩) (ne_ NE0_) _).trans (hHeld.2.1)))), ((cell_far (p := ⟨gb117, _, none⟩) (ne_ NE1_) _).trans (((cell_far (p := ⟨gb117, _, none⟩) (ne_ NE1_) _).trans (hHeld.2.2.1)))), ((cell_far (p := ⟨gb117, _, none⟩) (ne_ NE1_) _).trans (((cell_far (p := ⟨gb117, _, none⟩) (ne_ NE1_) _).trans (hHeld.2.2.2.1)))), ((cell_far (p := ⟨gb117, _, none⟩) (ne_ NE0_) _).trans (((cell_far (p := ⟨gb117, _, none⟩) (ne_ NE0_) _).trans (hHeld.2.2.2.2.1)))), ((cell_far (p := ⟨gb117, _, none⟩) (ne_ NE0_) _).trans (((cell_far (p := ⟨gb117, _, none⟩) (ne_ NE0_) _).trans (hHeld.2.2.2.2.2.1)))), ((cell_far (p := ⟨gb117, _, none⟩) (ne_ NE1_) _).trans (((cell_far (p := ⟨gb117, _, none⟩) (ne_ NE1_) _).trans (hHeld.2.2.2.2.2.2.1)))), ((cell_far (p := ⟨gb117, _, none⟩) (ne_ NE1_) _).trans (((cell_far (p := ⟨gb117, _, none⟩) (ne_ NE1_) _).trans (hHeld.2.2.2.2.2.2.2))))⟩ (fun hHeld => ?_)
             clear hK K; refine done_ (done_of HT_.out (by kernel_rfl)) ?_; have Z28 := bz2_ BK117; (try go_wp2_with (first | ((with_reducible refine gate_builtin (b := .append) (xs := #[.tmp 51, .tmp 53]) rfl ?_); (try (refine gate_guard (by rfl) ?_; dsimp only)); at_builtin; refine Kd.R_append k120 (w0 := w) w.heap.size rfl (.tmp 51) (.tmp 53) 116 120 (.agg #[(.int .i64 0), (.int .i64 0)]) 16 rfl Tryz.underlying116 info120 rfl (by decide) (by omega) u5 x5_1 (⟨ji17, ji18⟩ : S120) [.int .i64 ji17, .int .i64 ji18] (fun k_ => k_ ≠ gb117) (fun _ => False) rfl (by first | (go_simp; done) | (go_simp; rfl)) ?aP (fun _ hk => hk.elim) ?aF ?aO ?aB ?aS ?aL ?_; (case aP => exact k120_mkM _ _ _ (⟨ji17, ji18⟩ : S120)); (case aB => exact hs_); (case aF => exact (fun k_ hk => fb_ BK117 k_ hk)); (case aO => exact (fpR_ HO_5.out)); (case aS => exact (below_size hs_)); (case aL => have := LMc20.out; omega); intro v119 w29 ho hb hg hat; rw [← Ny118.out] at ho; replace HO_0 := A_ (Kd.V_afterv (ok := (fun k_ => k_ ≠ gb117)) (fpV_ HO_0.out) hg hat); replace HO_1 := A_ (Kd.V_afterv (ok := (fun k_ => k_ ≠ gb117)) (fpV_ HO_1.out) hg hat); replace BK117 := A_ (blk_grown (g := gb117) (o := .cells #[.int .i64 ji17, .int .i64 ji18] 120 (0, 0)) (pb_ BK117.out) hg (Kd.R_away HO_5.out (fun _ hk => hk.2))); replace HB := A_ (hb); have HO120 := A_ (ho); clear HO_5; clear ho hb hg hat)))
             replace HO_0 := A_ (Kd.V_drew HO_0.out); replace HO_1 := A_ (Kd.V_drew HO_1.out); replace HO120 := A_ (Kd.R_drew HO120.out); replace BK117 := A_ (blk_drew BK117.out); replace HB := A_ (below_drew1 HB.out); have p121 : 0 ≤ (x6_1 : Int) := od_; have q121 : x6_1 < (t107.length : Int) := od_; obtain ⟨ad121, e121, hx121_0, hx121_1⟩ := at_T120 (Kd.V_reads' HO_0.out).2.2 x6_1 p121 q121; obtain rfl : ad113 = ad121 := (by injection e121); replace p121 := eq_true p121; replace q121 := eq_true q121; have p122 : 0 ≤ (x7_1 : Int) := od_; have q122 : x7_1 < (t110.length : Int) := od_; obtain ⟨ad122, e122, hx122_0, hx122_1⟩ := at_T120 (Kd.V_reads' HO_1.out).2.2 x7_1 p122 q122; obtain rfl : ad114 = ad122 := (by injection e122); replace p122 := eq_true p122; replace q122 := eq_true q122; refine start_ (n := 11) (S := fun w' => w'.cell? (ad113.add ((x6_1).toNat * 2)) = some (.int .i64 ((rd_T120 t107 x6_1).f0)) ∧ w'.cell? ⟨(ad113.add ((x6_1).toNat * 2)).block, (ad113.add ((x6_1).toNat * 2)).off + 1, none⟩ = some (.int .i64 ((rd_T120 t107 x6_1).f1)) ∧ w'.cell? (ad114.add ((x7_1).toNat * 2)) = some (.int .i64 ((rd_T120 t110 x7_1).f0)) ∧ w'.cell? ⟨(ad114.add ((x7_1).toNat * 2)).block, (ad114.add ((x7_1).toNat * 2)).off + 1, none⟩ = some (.int .i64 ((rd_T120 t110 x7_1).f1))) (ds := []) (ab 11 0) (by kernel_rfl) rfl rfl ⟨hx121_0, hx121_1, hx122_0, hx122_1⟩ (fun hHeld => ?_); refine with_tabW sets_Meet.tab8 sets_Meet.bits8 (fun HT_ HW_ => ?_); generalize w29.drew = w30 at HO_0 HO_1 HO120 BK117 HB hx121_0 hx121_1 hx122_0 hx122_1 hHeld ⊢; refine pA 0 55 11 1 ?_; refine pA 1 56 11 3 ?_; refine pA 2 57 11 7 ?_; refine pA 3 58 11 15 ?_; refine pA 5 60 11 47 ?_; refine pA 6 61 11 111 ?_; refine pA 7 62 11 239 ?_; refine pA 8 63 11 495 ?_; refine tB 4 59 11 511 ?_; refine tB 9 64 11 1023 ?_; refine pA 10 65 11 2047 ?_; refine done_ (done_of HT_.out (by kernel_rfl)) ?_; (try go_wp2); go_roundg kj6
             case measure => have := HK1.out; have := HJ6.out; omega
             case rel => exact ⟨(y118), (wrap64 (x6_1 + 1)), (x7_1), rf_, rf_, H', ⟨by have := HK1.out; have := HJ6.out; omega⟩, ⟨by (with_reducible repeat (first | apply Kd.V_alloc | apply Kd.V_drewN | apply Kd.V_drew)); exact Kd.V_mono HO_0.out (fun _ hk => hk.2)⟩, ⟨by (with_reducible repeat (first | apply Kd.V_alloc | apply Kd.V_drewN | apply Kd.V_drew)); exact Kd.V_mono HO_1.out (fun _ hk => hk.2)⟩, ⟨by (with_reducible repeat (first | apply Kd.R_alloc | apply Kd.R_drewN | apply Kd.R_drew)); exact Kd.R_mono HO120.out (fun _ hk => trivial)⟩, ⟨hs_⟩⟩
            ·rw [if_neg c21] at H
             have c21b0 := decide_eq_false c21; clear c21; have H' := A_ H; clear H; (try go_wp2); replace HO_0 := A_ (Kd.V_drew HO_0.out); replace HO_1 := A_ (Kd.V_drew HO_1.out); replace HO_5 := A_ (Kd.R_drew HO_5.out); replace HB := A_ (below_drew1 HB.out); obtain ⟨Ao32, co32, eo32⟩ := Kd.V_slice HO_0.out; (first | subst eo32 | (injection eo32 with f1_ f2_ f3_; have f4_ := f1_.symm; have f5_ := f3_.symm; clear f1_ f2_ f3_; subst f4_; subst f5_)); have p113 : 0 ≤ (x6_1 : Int) := od_; have q113 : x6_1 < (t107.length : Int) := od_; obtain ⟨ad113, e113, hx113_0, hx113_1⟩ := at_T120 (Kd.V_reads' HO_0.out).2.2 x6_1 p113 q113
             cases e113
             replace p113 := eq_true p113; replace q113 := eq_true q113; obtain ⟨Ao33, co33, eo33⟩ := Kd.V_slice HO_1.out; (first | subst eo33 | (injection eo33 with f1_ f2_ f3_; have f4_ := f1_.symm; have f5_ := f3_.symm; clear f1_ f2_ f3_; subst f4_; subst f5_)); have p114 : 0 ≤ (x7_1 : Int) := od_; have q114 : x7_1 < (t110.length : Int) := od_; obtain ⟨ad114, e114, hx114_0, hx114_1⟩ := at_T120 (Kd.V_reads' HO_1.out).2.2 x7_1 p114 q114
             cases e114
             replace p114 := eq_true p114; replace q114 := eq_true q114; have p115 : 0 ≤ (x6_1 : Int) := od_; have q115 : x6_1 < (t107.length : Int) := od_; obtain ⟨ad115, e115, hx115_0, hx115_1⟩ := at_T120 (Kd.V_reads' HO_0.out).2.2 x6_1 p115 q115; obtain rfl : ad113 = ad115 := (by injection e115); replace p115 := eq_true p115; replace q115 := eq_true q115; have p116 : 0 ≤ (x7_1 : Int) := od_; have q116 : x7_1 < (t110.length : Int) := od_; obtain ⟨ad116, e116, hx116_0, hx116_1⟩ := at_T120 (Kd.V_reads' HO_1.out).2.2 x7_1 p116 q116; obtain rfl : ad114 = ad116 := (by injection e116); replace p116 := eq_true p116; replace q116 := eq_true q116; refine start_ (n := 25) (S := fun w' => w'.cell? (ad113.add ((x6_1).toNat * 2)) = some (.int .i64 ((rd_T120 t107 x6_1).f0)) ∧ w'.cell? ⟨(ad113.add ((x6_1).toNat * 2)).block, (ad113.add ((x6_1).toNat * 2)).off + 1, none⟩ = some (.int .i64 ((rd_T120 t107 x6_1).f1)) ∧ w'.cell? (ad114.add ((x7_1).toNat * 2)) = some (.int .i64 ((rd_T120 t110 x7_1).f0)) ∧ w'.cell? ⟨(ad114.add ((x7_1).toNat * 2)).block, (ad114.add ((x7_1).toNat * 2)).off + 1, none⟩ = some (.int .i64 ((rd_T120 t110 x7_1).f1)) ∧ w'.cell? (ad113.add ((x6_1).toNat * 2)) = some (.int .i64 ((rd_T120 t107 x6_1).f0)) ∧ w'.cell? ⟨(ad113.add ((x6_1).toNat * 2)).block, (ad113.add ((x6_1).toNat * 2)).off + 1, none⟩ = some (.int .i64 ((rd_T120 t107 x6_1).f1)) ∧ w'.cell? (ad114.add ((x7_1).toNat * 2)) = some (.int .i64 ((rd_T120 t110 x7_1).f0)) ∧ w'.cell? ⟨(ad114.add ((x7_1).toNat * 2)).block, (ad114.add ((x7_1).toNat * 2)).off + 1, none⟩ = some (.int .i64 ((rd_T120 t110 x7_1).f1))) (ds := []) (ab 25 0) (by kernel_rfl) rfl rfl ⟨hx113_0, hx113_1, hx114_0, hx114_1, hx115_0, hx115_1, hx116_0, hx116_1⟩ (fun hHeld => ?_); refine with_tabW sets_Meet.tab5 sets_Meet.bits5 (fun HT_ HW_ => ?_); generalize wc.drew = w31 at HO_0 HO_1 HO_5 HB hx113_0 hx113_1 hx114_0 hx114_1 hx115_0 hx115_1 hx116_0 hx116_1 hHeld ⊢; refine pA 0 23 25 1 ?_; refine pA 1 24 25 3 ?_; refine pA 2 25 25 7 ?_; refine pA 3 26 25 15 ?_; refine pA 5 28 25 47 ?_; refine pA 6 29 25 111 ?_; refine pA 7 30 25 239 ?_; refine pA 8 31 25 495 ?_; refine pA 11 34 25 2543 ?_; refine pA 12 35 25 6639 ?_; refine pA 13 36 25 14831 ?_; refine pA 14 37 25 31215 ?_; refine pA 16 39 25 96751 ?_; refine pA 17 40 25 227823 ?_; refine pA 18 41 25 489967 ?_; refine pA 19 42 25 1014255 ?_; refine tB 4 27 25 1014271 ?_; refine tB 9 32 25 1014783 ?_; refine pA 10 33 25 1015807 ?_; refine tB 15 38 25 1048575 ?_; refine tB 20 43 25 2097151 ?_; refine pA 21 44 25 4194303 ?_; refine pA 22 45 25 8388607 ?_; refine oA 23 (some 8) 25 16777215 fun K hK => ?_; refine bxs_ 8 #[.int .i64 0, .int .i64 0] 120 ?_; intro gb117 hg w34 hbox hb; have NE0_ : ad113.block ≠ gb117 := (by have h_ := World.block_lt_of_cell? _ _ hHeld.1; rw [add_block] at h_; omega); have NE1_ : ad114.block ≠ gb117 := (by have h_ := World.block_lt_of_cell? _ _ hHeld.2.2.1; rw [add_block] at h_; omega); have HS0_ := (hb.cell (World.block_lt_of_cell? _ _ (hHeld.1))).trans (hHeld.1); have HS1_ := (hb.cell (World.block_lt_of_cell? _ _ (hHeld.2.1))).trans (hHeld.2.1); have HS2_ := (hb.cell (World.block_lt_of_cell? _ _ (hHeld.2.2.1))).trans (hHeld.2.2.1); have HS3_ := (hb.cell (World.block_lt_of_cell? _ _ (hHeld.2.2.2.1))).trans (hHeld.2.2.2.1); have HS4_ := (hb.cell (World.block_lt_of_cell? _ _ (hHeld.2.2.2.2.1))).trans (hHeld.2.2.2.2.1); have HS5_ := (hb.cell (World.block_lt_of_cell? _ _ (hHeld.2.2.2.2.2.1))).trans (hHeld.2.2.2.2.2.1)
             have HS6_ := (hb.cell (World.block_lt_of_cell? _ _ (hHeld.2.2.2.2.2.2.1))).trans (hHeld.2.2.2.2.2.2.1); have HS7_ := (hb.cell (World.block_lt_of_cell? _ _ (hHeld.2.2.2.2.2.2.2))).trans (hHeld.2.2.2.2.2.2.2); replace HO_0 := eV_ HO_0 hg hb; replace HO_1 := eV_ HO_1 hg hb; replace HO_5 := A_ (Kd.R_below (Kd.R_elderB (hrR_ HO_5.out) gb117 (Nat.le_of_eq hg.symm)) hb); have BK117 := A_ (hbox); have GW117 := gs_ w hg; have GE117 := gs_ w hg; replace HB := bs_ hb; clear hb hbox hg; refine hK.out _ _ ⟨HS0_, HS1_, HS2_, HS3_, HS4_, HS5_, HS6_, HS7_⟩ (fun hHeld => ?_); clear hK K; refine nA ?_; refine oA 24 none 25 33554431 fun K hK => ?_; have hs35 : w34.cell? ⟨gb117, 0, none⟩ = some (.int .i64 0) := bq_ BK117 0; have hfs35 := blk_frozen BK117.out 0; have hs36 : w34.cell? ⟨gb117, 1, none⟩ = some (.int .i64 0) := bq_ BK117 1; have hfs36 := blk_frozen BK117.out 1; refine sA ?_; refine hK.out _ _ ⟨((cell_far (p := ⟨gb117, _, none⟩) (ne_ NE0_) _).trans (((cell_far (p := ⟨gb117, _, none⟩) (ne_ NE0_) _).trans (hHeld.1)))), ((cell_far (p := ⟨gb117, _, none⟩) (ne_ NE0_) _).trans (((cell_far (p := ⟨gb117, _, none⟩) (ne_ NE0_) _).trans (hHeld.2.1)))), ((cell_far (p := ⟨gb117, _, none⟩) (ne_ NE1_) _).trans (((cell_far (p := ⟨gb117, _, none⟩) (ne_ NE1_) _).trans (hHeld.2.2.1)))), ((cell_far (p := ⟨gb117, _, none⟩) (ne_ NE1_) _).trans (((cell_far (p := ⟨gb117, _, none⟩) (ne_ NE1_) _).trans (hHeld.2.2.2.1)))), ((cell_far (p := ⟨gb117, _, none⟩) (ne_ NE0_) _).trans (((cell_far (p := ⟨gb117, _, none⟩) (ne_ NE0_) _).trans (hHeld.2.2.2.2.1)))), ((cell_far (p := ⟨gb117, _, none⟩) (ne_ NE0_) _).trans (((cell_far (p := ⟨gb117, _, none⟩) (ne_ NE0_) _).trans (hHeld.2.2.2.2.2.1)))), ((cell_far (p := ⟨gb117, _, none⟩) (ne_ NE1_) _).trans (((cell_far (p := ⟨gb117, _, none⟩) (ne_ NE1_) _).trans (hHeld.2.2.2.2.2.2.1)))), ((cell_far (p := ⟨gb117, _, none⟩) (ne_ NE1_) _).trans (((cell_far (p := ⟨gb117, _, none⟩) (ne_ NE1_) _).trans (hHeld.2.2.2.2.2.2.2))))⟩ (fun hHeld => ?_)
             clear hK K; refine done_ (done_of HT_.out (by kernel_rfl)) ?_; have Z37 := bz2_ BK117; (try go_wp2_with (first | ((with_reducible refine gate_builtin (b := .append) (xs := #[.tmp 51, .tmp 53]) rfl ?_); (try (refine gate_guard (by rfl) ?_; dsimp only)); at_builtin; refine Kd.R_append k120 (w0 := w) w.heap.size rfl (.tmp 51) (.tmp 53) 116 120 (.agg #[(.int .i64 0), (.int .i64 0)]) 16 rfl Tryz.underlying116 info120 rfl (by decide) (by omega) u5 x5_1 (⟨ji17, ji18⟩ : S120) [.int .i64 ji17, .int .i64 ji18] (fun k_ => k_ ≠ gb117) (fun _ => False) rfl (by first | (go_simp; done) | (go_simp; rfl)) ?aP (fun _ hk => hk.elim) ?aF ?aO ?aB ?aS ?aL ?_; (case aP => exact k120_mkM _ _ _ (⟨ji17, ji18⟩ : S120)); (case aB => exact hs_); (case aF => exact (fun k_ hk => fb_ BK117 k_ hk)); (case aO => exact (fpR_ HO_5.out)); (case aS => exact (below_size hs_)); (case aL => have := LMc20.out; omega); intro v119 w38 ho hb hg hat; rw [← Ny118.out] at ho; replace HO_0 := A_ (Kd.V_afterv (ok := (fun k_ => k_ ≠ gb117)) (fpV_ HO_0.out) hg hat); replace HO_1 := A_ (Kd.V_afterv (ok := (fun k_ => k_ ≠ gb117)) (fpV_ HO_1.out) hg hat); replace BK117 := A_ (blk_grown (g := gb117) (o := .cells #[.int .i64 ji17, .int .i64 ji18] 120 (0, 0)) (pb_ BK117.out) hg (Kd.R_away HO_5.out (fun _ hk => hk.2))); replace HB := A_ (hb); have HO120 := A_ (ho); clear HO_5; clear ho hb hg hat)))
             replace HO_0 := A_ (Kd.V_drew HO_0.out); replace HO_1 := A_ (Kd.V_drew HO_1.out); replace HO120 := A_ (Kd.R_drew HO120.out); replace BK117 := A_ (blk_drew BK117.out); replace HB := A_ (below_drew1 HB.out); have p121 : 0 ≤ (x6_1 : Int) := od_; have q121 : x6_1 < (t107.length : Int) := od_; obtain ⟨ad121, e121, hx121_0, hx121_1⟩ := at_T120 (Kd.V_reads' HO_0.out).2.2 x6_1 p121 q121; obtain rfl : ad113 = ad121 := (by injection e121); replace p121 := eq_true p121; replace q121 := eq_true q121; have p122 : 0 ≤ (x7_1 : Int) := od_; have q122 : x7_1 < (t110.length : Int) := od_; obtain ⟨ad122, e122, hx122_0, hx122_1⟩ := at_T120 (Kd.V_reads' HO_1.out).2.2 x7_1 p122 q122; obtain rfl : ad114 = ad122 := (by injection e122); replace p122 := eq_true p122; replace q122 := eq_true q122; refine start_ (n := 11) (S := fun w' => w'.cell? (ad113.add ((x6_1).toNat * 2)) = some (.int .i64 ((rd_T120 t107 x6_1).f0)) ∧ w'.cell? ⟨(ad113.add ((x6_1).toNat * 2)).block, (ad113.add ((x6_1).toNat * 2)).off + 1, none⟩ = some (.int .i64 ((rd_T120 t107 x6_1).f1)) ∧ w'.cell? (ad114.add ((x7_1).toNat * 2)) = some (.int .i64 ((rd_T120 t110 x7_1).f0)) ∧ w'.cell? ⟨(ad114.add ((x7_1).toNat * 2)).block, (ad114.add ((x7_1).toNat * 2)).off + 1, none⟩ = some (.int .i64 ((rd_T120 t110 x7_1).f1))) (ds := []) (ab 11 0) (by kernel_rfl) rfl rfl ⟨hx121_0, hx121_1, hx122_0, hx122_1⟩ (fun hHeld => ?_); refine with_tabW sets_Meet.tab8 sets_Meet.bits8 (fun HT_ HW_ => ?_); generalize w38.drew = w39 at HO_0 HO_1 HO120 BK117 HB hx121_0 hx121_1 hx122_0 hx122_1 hHeld ⊢; refine pA 0 55 11 1 ?_; refine pA 1 56 11 3 ?_; refine pA 2 57 11 7 ?_; refine pA 3 58 11 15 ?_; refine pA 5 60 11 47 ?_; refine pA 6 61 11 111 ?_; refine pA 7 62 11 239 ?_; refine pA 8 63 11 495 ?_; refine tB 4 59 11 511 ?_; refine tB 9 64 11 1023 ?_; refine pA 10 65 11 2047 ?_; refine done_ (done_of HT_.out (by kernel_rfl)) ?_; (try go_wp2); go_roundg kj6
             case measure => have := HK1.out; have := HJ6.out; omega
             case rel => exact ⟨(y118), (x6_1), (wrap64 (x7_1 + 1)), rf_, rf_, H', ⟨by have := HK1.out; have := HJ6.out; omega⟩, ⟨by (with_reducible repeat (first | apply Kd.V_alloc | apply Kd.V_drewN | apply Kd.V_drew)); exact Kd.V_mono HO_0.out (fun _ hk => hk.2)⟩, ⟨by (with_reducible repeat (first | apply Kd.V_alloc | apply Kd.V_drewN | apply Kd.V_drew)); exact Kd.V_mono HO_1.out (fun _ hk => hk.2)⟩, ⟨by (with_reducible repeat (first | apply Kd.R_alloc | apply Kd.R_drewN | apply Kd.R_drew)); exact Kd.R_mono HO120.out (fun _ hk => trivial)⟩, ⟨hs_⟩⟩
           ·rw [if_neg c20] at H
            exact absurd H (by simp)
          ·rw [if_neg c19] at H
           have c19b0 := decide_eq_false c19; clear c19
           by_cases c40 : ((rd_T120 t107 x6_1).f1) < ((rd_T120 t110 x7_1).f1)
           ·rw [if_pos c40] at H
            have c40b0 := decide_eq_true c40; clear c40; have H' := A_ H; clear H; (try go_wp2); replace HO_0 := A_ (Kd.V_drew HO_0.out); replace HO_1 := A_ (Kd.V_drew HO_1.out); replace HO_5 := A_ (Kd.R_drew HO_5.out); replace HB := A_ (below_drew1 HB.out); obtain ⟨Ao42, co42, eo42⟩ := Kd.V_slice HO_0.out; (first | subst eo42 | (injection eo42 with f1_ f2_ f3_; have f4_ := f1_.symm; have f5_ := f3_.symm; clear f1_ f2_ f3_; subst f4_; subst f5_)); have p113 : 0 ≤ (x6_1 : Int) := od_; have q113 : x6_1 < (t107.length : Int) := od_; obtain ⟨ad113, e113, hx113_0, hx113_1⟩ := at_T120 (Kd.V_reads' HO_0.out).2.2 x6_1 p113 q113
            cases e113
            replace p113 := eq_true p113; replace q113 := eq_true q113; obtain ⟨Ao43, co43, eo43⟩ := Kd.V_slice HO_1.out; (first | subst eo43 | (injection eo43 with f1_ f2_ f3_; have f4_ := f1_.symm; have f5_ := f3_.symm; clear f1_ f2_ f3_; subst f4_; subst f5_)); have p114 : 0 ≤ (x7_1 : Int) := od_; have q114 : x7_1 < (t110.length : Int) := od_; obtain ⟨ad114, e114, hx114_0, hx114_1⟩ := at_T120 (Kd.V_reads' HO_1.out).2.2 x7_1 p114 q114
            cases e114
            replace p114 := eq_true p114; replace q114 := eq_true q114; have p115 : 0 ≤ (x6_1 : Int) := od_; have q115 : x6_1 < (t107.length : Int) := od_; obtain ⟨ad115, e115, hx115_0, hx115_1⟩ := at_T120 (Kd.V_reads' HO_0.out).2.2 x6_1 p115 q115; obtain rfl : ad113 = ad115 := (by injection e115); replace p115 := eq_true p115; replace q115 := eq_true q115; have p116 : 0 ≤ (x7_1 : Int) := od_; have q116 : x7_1 < (t110.length : Int) := od_; obtain ⟨ad116, e116, hx116_0, hx116_1⟩ := at_T120 (Kd.V_reads' HO_1.out).2.2 x7_1 p116 q116; obtain rfl : ad114 = ad116 := (by injection e116); replace p116 := eq_true p116; replace q116 := eq_true q116; refine start_ (n := 25) (S := fun w' => w'.cell? (ad113.add ((x6_1).toNat * 2)) = some (.int .i64 ((rd_T120 t107 x6_1).f0)) ∧ w'.cell? ⟨(ad113.add ((x6_1).toNat * 2)).block, (ad113.add ((x6_1).toNat * 2)).off + 1, none⟩ = some (.int .i64 ((rd_T120 t107 x6_1).f1)) ∧ w'.cell? (ad114.add ((x7_1).toNat * 2)) = some (.int .i64 ((rd_T120 t110 x7_1).f0)) ∧ w'.cell? ⟨(ad114.add ((x7_1).toNat * 2)).block, (ad114.add ((x7_1).toNat * 2)).off + 1, none⟩ = some (.int .i64 ((rd_T120 t110 x7_1).f1)) ∧ w'.cell? (ad113.add ((x6_1).toNat * 2)) = some (.int .i64 ((rd_T120 t107 x6_1).f0)) ∧ w'.cell? ⟨(ad113.add ((x6_1).toNat * 2)).block, (ad113.add ((x6_1).toNat * 2)).off + 1, none⟩ = some (.int .i64 ((rd_T120 t107 x6_1).f1)) ∧ w'.cell? (ad114.add ((x7_1).toNat * 2)) = some (.int .i64 ((rd_T120 t110 x7_1).f0)) ∧ w'.cell? ⟨(ad114.add ((x7_1).toNat * 2)).block, (ad114.add ((x7_1).toNat * 2)).off + 1, none⟩ = some (.int .i64 ((rd_T120 t110 x7_1).f1))) (ds := []) (ab 25 0) (by kernel_rfl) rfl rfl ⟨hx113_0, hx113_1, hx114_0, hx114_1, hx115_0, hx115_1, hx116_0, hx116_1⟩ (fun hHeld => ?_); refine with_tabW sets_Meet.tab5 sets_Meet.bits5 (fun HT_ HW_ => ?_); generalize wc.drew = w41 at HO_0 HO_1 HO_5 HB hx113_0 hx113_1 hx114_0 hx114_1 hx115_0 hx115_1 hx116_0 hx116_1 hHeld ⊢; refine pA 0 23 25 1 ?_; refine pA 1 24 25 3 ?_; refine pA 2 25 25 7 ?_; refine pA 3 26 25 15 ?_; refine pA 5 28 25 47 ?_; refine pA 6 29 25 111 ?_; refine pA 7 30 25 239 ?_; refine pA 8 31 25 495 ?_; refine pA 11 34 25 2543 ?_; refine pA 12 35 25 6639 ?_; refine pA 13 36 25 14831 ?_; refine pA 14 37 25 31215 ?_; refine pA 16 39 25 96751 ?_; refine pA 17 40 25 227823 ?_; refine pA 18 41 25 489967 ?_; refine pA 19 42 25 1014255 ?_; refine tB 4 27 25 1014271 ?_; refine tB 9 32 25 1014783 ?_; refine pA 10 33 25 1015807 ?_; refine tB 15 38 25 1048575 ?_; refine tB 20 43 25 2097151 ?_; refine pA 21 44 25 4194303 ?_; refine pA 22 45 25 8388607 ?_; refine oA 23 (some 8) 25 16777215 fun K hK => ?_; refine bxs_ 8 #[.int .i64 0, .int .i64 0] 120 ?_; intro gb117 hg w44 hbox hb; have NE0_ : ad113.block ≠ gb117 := (by have h_ := World.block_lt_of_cell? _ _ hHeld.1; rw [add_block] at h_; omega); have NE1_ : ad114.block ≠ gb117 := (by have h_ := World.block_lt_of_cell? _ _ hHeld.2.2.1; rw [add_block] at h_; omega); have HS0_ := (hb.cell (World.block_lt_of_cell? _ _ (hHeld.1))).trans (hHeld.1); have HS1_ := (hb.cell (World.block_lt_of_cell? _ _ (hHeld.2.1))).trans (hHeld.2.1); have HS2_ := (hb.cell (World.block_lt_of_cell? _ _ (hHeld.2.2.1))).trans (hHeld.2.2.1); have HS3_ := (hb.cell (World.block_lt_of_cell? _ _ (hHeld.2.2.2.1))).trans (hHeld.2.2.2.1); have HS4_ := (hb.cell (World.block_lt_of_cell? _ _ (hHeld.2.2.2.2.1))).trans (hHeld.2.2.2.2.1); have HS5_ := (hb.cell (World.block_lt_of_cell? _ _ (hHeld.2.2.2.2.2.1))).trans (hHeld.2.2.2.2.2.1)
            have HS6_ := (hb.cell (World.block_lt_of_cell? _ _ (hHeld.2.2.2.2.2.2.1))).trans (hHeld.2.2.2.2.2.2.1); have HS7_ := (hb.cell (World.block_lt_of_cell? _ _ (hHeld.2.2.2.2.2.2.2))).trans (hHeld.2.2.2.2.2.2.2); replace HO_0 := eV_ HO_0 hg hb; replace HO_1 := eV_ HO_1 hg hb; replace HO_5 := A_ (Kd.R_below (Kd.R_elderB (hrR_ HO_5.out) gb117 (Nat.le_of_eq hg.symm)) hb); have BK117 := A_ (hbox); have GW117 := gs_ w hg; have GE117 := gs_ w hg; replace HB := bs_ hb; clear hb hbox hg; refine hK.out _ _ ⟨HS0_, HS1_, HS2_, HS3_, HS4_, HS5_, HS6_, HS7_⟩ (fun hHeld => ?_); clear hK K; refine nA ?_; refine oA 24 none 25 33554431 fun K hK => ?_; have hs45 : w44.cell? ⟨gb117, 0, none⟩ = some (.int .i64 0) := bq_ BK117 0; have hfs45 := blk_frozen BK117.out 0; have hs46 : w44.cell? ⟨gb117, 1, none⟩ = some (.int .i64 0) := bq_ BK117 1; have hfs46 := blk_frozen BK117.out 1; refine sA ?_; refine hK.out _ _ ⟨((cell_far (p := ⟨gb117, _, none⟩) (ne_ NE0_) _).trans (((cell_far (p := ⟨gb117, _, none⟩) (ne_ NE0_) _).trans (hHeld.1)))), ((cell_far (p := ⟨gb117, _, none⟩) (ne_ NE0_) _).trans (((cell_far (p := ⟨gb117, _, none⟩) (ne_ NE0_) _).trans (hHeld.2.1)))), ((cell_far (p := ⟨gb117, _, none⟩) (ne_ NE1_) _).trans (((cell_far (p := ⟨gb117, _, none⟩) (ne_ NE1_) _).trans (hHeld.2.2.1)))), ((cell_far (p := ⟨gb117, _, none⟩) (ne_ NE1_) _).trans (((cell_far (p := ⟨gb117, _, none⟩) (ne_ NE1_) _).trans (hHeld.2.2.2.1)))), ((cell_far (p := ⟨gb117, _, none⟩) (ne_ NE0_) _).trans (((cell_far (p := ⟨gb117, _, none⟩) (ne_ NE0_) _).trans (hHeld.2.2.2.2.1)))), ((cell_far (p := ⟨gb117, _, none⟩) (ne_ NE0_) _).trans (((cell_far (p := ⟨gb117, _, none⟩) (ne_ NE0_) _).trans (hHeld.2.2.2.2.2.1)))), ((cell_far (p := ⟨gb117, _, none⟩) (ne_ NE1_) _).trans (((cell_far (p := ⟨gb117, _, none⟩) (ne_ NE1_) _).trans (hHeld.2.2.2.2.2.2.1)))), ((cell_far (p := ⟨gb117, _, none⟩) (ne_ NE1_) _).trans (((cell_far (p := ⟨gb117, _, none⟩) (ne_ NE1_) _).trans (hHeld.2.2.2.2.2.2.2))))⟩ (fun hHeld => ?_)
            clear hK K; refine done_ (done_of HT_.out (by kernel_rfl)) ?_; have Z47 := bz2_ BK117; (try go_wp2); have n0_ : Aside0 (Kd.V k120 120 ((w44.setCell ⟨gb117, 0, none⟩ (.int .i64 ji17)).setCell ⟨gb117, 1, none⟩ (.int .i64 ji18)) w.heap.size (fun k_ => nv_ k_ u5 ∧ k_ ≠ gb117) (.slice (some ad113) t107.length co42) t107) := ⟨fpV_ HO_0.out⟩; have n1_ : Aside0 (Kd.V k120 120 ((w44.setCell ⟨gb117, 0, none⟩ (.int .i64 ji17)).setCell ⟨gb117, 1, none⟩ (.int .i64 ji18)) w.heap.size (fun k_ => nv_ k_ u5 ∧ k_ ≠ gb117) (.slice (some ad114) t110.length co43) t110) := ⟨fpV_ HO_1.out⟩; have n2_ : Aside0 (Kd.R k120 120 ((w44.setCell ⟨gb117, 0, none⟩ (.int .i64 ji17)).setCell ⟨gb117, 1, none⟩ (.int .i64 ji18)) w.heap.size (fun k_ => k_ ≠ gb117) u5 x5_1) := ⟨fpR_ HO_5.out⟩; have n3_ : Aside0 (((w44.setCell ⟨gb117, 0, none⟩ (.int .i64 ji17)).setCell ⟨gb117, 1, none⟩ (.int .i64 ji18)).heap[gb117]? = some (.cells #[.int .i64 ji17, .int .i64 ji18] 120 (0, 0))) := ⟨pb_ BK117.out⟩; have n4_ : Aside0 (Below w.heap.size w ((w44.setCell ⟨gb117, 0, none⟩ (.int .i64 ji17)).setCell ⟨gb117, 1, none⟩ (.int .i64 ji18))) := ⟨hs_⟩; (try clear HO_0); (try clear HO_1); (try clear HO_5); (try clear BK117); (try clear HB); generalize ((w44.setCell ⟨gb117, 0, none⟩ (.int .i64 ji17)).setCell ⟨gb117, 1, none⟩ (.int .i64 ji18)) = w48 at n0_ n1_ n2_ n3_ n4_ ⊢; have HO_0 := n0_; have HO_1 := n1_; have HO_5 := n2_; have BK117 := n3_; have HB := n4_; clear n0_ n1_ n2_ n3_ n4_; replace HO_0 := A_ (Kd.V_drew HO_0.out); replace HO_1 := A_ (Kd.V_drew HO_1.out); replace HO_5 := A_ (Kd.R_drew HO_5.out); replace BK117 := A_ (blk_drew BK117.out); replace HB := A_ (below_drew1 HB.out); have p123 : 0 ≤ (x6_1 : Int) := od_; have q123 : x6_1 < (t107.length : Int) := od_; obtain ⟨ad123, e123, hx123_0, hx123_1⟩ := at_T120 (Kd.V_reads' HO_0.out).2.2 x6_1 p123 q123; obtain rfl : ad113 = ad123 := (by injection e123); replace p123 := eq_true p123; replace q123 := eq_true q123; have p124 : 0 ≤ (x7_1 : Int) := od_; have q124 : x7_1 < (t110.length : Int) := od_; obtain ⟨ad124, e124, hx124_0, hx124_1⟩ := at_T120 (Kd.V_reads' HO_1.out).2.2 x7_1 p124 q124
            obtain rfl : ad114 = ad124 := (by injection e124); replace p124 := eq_true p124; replace q124 := eq_true q124; refine start_ (n := 11) (S := fun w' => w'.cell? (ad113.add ((x6_1).toNat * 2)) = some (.int .i64 ((rd_T120 t107 x6_1).f0)) ∧ w'.cell? ⟨(ad113.add ((x6_1).toNat * 2)).block, (ad113.add ((x6_1).toNat * 2)).off + 1, none⟩ = some (.int .i64 ((rd_T120 t107 x6_1).f1)) ∧ w'.cell? (ad114.add ((x7_1).toNat * 2)) = some (.int .i64 ((rd_T120 t110 x7_1).f0)) ∧ w'.cell? ⟨(ad114.add ((x7_1).toNat * 2)).block, (ad114.add ((x7_1).toNat * 2)).off + 1, none⟩ = some (.int .i64 ((rd_T120 t110 x7_1).f1))) (ds := []) (ab 11 0) (by kernel_rfl) rfl rfl ⟨hx123_0, hx123_1, hx124_0, hx124_1⟩ (fun hHeld => ?_); refine with_tabW sets_Meet.tab8 sets_Meet.bits8 (fun HT_ HW_ => ?_); generalize w48.drew = w49 at HO_0 HO_1 HO_5 BK117 HB hx123_0 hx123_1 hx124_0 hx124_1 hHeld ⊢; refine pA 0 55 11 1 ?_; refine pA 1 56 11 3 ?_; refine pA 2 57 11 7 ?_; refine pA 3 58 11 15 ?_; refine pA 5 60 11 47 ?_; refine pA 6 61 11 111 ?_; refine pA 7 62 11 239 ?_; refine pA 8 63 11 495 ?_; refine tB 4 59 11 511 ?_; refine tB 9 64 11 1023 ?_; refine pA 10 65 11 2047 ?_; refine done_ (done_of HT_.out (by kernel_rfl)) ?_; (try go_wp2); go_roundg kj6
            case measure => have := HK1.out; have := HJ6.out; omega
            case rel => exact ⟨(x5_1), (wrap64 (x6_1 + 1)), (x7_1), rf_, rf_, H', ⟨by have := HK1.out; have := HJ6.out; omega⟩, ⟨by (with_reducible repeat (first | apply Kd.V_alloc | apply Kd.V_drewN | apply Kd.V_drew)); exact Kd.V_mono HO_0.out (fun _ hk => hk.1)⟩, ⟨by (with_reducible repeat (first | apply Kd.V_alloc | apply Kd.V_drewN | apply Kd.V_drew)); exact Kd.V_mono HO_1.out (fun _ hk => hk.1)⟩, ⟨by (with_reducible repeat (first | apply Kd.R_alloc | apply Kd.R_drewN | apply Kd.R_drew)); exact Kd.R_mono HO_5.out (fun _ hk => trivial)⟩, ⟨hs_⟩⟩
           ·rw [if_neg c40] at H
            have c40b0 := decide_eq_false c40; clear c40; have H' := A_ H; clear H; (try go_wp2); replace HO_0 := A_ (Kd.V_drew HO_0.out); replace HO_1 := A_ (Kd.V_drew HO_1.out); replace HO_5 := A_ (Kd.R_drew HO_5.out); replace HB := A_ (below_drew1 HB.out); obtain ⟨Ao51, co51, eo51⟩ := Kd.V_slice HO_0.out; (first | subst eo51 | (injection eo51 with f1_ f2_ f3_; have f4_ := f1_.symm; have f5_ := f3_.symm; clear f1_ f2_ f3_; subst f4_; subst f5_)); have p113 : 0 ≤ (x6_1 : Int) := od_; have q113 : x6_1 < (t107.length : Int) := od_; obtain ⟨ad113, e113, hx113_0, hx113_1⟩ := at_T120 (Kd.V_reads' HO_0.out).2.2 x6_1 p113 q113
            cases e113
            replace p113 := eq_true p113; replace q113 := eq_true q113; obtain ⟨Ao52, co52, eo52⟩ := Kd.V_slice HO_1.out; (first | subst eo52 | (injection eo52 with f1_ f2_ f3_; have f4_ := f1_.symm; have f5_ := f3_.symm; clear f1_ f2_ f3_; subst f4_; subst f5_)); have p114 : 0 ≤ (x7_1 : Int) := od_; have q114 : x7_1 < (t110.length : Int) := od_; obtain ⟨ad114, e114, hx114_0, hx114_1⟩ := at_T120 (Kd.V_reads' HO_1.out).2.2 x7_1 p114 q114
            cases e114
            replace p114 := eq_true p114; replace q114 := eq_true q114; have p115 : 0 ≤ (x6_1 : Int) := od_; have q115 : x6_1 < (t107.length : Int) := od_; obtain ⟨ad115, e115, hx115_0, hx115_1⟩ := at_T120 (Kd.V_reads' HO_0.out).2.2 x6_1 p115 q115; obtain rfl : ad113 = ad115 := (by injection e115); replace p115 := eq_true p115; replace q115 := eq_true q115; have p116 : 0 ≤ (x7_1 : Int) := od_; have q116 : x7_1 < (t110.length : Int) := od_; obtain ⟨ad116, e116, hx116_0, hx116_1⟩ := at_T120 (Kd.V_reads' HO_1.out).2.2 x7_1 p116 q116; obtain rfl : ad114 = ad116 := (by injection e116); replace p116 := eq_true p116; replace q116 := eq_true q116; refine start_ (n := 25) (S := fun w' => w'.cell? (ad113.add ((x6_1).toNat * 2)) = some (.int .i64 ((rd_T120 t107 x6_1).f0)) ∧ w'.cell? ⟨(ad113.add ((x6_1).toNat * 2)).block, (ad113.add ((x6_1).toNat * 2)).off + 1, none⟩ = some (.int .i64 ((rd_T120 t107 x6_1).f1)) ∧ w'.cell? (ad114.add ((x7_1).toNat * 2)) = some (.int .i64 ((rd_T120 t110 x7_1).f0)) ∧ w'.cell? ⟨(ad114.add ((x7_1).toNat * 2)).block, (ad114.add ((x7_1).toNat * 2)).off + 1, none⟩ = some (.int .i64 ((rd_T120 t110 x7_1).f1)) ∧ w'.cell? (ad113.add ((x6_1).toNat * 2)) = some (.int .i64 ((rd_T120 t107 x6_1).f0)) ∧ w'.cell? ⟨(ad113.add ((x6_1).toNat * 2)).block, (ad113.add ((x6_1).toNat * 2)).off + 1, none⟩ = some (.int .i64 ((rd_T120 t107 x6_1).f1)) ∧ w'.cell? (ad114.add ((x7_1).toNat * 2)) = some (.int .i64 ((rd_T120 t110 x7_1).f0)) ∧ w'.cell? ⟨(ad114.add ((x7_1).toNat * 2)).block, (ad114.add ((x7_1).toNat * 2)).off + 1, none⟩ = some (.int .i64 ((rd_T120 t110 x7_1).f1))) (ds := []) (ab 25 0) (by kernel_rfl) rfl rfl ⟨hx113_0, hx113_1, hx114_0, hx114_1, hx115_0, hx115_1, hx116_0, hx116_1⟩ (fun hHeld => ?_); refine with_tabW sets_Meet.tab5 sets_Meet.bits5 (fun HT_ HW_ => ?_); generalize wc.drew = w50 at HO_0 HO_1 HO_5 HB hx113_0 hx113_1 hx114_0 hx114_1 hx115_0 hx115_1 hx116_0 hx116_1 hHeld ⊢; refine pA 0 23 25 1 ?_; refine pA 1 24 25 3 ?_; refine pA 2 25 25 7 ?_; refine pA 3 26 25 15 ?_; refine pA 5 28 25 47 ?_; refine pA 6 29 25 111 ?_; refine pA 7 30 25 239 ?_; refine pA 8 31 25 495 ?_; refine pA 11 34 25 2543 ?_; refine pA 12 35 25 6639 ?_; refine pA 13 36 25 14831 ?_; refine pA 14 37 25 31215 ?_; refine pA 16 39 25 96751 ?_; refine pA 17 40 25 227823 ?_; refine pA 18 41 25 489967 ?_; refine pA 19 42 25 1014255 ?_; refine tB 4 27 25 1014271 ?_; refine tB 9 32 25 1014783 ?_; refine pA 10 33 25 1015807 ?_; refine tB 15 38 25 1048575 ?_; refine tB 20 43 25 2097151 ?_; refine pA 21 44 25 4194303 ?_; refine pA 22 45 25 8388607 ?_; refine oA 23 (some 8) 25 16777215 fun K hK => ?_; refine bxs_ 8 #[.int .i64 0, .int .i64 0] 120 ?_; intro gb117 hg w53 hbox hb; have NE0_ : ad113.block ≠ gb117 := (by have h_ := World.block_lt_of_cell? _ _ hHeld.1; rw [add_block] at h_; omega); have NE1_ : ad114.block ≠ gb117 := (by have h_ := World.block_lt_of_cell? _ _ hHeld.2.2.1; rw [add_block] at h_; omega); have HS0_ := (hb.cell (World.block_lt_of_cell? _ _ (hHeld.1))).trans (hHeld.1); have HS1_ := (hb.cell (World.block_lt_of_cell? _ _ (hHeld.2.1))).trans (hHeld.2.1); have HS2_ := (hb.cell (World.block_lt_of_cell? _ _ (hHeld.2.2.1))).trans (hHeld.2.2.1); have HS3_ := (hb.cell (World.block_lt_of_cell? _ _ (hHeld.2.2.2.1))).trans (hHeld.2.2.2.1); have HS4_ := (hb.cell (World.block_lt_of_cell? _ _ (hHeld.2.2.2.2.1))).trans (hHeld.2.2.2.2.1); have HS5_ := (hb.cell (World.block_lt_of_cell? _ _ (hHeld.2.2.2.2.2.1))).trans (hHeld.2.2.2.2.2.1)
            have HS6_ := (hb.cell (World.block_lt_of_cell? _ _ (hHeld.2.2.2.2.2.2.1))).trans (hHeld.2.2.2.2.2.2.1); have HS7_ := (hb.cell (World.block_lt_of_cell? _ _ (hHeld.2.2.2.2.2.2.2))).trans (hHeld.2.2.2.2.2.2.2); replace HO_0 := eV_ HO_0 hg hb; replace HO_1 := eV_ HO_1 hg hb; replace HO_5 := A_ (Kd.R_below (Kd.R_elderB (hrR_ HO_5.out) gb117 (Nat.le_of_eq hg.symm)) hb); have BK117 := A_ (hbox); have GW117 := gs_ w hg; have GE117 := gs_ w hg; replace HB := bs_ hb; clear hb hbox hg; refine hK.out _ _ ⟨HS0_, HS1_, HS2_, HS3_, HS4_, HS5_, HS6_, HS7_⟩ (fun hHeld => ?_); clear hK K; refine nA ?_; refine oA 24 none 25 33554431 fun K hK => ?_; have hs54 : w53.cell? ⟨gb117, 0, none⟩ = some (.int .i64 0) := bq_ BK117 0; have hfs54 := blk_frozen BK117.out 0; have hs55 : w53.cell? ⟨gb117, 1, none⟩ = some (.int .i64 0) := bq_ BK117 1; have hfs55 := blk_frozen BK117.out 1; refine sA ?_; refine hK.out _ _ ⟨((cell_far (p := ⟨gb117, _, none⟩) (ne_ NE0_) _).trans (((cell_far (p := ⟨gb117, _, none⟩) (ne_ NE0_) _).trans (hHeld.1)))), ((cell_far (p := ⟨gb117, _, none⟩) (ne_ NE0_) _).trans (((cell_far (p := ⟨gb117, _, none⟩) (ne_ NE0_) _).trans (hHeld.2.1)))), ((cell_far (p := ⟨gb117, _, none⟩) (ne_ NE1_) _).trans (((cell_far (p := ⟨gb117, _, none⟩) (ne_ NE1_) _).trans (hHeld.2.2.1)))), ((cell_far (p := ⟨gb117, _, none⟩) (ne_ NE1_) _).trans (((cell_far (p := ⟨gb117, _, none⟩) (ne_ NE1_) _).trans (hHeld.2.2.2.1)))), ((cell_far (p := ⟨gb117, _, none⟩) (ne_ NE0_) _).trans (((cell_far (p := ⟨gb117, _, none⟩) (ne_ NE0_) _).trans (hHeld.2.2.2.2.1)))), ((cell_far (p := ⟨gb117, _, none⟩) (ne_ NE0_) _).trans (((cell_far (p := ⟨gb117, _, none⟩) (ne_ NE0_) _).trans (hHeld.2.2.2.2.2.1)))), ((cell_far (p := ⟨gb117, _, none⟩) (ne_ NE1_) _).trans (((cell_far (p := ⟨gb117, _, none⟩) (ne_ NE1_) _).trans (hHeld.2.2.2.2.2.2.1)))), ((cell_far (p := ⟨gb117, _, none⟩) (ne_ NE1_) _).trans (((cell_far (p := ⟨gb117, _, none⟩) (ne_ NE1_) _).trans (hHeld.2.2.2.2.2.2.2))))⟩ (fun hHeld => ?_)
            clear hK K; refine done_ (done_of HT_.out (by kernel_rfl)) ?_; have Z56 := bz2_ BK117; (try go_wp2); have n0_ : Aside0 (Kd.V k120 120 ((w53.setCell ⟨gb117, 0, none⟩ (.int .i64 ji17)).setCell ⟨gb117, 1, none⟩ (.int .i64 ji18)) w.heap.size (fun k_ => nv_ k_ u5 ∧ k_ ≠ gb117) (.slice (some ad113) t107.length co51) t107) := ⟨fpV_ HO_0.out⟩; have n1_ : Aside0 (Kd.V k120 120 ((w53.setCell ⟨gb117, 0, none⟩ (.int .i64 ji17)).setCell ⟨gb117, 1, none⟩ (.int .i64 ji18)) w.heap.size (fun k_ => nv_ k_ u5 ∧ k_ ≠ gb117) (.slice (some ad114) t110.length co52) t110) := ⟨fpV_ HO_1.out⟩; have n2_ : Aside0 (Kd.R k120 120 ((w53.setCell ⟨gb117, 0, none⟩ (.int .i64 ji17)).setCell ⟨gb117, 1, none⟩ (.int .i64 ji18)) w.heap.size (fun k_ => k_ ≠ gb117) u5 x5_1) := ⟨fpR_ HO_5.out⟩; have n3_ : Aside0 (((w53.setCell ⟨gb117, 0, none⟩ (.int .i64 ji17)).setCell ⟨gb117, 1, none⟩ (.int .i64 ji18)).heap[gb117]? = some (.cells #[.int .i64 ji17, .int .i64 ji18] 120 (0, 0))) := ⟨pb_ BK117.out⟩; have n4_ : Aside0 (Below w.heap.size w ((w53.setCell ⟨gb117, 0, none⟩ (.int .i64 ji17)).setCell ⟨gb117, 1, none⟩ (.int .i64 ji18))) := ⟨hs_⟩; (try clear HO_0); (try clear HO_1); (try clear HO_5); (try clear BK117); (try clear HB); generalize ((w53.setCell ⟨gb117, 0, none⟩ (.int .i64 ji17)).setCell ⟨gb117, 1, none⟩ (.int .i64 ji18)) = w57 at n0_ n1_ n2_ n3_ n4_ ⊢; have HO_0 := n0_; have HO_1 := n1_; have HO_5 := n2_; have BK117 := n3_; have HB := n4_; clear n0_ n1_ n2_ n3_ n4_; replace HO_0 := A_ (Kd.V_drew HO_0.out); replace HO_1 := A_ (Kd.V_drew HO_1.out); replace HO_5 := A_ (Kd.R_drew HO_5.out); replace BK117 := A_ (blk_drew BK117.out); replace HB := A_ (below_drew1 HB.out); have p123 : 0 ≤ (x6_1 : Int) := od_; have q123 : x6_1 < (t107.length : Int) := od_; obtain ⟨ad123, e123, hx123_0, hx123_1⟩ := at_T120 (Kd.V_reads' HO_0.out).2.2 x6_1 p123 q123; obtain rfl : ad113 = ad123 := (by injection e123); replace p123 := eq_true p123; replace q123 := eq_true q123; have p124 : 0 ≤ (x7_1 : Int) := od_; have q124 : x7_1 < (t110.length : Int) := od_; obtain ⟨ad124, e124, hx124_0, hx124_1⟩ := at_T120 (Kd.V_reads' HO_1.out).2.2 x7_1 p124 q124
            obtain rfl : ad114 = ad124 := (by injection e124); replace p124 := eq_true p124; replace q124 := eq_true q124; refine start_ (n := 11) (S := fun w' => w'.cell? (ad113.add ((x6_1).toNat * 2)) = some (.int .i64 ((rd_T120 t107 x6_1).f0)) ∧ w'.cell? ⟨(ad113.add ((x6_1).toNat * 2)).block, (ad113.add ((x6_1).toNat * 2)).off + 1, none⟩ = some (.int .i64 ((rd_T120 t107 x6_1).f1)) ∧ w'.cell? (ad114.add ((x7_1).toNat * 2)) = some (.int .i64 ((rd_T120 t110 x7_1).f0)) ∧ w'.cell? ⟨(ad114.add ((x7_1).toNat * 2)).block, (ad114.add ((x7_1).toNat * 2)).off + 1, none⟩ = some (.int .i64 ((rd_T120 t110 x7_1).f1))) (ds := []) (ab 11 0) (by kernel_rfl) rfl rfl ⟨hx123_0, hx123_1, hx124_0, hx124_1⟩ (fun hHeld => ?_); refine with_tabW sets_Meet.tab8 sets_Meet.bits8 (fun HT_ HW_ => ?_); generalize w57.drew = w58 at HO_0 HO_1 HO_5 BK117 HB hx123_0 hx123_1 hx124_0 hx124_1 hHeld ⊢; refine pA 0 55 11 1 ?_; refine pA 1 56 11 3 ?_; refine pA 2 57 11 7 ?_; refine pA 3 58 11 15 ?_; refine pA 5 60 11 47 ?_; refine pA 6 61 11 111 ?_; refine pA 7 62 11 239 ?_; refine pA 8 63 11 495 ?_; refine tB 4 59 11 511 ?_; refine tB 9 64 11 1023 ?_; refine pA 10 65 11 2047 ?_; refine done_ (done_of HT_.out (by kernel_rfl)) ?_; (try go_wp2); go_roundg kj6
            case measure => have := HK1.out; have := HJ6.out; omega
            case rel => exact ⟨(x5_1), (x6_1), (wrap64 (x7_1 + 1)), rf_, rf_, H', ⟨by have := HK1.out; have := HJ6.out; omega⟩, ⟨by (with_reducible repeat (first | apply Kd.V_alloc | apply Kd.V_drewN | apply Kd.V_drew)); exact Kd.V_mono HO_0.out (fun _ hk => hk.1)⟩, ⟨by (with_reducible repeat (first | apply Kd.V_alloc | apply Kd.V_drewN | apply Kd.V_drew)); exact Kd.V_mono HO_1.out (fun _ hk => hk.1)⟩, ⟨by (with_reducible repeat (first | apply Kd.R_alloc | apply Kd.R_drewN | apply Kd.R_drew)); exact Kd.R_mono HO_5.out (fun _ hk => trivial)⟩, ⟨hs_⟩⟩
         ·rw [if_neg c16] at H
          exact absurd H (by simp)
        ·rw [if_neg c15] at H
         exact absurd H (by simp)
       ·rw [if_neg c14] at H
        exact absurd H (by simp)
      ·rw [if_neg c13] at H
       exact absurd H (by simp)
     ·replace c12 := Bool.eq_false_iff.mpr c12
      subst c12; replace H := iN_ H; obtain rfl := Option.some.inj H; go_wp2; (try rw [Exit.noGoto_ret]); go_ret; exact ⟨_, by first | rfl | (simp [errW_none, errW_some] <;> rfl) | (simp [*, errW_none, errW_some] <;> rfl), fxR_ HO_5.out, hs_⟩
end Go.Proofs.YtjgjhekpiijniaaGreat.A
namespace Go.Proofs.YtjgjhekpiijniaaGreat.A
open Go.RowKit Go.Proofs.YtjgjhekpiijniaaGreatW.PrintWords Go.Proofs.YtjgjhekpiijniaaGreatW.PrintLast Go.Proofs.YtjgjhekpiijniaaGreatW.PrintMore
attribute [local go_sem] max2_int min2_int max_two min_two max_three min_three max_four min_four
attribute [local go_sem high] eqA23
set_option maxHeartbeats 8000000 in
set_option maxRecDepth 100000 in
theorem sets_Clip.calls (k : Nat) (A0 : Option Addr) (c0 : Nat) (l0 : List (S120)) (a1 a2 : Int) (r : List (S120)) (w : World) (hr0 : Kd.C k120 w A0 l0.length l0) (hc0 : l0.length ≤ c0) (h : sets_Clip.f k l0 a1 a2 = some r) :
  Calls Tryz.prog 90 #[.slice A0 l0.length c0, .int .i64 a1, .int .i64 a2] w fun e w' => ∃ v0_ : Value, e = .returned (v0_) ∧ Kd.R k120 120 w' w.heap.size (fun _ => True) v0_ r ∧ Below w.heap.size w w' := by
 have hu120 := Tryz.underlying120; have HR0 := A_ hr0; have HC0 := A_ hc0; clear hr0 hc0; have HB := A_ (Below.refl w.heap.size w); have H : ((sets_Meet.f k l0 (([(⟨a1, a2⟩ : S120)] : List (S120)))).bind fun t128 => (some t128)) = some r := h; clear h; obtain ⟨y125, hy125⟩ : ∃ y_ : List (S120), y_ = (([(⟨a1, a2⟩ : S120)] : List (S120))) := ⟨_, rfl⟩; (replace H : ((sets_Meet.f k l0 y125).bind fun t128 => (some t128)) = some r := hy_ hy125 H); have Ny125 := A_ hy125; clear hy125; obtain ⟨t128, A4, H⟩ := bi_ H; obtain rfl := Option.some.inj H; go_enter Tryz.func90, Tryz.ntmps90; go_wp2_with (first | (refine gD 11 ?_; refine Kd.R_lit k120 _ 120 ?hg (N := 11) ?hd (xs := ([(⟨a1, a2⟩ : S120)] : List (S120))) (inner := [.int .i64 a1, .int .i64 a2]) (ok := fun _ => True) (okp := fun _ => True) ?hr ?hp (fun _ hk => hk) trivial (Below.refl _ _) (Nat.le_refl _) (by simp) ?_; (case hd => rfl); (case hg => rfl); (case hr => first | (go_simp; done) | (go_simp; rfl)); (case hp => exact (Reps.c2 (show Kd.M k120 _ _ _ (⟨a1, a2⟩ : S120) [.int .i64 a1, .int .i64 a2] from (k120_mkM _ _ _ (⟨a1, a2⟩ : S120) )) (Reps.none _ _))); intro v126 w5 ho6 hb hg_ hnew_; clear hg_ hnew_; (first | rw [← Ny125.out] at ho6 | (simp only [Int.reduceToNat] at ho6; rw [← Ny125.out] at ho6)); have HO127 := A_ (Kd.R_lower ho6 (below_size hs_)); replace HB := bs_ hb; clear hb ho6; obtain ⟨Ao7, co7, eo7⟩ := Kd.R_slice HO127.out; subst eo7) | (refine gC 96 ?_; refine gL 12 Tryz.func96 #[.slice A0 l0.length c0, .slice Ao7 y125.length co7] ?_; (with_reducible refine (sets_Meet.calls k _ _ l0 _ _ y125 t128 _ ?side1 ?side2 ?side3 ?side4 A4.out).mono ?_); (case side1 => exact cb_ HR0); (case side2 => exact HC0.out); (case side3 => exact cr_ (Kd.R_reads' HO127.out).2.2); (case side4 => exact (Kd.R_reads' HO127.out).2.1); rintro e w8 ⟨v129, rfl, ho0, hb⟩; refine ⟨_, rfl, ?_⟩; have HO130 := A_ (Kd.R_lower (Kd.R_new' ho0 (Kd.R_lt (hrR_ HO127.out))) (below_size hs_)); replace HO127 := A_ (Kd.R_elder' (hrR_ HO127.out) (Kd.R_base ho0) hb); replace HB := bs_ hb; (try clear hb); (try clear ho0))); go_ret; exact ⟨_, by first | rfl | (simp [errW_none, errW_some] <;> rfl) | (simp [*, errW_none, errW_some] <;> rfl), by (with_reducible repeat (first | apply Kd.R_alloc | apply Kd.R_drewN | apply Kd.R_drew)); exact Kd.R_mono HO130.out (fun _ hk => trivial), hs_⟩
theorem width_pos (s : ByteArray) (pos : Nat) (h : pos < s.size) : 1 ≤ (Utf8.decode s pos).2 := by
  by_cases ha : (s[pos]'h).toNat < 128
  · rw [decode_ascii s pos h ha]
    exact Nat.le_refl _
  · exact (decode_high s pos h (by omega)).2
theorem at_list (s : ByteArray) (pos : Nat) (h : pos < s.size) : s.data.toList[pos]? = some (s[pos]'h) := by
  rw [List.getElem?_eq_getElem (by simpa using h)]
  simp [ByteArray.getElem_eq_getElem_data]
theorem drop_at (s : ByteArray) (pos : Nat) (h : pos < s.size) : s.data.toList.drop pos = (s[pos]'h) :: s.data.toList.drop (pos + 1) := by
  have h1 : pos < s.data.toList.length := by simpa using h
  rw [List.drop_eq_getElem_cons h1]
  congr 1
theorem below_iter (w : World) (s : ByteArray) (pos : Nat) : Below w.heap.size w (w.iter s pos) := below_alloc (Below.refl _ _) _
set_option maxHeartbeats 4000000 in
set_option maxRecDepth 1000000 in
theorem mask_Sane.calls (a0 : ByteArray) (r : Bool) (w : World) (h : mask_Sane.f a0 = some r) :
    Calls Tryz.prog 75 #[.string a0] w fun e w' => e = .returned (.bool r) ∧ Below w.heap.size w w' := by
  obtain rfl := Option.some.inj h
  clear h
  go_enter Tryz.func75, Tryz.ntmps75
  go_wp2
  go_loopw [] (fun w' => ∃ pos : Nat, w' = w.iter a0 pos ∧ saneL a0.data.toList = ((a0.data.toList.drop pos).all okB && decide (a0.data.toList ≠ []) && decide (a0.data.toList.length ≤ 4))) (fun w' => a0.size - w'.iterPos w.heap.size)
  case atStart => exact ⟨0, rfl, rfl⟩
  case round =>
    obtain ⟨pos, rfl, hs⟩ := hrel
    by_cases hp : pos < a0.size
    · have hnx : ∀ ty, (Instr.next (.pointer (some ⟨w.heap.size, 0, none⟩)) true ty).run Tryz.prog (w.iter a0 pos) = _ := fun ty => run_next_any w a0 pos ty hp
      have hwd := width_pos a0 pos hp
      rw [drop_at a0 pos hp, List.all_cons] at hs
      have hb : okB (a0[pos]'hp) = true → Utf8.decode a0 pos = ((a0[pos]'hp).toNat, 1) := fun h => decode_ascii a0 pos hp (by have := of_decide_eq_true h; omega)
      have hn : okB (a0[pos]'hp) = false → ((Utf8.decode a0 pos).1 < 48 ∨ 57 < (Utf8.decode a0 pos).1) ∧ (Utf8.decode a0 pos).1 ≠ 88 := fun h => by
        have h := of_decide_eq_false h
        by_cases ha : (a0[pos]'hp).toNat < 128
        · rw [decode_ascii a0 pos hp ha]; simp only; omega
        · have := (decode_high a0 pos hp (by omega)).1; omega
      generalize hc : ((Utf8.decode a0 pos).1 : Int) = c at hnx
      by_cases hk : okB (a0[pos]'hp) = true
      · have hd := hb hk
        have hk2 := of_decide_eq_true hk
        rw [hd] at hc
        simp only at hc
        have d1 : decide (c < 48) = false := decide_eq_false (by omega)
        rw [hk, Bool.true_and] at hs
        by_cases h88 : c = 88
        · have d2 : decide (57 < c) = true := decide_eq_true (by omega)
          have d3 : (c != 88) = false := by subst h88; rfl
          go_wp2
          go_roundw
          case rel => exact ⟨pos + 1, rfl, hs⟩
          case measure => simp; omega
        · have d2 : decide (57 < c) = false := decide_eq_false (by omega)
          go_wp2
          go_roundw
          case rel => exact ⟨pos + 1, rfl, hs⟩
          case measure => simp; omega
      · have hk := Bool.eq_false_iff.mpr hk
        have hf : saneL a0.data.toList = false := by rw [hs, hk]; rfl
        obtain ⟨h1, h2⟩ := hn hk
        have d3 : (c != 88) = true := by rw [bne_iff_ne]; omega
        by_cases h48 : c < 48
        · have d1 : decide (c < 48) = true := decide_eq_true h48
          go_wp2
          go_ret
          exact ⟨by first | rfl | (rw [hf]; rfl), below_iter _ _ _⟩
        · have d1 : decide (c < 48) = false := decide_eq_false h48
          have d2 : decide (57 < c) = true := decide_eq_true (by omega)
          go_wp2
          go_ret
          exact ⟨by first | rfl | (rw [hf]; rfl), below_iter _ _ _⟩
    · have hnx : ∀ ty, (Instr.next (.pointer (some ⟨w.heap.size, 0, none⟩)) true ty).run Tryz.prog (w.iter a0 pos) = _ := fun ty => run_next_end w a0 pos ty hp
      rw [List.drop_eq_nil_of_le (by simpa using hp)] at hs
      simp only [List.all_nil, Bool.true_and] at hs
      have HS := A_ hs
      clear hs
      go_wp2
      · rename_i he
        rw [ByteArray.toList_eq] at he
        have hf : saneL a0.data.toList = false := by rw [HS.out, he]; rfl
        go_ret
        exact ⟨by first | rfl | (rw [hf]; rfl), below_iter _ _ _⟩
      · rename_i he
        rw [ByteArray.toList_eq] at he
        have hsz : a0.size = a0.data.toList.length := by simp
        have he3 : a0.toList.isEmpty = false := by rw [ByteArray.toList_eq]; cases hl : a0.data.toList <;> simp_all
        have hf : saneL a0.data.toList = decide ((a0.size : Int) ≤ 4) := by
          rw [HS.out, decide_eq_true he, Bool.true_and, hsz]
          exact decide_eq_decide.2 (by omega)
        clear he hsz HS
        go_ret
        exact ⟨by first | rfl | (rw [hf]; rfl) | (rw [hf, he3]; rfl) | (rw [hf]; simp [he3]), below_iter _ _ _⟩
end Go.Proofs.YtjgjhekpiijniaaGreat.A
namespace Go.Proofs.YtjgjhekpiijniaaGreat.A.B
open Go.RowKit Go.Proofs.YtjgjhekpiijniaaGreatW.PrintWords Go.Proofs.YtjgjhekpiijniaaGreatW.PrintLast Go.Proofs.YtjgjhekpiijniaaGreatW.PrintMore
attribute [local go_sem] max2_int min2_int max_two min_two max_three min_three max_four min_four
mutual
def mask_Set.l0 : Nat → Int → List (S120) → List (S120) → Int → Int → Option ((List (S120)))
  | 0, _, _, _, _, _ => none
  | k + 1, x5, x6, x21, x22, x23 => if x23 < x22 then (if 0 ≤ x23 then (if x23 < (x21.length : Int) then (if x5 = 88 then (if x6.length < 8796093022208 then (mask_Set.l0 k x5 (x6 ++ [(⟨wrap64 (((rd_T120 x21 x23).f0) * 10), wrap64 ((wrap64 (((rd_T120 x21 x23).f1) * 10)) + 9)⟩ : S120)]) x21 x22 (wrap64 (x23 + 1))) else (none)) else (mask_Set.l1 k x5 x6 ((rd_T120 x21 x23).f0) x21 x22 x23 ((rd_T120 x21 x23).f0) ((rd_T120 x21 x23).f1))) else (none)) else (none)) else (some x6)
def mask_Set.l1 : Nat → Int → List (S120) → Int → List (S120) → Int → Int → Int → Int → Option ((List (S120)))
  | 0, _, _, _, _, _, _, _, _ => none
  | k + 1, x5, x6, x9, x21, x22, x23, x103000, x103001 => if x9 ≤ x103001 then (if x6.length < 8796093022208 then (mask_Set.l1 k x5 (x6 ++ [(⟨wrap64 ((wrap64 (x9 * 10)) + (wrap64 (wrap32 (x5 - 48)))), wrap64 ((wrap64 (x9 * 10)) + (wrap64 (wrap32 (x5 - 48))))⟩ : S120)]) (wrap64 (x9 + 1)) x21 x22 x23 x103000 x103001) else (none)) else (mask_Set.l0 k x5 x6 x21 x22 (wrap64 (x23 + 1)))
end
def mask_Set.f (k : Nat) (l0 : List (S120)) (a1 : Int) : Option ((List (S120))) := mask_Set.l0 k a1 ([] : List (S120)) l0 (l0.length : Int) 0
end Go.Proofs.YtjgjhekpiijniaaGreat.A.B
namespace Go.Proofs.YtjgjhekpiijniaaGreat.A
open Go.RowKit Go.Proofs.YtjgjhekpiijniaaGreatW.PrintWords Go.Proofs.YtjgjhekpiijniaaGreatW.PrintLast Go.Proofs.YtjgjhekpiijniaaGreatW.PrintMore
attribute [local go_sem] max2_int min2_int max_two min_two max_three min_three max_four min_four
def itset (w : World) (g : Nat) (s : ByteArray) (pos : Nat) : World := { w with heap := w.heap.setIfInBounds g (.stringIter s pos) }
theorem itset_size (w : World) (g : Nat) (s : ByteArray) (pos : Nat) : (itset w g s pos).heap.size = w.heap.size := by simp [itset]
theorem itset_at {w : World} {g : Nat} {s : ByteArray} {pos q : Nat} (h : w.heap[g]? = some (.stringIter s q)) : (itset w g s pos).heap[g]? = some (.stringIter s pos) := by
  have := (Array.getElem?_eq_some_iff.1 h).1
  simp [itset, this]
theorem itset_ne (w : World) (g : Nat) (s : ByteArray) (pos : Nat) {k : Nat} (h : k ≠ g) : (itset w g s pos).heap[k]? = w.heap[k]? := by
  simp [itset, Array.getElem?_setIfInBounds, Ne.symm h]
theorem itset_below {B : Nat} {w0 w : World} {g : Nat} {s : ByteArray} {pos : Nat} (h : Below B w0 w) (hg : B ≤ g) : Below B w0 (itset w g s pos) :=
  ⟨h.os, h.tape, h.output, by rw [itset_size]; exact h.size, fun k hk => (itset_ne w g s pos (by omega)).trans (h.block k hk)⟩
theorem itset_keep (w : World) (g : Nat) (s : ByteArray) (pos : Nat) : KeepBut w (itset w g s pos) g none := ⟨by rw [itset_size]; exact Nat.le_refl _, fun k _ hk _ => itset_ne w g s pos hk⟩
theorem run_next_at {P : Program} {w : World} {g : Nat} {s : ByteArray} {pos : Nat} (ty : TypeId) (hg : w.heap[g]? = some (.stringIter s pos)) (h : pos < s.size) (ha : (s[pos]'h).toNat < 128) :
    (Instr.next (.pointer (some ⟨g, 0, none⟩)) true ty).run P w = .ok (.tuple #[.bool true, .int .i64 pos, .int .i32 (s[pos]'h).toNat]) (itset w g s (pos + 1)) := by
  simp only [Instr.next, getObj, setObj, Sem.run_bind, Sem.run, hg, Result.andThen, h, if_true, decode_ascii s pos h ha]
  simp [goInt, Sem.run, hg, itset]
theorem run_next_done {P : Program} {w : World} {g : Nat} {s : ByteArray} {pos : Nat} (ty : TypeId) (hg : w.heap[g]? = some (.stringIter s pos)) (h : ¬ pos < s.size) :
    (Instr.next (.pointer (some ⟨g, 0, none⟩)) true ty).run P w = .ok (.tuple #[.bool false]) w := by
  simp [Instr.next, getObj, Sem.run, hg, h]
theorem k120_E : k120.E = [] := rfl
theorem ok_of {s : ByteArray} (h : mask_Sane.f s = some true) : ∀ (pos : Nat) (hp : pos < s.size), 48 ≤ (s[pos]'hp).toNat ∧ (s[pos]'hp).toNat ≤ 57 ∨ (s[pos]'hp).toNat = 88 := fun pos hp => by
  have h := Option.some.inj h
  unfold saneL at h
  simp only [Bool.and_eq_true] at h
  have h2 := List.all_eq_true.1 h.1.1 (s[pos]'hp) (List.mem_of_getElem? (at_list s pos hp))
  exact of_decide_eq_true h2
theorem w64 {x : Int} (h1 : -9223372036854775808 ≤ x) (h2 : x ≤ 9223372036854775807) : wrap64 x = x := by unfold wrap64; omega
theorem at_rd (p : List S120) (r : S120) (t : List S120) : rd_T120 (p ++ r :: t) (p.length : Int) = r := by simp [rd_T120]
theorem at_lt {α : Type} (p : List α) (r : α) (t : List α) : (p.length : Int) < ((p ++ r :: t).length : Int) := by simp; omega
theorem at_end {α : Type} (p : List α) : ¬ (p.length : Int) < ((p ++ []).length : Int) := by simp
theorem at_0 {α : Type} (p : List α) : 0 ≤ (p.length : Int) := Int.natCast_nonneg _
theorem at_next {α : Type} {p : List α} {r : α} {t : List α} (h : (p ++ r :: t).length ≤ 4611686018427387904) : wrap64 ((p.length : Int) + 1) = ((p ++ [r]).length : Int) := by
  simp at h
  rw [w64 (by omega) (by omega)]
  simp
theorem at_app {α : Type} (p : List α) (r : α) (t : List α) : p ++ r :: t = (p ++ [r]) ++ t := by simp
theorem Ev.eq {α : Type} {g : Nat → Option α} {r q : α} (h : Ev g r) (e : r = q) : Ev g q := e ▸ h
def one (c n : Int) : S120 := ⟨n * 10 + (c - 48), n * 10 + (c - 48)⟩
theorem upto_len (lo : Int) : ∀ n, (upto lo n).length = n
  | 0 => rfl
  | n + 1 => by rw [upto, List.length_cons, upto_len (lo + 1) n]
theorem set_l1 (c : Int) (hc : 48 ≤ c ∧ c ≤ 57) (x : List S120) (len i lo hi : Int) (hhi : hi < 1000) (z : List S120) : ∀ (m : Nat) (n : Int) (acc : List S120), 0 ≤ n → n + m = hi + 1 → acc.length + m < 8796093022208 →
    Ev (fun k => B.mask_Set.l0 k c (acc ++ (upto n m).map (one c)) x len (wrap64 (i + 1))) z → Ev (fun k => B.mask_Set.l1 k c acc n x len i lo hi) z
  | 0, n, acc, h0, hm, hl, h => by
    simp only [upto, List.map_nil, List.append_nil] at h
    refine Ev.step (fun k => ?_) h
    rw [B.mask_Set.l1, if_neg (by omega)]
  | m + 1, n, acc, h0, hm, hl, h => by
    have e : acc ++ (upto n (m + 1)).map (one c) = (acc ++ [one c n]) ++ (upto (n + 1) m).map (one c) := by rw [upto]; simp
    rw [e] at h
    have ih := set_l1 c hc x len i lo hi hhi z m (n + 1) (acc ++ [one c n]) (by omega) (by omega) (by rw [List.length_append, List.length_singleton]; omega) h
    refine Ev.step (fun k => ?_) ih
    have w1 : wrap32 (c - 48) = c - 48 := by unfold wrap32; omega
    rw [B.mask_Set.l1, if_pos (by omega), if_pos (by omega), w1, w64 (x := n * 10) (by omega) (by omega), w64 (x := c - 48) (by omega) (by omega), w64 (x := n * 10 + (c - 48)) (by omega) (by omega), w64 (x := n + 1) (by omega) (by omega)]
    rfl
def fine (out : List S120) (b : Int) : Prop := ∀ r, r ∈ out → 0 ≤ r.f0 ∧ r.f0 ≤ r.f1 ∧ r.f1 < b
theorem set_l0 (c : UInt8) (hc : 48 ≤ c.toNat ∧ c.toNat ≤ 57 ∨ c.toNat = 88) : ∀ (t p acc : List S120), fine t 1000 → (p ++ t).length < 1000000 → acc.length + t.length * 1000 < 100000000 →
    Ev (fun k => B.mask_Set.l0 k (c.toNat : Int) acc (p ++ t) ((p ++ t).length : Int) (p.length : Int)) (acc ++ t.flatMap (stepR c))
  | [], p, acc, _, _, _ => by
    refine Ev.step (f := fun _ => some (acc ++ [].flatMap (stepR c))) (fun k => ?_) (Ev.now _)
    rw [B.mask_Set.l0, if_neg (at_end p)]; simp
  | r :: t, p, acc, hf, hn, hl => by
    simp only [List.length_cons] at hl
    obtain ⟨f1, f2, f3⟩ := hf r List.mem_cons_self
    have hft : fine t 1000 := fun q hq => hf q (List.mem_cons_of_mem _ hq)
    by_cases h88 : c.toNat = 88
    · have ih := set_l0 c hc t (p ++ [r]) (acc ++ stepR c r) hft (by rw [← at_app]; exact hn) (by unfold stepR; rw [if_pos h88]; simp; omega)
      rw [← at_app] at ih
      refine Ev.eq (Ev.step (fun k => ?_) ih) (by simp)
      rw [B.mask_Set.l0, if_pos (at_lt p r t), if_pos (at_0 p), if_pos (at_lt p r t), if_pos (by omega), if_pos (by omega), at_rd, at_next (p := p) (r := r) (t := t) (by omega), w64 (x := r.f0 * 10) (by omega) (by omega), w64 (x := r.f1 * 10) (by omega) (by omega), w64 (x := r.f1 * 10 + 9) (by omega) (by omega)]
      unfold stepR
      rw [if_pos h88]
    · have hlen : (stepR c r).length = (r.f1 + 1 - r.f0).toNat := by unfold stepR; rw [if_neg h88, List.length_map, upto_len]
      have ih := set_l0 c hc t (p ++ [r]) (acc ++ stepR c r) hft (by rw [← at_app]; exact hn) (by rw [List.length_append, hlen]; omega)
      rw [← at_app] at ih
      have hgo := set_l1 (c.toNat : Int) (by omega) (p ++ r :: t) ((p ++ r :: t).length : Int) (p.length : Int) r.f0 r.f1 f3 (acc ++ stepR c r ++ t.flatMap (stepR c)) (r.f1 + 1 - r.f0).toNat r.f0 acc f1 (by omega) (by omega) (by
        rw [at_next (p := p) (r := r) (t := t) (by omega)]
        have e : (upto r.f0 (r.f1 + 1 - r.f0).toNat).map (one (c.toNat : Int)) = stepR c r := by unfold stepR; rw [if_neg h88]; rfl
        rw [e]
        exact ih)
      refine Ev.eq (Ev.step (fun k => ?_) hgo) (by simp)
      rw [B.mask_Set.l0, if_pos (at_lt p r t), if_pos (at_0 p), if_pos (at_lt p r t), if_neg (by omega), at_rd]
theorem set_body (c : UInt8) (hc : 48 ≤ c.toNat ∧ c.toNat ≤ 57 ∨ c.toNat = 88) (out : List S120) (hf : fine out 1000) (hl : out.length ≤ 1000) : Ev (fun k => B.mask_Set.f k out (c.toNat : Int)) (out.flatMap (stepR c)) := by
  have := set_l0 c hc out [] [] hf (by simp; omega) (by simp; omega)
  simp only [List.nil_append, List.length_nil] at this
  exact this
def lenB : Nat → Nat
  | 0 => 1
  | p + 1 => lenB p * 10 ^ p
theorem upto_mem (lo : Int) : ∀ (n : Nat) (x : Int), x ∈ upto lo n ↔ lo ≤ x ∧ x < lo + n
  | 0, x => by rw [upto]; constructor
               · intro h; cases h
               · intro h; omega
  | n + 1, x => by rw [upto, List.mem_cons, upto_mem (lo + 1) n x]; omega
theorem stepR_fine {c : UInt8} (hc : 48 ≤ c.toNat ∧ c.toNat ≤ 57 ∨ c.toNat = 88) {out : List S120} {b : Int} (h : fine out b) : fine (out.flatMap (stepR c)) (b * 10) := fun r hr => by
  obtain ⟨q, hq, hr⟩ := List.mem_flatMap.1 hr
  obtain ⟨h1, h2, h3⟩ := h q hq
  unfold stepR at hr
  by_cases h88 : c.toNat = 88
  · rw [if_pos h88] at hr
    obtain rfl := List.mem_singleton.1 hr
    simp only; omega
  · rw [if_neg h88] at hr
    obtain ⟨n, hn, rfl⟩ := List.mem_map.1 hr
    have hn := (upto_mem _ _ _).1 hn
    simp only; omega
theorem flat_len {α β : Type} (f : α → List β) (m : Nat) : ∀ l : List α, (∀ x, x ∈ l → (f x).length ≤ m) → (l.flatMap f).length ≤ l.length * m
  | [], _ => by simp
  | x :: l, h => by
    have h1 := h x List.mem_cons_self
    have h2 := flat_len f m l (fun y hy => h y (List.mem_cons_of_mem _ hy))
    rw [List.flatMap_cons, List.length_append, List.length_cons, Nat.succ_mul]
    omega
theorem stepR_len {c : UInt8} {out : List S120} {b : Nat} (hb : 1 ≤ b) (h : fine out b) : (out.flatMap (stepR c)).length ≤ out.length * b := flat_len _ _ _ fun q hq => by
  obtain ⟨h1, h2, h3⟩ := h q hq
  unfold stepR
  split
  · simp; exact hb
  · rw [List.length_map, upto_len]; omega
def setInv (s : ByteArray) (p : Nat) (out : List S120) : Prop := setL (s.data.toList.drop p) out = setL s.data.toList [⟨0, 0⟩] ∧ fine out (10 ^ p : Nat) ∧ out.length ≤ lenB p
theorem setInv_0 (s : ByteArray) : setInv s 0 [⟨0, 0⟩] := ⟨rfl, fun r hr => by obtain rfl := List.mem_singleton.1 hr; exact ⟨Int.le_refl _, Int.le_refl _, by decide⟩, by decide⟩
theorem setInv_step {s : ByteArray} {p : Nat} {out : List S120} (hp : p < s.size) (hok : 48 ≤ (s[p]'hp).toNat ∧ (s[p]'hp).toNat ≤ 57 ∨ (s[p]'hp).toNat = 88) (h : setInv s p out) : setInv s (p + 1) (out.flatMap (stepR (s[p]'hp))) := by
  obtain ⟨h1, h2, h3⟩ := h
  refine ⟨?_, ?_, ?_⟩
  · rw [← h1, drop_at s p hp]; rfl
  · have := stepR_fine hok h2
    rw [Nat.pow_succ]
    have e : (((10 ^ p * 10 : Nat)) : Int) = ((10 ^ p : Nat) : Int) * 10 := by push_cast; rfl
    rw [e]; exact this
  · have := stepR_len (c := s[p]'hp) (Nat.pow_pos (n := p) (by decide : 0 < 10)) h2
    rw [lenB]
    exact Nat.le_trans this (Nat.mul_le_mul_right _ h3)
theorem setInv_small {s : ByteArray} {p : Nat} {out : List S120} (hp : p ≤ 3) (h : setInv s p out) : fine out 1000 ∧ out.length ≤ 1000 := by
  obtain ⟨h1, h2, h3⟩ := h
  have h10 : (10 ^ p : Nat) ≤ 1000 := Nat.pow_le_pow_right (n := 10) (by decide) hp
  have hl : lenB p ≤ 1000 := by
    rcases (by omega : p = 0 ∨ p = 1 ∨ p = 2 ∨ p = 3) with rfl | rfl | rfl | rfl <;> decide
  refine ⟨fun r hr => ?_, by omega⟩
  obtain ⟨a, b, c⟩ := h2 r hr
  have : ((10 ^ p : Nat) : Int) ≤ 1000 := Int.ofNat_le.2 h10
  exact ⟨a, b, by omega⟩
theorem iterPos_of {w : World} {g : Nat} {s : ByteArray} {p : Nat} (h : w.heap[g]? = some (.stringIter s p)) : w.iterPos g = p := by unfold World.iterPos; rw [h]
set_option maxHeartbeats 8000000 in
set_option maxRecDepth 1000000 in
theorem mask_Set.calls (a0 : ByteArray) (rr : List S120) (w00 : World) (h : mask_Set.f a0 = some rr) :
    Calls Tryz.prog 91 #[.string a0] w00 fun e w' => ∃ v0_ : Value, e = .returned (v0_) ∧ Kd.R k120 120 w' w00.heap.size (fun _ => True) v0_ rr ∧ Below w00.heap.size w00 w' := by
  have hu36 := Tryz.underlying120
  obtain rfl := Option.some.inj h
  clear h
  have HB := A_ (Below.refl w00.heap.size w00)
  by_cases hs : saneL a0.data.toList = true
  rotate_left
  · have hs := Bool.eq_false_iff.mpr hs
    have AS := A_ (show mask_Sane.f a0 = some false from congrArg some hs)
    rw [hs]
    clear hs
    go_enter Tryz.func91, Tryz.ntmps91
    go_wp2_with (first | (refine gC 75 ?_; refine gL 12 Tryz.func75 #[.string a0] ?_; (with_reducible refine (mask_Sane.calls a0 false _ AS.out).mono ?_); rintro e w5 ⟨rfl, hb⟩; refine ⟨_, rfl, ?_⟩; have HB2 := bs_ hb; clear HB hb; have HB := HB2; clear HB2))
    go_ret
    exact ⟨_, rfl, Kd.R_nil _ _ _ _ _, HB.out⟩
  have AS := A_ (show mask_Sane.f a0 = some true from congrArg some hs)
  rw [if_pos hs]
  have hsz : a0.size = a0.data.toList.length := by simp
  have h4 : a0.size ≤ 4 := by rw [hsz]; unfold saneL at hs; simp only [Bool.and_eq_true, decide_eq_true_eq] at hs; exact hs.2
  have HOK := A_ (ok_of AS.out)
  have H4 := A_ h4
  clear hs hsz h4
  go_enter Tryz.func91, Tryz.ntmps91
  go_wp2_with (first | (refine gC 75 ?_; refine gL 12 Tryz.func75 #[.string a0] ?_; (with_reducible refine (mask_Sane.calls a0 true _ AS.out).mono ?_); rintro e w5 ⟨rfl, hb⟩; refine ⟨_, rfl, ?_⟩; have HB2 := bs_ hb; clear HB hb; have HB := HB2; clear HB2) | (refine gD 15 ?_; refine Kd.R_lit k120 _ 120 ?hg (N := 15) ?hd (xs := ([(⟨0, 0⟩ : S120)] : List S120)) (inner := [.int .i64 0, .int .i64 0]) (ok := fun _ => True) (okp := fun _ => True) ?hr ?hp (fun _ hk => hk) trivial (Below.refl _ _) (Nat.le_refl _) (by simp) ?_; (case hd => rfl); (case hg => rfl); (case hr => first | (go_simp; done) | (go_simp; rfl)); (case hp => exact (Reps.c2 (show Kd.M k120 _ _ _ (⟨0, 0⟩ : S120) [.int .i64 0, .int .i64 0] from (k120_mkM _ _ _ (⟨0, 0⟩ : S120) )) (Reps.none _ _))); intro v3 w13 ho14 hb hg_ hnew_; clear hg_ hnew_; have HO := A_ (Kd.R_lower ho14 (below_size hs_)); have HB2 := bs_ hb; clear HB hb ho14; have HB := HB2; clear HB2))
  obtain ⟨gi, hgi⟩ : ∃ g : Nat, g = w13.heap.size := ⟨_, rfl⟩
  have HI0 := A_ (show (w13.iter a0 0).heap[gi]? = some (.stringIter a0 0) by rw [hgi]; exact World.iter_heap w13 a0 0)
  have HO0 := A_ (show Kd.R k120 120 (w13.iter a0 0) w00.heap.size (fun k => k ≠ gi) v3 [(⟨0, 0⟩ : S120)] from Kd.R_alloc (Kd.R_reok k120_E HO.out (fun k hk => by
    have := Kd.R_lt HO.out
    have h := this k hk
    omega)) _)
  have HB0 := A_ (show Below w00.heap.size w00 (w13.iter a0 0) from below_alloc HB.out _)
  have HG0 := A_ (show w00.heap.size ≤ gi by rw [hgi]; exact HB.out.size)
  rw [← hgi]
  clear HO HB hgi
  go_loopw [3] (fun v3 w' => ∃ (p : Nat) (out : List S120), Aside0 (w'.heap[gi]? = some (.stringIter a0 p)) ∧ Aside0 (Kd.R k120 120 w' w00.heap.size (fun k => k ≠ gi) v3 out) ∧ Aside0 (Below w00.heap.size w00 w') ∧ Aside0 (setInv a0 p out)) (fun _ w' => a0.size - w'.iterPos gi)
  case atStart => exact ⟨0, _, HI0, HO0, HB0, ⟨setInv_0 a0⟩⟩
  case round =>
    clear HI0 HO0 HB0
    obtain ⟨p, l0, HI, HO, HBB, HD⟩ := hrel
    by_cases hp : p < a0.size
    · have hok := HOK.out p hp
      have hnx : ∀ ty, (Instr.next (.pointer (some ⟨gi, 0, none⟩)) true ty).run Tryz.prog wr = _ := fun ty => run_next_at ty HI.out hp (by omega)
      obtain ⟨hf, hl⟩ := setInv_small (by have := H4.out; omega) HD.out
      obtain ⟨k, hk⟩ := (set_body (a0[p]'hp) hok l0 hf hl).rounds
      have HD2 := A_ (setInv_step hp hok HD.out)
      obtain ⟨r, hr⟩ : ∃ r, r = l0.flatMap (stepR (a0[p]'hp)) := ⟨_, rfl⟩
      rw [← hr] at hk HD2
      obtain ⟨w, hw⟩ : ∃ w, w = itset wr gi a0 (p + 1) := ⟨_, rfl⟩
      rw [← hw] at hnx
      have HIw := A_ (show w.heap[gi]? = some (.stringIter a0 (p + 1)) by rw [hw]; exact itset_at HI.out)
      have HOw := A_ (show Kd.R k120 120 w w00.heap.size (fun k => k ≠ gi) u3 l0 by rw [hw]; exact Kd.R_keep HO.out (itset_keep _ _ _ _) (fun _ h => h))
      have HBw := A_ (show Below w00.heap.size w00 w by rw [hw]; exact itset_below HBB.out HG0.out)
      have hpos := A_ (iterPos_of HI.out)
      have hp2 := A_ hp
      obtain ⟨A0, c0, rfl⟩ := Kd.R_slice HOw.out
      have HR0 := A_ (Kd.R_reads' HOw.out).2.2
      have HC0 := A_ (Kd.R_reads' HOw.out).2.1
      have hend : ∀ (v : Value) (w' : World), Kd.R k120 120 w' w.heap.size (fun _ => True) v r → Below w.heap.size w w' → ∃ (p : Nat) (out : List S120), Aside0 (w'.heap[gi]? = some (.stringIter a0 p)) ∧ Aside0 (Kd.R k120 120 w' w00.heap.size (fun k => k ≠ gi) v out) ∧ Aside0 (Below w00.heap.size w00 w') ∧ Aside0 (setInv a0 p out) := fun v w' h1 h2 =>
        ⟨p + 1, r, ⟨blk_below HIw.out h2⟩, ⟨Kd.R_lower (Kd.R_reok k120_E h1 (fun k hk => by have h3 := Kd.R_base h1 k hk; have h4 := blk_lt HIw.out; omega)) HBw.out.size⟩, ⟨below_step HBw.out h2⟩, HD2⟩
      have hmeas : ∀ (w' : World), Below w.heap.size w w' → a0.size - w'.iterPos gi < a0.size - wr.iterPos gi := fun w' h2 => by
        rw [iterPos_of (blk_below HIw.out h2), hpos.out]; have := hp2.out; omega
      have HEND := A_ hend
      have HMEAS := A_ hmeas
      generalize ((a0[p]'hp).toNat : Int) = a1 at hnx hk
      have H' := A_ (show B.mask_Set.l0 k a1 ([] : List S120) l0 (l0.length : Int) 0 = some r from hk)
      have HB := A_ (Below.refl w.heap.size w)
      clear hk hr hw hf hl hok hend hmeas HD HI HO HBB HOw HIw HBw HD2 hpos hp2 hp
      go_wp2
      go_loopg [6, 23] k (fun kq v6 v23 w' => ∃ (x6_1 : List (S120)) (x23_1 : Int), v23 = .int .i64 x23_1 ∧ Aside0 (B.mask_Set.l0 kq a1 x6_1 l0 (l0.length : Int) x23_1 = some r) ∧ Aside0 (kq ≤ k) ∧ Aside0 (Kd.R k120 120 w' w.heap.size (fun _ => True) v6 x6_1) ∧ Aside0 (Below w.heap.size w w'))
      case atStart => exact ⟨(([] : List (S120))), (0), (by first | rfl | (simp; done) | (simp [*]; done)), H', ⟨Nat.le_refl _⟩, ⟨by first | exact Kd.R_nil _ _ _ _ _ | exact Kd.N_nil _ _ _ _ _ | exact Kd.V_nil _ _ _ _ _ | exact Kd.Q_nil _ _ _ _ _ | exact Kd.S_nil _ _ _ _ _⟩, ⟨hs_⟩⟩
      case round =>
        clear H'
        try clear p2
        obtain ⟨x6_1, x23_1, rfl, HA, HK1, HO_6, HB⟩ := hrel
        cases gk with
        | zero => exact absurd HA.out (by simp [B.mask_Set.l0])
        | succ k1 =>
          have H := HA.out
          clear HA
          simp only [B.mask_Set.l0] at H
          by_cases c3 : x23_1 < (l0.length : Int)
          · rw [if_pos c3] at H
            have c3b0 := decide_eq_true c3
            clear c3
            by_cases c4 : 0 ≤ x23_1
            · rw [if_pos c4] at H
              have c4b0 := decide_eq_true c4
              clear c4
              by_cases c5 : x23_1 < (l0.length : Int)
              · rw [if_pos c5] at H
                have c5b0 := decide_eq_true c5
                clear c5
                by_cases c6 : a1 = 88
                · rw [if_pos c6] at H
                  have c6b0 : (a1 == 88) = true := beq_iff_eq.mpr c6
                  have c6b1 : (a1 != 88) = false := bne_eq_false_iff_eq.mpr c6
                  clear c6
                  by_cases c7 : x6_1.length < 8796093022208
                  · rw [if_pos c7] at H
                    have LMc7 := A_ c7
                    clear c7
                    obtain ⟨y103, hy103⟩ : ∃ y_ : List (S120), y_ = (x6_1 ++ [(⟨wrap64 (((rd_T120 l0 x23_1).f0) * 10), wrap64 ((wrap64 (((rd_T120 l0 x23_1).f1) * 10)) + 9)⟩ : S120)]) := ⟨_, rfl⟩
                    replace H : (B.mask_Set.l0 k1 a1 y103 l0 (l0.length : Int) (wrap64 (x23_1 + 1))) = some r := by first | (rw [hy103]; with_reducible exact H) | (have H2_ := (Option.bind_some _ _).symm.trans H; rw [hy103]; with_reducible exact H2_) | (have H2_ := (Option.bind_some _ _).symm.trans H; with_reducible exact H2_) | with_reducible exact H | (rw [hy103]; exact H) | exact H
                    have Ny103 := A_ hy103
                    clear hy103
                    have H' := A_ H
                    clear H
                    have p101 : 0 ≤ (x23_1 : Int) := of_decide_eq_true (by first | (with_reducible assumption) | assumption)
                    have q101 : x23_1 < (l0.length : Int) := of_decide_eq_true (by first | (with_reducible assumption) | assumption)
                    obtain ⟨ad101, e101, hx101_0, hx101_1⟩ := at_T120 HR0.out x23_1 p101 q101
                    cases e101
                    replace hx101_0 := cl_ HB hx101_0
                    replace hx101_1 := cl_ HB hx101_1
                    replace p101 := eq_true p101
                    replace q101 := eq_true q101
                    go_wp2_with (first | (refine gD 8 ?_; refine bxe_ 8 #[.int .i64 0, .int .i64 0] 120 ?_; intro gb102 hg w8 hbox hb; replace HO_6 := A_ (Kd.R_below (Kd.R_elderB (fxR_ HO_6.out) gb102 (Nat.le_of_eq hg.symm)) hb); have BK102 := A_ (hbox); have GW102 := gs_ w hg; have GE102 := gs_ w hg; replace HB := bs_ hb; clear hb hbox hg; have hcz9_0 : w8.cell? ⟨gb102, 0, none⟩ = some (.int .i64 0) := bq_ BK102 0; have hcz9_1 : w8.cell? ⟨gb102, 1, none⟩ = some (.int .i64 0) := bq_ BK102 1; have hfz9_0 := blk_frozen BK102.out 0; have hfz9_1 := blk_frozen BK102.out 1) | ((with_reducible refine gate_builtin (b := .append) (xs := #[.tmp 29, .tmp 38]) rfl ?_); at_builtin; refine Kd.R_append k120 (w0 := w) w.heap.size rfl (.tmp 29) (.tmp 38) 116 120 (.agg #[(.int .i64 0), (.int .i64 0)]) 16 rfl Tryz.underlying116 info120 rfl (by decide) (by omega) u6 x6_1 (⟨wrap64 (((rd_T120 l0 x23_1).f0) * 10), wrap64 ((wrap64 (((rd_T120 l0 x23_1).f1) * 10)) + 9)⟩ : S120) [.int .i64 (wrap64 (((rd_T120 l0 x23_1).f0) * 10)), .int .i64 (wrap64 ((wrap64 (((rd_T120 l0 x23_1).f1) * 10)) + 9))] (fun k_ => k_ ≠ gb102) (fun _ => False) rfl (by first | (go_simp; done) | (go_simp; rfl)) ?aP (fun _ hk => hk.elim) ?aF ?aO ?aB ?aS ?aL ?_; (case aP => exact k120_mkM _ _ _ (⟨wrap64 (((rd_T120 l0 x23_1).f0) * 10), wrap64 ((wrap64 (((rd_T120 l0 x23_1).f1) * 10)) + 9)⟩ : S120)); (case aB => exact hs_); (case aF => exact (fun k_ hk => fb_ BK102 k_ hk)); (case aO => exact (fpR_ HO_6.out)); (case aS => exact (below_size hs_)); (case aL => have := LMc7.out; omega); intro v104 w10 ho hb hg hat; rw [← Ny103.out] at ho; replace BK102 := A_ (blk_grown (g := gb102) (o := .cells #[.int .i64 ((rd_T120 l0 x23_1).f0), .int .i64 ((rd_T120 l0 x23_1).f1)] 120 (0, 0)) (pb_ BK102.out) hg (Kd.R_away HO_6.out (fun _ hk => hk.2))); replace HB := A_ (hb); have HO105 := A_ (ho); clear HO_6; clear ho hb hg hat))
                    go_roundg k1
                    case measure => have := HK1.out; omega
                    case rel => exact ⟨(y103), (wrap64 (x23_1 + 1)), (by first | rfl | (simp; done) | (simp [*]; done)), H', ⟨by have := HK1.out; omega⟩, ⟨by (with_reducible repeat (first | apply Kd.R_alloc | apply Kd.R_drewN | apply Kd.R_drew)); exact Kd.R_mono HO105.out (fun _ hk => trivial)⟩, ⟨hs_⟩⟩
                  · rw [if_neg c7] at H
                    exact absurd H (by simp)
                · rw [if_neg c6] at H
                  have c6b0 : (a1 == 88) = false := beq_eq_false_iff_ne.mpr c6
                  have c6b1 : (a1 != 88) = true := bne_iff_ne.mpr c6
                  have H' := A_ H
                  clear H
                  have p101 : 0 ≤ (x23_1 : Int) := of_decide_eq_true (by first | (with_reducible assumption) | assumption)
                  have q101 : x23_1 < (l0.length : Int) := of_decide_eq_true (by first | (with_reducible assumption) | assumption)
                  obtain ⟨ad101, e101, hx101_0, hx101_1⟩ := at_T120 HR0.out x23_1 p101 q101
                  cases e101
                  replace hx101_0 := cl_ HB hx101_0
                  replace hx101_1 := cl_ HB hx101_1
                  replace p101 := eq_true p101
                  replace q101 := eq_true q101
                  go_wp2_with (first | (refine gD 8 ?_; refine bxe_ 8 #[.int .i64 0, .int .i64 0] 120 ?_; intro gb102 hg w11 hbox hb; replace HO_6 := A_ (Kd.R_below (Kd.R_elderB (fxR_ HO_6.out) gb102 (Nat.le_of_eq hg.symm)) hb); have BK102 := A_ (hbox); have GW102 := gs_ w hg; have GE102 := gs_ w hg; replace HB := bs_ hb; clear hb hbox hg; have hcz12_0 : w11.cell? ⟨gb102, 0, none⟩ = some (.int .i64 0) := bq_ BK102 0; have hcz12_1 : w11.cell? ⟨gb102, 1, none⟩ = some (.int .i64 0) := bq_ BK102 1; have hfz12_0 := blk_frozen BK102.out 0; have hfz12_1 := blk_frozen BK102.out 1))
                  go_loopg [6, 9] k1 (fun kq v6 v9 w' => ∃ (x6_2 : List (S120)) (x9_2 : Int), v9 = .int .i64 x9_2 ∧ Aside0 (B.mask_Set.l1 kq a1 x6_2 x9_2 l0 (l0.length : Int) x23_1 ((rd_T120 l0 x23_1).f0) ((rd_T120 l0 x23_1).f1) = some r) ∧ Aside0 (kq ≤ k1) ∧ Aside0 (Kd.R k120 120 w' w.heap.size (fun k_ => k_ ≠ gb102) v6 x6_2) ∧ Aside0 (w'.heap[gb102]? = some (.cells #[.int .i64 ((rd_T120 l0 x23_1).f0), .int .i64 ((rd_T120 l0 x23_1).f1)] 120 (0, 0))) ∧ Aside0 (Below w.heap.size w w'))
                  case atStart => exact ⟨(x6_1), ((rd_T120 l0 x23_1).f0), (by first | rfl | (simp; done) | (simp [*]; done)), H', ⟨Nat.le_refl _⟩, ⟨fpR_ HO_6.out⟩, ⟨pb_ BK102.out⟩, ⟨hs_⟩⟩
                  case round =>
                    clear H'
                    try clear p1
                    try clear q1
                    try clear hx1
                    try clear p2
                    try clear c3
                    try clear c3b0
                    try clear c4
                    try clear c4b0
                    try clear c5
                    try clear c5b0
                    try clear c6
                    try clear c6b0
                    try clear c6b1
                    try clear p6
                    try clear c7
                    try clear c8
                    try clear p10
                    try clear q10
                    try clear hx10
                    try clear hcz12_0
                    try clear hcz12_1
                    try clear hcz9_0
                    try clear hcz9_1
                    try clear hfz12_0
                    try clear hfz12_1
                    try clear hfz9_0
                    try clear hfz9_1
                    try clear hx101_0
                    try clear hx101_1
                    try clear p101
                    try clear p2
                    try clear q101
                    obtain ⟨x6_2, x9_2, rfl, HA, HK2, HO_6, BK102, HB⟩ := hrel
                    cases gk with
                    | zero => exact absurd HA.out (by simp [B.mask_Set.l1])
                    | succ k2 =>
                      have H := HA.out
                      clear HA
                      simp only [B.mask_Set.l1] at H
                      by_cases c13 : x9_2 ≤ ((rd_T120 l0 x23_1).f1)
                      · rw [if_pos c13] at H
                        have c13b0 := decide_eq_true c13
                        clear c13
                        by_cases c14 : x6_2.length < 8796093022208
                        · rw [if_pos c14] at H
                          have LMc14 := A_ c14
                          clear c14
                          obtain ⟨y106, hy106⟩ : ∃ y_ : List (S120), y_ = (x6_2 ++ [(⟨wrap64 ((wrap64 (x9_2 * 10)) + (wrap64 (wrap32 (a1 - 48)))), wrap64 ((wrap64 (x9_2 * 10)) + (wrap64 (wrap32 (a1 - 48))))⟩ : S120)]) := ⟨_, rfl⟩
                          replace H : (B.mask_Set.l1 k2 a1 y106 (wrap64 (x9_2 + 1)) l0 (l0.length : Int) x23_1 ((rd_T120 l0 x23_1).f0) ((rd_T120 l0 x23_1).f1)) = some r := by first | (rw [hy106]; with_reducible exact H) | (have H2_ := (Option.bind_some _ _).symm.trans H; rw [hy106]; with_reducible exact H2_) | (have H2_ := (Option.bind_some _ _).symm.trans H; with_reducible exact H2_) | with_reducible exact H | (rw [hy106]; exact H) | exact H
                          have Ny106 := A_ hy106
                          clear hy106
                          have H' := A_ H
                          clear H
                          have hcz15_0 : wr.cell? ⟨gb102, 0, none⟩ = some (.int .i64 ((rd_T120 l0 x23_1).f0)) := bq_ BK102 0
                          have hcz15_1 : wr.cell? ⟨gb102, 1, none⟩ = some (.int .i64 ((rd_T120 l0 x23_1).f1)) := bq_ BK102 1
                          have hfz15_0 := blk_frozen BK102.out 0
                          have hfz15_1 := blk_frozen BK102.out 1
                          go_wp2_with (first | ((with_reducible refine gate_builtin (b := .append) (xs := #[.tmp 54, .tmp 58]) rfl ?_); at_builtin; refine Kd.R_append k120 (w0 := w) w.heap.size rfl (.tmp 54) (.tmp 58) 116 120 (.agg #[(.int .i64 0), (.int .i64 0)]) 16 rfl Tryz.underlying116 info120 rfl (by decide) (by omega) u6 x6_2 (⟨wrap64 ((wrap64 (x9_2 * 10)) + (wrap64 (wrap32 (a1 - 48)))), wrap64 ((wrap64 (x9_2 * 10)) + (wrap64 (wrap32 (a1 - 48))))⟩ : S120) [.int .i64 (wrap64 ((wrap64 (x9_2 * 10)) + (wrap64 (wrap32 (a1 - 48))))), .int .i64 (wrap64 ((wrap64 (x9_2 * 10)) + (wrap64 (wrap32 (a1 - 48)))))] (fun k_ => k_ ≠ gb102) (fun _ => False) rfl rfl ?aP (fun _ hk => hk.elim) ?aF ?aO ?aB ?aS ?aL ?_; (case aP => exact k120_mkM _ _ _ (⟨wrap64 ((wrap64 (x9_2 * 10)) + (wrap64 (wrap32 (a1 - 48)))), wrap64 ((wrap64 (x9_2 * 10)) + (wrap64 (wrap32 (a1 - 48))))⟩ : S120)); (case aB => exact hs_); (case aF => exact (fun k_ hk => fb_ BK102 k_ hk)); (case aO => exact (fxR_ HO_6.out)); (case aS => exact (below_size hs_)); (case aL => have := LMc14.out; omega); intro v107 w16 ho hb hg hat; rw [← Ny106.out] at ho; replace BK102 := A_ (blk_grown (g := gb102) (o := .cells #[.int .i64 ((rd_T120 l0 x23_1).f0), .int .i64 ((rd_T120 l0 x23_1).f1)] 120 (0, 0)) (bl_ BK102.out) hg (Kd.R_away HO_6.out (fun _ hk => hk))); replace HB := A_ (hb); have HO108 := A_ (ho); clear HO_6; clear ho hb hg hat))
                          go_roundg k2
                          case measure => have := HK1.out; have := HK2.out; omega
                          case rel => exact ⟨(y106), (wrap64 (x9_2 + 1)), (by first | rfl | (simp; done) | (simp [*]; done)), H', ⟨by have := HK1.out; have := HK2.out; omega⟩, ⟨fxR_ HO108.out⟩, ⟨bl_ BK102.out⟩, ⟨hs_⟩⟩
                        · rw [if_neg c14] at H
                          exact absurd H (by simp)
                      · rw [if_neg c13] at H
                        have c13b0 := decide_eq_false c13
                        clear c13
                        have H' := A_ H
                        clear H
                        have hcz17_0 : wr.cell? ⟨gb102, 0, none⟩ = some (.int .i64 ((rd_T120 l0 x23_1).f0)) := bq_ BK102 0
                        have hcz17_1 : wr.cell? ⟨gb102, 1, none⟩ = some (.int .i64 ((rd_T120 l0 x23_1).f1)) := bq_ BK102 1
                        have hfz17_0 := blk_frozen BK102.out 0
                        have hfz17_1 := blk_frozen BK102.out 1
                        go_wp2
                        go_roundg k2
                        case measure => have := HK1.out; have := HK2.out; omega
                        case rel => exact ⟨(x6_2), (wrap64 (x23_1 + 1)), (by first | rfl | (simp; done) | (simp [*]; done)), H', ⟨by have := HK1.out; have := HK2.out; omega⟩, ⟨by (with_reducible repeat (first | apply Kd.R_alloc | apply Kd.R_drewN | apply Kd.R_drew)); exact Kd.R_mono HO_6.out (fun _ hk => trivial)⟩, ⟨hs_⟩⟩
              · rw [if_neg c5] at H
                exact absurd H (by simp)
            · rw [if_neg c4] at H
              exact absurd H (by simp)
          · rw [if_neg c3] at H
            have c3b0 := decide_eq_false c3
            clear c3
            obtain rfl := Option.some.inj H
            go_wp2
            go_roundw
            case rel => exact HEND.out _ _ HO_6.out HB.out
            case measure => exact HMEAS.out _ HB.out
    · have hnx : ∀ ty, (Instr.next (.pointer (some ⟨gi, 0, none⟩)) true ty).run Tryz.prog wr = _ := fun ty => run_next_done ty HI.out hp
      have hf : l0 = setL a0.data.toList [⟨0, 0⟩] := by rw [← HD.out.1, List.drop_eq_nil_of_le (by simpa using hp)]; rfl
      have HF := A_ hf
      clear hf hp
      go_wp2
      go_ret
      exact ⟨_, rfl, by rw [← HF.out]; exact Kd.R_mono HO.out (fun _ _ => trivial), HBB.out⟩
end Go.Proofs.YtjgjhekpiijniaaGreat.A